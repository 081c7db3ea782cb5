/-
  WordTexts, the walk of the law: it returns true.
-/
import Derived.Test.YtfakcccfadeknaaDoorPu
import Derived.Test.YtfakcccfadeknaaDoorPw
namespace Go.Proofs.YtfakcccfadeknaaDoor
open Go.RowKit Go.Sort
theorem wordTexts_walk (A : Option Addr) (c : Nat) (ms : List Mod) (s : ByteArray) (w : World) (h : SlAt pMod (Old w) w A c ms) (hL : LibAt w) : Calls Tryd.prog 3 #[.slice A ms.length c, .string s] w (OkPost w) :=
  wordTexts_walk' (fun s w hs => refParse_calls s w hs) A c ms s w h hL
end Go.Proofs.YtfakcccfadeknaaDoor
