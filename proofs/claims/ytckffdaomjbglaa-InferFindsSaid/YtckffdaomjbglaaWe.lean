/-
  Layer 6: the walks of word.Twin and of the reference's Twin.
-/
import Derived.Test.YtckffdaomjbglaaWd
import Derived.StillTailTactics
import Derived.Deep.RegionHeld3
namespace Go.Proofs.Ytckffdaomjbglaa
open Go.RowKit

theorem info_mod : (Try.prog.info? 44).map (fun i => (i.zero, i.size, i.bytes)) = some (some (.agg #[.int .u8 0, .slice none 0 0]), 2, 32) := by kernel_rfl

/-- the cells of a block of modules, k of them twinned -/
def TwinAt (w0 : World) (g : Nat) (ms : List Mod) (k : Nat) (w : World) (C : Array Value) : Prop :=
  ∀ i m, ms[i]? = some m → ∃ A' c', C[i * 2]? = some (.int .u8 m.name) ∧ C[i * 2 + 1]? = some (.slice A' m.args.length c') ∧ Fits .u8 m.name ∧
    ((i < k ∧ SlAt (pI .i64) (fun q => g < q ∧ q < w.heap.size) w A' c' m.args ∧ (m.args ≠ [] → ∀ b o, A' = some ⟨b, o, none⟩ → Unf w b)) ∨ (k ≤ i ∧ SlAt (pI .i64) (Old w0) w A' c' m.args))

def TwinPost (ms : List Mod) (w : World) (e : Ending) (w' : World) : Prop :=
  ∃ A c, e = .returned (.slice A ms.length c) ∧ Own pModF 44 w.heap.size (w.heap.size ≤ ·) w' (.slice A ms.length c) ms ∧ Below w.heap.size w w'

theorem twinAt_own {w0 w : World} {g : Nat} {ms : List Mod} {C : Array Value} (hb : Blk w g 44 C) (hC : C.size = ms.length * 2) (hg : w0.heap.size ≤ g) (hm : ms.length ≤ maxLen) (h : TwinAt w0 g ms ms.length w C) :
    Own pModF 44 w0.heap.size (w0.heap.size ≤ ·) w (.slice (some ⟨g, 0, none⟩) ms.length ms.length) ms := by
  refine ⟨C.toList, ⟨by simpa [pModF] using hC, .inr ⟨g, ms.length, C, rfl, hg, hb, Nat.le_refl _, hm, by simpa [pModF] using hC, ?_⟩⟩, ?_⟩
  · exact List.take_of_length_le (by simp [pModF]; omega)
  · refine cellsAre_idx (by simpa [pModF] using hC) fun i m hi => ?_
    obtain ⟨A', c', h1, h2, h3, h4⟩ := h i m hi
    have hlt : i < ms.length := (List.getElem?_eq_some_iff.1 hi).1
    rcases h4 with ⟨_, h5, h6⟩ | ⟨h5, _⟩
    · refine ⟨[.int .u8 m.name, .slice A' m.args.length c'], ⟨A', c', rfl, h3, h5.wide fun q hq => ⟨by omega, hq.2, fun he => ?_⟩, h6⟩, fun j c hc => ?_⟩
      · simp [Value.ownBlock] at he; omega
      · match j, hc with
        | 0, hc => simp at hc; subst hc; simpa [pModF] using h1
        | 1, hc => simp at hc; subst hc; simpa [pModF] using h2
    · omega

theorem info_int2 : (Try.prog.info? 3).map (fun i => (i.zero, i.size, i.bytes)) = some (some (.int .i64 0), 1, 8) := by kernel_rfl

end Go.Proofs.Ytckffdaomjbglaa
