/-
  Layer 42: the walk of the reference's Infer.
-/
import Derived.Test.YtckffdaomjbglaaDoorIr
import Derived.Test.YtckffdaomjbglaaDoorM1
namespace Go.Proofs.YtckffdaomjbglaaDoor
open Go.RowKit Go.Sort Go.BigFrame
set_option linter.unusedVariables false

/-- the letters that are free from place k on -/
def fromL (l : List Int) (k : Nat) : List Int := (lettersL.drop k).filter fun c => !l.contains c
theorem fromL_zero (l : List Int) : fromL l 0 = freeL l := rfl
theorem fromL_end (l : List Int) : fromL l 52 = [] := rfl
theorem fromL_used {l : List Int} {k : Nat} {x : Int} (hk : k < 52) (hx : lettersL[k]? = some x) (h : l.contains x = true) : fromL l k = fromL l (k + 1) := by
  have hd : lettersL.drop k = x :: lettersL.drop (k + 1) := by
    have hk' : k < lettersL.length := hk
    rw [List.getElem?_eq_getElem hk'] at hx
    rw [List.drop_eq_getElem_cons hk']
    rw [Option.some.inj hx]
  unfold fromL
  rw [hd, List.filter_cons, h]
  rfl
theorem fromL_free {l : List Int} {k : Nat} {x : Int} (hk : k < 52) (hx : lettersL[k]? = some x) (h : l.contains x = false) : fromL l k = x :: fromL l (k + 1) := by
  have hd : lettersL.drop k = x :: lettersL.drop (k + 1) := by
    have hk' : k < lettersL.length := hk
    rw [List.getElem?_eq_getElem hk'] at hx
    rw [List.drop_eq_getElem_cons hk']
    rw [Option.some.inj hx]
  unfold fromL
  rw [hd, List.filter_cons, h]
  rfl
def lettersB : ByteArray := { data := #[65, 66, 67, 68, 69, 70, 71, 72, 73, 74, 75, 76, 77, 78, 79, 80, 81, 82, 83, 84, 85, 86, 87, 88, 89, 90, 97, 98, 99, 100, 101, 102, 103, 104, 105, 106, 107, 108, 109, 110, 111, 112, 113, 114, 115, 116, 117, 118, 119, 120, 121, 122] }
theorem lettersB_size : lettersB.size = 52 := rfl
theorem lettersB_at (k : Nat) (h : k < lettersB.size) : lettersL[k]? = some ((lettersB[k]).toNat : Int) := by
  have h1 : ∀ (k : Fin 52), lettersL[k.val]? = some ((lettersB[k.val]'k.isLt).toNat : Int) := by decide +kernel
  exact h1 ⟨k, h⟩
theorem names_fit {F : Nat → Prop} {w : World} {A : Option Addr} {c : Nat} {ms : List Mod} (h : SlAt pMod F w A c ms) : ∀ x ∈ ms.map Mod.name, Fits .u8 x := by
  intro x hx
  obtain ⟨m, hm, rfl⟩ := List.mem_map.1 hx
  obtain ⟨k, hk, hmk⟩ := List.mem_iff_getElem.1 hm
  obtain ⟨b4, o4, D, d, m', hd, hB, hob, q0, q1, hx8, hxa, hxl⟩ := h.getMod hk
  have := get_of_drop hd.out
  rw [List.getElem?_eq_getElem hk, hmk] at this
  rw [Option.some.inj this]
  exact hx8
theorem names_modOf (l : List Int) : (l.map modOf).map Mod.name = l := by
  rw [List.map_map]
  exact (List.map_congr_left (g := id) (fun x _ => rfl)).trans (List.map_id l)
/-- the world behind the two literals of a round, and the rule in it (no draw) -/
theorem made_rul0 {w6 : World} {base : Nat} {v : Value} {xs : List Rul} (how : Own pRul 43 base (base ≤ ·) w6 v xs) (hz : base ≤ w6.heap.size) {c a b : Int} (hc : Fits .u8 c) (ha : Fits .u8 a) (hb : Fits .u8 b) (W : World)
    (hW : W = ((w6.alloc (.cells #[.int .u8 a, .slice none 0 0, .int .u8 b, .slice none 0 0] 45)).alloc (.cells #[.int .u8 c, .int .i64 0, .int .u8 0, .int .u8 0, .slice none 0 0, .int .i64 0, .slice (some ⟨w6.heap.size, 0, none⟩) 2 2] 43))) :
    Own pRul 43 base (base ≤ ·) W v xs ∧ SlAt pRul (fun q => q = w6.heap.size ∨ q = w6.heap.size + 1) W (some ⟨w6.heap.size + 1, 0, none⟩) 1 [rulO (c, a, b)] ∧ (∀ q, (q = w6.heap.size ∨ q = w6.heap.size + 1) → base ≤ q ∧ q < W.heap.size ∧ some q ≠ v.ownBlock) ∧ base ≤ W.heap.size ∧ Below w6.heap.size w6 W := by
  have hsz : W.heap.size = w6.heap.size + 2 := by rw [hW]; simp
  have hb1 : Blk W w6.heap.size 45 #[.int .u8 a, .slice none 0 0, .int .u8 b, .slice none 0 0] := by
    rw [hW]
    exact (Blk.new w6 _ _).alloc _
  have hb2 : Blk W (w6.heap.size + 1) 43 #[.int .u8 c, .int .i64 0, .int .u8 0, .int .u8 0, .slice none 0 0, .int .i64 0, .slice (some ⟨w6.heap.size, 0, none⟩) 2 2] := by
    rw [hW]
    have := Blk.new (w6.alloc (.cells #[.int .u8 a, .slice none 0 0, .int .u8 b, .slice none 0 0] 45)) 43 #[.int .u8 c, .int .i64 0, .int .u8 0, .int .u8 0, .slice none 0 0, .int .i64 0, .slice (some ⟨w6.heap.size, 0, none⟩) 2 2]
    rw [show (w6.alloc (.cells #[.int .u8 a, .slice none 0 0, .int .u8 b, .slice none 0 0] 45)).heap.size = w6.heap.size + 1 from by simp] at this
    exact this
  have hshp : ∀ {x : Int}, Fits .u8 x → pShp.R (fun q => q = w6.heap.size ∨ q = w6.heap.size + 1) W [.int .u8 x, .slice none 0 0] ⟨x, []⟩ := fun {x} hx => ⟨none, 0, rfl, hx, sl_none⟩
  have hout : SlAt pShp (fun q => q = w6.heap.size ∨ q = w6.heap.size + 1) W (some ⟨w6.heap.size, 0, none⟩) 2 [⟨a, []⟩, ⟨b, []⟩] :=
    sl_lit (E := pShp) (F := fun q => q = w6.heap.size ∨ q = w6.heap.size + 1) (xs := [⟨a, []⟩, ⟨b, []⟩]) (n := 2) hb1 ⟨[.int .u8 a, .slice none 0 0], [.int .u8 b, .slice none 0 0], rfl, hshp ha, [.int .u8 b, .slice none 0 0], [], rfl, hshp hb, rfl⟩ (.inl rfl) (by unfold maxLen; simp) rfl
  refine ⟨?_, ?_, fun q hq => ?_, by omega, ?_⟩
  · rw [hW]; exact (how.alloc _).alloc _
  · exact sl_lit (E := pRul) (F := fun q => q = w6.heap.size ∨ q = w6.heap.size + 1) (xs := [rulO (c, a, b)]) (n := 1) hb2 ⟨_, [], rfl, ⟨none, 0, some ⟨w6.heap.size, 0, none⟩, 2, rfl, ⟨hc, (by show (Lit.int .i64 0).wf = true; decide), (by show (Lit.int .u8 0).wf = true; decide), (by show (Lit.int .u8 0).wf = true; decide), (by show (Lit.int .i64 0).wf = true; decide)⟩, sl_none, hout⟩, rfl⟩ (.inr rfl) (by unfold maxLen; simp) rfl
  · refine ⟨by omega, by omega, fun e => ?_⟩
    have := how.lt q e.symm
    omega
  · rw [hW]
    exact ((Below.refl _ _).alloc (Nat.le_refl _) _).alloc (by simp) _
end Go.Proofs.YtckffdaomjbglaaDoor
