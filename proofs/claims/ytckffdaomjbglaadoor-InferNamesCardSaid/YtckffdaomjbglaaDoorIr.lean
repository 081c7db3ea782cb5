/-
  Layer 42: the walk of Infer.
-/
import Derived.Test.YtckffdaomjbglaaDoorIo
import Derived.Test.YtckffdaomjbglaaDoorJd
import Derived.Test.YtckffdaomjbglaaDoorLi
import Derived.Test.YtckffdaomjbglaaDoorWk
import Derived.StillTailTactics
import Derived.Lib.SlBytesConst
import Derived.Lib.SmallJoins
import Derived.Deep.RegionHeld3
namespace Go.Proofs.YtckffdaomjbglaaDoor
open Go.RowKit Go.Sort Go.BigFrame
set_option linter.unusedVariables false

def InferPost (r : List Int × List (Int × Int × Int) × Int) (w : World) (e : Ending) (w' : World) : Prop :=
  ∃ A c B d, e = .returned (.tuple #[.slice A r.1.length c, .slice B r.2.1.length d, .int .i64 r.2.2]) ∧ Own pMod 50 w.heap.size (w.heap.size ≤ ·) w' (.slice A r.1.length c) (r.1.map modOf) ∧
    Own pRul 43 w.heap.size (w.heap.size ≤ ·) w' (.slice B r.2.1.length d) (r.2.1.map rulO) ∧ Below w.heap.size w w'
theorem own_ruls {w w' : World} {e : TypeId} {B : Nat} {A : Option Addr} {n c : Nat} {xs : List Rul} (h : Own pRul e B (B ≤ ·) w (.slice A n c) xs) (hb : Below w.heap.size w w') : SlAt pRul (Old w') w' A c xs := by
  have h1 := (h.later hb).sl'.2
  exact h1.wide fun q hq => hq.2
theorem cells_bytes {F : Nat → Prop} {w : World} : ∀ {l : List Int}, (∀ x ∈ l, Fits .u8 x) → CellsAre (pI .u8) F w (l.map (Value.int .u8)) l
  | [], _ => rfl
  | x :: l, h => ⟨[.int .u8 x], l.map (Value.int .u8), rfl, ⟨rfl, h x (by simp)⟩, cells_bytes fun y hy => h y (by simp [hy])⟩
theorem letters_fit : ∀ x ∈ lettersL, Fits .u8 x := by
  have h : (lettersL.all fun x => (Lit.int .u8 x).wf) = true := by decide +kernel
  intro x hx
  exact List.all_eq_true.1 h x hx
theorem count_free {c : Int} {ms : List Mod} : (countF c ms = 0) ↔ (ms.map Mod.name).contains c = false := by
  unfold countF
  rw [List.countP_eq_zero]
  constructor
  · intro h
    cases hc : (ms.map Mod.name).contains c
    · rfl
    · rw [List.contains_iff_mem, List.mem_map] at hc
      obtain ⟨m, hm, rfl⟩ := hc
      exact absurd (beq_self_eq_true _) (h m hm)
  · intro h m hm he
    have : (ms.map Mod.name).contains c = true := by
      rw [List.contains_iff_mem, List.mem_map]
      exact ⟨m, hm, eq_of_beq he⟩
    rw [h] at this; cases this
/-- the letters that are free among the first k -/
def freeK (l : List Int) (k : Nat) : List Int := (lettersL.take k).filter fun c => !l.contains c
theorem freeK_all (l : List Int) : freeK l 52 = freeL l := by
  unfold freeK freeL
  rw [List.take_of_length_le (by decide)]
theorem freeK_succ {l : List Int} {k : Nat} {x : Int} (h : lettersL.drop k = x :: lettersL.drop (k + 1)) : freeK l (k + 1) = freeK l k ++ (if l.contains x = false then [x] else []) := by
  unfold freeK
  rw [take_of_drop h, List.filter_append]
  congr 1
  cases hc : l.contains x
  · have hm : x ∉ l := by simpa using hc
    simp [hm]
  · have hm : x ∈ l := by simpa using hc
    simp [hm]
theorem freeK_len (l : List Int) (k : Nat) : (freeK l k).length ≤ k := by
  unfold freeK
  exact Nat.le_trans (List.length_filter_le _ _) (by rw [List.length_take]; omega)
theorem sl_marked {α : Type} {E : Rp α} {F : Nat → Prop} {w : World} {g : Nat} {cells : Array Value} {xs : List α} (h : ∀ j, w.cell? ⟨g, j, none⟩ = cells[j]?) (hc : CellsAre E F w cells.toList xs) (hF : F g) (hm : xs.length ≤ maxLen) {n : Nat} (hn : xs.length = n) : SlAt E F w (some ⟨g, 0, none⟩) n xs := by
  subst hn
  refine ⟨Nat.le_refl _, hm, (fun e => by cases e), fun i x hx => ?_⟩
  obtain ⟨cs, h1, h2⟩ := hc.get hx
  refine ⟨g, 0, cs, rfl, hF, h1, fun j c hj => ?_⟩
  rw [h, Nat.zero_add]
  have := h2 j c hj
  simpa using this
def lettersV : Array Value := #[.int .u8 65, .int .u8 66, .int .u8 67, .int .u8 68, .int .u8 69, .int .u8 70, .int .u8 71, .int .u8 72, .int .u8 73, .int .u8 74, .int .u8 75, .int .u8 76, .int .u8 77, .int .u8 78, .int .u8 79, .int .u8 80, .int .u8 81, .int .u8 82, .int .u8 83, .int .u8 84, .int .u8 85, .int .u8 86, .int .u8 87, .int .u8 88, .int .u8 89, .int .u8 90, .int .u8 97, .int .u8 98, .int .u8 99, .int .u8 100, .int .u8 101, .int .u8 102, .int .u8 103, .int .u8 104, .int .u8 105, .int .u8 106, .int .u8 107, .int .u8 108, .int .u8 109, .int .u8 110, .int .u8 111, .int .u8 112, .int .u8 113, .int .u8 114, .int .u8 115, .int .u8 116, .int .u8 117, .int .u8 118, .int .u8 119, .int .u8 120, .int .u8 121, .int .u8 122]
/-- the rest of Infer, from what is left and the letters that are left -/
def joinR (done : List (Int × Int × Int)) (q : List Int × List (Int × Int × Int)) : List Int × List (Int × Int × Int) := (q.1, done ++ q.2)
theorem joinR_round {done : List (Int × Int × Int)} {n : Nat} {c : Int} {free rest : List Int} {a b m : Int} (hb : bestF rest = (a, b, m)) (hm : ¬ m < 2) : joinR done (inferG (n + 1) (c :: free) rest) = joinR (done ++ [(c, a, b)]) (inferG n free (putF a b c rest)) := by
  rw [inferG_cons, hb]
  simp only [hm, if_false]
  unfold joinR
  simp
theorem joinR_stop {done : List (Int × Int × Int)} {n : Nat} {free rest : List Int} {a b m : Int} (hb : bestF rest = (a, b, m)) (hm : m < 2) : joinR done (inferG n free rest) = (rest, done) := by
  have : inferG n free rest = (rest, []) := by
    cases n with
    | zero => rfl
    | succ n =>
      cases free with
      | nil => rfl
      | cons c free => rw [inferG_cons, hb]; simp only [hm, if_true]
  rw [this]; unfold joinR; simp
theorem joinR_done {done : List (Int × Int × Int)} {n : Nat} {free rest : List Int} (h : n = 0 ∨ free = []) : joinR done (inferG n free rest) = (rest, done) := by
  rcases h with rfl | rfl
  · unfold joinR; rw [inferG_zero]; simp
  · unfold joinR; rw [inferG_nil]; simp
/-- the world behind the two literals of a round, and the rule in it -/
theorem made_rul {w6 : World} {base : Nat} {v : Value} {xs : List Rul} (how : Own pRul 43 base (base ≤ ·) w6 v xs) (hz : base ≤ w6.heap.size) {c a b : Int} (hc : Fits .u8 c) (ha : Fits .u8 a) (hb : Fits .u8 b) (W : World)
    (hW : W = ((w6.alloc (.cells #[.int .u8 a, .slice none 0 0, .int .u8 b, .slice none 0 0] 45)).alloc (.cells #[.int .u8 c, .int .i64 0, .int .u8 0, .int .u8 0, .slice none 0 0, .int .i64 0, .slice (some ⟨w6.heap.size, 0, none⟩) 2 2] 43)).drew) :
    Own pRul 43 base (base ≤ ·) W v xs ∧ SlAt pRul (fun q => q = w6.heap.size ∨ q = w6.heap.size + 1) W (some ⟨w6.heap.size + 1, 0, none⟩) 1 [rulO (c, a, b)] ∧ (∀ q, (q = w6.heap.size ∨ q = w6.heap.size + 1) → base ≤ q ∧ q < W.heap.size ∧ some q ≠ v.ownBlock) ∧ base ≤ W.heap.size ∧ Below w6.heap.size w6 W := by
  have hsz : W.heap.size = w6.heap.size + 2 := by rw [hW]; simp [World.drew]
  have hb1 : Blk W w6.heap.size 45 #[.int .u8 a, .slice none 0 0, .int .u8 b, .slice none 0 0] := by
    rw [hW]
    exact (Blk.new w6 _ _).alloc _
  have hb2 : Blk W (w6.heap.size + 1) 43 #[.int .u8 c, .int .i64 0, .int .u8 0, .int .u8 0, .slice none 0 0, .int .i64 0, .slice (some ⟨w6.heap.size, 0, none⟩) 2 2] := by
    rw [hW]
    have := Blk.new (w6.alloc (.cells #[.int .u8 a, .slice none 0 0, .int .u8 b, .slice none 0 0] 45)) 43 #[.int .u8 c, .int .i64 0, .int .u8 0, .int .u8 0, .slice none 0 0, .int .i64 0, .slice (some ⟨w6.heap.size, 0, none⟩) 2 2]
    rw [show (w6.alloc (.cells #[.int .u8 a, .slice none 0 0, .int .u8 b, .slice none 0 0] 45)).heap.size = w6.heap.size + 1 from by simp] at this
    exact this
  have hshp : ∀ {x : Int}, Fits .u8 x → pShp.R (fun q => q = w6.heap.size ∨ q = w6.heap.size + 1) W [.int .u8 x, .slice none 0 0] ⟨x, []⟩ := fun {x} hx => ⟨none, 0, rfl, hx, sl_none⟩
  have hout : SlAt pShp (fun q => q = w6.heap.size ∨ q = w6.heap.size + 1) W (some ⟨w6.heap.size, 0, none⟩) 2 [⟨a, []⟩, ⟨b, []⟩] :=
    sl_lit (E := pShp) (F := fun q => q = w6.heap.size ∨ q = w6.heap.size + 1) (xs := [⟨a, []⟩, ⟨b, []⟩]) (n := 2) hb1 ⟨[.int .u8 a, .slice none 0 0], [.int .u8 b, .slice none 0 0], rfl, hshp ha, [.int .u8 b, .slice none 0 0], [], rfl, hshp hb, rfl⟩ (.inl rfl) (by unfold maxLen; simp) rfl
  refine ⟨?_, ?_, fun q hq => ?_, by omega, ?_⟩
  · rw [hW]; exact ((how.alloc _).alloc _).drew
  · exact sl_lit (E := pRul) (F := fun q => q = w6.heap.size ∨ q = w6.heap.size + 1) (xs := [rulO (c, a, b)]) (n := 1) hb2 ⟨_, [], rfl, ⟨none, 0, some ⟨w6.heap.size, 0, none⟩, 2, rfl, ⟨hc, (by show (Lit.int .i64 0).wf = true; decide), (by show (Lit.int .u8 0).wf = true; decide), (by show (Lit.int .u8 0).wf = true; decide), (by show (Lit.int .i64 0).wf = true; decide)⟩, sl_none, hout⟩, rfl⟩ (.inr rfl) (by unfold maxLen; simp) rfl
  · refine ⟨by omega, by omega, fun e => ?_⟩
    have := how.lt q e.symm
    omega
  · rw [hW]
    exact below_drew (((Below.refl _ _).alloc (Nat.le_refl _) _).alloc (by simp) _)
set_option maxRecDepth 100000 in
set_option maxHeartbeats 4000000 in
theorem infer_calls (A : Option Addr) (c : Nat) (ms : List Mod) (most : Int) (w : World) (h : SlAt pMod (Old w) w A c ms) (hl : ms.length ≤ 100000) : Calls Tryd.prog 9 #[.slice A ms.length c, .int .i64 most] w (InferPost (inferF ms most) w) := by
  have hmx := h.lenle
  have hck := plainW_calls A c ms w h
  have H := Lib.hid h; clear h
  have Hck := Lib.hid hck; clear hck
  go_enter Tryd.func9, Tryd.ntmps9
  go_wp2_with fail
  refine Hck.out.mono ?_
  rintro e w1 ⟨rfl, hb1⟩
  have hz1 := hb1.size
  by_cases hf : plainF ms = 0
  case neg =>
    have e0 : (plainF ms != 0) = true := by simp [hf]
    have hff : inferF ms most = ([], [], plainF ms) := by unfold inferF; rw [if_neg hf]
    have Hb1 := Lib.hid hb1; clear hb1
    have Hf := Lib.hid hf; clear hf
    have Hff := Lib.hid hff; clear hff
    go_wp2
    go_ret3
    exact ⟨none, 0, none, 0, by rw [Hff.out]; rfl, by rw [Hff.out]; exact Own.nil, by rw [Hff.out]; exact Own.nil, Hb1.out⟩
  case pos =>
  have e0 : (plainF ms != 0) = false := by simp [hf]
  by_cases hmo : most < 0 ∨ 30 < most
  · have hff : inferF ms most = ([], [], 2) := by unfold inferF; rw [if_pos hf, if_pos hmo]
    have Hb1 := Lib.hid hb1; clear hb1
    have Hf := Lib.hid hf; clear hf
    have Hff := Lib.hid hff; clear hff
    rcases hmo with hmo | hmo
    · go_wp2
      go_ret3
      exact ⟨none, 0, none, 0, by rw [Hff.out]; rfl, by rw [Hff.out]; exact Own.nil, by rw [Hff.out]; exact Own.nil, Hb1.out⟩
    · have hm2 : ¬ most < 0 := by omega
      go_wp2
      go_ret3
      exact ⟨none, 0, none, 0, by rw [Hff.out]; rfl, by rw [Hff.out]; exact Own.nil, by rw [Hff.out]; exact Own.nil, Hb1.out⟩
  obtain ⟨hm0, hm1⟩ : ¬ most < 0 ∧ ¬ 30 < most := ⟨fun e => hmo (.inl e), fun e => hmo (.inr e)⟩
  have hff : inferF ms most = ((inferL (ms.map Mod.name) most.toNat).1, (inferL (ms.map Mod.name) most.toNat).2, 0) := by unfold inferF; rw [if_pos hf, if_neg hmo]
  have hnc := names_calls A c ms w1 (H.out.later hb1) hl
  have hpn := plain_names hf
  have hln : (ms.map Mod.name).length = ms.length := List.length_map ..
  have hpp := (plain_parts hf).2.2
  clear hmo
  have Hb1 := Lib.hid hb1; clear hb1
  have Hf := Lib.hid hf; clear hf
  have Hnc := Lib.hid hnc; clear hnc
  have Hpn := Lib.hid hpn; clear hpn
  have Hln := Lib.hid hln; clear hln
  have Hff := Lib.hid hff; clear hff
  have Hpp := Lib.hid hpp; clear hpp
  go_wp2_with fail
  refine Hnc.out.mono ?_
  rintro e w2 ⟨A2, c2, rfl, hown2, hb2⟩
  have hbw2 := Hb1.out.trans (hb2.mono hz1)
  have hz2 := hbw2.size
  have hs2 := names_sl hown2 (Below.refl _ _)
  obtain ⟨W3, hW3⟩ : ∃ W, W = w2.alloc (.cells #[.int .u8 65, .int .u8 66, .int .u8 67, .int .u8 68, .int .u8 69, .int .u8 70, .int .u8 71, .int .u8 72, .int .u8 73, .int .u8 74, .int .u8 75, .int .u8 76, .int .u8 77, .int .u8 78, .int .u8 79, .int .u8 80, .int .u8 81, .int .u8 82, .int .u8 83, .int .u8 84, .int .u8 85, .int .u8 86, .int .u8 87, .int .u8 88, .int .u8 89, .int .u8 90, .int .u8 97, .int .u8 98, .int .u8 99, .int .u8 100, .int .u8 101, .int .u8 102, .int .u8 103, .int .u8 104, .int .u8 105, .int .u8 106, .int .u8 107, .int .u8 108, .int .u8 109, .int .u8 110, .int .u8 111, .int .u8 112, .int .u8 113, .int .u8 114, .int .u8 115, .int .u8 116, .int .u8 117, .int .u8 118, .int .u8 119, .int .u8 120, .int .u8 121, .int .u8 122] 5 (52, 53)) := ⟨_, rfl⟩
  have hb3 : Below w2.heap.size w2 W3 := by rw [hW3]; exact (Below.refl _ _).alloc (Nat.le_refl _) _
  have hz3 : w2.heap.size + 1 ≤ W3.heap.size := by rw [hW3]; simp
  have hk3 : ∀ j, W3.cell? ⟨w2.heap.size, j, none⟩ = lettersV[j]? := fun j => by rw [hW3]; exact World.cell?_alloc_mark w2 _ _ _ j
  have hlt3 : SlAt (pI .u8) (fun q => q = w2.heap.size) W3 (some ⟨w2.heap.size, 0, none⟩) 52 lettersL := sl_marked (F := fun q => q = w2.heap.size) (n := 52) hk3 (show CellsAre (pI .u8) _ W3 lettersV.toList lettersL from cells_bytes letters_fit) rfl (by decide) (by decide)
  have hbw3 : Below w.heap.size w W3 := hbw2.trans (hb3.mono hz2)
  have hs3 := hs2.later hb3
  have Hbw2 := Lib.hid hbw2; clear hbw2
  have Hs2 := Lib.hid hs2; clear hs2
  have Hb3 := Lib.hid hb3; clear hb3
  have Hk3 := Lib.hid hk3; clear hk3
  have Hlt3 := Lib.hid hlt3; clear hlt3
  have Hbw3 := Lib.hid hbw3; clear hbw3
  have Hs3 := Lib.hid hs3; clear hs3
  clear hown2 hb2
  have hcv : (convert 55 55 (.slice (some ⟨w2.heap.size, 0, none⟩) 52 52)).run Tryd.prog (w2.alloc (.cells #[.int .u8 65, .int .u8 66, .int .u8 67, .int .u8 68, .int .u8 69, .int .u8 70, .int .u8 71, .int .u8 72, .int .u8 73, .int .u8 74, .int .u8 75, .int .u8 76, .int .u8 77, .int .u8 78, .int .u8 79, .int .u8 80, .int .u8 81, .int .u8 82, .int .u8 83, .int .u8 84, .int .u8 85, .int .u8 86, .int .u8 87, .int .u8 88, .int .u8 89, .int .u8 90, .int .u8 97, .int .u8 98, .int .u8 99, .int .u8 100, .int .u8 101, .int .u8 102, .int .u8 103, .int .u8 104, .int .u8 105, .int .u8 106, .int .u8 107, .int .u8 108, .int .u8 109, .int .u8 110, .int .u8 111, .int .u8 112, .int .u8 113, .int .u8 114, .int .u8 115, .int .u8 116, .int .u8 117, .int .u8 118, .int .u8 119, .int .u8 120, .int .u8 121, .int .u8 122] 5)) = .ok (.slice (some ⟨w2.heap.size, 0, none⟩) 52 52) (w2.alloc (.cells #[.int .u8 65, .int .u8 66, .int .u8 67, .int .u8 68, .int .u8 69, .int .u8 70, .int .u8 71, .int .u8 72, .int .u8 73, .int .u8 74, .int .u8 75, .int .u8 76, .int .u8 77, .int .u8 78, .int .u8 79, .int .u8 80, .int .u8 81, .int .u8 82, .int .u8 83, .int .u8 84, .int .u8 85, .int .u8 86, .int .u8 87, .int .u8 88, .int .u8 89, .int .u8 90, .int .u8 97, .int .u8 98, .int .u8 99, .int .u8 100, .int .u8 101, .int .u8 102, .int .u8 103, .int .u8 104, .int .u8 105, .int .u8 106, .int .u8 107, .int .u8 108, .int .u8 109, .int .u8 110, .int .u8 111, .int .u8 112, .int .u8 113, .int .u8 114, .int .u8 115, .int .u8 116, .int .u8 117, .int .u8 118, .int .u8 119, .int .u8 120, .int .u8 121, .int .u8 122] 5 (52, 53))) :=
    Lib.run_convert_bytes_const w2 55 5 _ 52 52 Tryd.underlying55 Tryd.underlying5
  go_wp2_with fail
  rw [← hW3]
  have HW3 := Lib.hid hW3; clear hW3
  go_loopw [31, 9] (fun i fv wr => ∃ (k n : Nat) (Af : Option Addr) (cf : Nat), k ≤ 52 ∧ i = .int .i64 k ∧ fv = .slice Af n cf ∧ n ≤ k ∧ Hid ((freeK (ms.map Mod.name) k).length = n) ∧ Hid (Below W3.heap.size W3 wr) ∧ W3.heap.size ≤ wr.heap.size ∧
    Hid (Own (pI .u8) 5 W3.heap.size (W3.heap.size ≤ ·) wr (.slice Af n cf) (freeK (ms.map Mod.name) k))) (fun i _ _ => 52 - (intOf i).toNat)
  case atStart => exact ⟨0, 0, none, 0, by omega, rfl, rfl, Nat.le_refl _, rfl, Below.refl _ _, Nat.le_refl _, Own.nil⟩
  case round =>
    obtain ⟨k, n, Af, cf, hk, rfl, rfl, hnk, hfl, hb, hsz, hown⟩ := hrel
    obtain ⟨wo, rfl⟩ : ∃ wo : World, wo = wr := ⟨_, rfl⟩
    have hbw : Below w.heap.size w wo := Hbw3.out.trans (hb.out.mono (by omega))
    by_cases hlt : k < 52
    case pos =>
      obtain ⟨b, o, x, hdr, hA, hob, q0, hx8⟩ := (Hlt3.out.keep fun q hq => hb.out.block q (by omega)).getI (i := k) hlt
      cases hA
      rw [Nat.zero_add] at q0
      have hk0 : (0 : Int) ≤ (k : Int) := Int.natCast_nonneg _
      have hk1 : (k : Int) < 52 := by omega
      have hcc := count_calls A c ms x wo (H.out.later hbw)
      have hsu := freeK_succ (l := ms.map Mod.name) hdr.out
      have hcf := count_free (c := x) (ms := ms)
      have Hdr := Lib.hid hdr; clear hdr
      have Hbw := Lib.hid hbw; clear hbw
      have Hcc := Lib.hid hcc; clear hcc
      have Hsu := Lib.hid hsu; clear hsu
      have Hcf := Lib.hid hcf; clear hcf
      go_wp2_with fail
      refine Hcc.out.mono ?_
      rintro e w5 ⟨rfl, hb5⟩
      have hz5 := hb5.size
      have hb35 : Below W3.heap.size W3 w5 := hb.out.trans (hb5.mono hsz)
      have hown5 := hown.out.later hb5
      have Hb35 := Lib.hid hb35; clear hb35
      have Hown5 := Lib.hid hown5; clear hown5
      clear q0 hb5
      cases hct : (ms.map Mod.name).contains x
      case true =>
        have e1 : ¬ ((countF x ms : Nat) : Int) = 0 := fun e => by
          have := Hcf.out.1 (by omega)
          rw [hct] at this; cases this
        have e2 : (((countF x ms : Nat) : Int) == 0) = false := by simpa using e1
        have hsu' := Hsu.out
        rw [hct] at hsu'
        simp only [Bool.true_eq_false, if_false, List.append_nil] at hsu'
        have Hsu' := Lib.hid hsu'; clear hsu'
        have Hct := Lib.hid hct; clear hct
        go_wp2_with fail
        go_roundw
        case rel => exact ⟨k + 1, n, Af, cf, hlt, by go_num, rfl, by omega, by unfold Hid; rw [Hsu'.out]; exact hfl.out, Hb35, by omega, by unfold Hid; rw [Hsu'.out]; exact Hown5.out⟩
        case measure => simp [intOf]; omega
      case false =>
        have e1 : ((countF x ms : Nat) : Int) = 0 := by have := Hcf.out.2 hct; omega
        have e2 : (((countF x ms : Nat) : Int) == 0) = true := by simpa using e1
        have hsu' := Hsu.out
        rw [hct] at hsu'
        simp only [if_true] at hsu'
        have hln' : (freeK (ms.map Mod.name) k).length + 1 = n + 1 := by rw [hfl.out]
        have hrm : Room (freeK (ms.map Mod.name) k).length := room_of (by rw [hfl.out]; omega)
        have hR : (pI .u8).R (fun _ => False) w5 (Value.int .u8 x).cells.toList x := ⟨rfl, hx8⟩
        have hba : W3.heap.size ≤ w5.heap.size := by omega
        have Hsu' := Lib.hid hsu'; clear hsu'
        have Hct := Lib.hid hct; clear hct
        have E1 := Lib.hid e1; clear e1
        have Hln' := Lib.hid hln'; clear hln'
        have Hrm := Lib.hid hrm; clear hrm
        have HR := Lib.hid hR; clear hR
        go_wp2_with ((with_reducible show wpList _ _ _ (Oper.mk (some 41) _ _ _ _ _ :: _) _ _); refine wpList_pushG (E := pI .u8) (xs := freeK (ms.map Mod.name) k) (v := .slice Af n cf) (base := W3.heap.size) (G := (W3.heap.size ≤ ·)) 55 5 (.int .u8 0) 1 41 (.tmp 39) (.tmp 40) rfl rfl rfl rfl rfl Tryd.underlying55 (by kernel_rfl) rfl (by decide) (fun _ => rfl) (fun _ => rfl) Hown5.out (.int .u8 x) rfl x (fun _ => False) HR.out (fun _ hk => hk.elim) (n + 1) Hln'.out Hrm.out ⟨by decide, by decide⟩ hba ?_; intro A6 c6 w6 hown6 hg6)
        go_roundw
        case rel =>
          have hz6 := hg6.out.bel.size
          exact ⟨k + 1, n + 1, A6, c6, hlt, by go_num, rfl, by omega, by unfold Hid; rw [Hsu'.out, List.length_append, hfl.out]; rfl, Hb35.out.trans hg6.out.bel, by omega, by unfold Hid; rw [Hsu'.out]; exact hown6.out⟩
        case measure => simp [intOf]; omega
    case neg =>
      obtain rfl : k = 52 := by omega
      have hfl2 := hfl.out
      have hown2 := hown.out
      rw [freeK_all] at hfl2 hown2
      have hfs := names_sl hown2 (Below.refl _ _)
      have hlet : ∀ x ∈ freeL (ms.map Mod.name), brkB x = !plainC x := by
        have h : ∀ x ∈ lettersL, brkB x = !plainC x := by decide
        intro x hx
        exact h x (List.mem_filter.1 hx).1
      have hffit : ∀ x ∈ freeL (ms.map Mod.name), Fits .u8 x := fun x hx => letters_fit x (List.mem_filter.1 hx).1
      have hinl : inferL (ms.map Mod.name) most.toNat = joinR [] (inferG most.toNat (freeL (ms.map Mod.name)) (ms.map Mod.name)) := by unfold joinR inferL; rfl
      have hso := Hs3.out.later hb.out
      obtain ⟨fl, hfle⟩ : ∃ fl, freeL (ms.map Mod.name) = fl := ⟨_, rfl⟩
      rw [hfle] at hfl2 hown2 hfs hlet hffit hinl
      subst hfl2
      have hzo : w.heap.size ≤ wo.heap.size := hbw.size
      have hno : ¬ (((52 : Nat) : Int) < 52) := by decide
      have hstart : joinR [] (inferG most.toNat fl (ms.map Mod.name)) = joinR [] (inferG (most.toNat - 0) (fl.drop 0) (ms.map Mod.name)) := by simp
      have Hown2 := Lib.hid hown2; clear hown2
      have Hfs := Lib.hid hfs; clear hfs
      have Hlet := Lib.hid hlet; clear hlet
      have Hffit := Lib.hid hffit; clear hffit
      have Hinl := Lib.hid hinl; clear hinl
      have Hso := Lib.hid hso; clear hso
      have Hfle := Lib.hid hfle; clear hfle
      have Hbw := Lib.hid hbw; clear hbw
      have Hstart := Lib.hid hstart; clear hstart
      clear hfl hown
      go_wp2_with fail
      go_loopw [12, 8, 5] (fun i rv uv wr => ∃ (j q : Nat) (rest : List Int) (done : List (Int × Int × Int)) (Ar : Option Addr) (cr : Nat) (Ru : Option Addr) (du : Nat), i = .int .i64 j ∧ rv = .slice Ar q cr ∧ uv = .slice Ru j du ∧ Hid (rest.length = q) ∧ Hid (done.length = j) ∧ q ≤ 100000 ∧ j ≤ fl.length ∧ j ≤ most.toNat ∧
        Hid (Below wo.heap.size wo wr) ∧ wo.heap.size ≤ wr.heap.size ∧ Hid (SlAt (pI .u8) (Old wr) wr Ar cr rest) ∧ Hid (Own pRul 43 wo.heap.size (wo.heap.size ≤ ·) wr (.slice Ru j du) (done.map rulO)) ∧
        Hid (joinR [] (inferG most.toNat fl (ms.map Mod.name)) = joinR done (inferG (most.toNat - j) (fl.drop j) rest)) ∧ Hid (∀ x ∈ rest, brkB x = !plainC x)) (fun i _ _ _ => most.toNat - (intOf i).toNat)
      case atStart => exact ⟨0, ms.length, ms.map Mod.name, [], A2, c2, none, 0, rfl, rfl, rfl, Hln, rfl, hl, Nat.zero_le _, Nat.zero_le _, Below.refl _ _, Nat.le_refl _, Hso, Own.nil, Hstart, Hpn⟩
      case round =>
        obtain ⟨j, q, rest, done, Ar, cr, Ru, du, rfl, rfl, rfl, hrl, hdl, hq, hjf, hjm, hbr, hzr, hrs, hru, heq, hrb⟩ := hrel
        obtain ⟨wi, rfl⟩ : ∃ wi : World, wi = wr := ⟨_, rfl⟩
        have hbwi : Below w.heap.size w wi := Hbw.out.trans (hbr.out.mono hzo)
        have hmc := fun (W : World) (hW : Below wi.heap.size wi W) => modules_calls Ar cr rest W (hrs.out.later hW) (by rw [hrl.out]; exact hq)
        rw [hrl.out] at hmc
        have Hbwi := Lib.hid hbwi; clear hbwi
        have Hmc := Lib.hid hmc; clear hmc
        by_cases hgo : (j : Int) < most ∧ (j : Int) < (fl.length : Int)
        case neg =>
          have hend : inferL (ms.map Mod.name) most.toNat = (rest, done) := by
            rw [Hinl.out, heq.out]
            refine joinR_done ?_
            by_cases h1 : (j : Int) < most
            · right
              have h2 : fl.length ≤ j := by omega
              exact List.drop_eq_nil_iff.2 h2
            · left; omega
          have hmc1 := Hmc.out wi (Below.refl _ _)
          have HbwX := Hbwi
          have HbX9 : Hid (Below wi.heap.size wi wi) := Below.refl _ _
          have Hend := Lib.hid hend; clear hend
          clear Hmc
          have Hmc := Lib.hid hmc1; clear hmc1
          rcases (show ¬ (j : Int) < most ∨ ((j : Int) < most ∧ ¬ (j : Int) < (fl.length : Int)) from by omega) with h1 | ⟨h1, h2⟩
          all_goals
            go_wp2_with fail
            refine Hmc.out.mono ?_
            rintro e w9 ⟨A9, c9, rfl, own9, b9⟩
            have hb9 := HbwX.out.trans (b9.mono (by omega))
            have hr9 := hru.out.later HbX9.out
            have hr9' := (hr9.later b9).mono (base' := w.heap.size) (G' := (w.heap.size ≤ ·)) hzo (fun q hq => Nat.le_trans hzo hq)
            have hm9 := own9.mono (base' := w.heap.size) (G' := (w.heap.size ≤ ·)) (by omega) (fun q hq => Nat.le_trans (by omega) hq)
            have Hb9 := Lib.hid hb9; clear hb9
            have Hr9' := Lib.hid hr9'; clear hr9'
            have Hm9 := Lib.hid hm9; clear hm9
            clear b9 own9 hr9
            go_wp2
            go_ret3
            exact ⟨A9, c9, Ru, du, by simp only [Hff.out, Hend.out, hdl.out, hrl.out]; rfl, by rw [Hff.out, Hend.out]; exact Hm9.out, by rw [Hff.out, Hend.out]; show Own pRul 43 w.heap.size (w.heap.size ≤ ·) w9 (.slice Ru done.length du) (done.map rulO); rw [hdl.out]; exact Hr9'.out, Hb9.out⟩
        case pos =>
          obtain ⟨hg1, hg2⟩ := hgo
          have hqb := hrb.out
          have hbc := best_calls Ar cr rest wi hrs.out (by rw [hrl.out]; exact hq) hqb
          rw [hrl.out] at hbc
          have hbe := (bestF_is rest).1
          have Hbc := Lib.hid hbc; clear hbc
          have Hqb := Lib.hid hqb; clear hqb
          clear Hmc
          go_wp2_with fail
          refine Hbc.out.mono ?_
          rintro e w3 ⟨a, b, m, rfl, hbest, hfa, hfb, hm0', hm1', hb3'⟩
          have hbf := bestF_one hbest.out
          obtain ⟨wB, hwB⟩ : ∃ W, W = w3.alloc (.cells #[.int .u8 a, .int .u8 b] 57) := ⟨_, rfl⟩
          have hbB : Below wi.heap.size wi wB := by rw [hwB]; exact hb3'.alloc hb3'.size _
          have hpB : Blk wB w3.heap.size 57 #[.int .u8 a, .int .u8 b] := by rw [hwB]; exact Blk.new _ _ _
          have hz3i := hb3'.size
          have hzB : w3.heap.size < wB.heap.size := by rw [hwB]; simp
          have hbwB : Below w.heap.size w wB := Hbwi.out.trans (hbB.mono (by omega))
          have hzBi := hbB.size
          have Hbf := Lib.hid hbf; clear hbf
          have HwB := Lib.hid hwB; clear hwB
          have HbB := Lib.hid hbB; clear hbB
          have HpB := Lib.hid hpB; clear hpB
          have Hbest := Lib.hid hbest; clear hbest
          have HbwB := Lib.hid hbwB; clear hbwB
          clear hb3' hbe
          by_cases hm2 : m < 2
          · have hend : inferL (ms.map Mod.name) most.toNat = (rest, done) := by
              rw [Hinl.out, heq.out]
              exact joinR_stop Hbf.out hm2
            have hmc := modules_calls Ar cr rest wB (hrs.out.later HbB.out) (by rw [hrl.out]; exact hq)
            rw [hrl.out] at hmc
            have HbwX := HbwB
            have HbX9 := HbB
            have Hend := Lib.hid hend; clear hend
            have Hmc := Lib.hid hmc; clear hmc
            go_wp2_with fail
            rw [← HwB.out]
            refine Hmc.out.mono ?_
            rintro e w9 ⟨A9, c9, rfl, own9, b9⟩
            have hb9 := HbwX.out.trans (b9.mono (by omega))
            have hr9 := hru.out.later HbX9.out
            have hr9' := (hr9.later b9).mono (base' := w.heap.size) (G' := (w.heap.size ≤ ·)) hzo (fun q hq => Nat.le_trans hzo hq)
            have hm9 := own9.mono (base' := w.heap.size) (G' := (w.heap.size ≤ ·)) (by omega) (fun q hq => Nat.le_trans (by omega) hq)
            have Hb9 := Lib.hid hb9; clear hb9
            have Hr9' := Lib.hid hr9'; clear hr9'
            have Hm9 := Lib.hid hm9; clear hm9
            clear b9 own9 hr9
            go_wp2
            go_ret3
            exact ⟨A9, c9, Ru, du, by simp only [Hff.out, Hend.out, hdl.out, hrl.out]; rfl, by rw [Hff.out, Hend.out]; exact Hm9.out, by rw [Hff.out, Hend.out]; show Own pRul 43 w.heap.size (w.heap.size ≤ ·) w9 (.slice Ru done.length du) (done.map rulO); rw [hdl.out]; exact Hr9'.out, Hb9.out⟩
          · have hjd : j < fl.length := by omega
            have hfsi := Hfs.out.later (hbr.out.trans (HbB.out.mono hzr))
            obtain ⟨bf, off, x, hdx, hAf, hobf, f0, hx8⟩ := hfsi.getI (i := j) hjd
            subst hAf
            have hobw : bf < wo.heap.size := by
              obtain ⟨b', o', x', _, hA', hob', _⟩ := Hfs.out.getI (i := j) hjd
              cases hA'; exact hob'
            have hk0 : (0 : Int) ≤ (j : Int) := Int.natCast_nonneg _
            have p0 := HpB.out.cell 0
            have p1 := HpB.out.cell 1
            have hxm := mem_of_drop hdx.out
            have hxb := Hlet.out x hxm
            have hjr := joinR_round (done := done) (n := most.toNat - (j + 1)) (c := x) (free := fl.drop (j + 1)) Hbf.out hm2
            have heq2 : joinR [] (inferG most.toNat fl (ms.map Mod.name)) = joinR (done ++ [(x, a, b)]) (inferG (most.toNat - (j + 1)) (fl.drop (j + 1)) (putF a b x rest)) := by
              rw [heq.out, hdx.out, show most.toNat - j = most.toNat - (j + 1) + 1 from by omega]
              exact hjr
            have hrb2 : ∀ y ∈ putF a b x rest, brkB y = !plainC y := fun y hy => by
              rcases put_mem rest.length rest (Nat.le_refl _) y hy with h1 | h1
              · exact hrb.out y h1
              · rw [h1]; exact hxb
            have hpl := putF_len (a := a) (b := b) (nm := x) rest.length rest (Nat.le_refl _)
            rw [hrl.out] at hpl
            have rpc := fun (W : World) (hW : Below wB.heap.size wB W) => replace_calls Ar cr rest a b x W (hrs.out.later (HbB.out.trans (hW.mono hzBi))) (by rw [hrl.out]; exact hq) hx8
            simp only [hrl.out] at rpc
            obtain ⟨nrest, hnr⟩ : ∃ l, putF a b x rest = l := ⟨_, rfl⟩
            rw [hnr] at hpl hrb2 heq2
            rw [hnr] at rpc
            have Hdx := Lib.hid hdx; clear hdx
            have Hxb := Lib.hid hxb; clear hxb
            have Heq2 := Lib.hid heq2; clear heq2
            have Hrb2 := Lib.hid hrb2; clear hrb2
            have Rpc := Lib.hid rpc; clear rpc
            have Hnr := Lib.hid hnr; clear hnr
            have Hfsi := Lib.hid hfsi; clear hfsi
            have Hxm := Lib.hid hxm; clear hxm
            have Hx8 := Lib.hid hx8; clear hx8
            have Hfa := Lib.hid hfa; clear hfa
            have Hfb := Lib.hid hfb; clear hfb
            clear hjr
            go_wp2_with fail
            rw [← HwB.out]
            go_still_tail 6, (by kernel_rfl)
            change wpList _ _ _ _ _ wB.drew
            have hb5 : Below wB.heap.size wB wB.drew := below_drew (Below.refl _ _)
            have rp5 := Rpc.out wB.drew hb5
            generalize wB.drew = w5 at hb5 rp5 ⊢
            have hz5 := hb5.size
            have Hb5 := Lib.hid hb5; clear hb5
            have Rp5 := Lib.hid rp5; clear rp5
            clear f0 p0 p1
            go_wp2_with fail
            refine Rp5.out.mono ?_
            rintro e w6 ⟨A6, c6, rfl, own6, b6⟩
            have hb6 := Hb5.out.trans (b6.mono hz5)
            obtain ⟨A6', c6', hv6, hs6⟩ := own6.fresh
            injection hv6 with hv61 hv62 hv63
            subst hv61 hv63
            have hz6 := hb6.size
            have hbi6 := HbB.out.trans (hb6.mono hzBi)
            have hru6 := hru.out.later hbi6
            have p0 := (HpB.out.same (hb6.block _ hzB)).cell 0
            have p1 := (HpB.out.same (hb6.block _ hzB)).cell 1
            obtain ⟨bf2, off2, x2, hdx2, hAf2, _, f0, _⟩ := (Hfsi.out.later hb6).getI (i := j) hjd
            cases hAf2
            obtain rfl : x = x2 := by
              have h1 := Hdx.out.out
              rw [hdx2.out] at h1
              injection h1 with h1 _
              exact h1.symm
            obtain ⟨W8, hW8⟩ : ∃ W, W = ((w6.alloc (.cells #[.int .u8 a, .slice none 0 0, .int .u8 b, .slice none 0 0] 45)).alloc (.cells #[.int .u8 x, .int .i64 0, .int .u8 0, .int .u8 0, .slice none 0 0, .int .i64 0, .slice (some ⟨w6.heap.size, 0, none⟩) 2 2] 43)).drew := ⟨_, rfl⟩
            obtain ⟨m1, m2, m3, m4, m5⟩ := made_rul hru6 (by omega) Hx8.out Hfa.out Hfb.out W8 hW8
            rw [hW8] at m1 m2 m3 m4
            have hl9 : (done.map rulO ++ [rulO (x, a, b)]).length = j + 1 := by rw [List.length_append, List.length_map, hdl.out]; rfl
            have hr9 : Room (j + 1) := room_of (by omega)
            have hob1 : bf < w6.heap.size := by omega
            have hob2 : w3.heap.size < w6.heap.size := by omega
            have kp : ∀ (u : Value) (w7 : World), Grew wo.heap.size W8 w7 (.slice Ru j du) u → w7.cell? ⟨w3.heap.size, 0, none⟩ = some (.int .u8 a) ∧ w7.cell? ⟨w3.heap.size, 1, none⟩ = some (.int .u8 b) ∧ w7.cell? ⟨bf, off + j, none⟩ = some (.int .u8 x) := fun u w7 hg => by
              have hz8 := m5.size
              have n1 : some w3.heap.size ≠ (Value.slice Ru j du).ownBlock := fun e => by have := hru.out.lt _ e.symm; omega
              have n2 : some bf ≠ (Value.slice Ru j du).ownBlock := fun e => by have := hru.out.lt _ e.symm; omega
              have g1 := (hg.oth w3.heap.size (by omega) n1).trans (m5.block w3.heap.size hob2)
              have g2 := (hg.oth bf (by omega) n2).trans (m5.block bf hob1)
              exact ⟨(cell_keep g1).trans p0, (cell_keep g1).trans p1, (cell_keep g2).trans f0⟩
            rw [hW8] at kp
            have kq : ∀ (u : Value) (w7 : World), Grew wo.heap.size W8 w7 (.slice Ru j du) u → ∀ z, w5.heap.size ≤ z → z < w6.heap.size → w7.heap[z]? = w6.heap[z]? := fun u w7 hg z h1 h2 => by
              have hz8 := m5.size
              exact (hg.oth z (by omega) (fun e => by have := hru.out.lt _ e.symm; omega)).trans (m5.block z h2)
            rw [hW8] at kq
            have hz68 := m5.size
            rw [hW8] at hz68
            have hbi8 := hbi6.trans (m5.mono (by omega))
            rw [hW8] at hbi8
            have Hb6 := Lib.hid hb6; clear hb6
            have Hs6 := Lib.hid hs6; clear hs6
            have Hbi6 := Lib.hid hbi6; clear hbi6
            have Hru6 := Lib.hid hru6; clear hru6
            have M1 := Lib.hid m1; clear m1
            have M2 := Lib.hid m2; clear m2
            have M3 := Lib.hid m3; clear m3
            have M4 := Lib.hid m4; clear m4
            have Hl9 := Lib.hid hl9; clear hl9
            have Hr9 := Lib.hid hr9; clear hr9
            have Kp := Lib.hid kp; clear kp
            have Kq := Lib.hid kq; clear kq
            have Hbi8 := Lib.hid hbi8; clear hbi8
            have Hdx2 := Lib.hid hdx2; clear hdx2
            have Hz68 := Lib.hid hz68; clear hz68
            clear b6 own6 m5 hW8
            go_wp2_with fail
            go_region_held3 (fun w' => w'.cell? ⟨w3.heap.size, 0, none⟩ = some (.int .u8 a) ∧ w'.cell? ⟨w3.heap.size, 1, none⟩ = some (.int .u8 b) ∧ w'.cell? ⟨bf, off + j, none⟩ = some (.int .u8 x))
              (first | go_keep | exact Kp.out _ _ hg7.out)
              (first | (refine step_catG (E := pRul) (xs := done.map rulO) (v := .slice Ru j du) (base := wo.heap.size) (G := (wo.heap.size ≤ ·)) 25 43 (.agg #[.int .u8 0, .int .i64 0, .int .u8 0, .int .u8 0, .slice none 0 0, .int .i64 0, .slice none 0 0]) 80 (.tmp 69) (.tmp 82) rfl rfl Tryd.underlying25 (by kernel_rfl) rfl (by decide) rfl M1.out _ 1 [rulO (x, a, b)] rfl _ M2.out M3.out (j + 1) Hl9.out Hr9.out (by decide) M4.out ?_; intro A7 c7 w7 hown7 hg7))
            have hbr7 : Below wo.heap.size wo w7 := hbr.out.trans ((Hbi8.out.mono hzr).trans hg7.out.bel)
            have hz7 := hg7.out.bel.size
            have hzi8 := Hbi8.out.size
            have hz67 : w6.heap.size ≤ w7.heap.size := Nat.le_trans Hz68.out hg7.out.bel.size
            have hs7 : SlAt (pI .u8) (Old w7) w7 A6 c6 nrest := (Hs6.out.keep (w' := w7) fun z hz => Kq.out _ _ hg7.out z hz.1 hz.2).wide fun z hz => by have := hz.2; show z < w7.heap.size; omega
            have hdone : (done.map rulO ++ [rulO (x, a, b)]) = (done ++ [(x, a, b)]).map rulO := by rw [List.map_append]; rfl
            have Hbr7 := Lib.hid hbr7; clear hbr7
            have Hs7 := Lib.hid hs7; clear hs7
            have Hdone := Lib.hid hdone; clear hdone
            go_wp2
            go_roundw
            case rel =>
              exact ⟨j + 1, nrest.length, nrest, done ++ [(x, a, b)], A6, c6, A7, c7, by go_num, rfl, rfl, rfl, by unfold Hid; rw [List.length_append, hdl.out]; rfl, by omega, hjd, by omega, Hbr7, by omega, Hs7, by unfold Hid; rw [← Hdone.out]; exact hown7.out, Heq2, Hrb2⟩
            case measure => simp [intOf]; omega
end Go.Proofs.YtckffdaomjbglaaDoor
