/-
  Layer 10: the walks of the examples' rules (shapes, given, bush), of counted, alive and valid.
-/
import Derived.Test.YtflojbohcippnaaNo
import Derived.Test.YtflojbohcippnaaLi
import Derived.Test.YtflojbohcippnaaOwn
namespace Go.Proofs.Ytflojbohcippnaa
open Go.RowKit Go.Sort

def shapesF (p : ByteArray) : List Shp := (bytesI p).map fun x => ⟨x, []⟩
theorem info_shp : (Try.prog.info? 65).map (fun i => (i.zero, i.size, i.bytes)) = some (some (.agg #[.int .u8 0, .slice none 0 0]), 2, 32) := by kernel_rfl
theorem take_shapes {p : ByteArray} {k : Nat} (h : k < p.size) : (shapesF p).take (k + 1) = (shapesF p).take k ++ [⟨(p[k].toNat : Int), []⟩] := by
  have h1 : (shapesF p).drop k = ⟨(p[k].toNat : Int), []⟩ :: (shapesF p).drop (k + 1) := by
    unfold shapesF; rw [← List.map_drop, drop_bytesI h, List.map_cons, ← List.map_drop]
  exact take_of_drop h1
theorem shapesF_length (p : ByteArray) : (shapesF p).length = p.size := by unfold shapesF; rw [List.length_map, bytesI_length]
def ShpPost (p : ByteArray) (w : World) (e : Ending) (w' : World) : Prop :=
  ∃ A c, e = .returned (.slice A p.size c) ∧ Below w.heap.size w w' ∧ Hid (SlAt pShp (fun q => w.heap.size ≤ q ∧ q < w'.heap.size) w' A c (shapesF p))
set_option maxRecDepth 100000 in
set_option maxHeartbeats 2000000 in
theorem shapes_calls (p : ByteArray) (w : World) (hp : p.size ≤ 100) : Calls Try.prog 29 #[.string p] w (ShpPost p w) := by
  go_enter Try.func29, Try.ntmps29
  go_wp2
  go_loopw [4, 3] (fun i out wr => ∃ k : Nat, k ≤ p.size ∧ i = .int .i64 k ∧ Hid (Below w.heap.size w wr) ∧ w.heap.size ≤ wr.heap.size ∧ ∃ Ao co, out = .slice Ao k co ∧ Hid (Own pShp 65 w.heap.size (w.heap.size ≤ ·) wr out ((shapesF p).take k))) (fun i _ _ => p.size - (intOf i).toNat)
  case atStart => exact ⟨0, Nat.zero_le _, rfl, Below.refl _ _, Nat.le_refl _, none, 0, rfl, Own.nil⟩
  case round =>
    obtain ⟨k, hk, rfl, hb, hsz, Ao, co, rfl, hown⟩ := hrel
    obtain ⟨wo, rfl⟩ : ∃ wo : World, wo = wr := ⟨_, rfl⟩
    by_cases hlt : k < p.size
    · have hfx := byte_fits hlt
      obtain ⟨x, hx⟩ : ∃ x, (p[k].toNat : Int) = x := ⟨_, rfl⟩
      rw [hx] at hfx
      have htk := take_shapes hlt
      rw [hx] at htk
      have hkl : ((shapesF p).take k).length = k := by rw [List.length_take, shapesF_length]; omega
      have hR : pShp.R (fun _ => False) wo (Value.agg #[.int .u8 x, .slice none 0 0]).cells.toList ⟨x, []⟩ := ⟨none, 0, by simp [Value.cells], hfx, sl_none⟩
      have hF : ∀ q, False → w.heap.size ≤ q ∧ q < wo.heap.size ∧ some q ≠ (Value.slice Ao k co).ownBlock := fun q hq => hq.elim
      have hrm : Room ((shapesF p).take k).length := by rw [hkl]; exact room_of (by omega)
      have Htk := Lib.hid htk; clear htk
      have HR := Lib.hid hR; clear hR
      have HF := Lib.hid hF; clear hF
      have Hrm := Lib.hid hrm; clear hrm
      have Hkl := Lib.hid hkl; clear hkl
      go_wp2_with ((with_reducible show wpList _ _ _ (Oper.mk (some 16) _ _ _ _ _ :: _) _ _); refine wpList_push (E := pShp) (xs := (shapesF p).take k) (v := .slice Ao k co) (base := w.heap.size) (G := (w.heap.size ≤ ·)) 59 65 (.agg #[.int .u8 0, .slice none 0 0]) 32 16 (.tmp 11) (.tmp 15) rfl rfl rfl rfl rfl Try.underlying59 info_shp rfl (by decide) (fun _ => rfl) (fun _ => rfl) hown.out (.agg #[.int .u8 x, .slice none 0 0]) rfl ⟨x, []⟩ (fun _ => False) HR.out HF.out Hrm.out (by decide) hsz ?_; rw [Hkl.out]; intro A7 c7 w7 hown7 hb7 hk7; have Hown7 := Lib.hid hown7; have Hb7 := Lib.hid hb7; clear hown7 hb7 hk7)
      have hbw7 : Below w.heap.size w w7 := hb.out.trans Hb7.out
      have Hbw7 := Lib.hid hbw7; clear hbw7
      go_roundw
      case rel =>
        refine ⟨k + 1, by omega, by go_num, Hbw7, Hbw7.out.size, A7, c7, rfl, ?_⟩
        unfold Hid; rw [Htk.out]; exact Hown7.out
      case measure => simp [intOf]; omega
    · obtain rfl : k = p.size := by omega
      obtain ⟨A1, c1, hv1, hs1⟩ := hown.out.fresh
      rw [List.take_of_length_le (by rw [shapesF_length]; exact Nat.le_refl _)] at hs1
      have Hs1 := Lib.hid hs1; clear hs1
      go_wp2
      go_ret
      refine ⟨Ao, co, rfl, hb.out, ?_⟩
      simp only [Value.slice.injEq] at hv1
      obtain ⟨rfl, _, rfl⟩ := hv1
      exact Hs1.out

def pAB : ByteArray := ⟨#[65, 66]⟩
def pA : ByteArray := ⟨#[65]⟩
def pBush : ByteArray := ⟨#[65, 91, 65, 93, 65]⟩
def bareRul (c : Int) (out : List Shp) : Rul := ⟨c, 0, 0, 0, [], 0, out⟩
def givenR : List Rul := [bareRul 65 [⟨65, []⟩, ⟨66, []⟩], bareRul 66 [⟨65, []⟩]]
def bushR : List Rul := [bareRul 65 [⟨65, []⟩, ⟨91, []⟩, ⟨65, []⟩, ⟨93, []⟩, ⟨65, []⟩]]
theorem small_given : Small givenR := small_of (by decide +kernel)
theorem small_bush : Small bushR := small_of (by decide +kernel)
/-- a bare rule in cells -/
theorem bare_R {F : Nat → Prop} {w : World} {c : Int} {A : Option Addr} {k cap : Nat} {out : List Shp} (hc : Fits .u8 c) (h : SlAt pShp F w A cap out) (hk : out.length = k) :
    pRul.R F w [.int .u8 c, .int .i64 0, .int .u8 0, .int .u8 0, .slice none 0 0, .int .i64 0, .slice A k cap] (bareRul c out) := by
  subst hk
  exact ⟨none, 0, A, cap, rfl, ⟨hc, fits_i64 (n := 0) (by decide), fits_u8 (n := 0) (by decide), fits_u8 (n := 0) (by decide), fits_i64 (n := 0) (by decide)⟩, sl_none, h⟩
def RulesPost (R : List Rul) (k : Nat) (w : World) (e : Ending) (w' : World) : Prop :=
  ∃ A c, e = .returned (.slice A k c) ∧ Below w.heap.size w w' ∧ Hid (SlAt pRul (fun q => w.heap.size ≤ q ∧ q < w'.heap.size) w' A c R)

set_option maxRecDepth 100000 in
set_option maxHeartbeats 2000000 in
theorem given_calls (w : World) : Calls Try.prog 14 #[] w (RulesPost givenR 2 w) := by
  go_enter Try.func14, Try.ntmps14
  go_wp2_with fail
  refine (shapes_calls pAB w (by decide)).mono ?_
  rintro e w1 ⟨A1, c1, rfl, b1, s1⟩
  go_wp2_with fail
  refine (shapes_calls pA w1 (by decide)).mono ?_
  rintro e w2 ⟨A2, c2, rfl, b2, s2⟩
  have hbw : Below w.heap.size w w2 := b1.trans (b2.mono b1.size)
  have h1 : SlAt pShp (fun q => w.heap.size ≤ q ∧ q < w2.heap.size) w2 A1 c1 [⟨65, []⟩, ⟨66, []⟩] := (s1.out.keep fun q hq => b2.block q hq.2).wide fun q hq => ⟨hq.1, Nat.lt_of_lt_of_le hq.2 b2.size⟩
  have h2 : SlAt pShp (fun q => w.heap.size ≤ q ∧ q < w2.heap.size) w2 A2 c2 [⟨65, []⟩] := s2.out.wide fun q hq => ⟨Nat.le_trans b1.size hq.1, hq.2⟩
  have Hbw := Lib.hid hbw; clear hbw
  have H1 := Lib.hid h1; clear h1
  have H2 := Lib.hid h2; clear h2
  clear b1 b2 s1 s2
  go_wp2
  go_ret
  refine ⟨some ⟨w2.heap.size, 0, none⟩, 2, rfl, Hbw.out.alloc Hbw.out.size _, ?_⟩
  have hz := Hbw.out.size
  have hcs : CellsAre pRul (fun q => w.heap.size ≤ q ∧ q < (w2.alloc (.cells #[.int .u8 65, .int .i64 0, .int .u8 0, .int .u8 0, .slice none 0 0, .int .i64 0, .slice A1 2 c1, .int .u8 66, .int .i64 0, .int .u8 0, .int .u8 0, .slice none 0 0, .int .i64 0, .slice A2 1 c2] 61)).heap.size) (w2.alloc (.cells #[.int .u8 65, .int .i64 0, .int .u8 0, .int .u8 0, .slice none 0 0, .int .i64 0, .slice A1 2 c1, .int .u8 66, .int .i64 0, .int .u8 0, .int .u8 0, .slice none 0 0, .int .i64 0, .slice A2 1 c2] 61)) [.int .u8 65, .int .i64 0, .int .u8 0, .int .u8 0, .slice none 0 0, .int .i64 0, .slice A1 2 c1, .int .u8 66, .int .i64 0, .int .u8 0, .int .u8 0, .slice none 0 0, .int .i64 0, .slice A2 1 c2] givenR :=
    ⟨[.int .u8 65, .int .i64 0, .int .u8 0, .int .u8 0, .slice none 0 0, .int .i64 0, .slice A1 2 c1], [.int .u8 66, .int .i64 0, .int .u8 0, .int .u8 0, .slice none 0 0, .int .i64 0, .slice A2 1 c2], rfl, bare_R (fits_u8 (n := 65) (by decide)) ((H1.out.keep fun q hq => Below.heap_alloc _ _ _ hq.2).wide fun q hq => ⟨hq.1, by have := hq.2; simp; omega⟩) rfl,
     [.int .u8 66, .int .i64 0, .int .u8 0, .int .u8 0, .slice none 0 0, .int .i64 0, .slice A2 1 c2], [], rfl, bare_R (fits_u8 (n := 66) (by decide)) ((H2.out.keep fun q hq => Below.heap_alloc _ _ _ hq.2).wide fun q hq => ⟨hq.1, by have := hq.2; simp; omega⟩) rfl, rfl⟩
  exact sl_lit (Blk.new w2 _ _) hcs ⟨hz, by simp⟩ (by decide) rfl
set_option maxRecDepth 100000 in
set_option maxHeartbeats 2000000 in
theorem bush_calls (w : World) : Calls Try.prog 15 #[] w (RulesPost bushR 1 w) := by
  go_enter Try.func15, Try.ntmps15
  go_wp2_with fail
  refine (shapes_calls pBush w (by decide)).mono ?_
  rintro e w1 ⟨A1, c1, rfl, b1, s1⟩
  have h1 : SlAt pShp (fun q => w.heap.size ≤ q ∧ q < w1.heap.size) w1 A1 c1 [⟨65, []⟩, ⟨91, []⟩, ⟨65, []⟩, ⟨93, []⟩, ⟨65, []⟩] := s1.out
  have B1 := Lib.hid b1; clear b1
  have H1 := Lib.hid h1; clear h1
  clear s1
  go_wp2
  go_ret
  refine ⟨some ⟨w1.heap.size, 0, none⟩, 1, rfl, B1.out.alloc B1.out.size _, ?_⟩
  have hz := B1.out.size
  have hcs : CellsAre pRul (fun q => w.heap.size ≤ q ∧ q < (w1.alloc (.cells #[.int .u8 65, .int .i64 0, .int .u8 0, .int .u8 0, .slice none 0 0, .int .i64 0, .slice A1 5 c1] 61)).heap.size) (w1.alloc (.cells #[.int .u8 65, .int .i64 0, .int .u8 0, .int .u8 0, .slice none 0 0, .int .i64 0, .slice A1 5 c1] 61)) [.int .u8 65, .int .i64 0, .int .u8 0, .int .u8 0, .slice none 0 0, .int .i64 0, .slice A1 5 c1] bushR :=
    ⟨[.int .u8 65, .int .i64 0, .int .u8 0, .int .u8 0, .slice none 0 0, .int .i64 0, .slice A1 5 c1], [], rfl, bare_R (fits_u8 (n := 65) (by decide)) ((H1.out.keep fun q hq => Below.heap_alloc _ _ _ hq.2).wide fun q hq => ⟨hq.1, by have := hq.2; simp; omega⟩) rfl, rfl⟩
  exact sl_lit (Blk.new w1 _ _) hcs ⟨hz, by simp⟩ (by decide) rfl

/-! ### Counts, Length, Matrix of the examples -/
theorem len_given : givenR.length = 2 := rfl
def oneA : List Mod := [⟨65, []⟩]
theorem c30 : lengthF givenR pAB oneA 30 = (2178309, 0) := by decide +kernel
theorem c32 : countsF bushR pA oneA 32 = ([], 16) := by decide +kernel
theorem m0 : matF givenR pAB = ([[1, 1], [1, 0]], 0) := by decide +kernel
theorem k0 : countsF givenR pAB oneA 0 = ([1, 0], 0) := by decide +kernel
theorem k4 : countsF givenR pAB oneA 4 = ([5, 3], 0) := by decide +kernel
theorem k5 : countsF givenR pAB oneA 5 = ([8, 5], 0) := by decide +kernel
theorem k31 : countsF bushR pA oneA 31 = ([617673396283947], 0) := by decide +kernel

/-- the word that is boxed at the heap's end -/
abbrev modW (w : World) (x : Int) : World := w.alloc (.cells #[.int .u8 x, .slice none 0 0] 41)
set_option maxRecDepth 100000 in
set_option maxHeartbeats 2000000 in
theorem counted_calls (A : Option Addr) (c : Nat) (rs : List Rul) (p : ByteArray) (n : Int) (B : Option Addr) (cb : Nat) (want : List Int) (w : World) (h : SlAt pRul (Old w) w A c rs) (hs : Small rs) (hp : p.size ≤ 100) (h' : SlAt (pI .i64) (Old w) w B cb want) (hn : Fits .i64 n) (hc : countsF rs p oneA n = (want, 0)) :
    Calls Try.prog 17 #[.slice A rs.length c, .string p, .int .i64 n, .slice B want.length cb] w (OkPost w) := by
  have hmx := h.lenle
  have hmy := h'.lenle
  have hb0 : Below w.heap.size w (modW w 65) := (Below.refl _ _).alloc (Nat.le_refl _) _
  have hcall := gCounts_calls A c rs p (some ⟨w.heap.size, 0, none⟩) 1 oneA n (modW w 65) (h.later hb0) hs hp (mod_boxed 65 (fits_u8 (n := 65) (by decide))) hn
  unfold CountsPost at hcall
  rw [hc] at hcall
  have h0 := h'.later hb0
  have H := Lib.hid h; clear h
  have H' := Lib.hid h'; clear h'
  have Hcall := Lib.hid hcall; clear hcall
  have H0 := Lib.hid h0; clear h0
  have Hb0 := Lib.hid hb0; clear hb0
  clear hc
  go_enter Try.func17, Try.ntmps17
  go_wp2_with fail
  refine Hcall.out.mono ?_
  rintro e w1 ⟨A1, c1, rfl, b1, s1⟩
  have hbw : Below w.heap.size w w1 := Hb0.out.trans (b1.mono Hb0.out.size)
  have h1 := H0.out.later b1
  have h2 := sl_old s1.out fun q hq => hq.2
  have Hbw := Lib.hid hbw; clear hbw
  have H1 := Lib.hid h1; clear h1
  have H2 := Lib.hid h2; clear h2
  clear b1 s1
  go_wp2_with fail
  refine (same_calls A1 B c1 cb want want w1 H2.out H1.out).mono ?_
  rintro e4 w10 ⟨rfl, n10, rfl⟩
  rw [show (want == want) = true from beq_self_eq_true _]
  go_wp2
  go_ret
  exact ⟨rfl, below_drewN Hbw.out _⟩
end Go.Proofs.Ytflojbohcippnaa
