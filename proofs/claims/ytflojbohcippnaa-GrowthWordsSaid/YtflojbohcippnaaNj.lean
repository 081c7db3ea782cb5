/-
  Layer 10: the walks of Length and Matrix, of program and reference.
-/
import Derived.Test.YtflojbohcippnaaNi
namespace Go.Proofs.Ytflojbohcippnaa
open Go.RowKit Go.Sort

theorem iterF_pos {m : List (List Int)} (hm : ∀ r ∈ m, Pos r) : ∀ (n : Nat) {x y : List Int}, Pos x → x.length = m.length → iterF m n x = some y → Pos y ∧ y.length = m.length
  | 0, x, y, hx, hl, h => by cases h; exact ⟨hx, hl⟩
  | n + 1, x, y, hx, hl, h => by
    unfold iterF at h
    cases hp : prodRow x m with
    | none => rw [hp] at h; cases h
    | some z =>
      rw [hp] at h
      exact iterF_pos hm n (prodRow_pos hx hm hp) (prodRow_length hp) h
theorem counts_pos {rs : List Rul} {p : ByteArray} {ms : List Mod} {n : Int} (hs : Small rs) (h : (countsF rs p ms n).2 = 0) : Pos (countsF rs p ms n).1 ∧ (countsF rs p ms n).1.length = p.size ∧ p.size ≤ 12 := by
  by_cases hck : checkG rs p = 0
  · by_cases hwc : checkF ms = 0
    · cases hg : ms.all (goodM p)
      · rw [countsF_c hck hwc hg] at h; cases h
      · by_cases hn : n < 0 ∨ 60 < n
        · rw [countsF_d hck hwc hg hn] at h; cases h
        · obtain ⟨gn, gs⟩ := countsF_e hck hwc hg hn
          cases hi : iterF (rowsF rs p) n.toNat (vecF p ms) with
          | none => rw [gn hi] at h; cases h
          | some x =>
            rw [gs x hi]
            have := iterF_pos (rowsF_pos p hs.o) n.toNat (vecF_pos (by have := checkF_len hwc; omega)) (by rw [rowsF_length]; unfold vecF; simp) hi
            rw [rowsF_length] at this
            exact ⟨this.1, this.2, (checkG_zero hck).2.1⟩
    · rw [countsF_b hck hwc] at h; exact absurd h hwc
  · rw [countsF_a hck] at h; exact absurd h hck
theorem sumF_append : ∀ (l r : List Int), sumF (l ++ r) = sumF l + sumF r
  | [], r => by simp [sumF]
  | x :: l, r => by
    have := sumF_append l r
    unfold sumF at this ⊢
    simp only [List.cons_append, List.foldr_cons]; omega
theorem sumF_one (x : Int) : sumF [x] = x := by simp [sumF]
theorem sumF_bd : ∀ {l : List Int}, Pos l → 0 ≤ sumF l ∧ sumF l ≤ (l.length : Int) * 1000000000000000
  | [], _ => ⟨Int.le_refl _, by simp [sumF]⟩
  | x :: l, h => by
    have h1 := h x (by simp)
    have h2 := sumF_bd (l := l) fun v hv => h v (by simp [hv])
    have h3 : sumF (x :: l) = x + sumF l := rfl
    rw [h3, List.length_cons]; push_cast; omega
theorem Pos.take {l : List Int} (h : Pos l) (k : Nat) : Pos (l.take k) := fun v hv => h v (List.mem_of_mem_take hv)
theorem sumF_take {l : List Int} {k : Nat} {x : Int} (h : l.drop k = x :: l.drop (k + 1)) : sumF (l.take (k + 1)) = sumF (l.take k) + x := by
  rw [take_of_drop h, sumF_append, sumF_one]
theorem sumF_drop (l : List Int) (k : Nat) : sumF l = sumF (l.take k) + sumF (l.drop k) := by rw [← sumF_append, List.take_append_drop]
theorem lengthF_err {rs : List Rul} {p : ByteArray} {ms : List Mod} {n : Int} (h : ¬ (countsF rs p ms n).2 = 0) : lengthF rs p ms n = (0, (countsF rs p ms n).2) := by unfold lengthF; rw [if_neg h]
theorem lengthF_big {rs : List Rul} {p : ByteArray} {ms : List Mod} {n : Int} (h : (countsF rs p ms n).2 = 0) (h1 : 1000000000000000 < sumF (countsF rs p ms n).1) : lengthF rs p ms n = (0, 16) := by unfold lengthF; rw [if_pos h, if_pos h1]
theorem lengthF_ok {rs : List Rul} {p : ByteArray} {ms : List Mod} {n : Int} (h : (countsF rs p ms n).2 = 0) (h1 : ¬ 1000000000000000 < sumF (countsF rs p ms n).1) : lengthF rs p ms n = (sumF (countsF rs p ms n).1, 0) := by unfold lengthF; rw [if_pos h, if_neg h1]

set_option maxRecDepth 100000 in
set_option maxHeartbeats 2000000 in
theorem gLength_calls (A : Option Addr) (c : Nat) (rs : List Rul) (p : ByteArray) (B : Option Addr) (cb : Nat) (ms : List Mod) (n : Int) (w : World) (h : SlAt pRul (Old w) w A c rs) (hs : Small rs) (hp : p.size ≤ 100) (h' : SlAt pMod (Old w) w B cb ms) (hn : Fits .i64 n) :
    Calls Try.prog 8 #[.slice A rs.length c, .string p, .slice B ms.length cb, .int .i64 n] w (PairPost (lengthF rs p ms n) w) := by
  have hmx := h.lenle
  have hmy := h'.lenle
  have hcall := gCounts_calls A c rs p B cb ms n w h hs hp h' hn
  have hpos := counts_pos (p := p) (ms := ms) (n := n) hs
  have herr := @lengthF_err rs p ms n
  have hbig := @lengthF_big rs p ms n
  have hok := @lengthF_ok rs p ms n
  unfold CountsPost at hcall
  obtain ⟨⟨xs, k⟩, hres⟩ : ∃ r, countsF rs p ms n = r := ⟨_, rfl⟩
  rw [hres] at hcall hpos herr hbig hok
  dsimp only at hcall hpos herr hbig hok
  have Hcall := Lib.hid hcall; clear hcall
  have Herr := Lib.hid herr; clear herr
  have Hbig := Lib.hid hbig; clear hbig
  have Hok := Lib.hid hok; clear hok
  clear h h' hres
  by_cases hk : k = 0
  · subst hk
    obtain ⟨hx, hl, hp12⟩ := hpos rfl
    have hbig := Hbig.out rfl
    have hok := fun (h : sumF xs ≤ 1000000000000000) => Hok.out rfl (by omega)
    clear hpos Hbig Hok Herr
    have Hbig := Lib.hid hbig; clear hbig
    have Hok := Lib.hid hok; clear hok
    have e0 : (xs.length : Int) ≤ 12 := by omega
    have Hx := Lib.hid hx; clear hx
    have Hl := Lib.hid hl; clear hl
    go_enter Try.func8, Try.ntmps8
    go_wp2_with fail
    refine Hcall.out.mono ?_
    rintro e w1 ⟨A1, c1, rfl, hb1, hs1⟩
    have Hb1 := Lib.hid hb1; clear hb1
    go_wp2
    go_loop [28, 12] (fun i s => ∃ m : Nat, m ≤ xs.length ∧ i = .int .i64 m ∧ ∃ v : Int, s = .int .i64 v ∧ Hid (v = sumF (xs.take m)) ∧ 0 ≤ v ∧ v ≤ (m : Int) * 1000000000000000) (fun i _ => xs.length - (intOf i).toNat)
    case atStart => exact ⟨0, Nat.zero_le _, rfl, 0, rfl, rfl, by omega, by omega⟩
    case round =>
      obtain ⟨m, hm, rfl, v, rfl, hv, hv0, hv1⟩ := hrel
      by_cases hlt : m < xs.length
      · obtain ⟨b, o, x, hd, rfl, _, hc, _⟩ := hs1.out.getI hlt
        have hx0 := Hx.out x (mem_of_drop hd.out)
        have hv2 : v + x = sumF (xs.take (m + 1)) := by rw [sumF_take hd.out, hv.out]
        have Hv2 := Lib.hid hv2; clear hv2
        go_wp2
        go_round
        case rel => exact ⟨m + 1, by omega, by go_num, v + x, rfl, Hv2, by omega, by push_cast; omega⟩
        case measure => simp [intOf]; omega
      · have hvs : v = sumF xs := by rw [hv.out, List.take_of_length_le (by omega)]
        by_cases hov : 1000000000000000 < v
        · have hr := Hbig.out (by omega)
          have Hr := Lib.hid hr; clear hr
          have Hvs := Lib.hid hvs; clear hvs
          go_wp2
          go_ret2
          exact ⟨by rw [Hr.out]; rfl, Hb1.out⟩
        · have hr := Hok.out (by omega)
          rw [← hvs] at hr
          have Hr := Lib.hid hr; clear hr
          have Hvs := Lib.hid hvs; clear hvs
          go_wp2
          go_ret2
          exact ⟨by rw [Hr.out]; rfl, Hb1.out⟩
  · have hr := Herr.out hk
    have e0 : (k != 0) = true := by simpa using hk
    have Hr := Lib.hid hr; clear hr
    have Hk := Lib.hid hk; clear hk
    clear hpos
    go_enter Try.func8, Try.ntmps8
    go_wp2_with fail
    refine Hcall.out.mono ?_
    rintro e w1 ⟨A1, c1, rfl, hb1, hs1⟩
    have Hb1 := Lib.hid hb1; clear hb1
    go_wp2
    go_ret2
    exact ⟨by rw [Hr.out]; rfl, Hb1.out⟩

/-! ### Matrix -/
def matF (rs : List Rul) (p : ByteArray) : List (List Int) × Int := if checkG rs p = 0 then (rowsF rs p, 0) else ([], checkG rs p)
def MatrixPost (rs : List Rul) (p : ByteArray) (w : World) (e : Ending) (w' : World) : Prop :=
  ∃ A c, e = .returned (.tuple #[.slice A (matF rs p).1.length c, .int .i64 (matF rs p).2]) ∧ Below w.heap.size w w' ∧ Hid (SlAt (pSl (pI .i64)) (fun q => w.heap.size ≤ q ∧ q < w'.heap.size) w' A c (matF rs p).1)
set_option maxRecDepth 100000 in
set_option maxHeartbeats 2000000 in
theorem gMatrix_calls (A : Option Addr) (c : Nat) (rs : List Rul) (p : ByteArray) (w : World) (h : SlAt pRul (Old w) w A c rs) (hs : Small rs) (hp : p.size ≤ 100) :
    Calls Try.prog 13 #[.slice A rs.length c, .string p] w (MatrixPost rs p w) := by
  have hmx := h.lenle
  have H := Lib.hid h; clear h
  have Hs := Lib.hid hs; clear hs
  by_cases hck : checkG rs p = 0
  · have e0 : (checkG rs p != 0) = false := by simp [hck]
    have hr : matF rs p = (rowsF rs p, 0) := by unfold matF; rw [if_pos hck]
    have hp12 := (checkG_zero hck).2.1
    have hmm := rowsF_length rs p
    have Hr := Lib.hid hr; clear hr
    have Hck := Lib.hid hck; clear hck
    have Hmm := Lib.hid hmm; clear hmm
    go_enter Try.func13, Try.ntmps13
    go_wp2_with fail
    refine (gCheck_calls A c rs p w H.out Hs.out hp).mono ?_
    rintro e w1 ⟨rfl, hb1⟩
    have z1 := hb1.size
    have Hb1 := Lib.hid hb1; clear hb1
    go_wp2_with fail
    refine (rows_calls A c rs p w1 (H.out.later Hb1.out) Hs.out hp12).mono ?_
    rintro e w2 ⟨A2, c2, rfl, hb2, hs2⟩
    have hbw : Below w.heap.size w w2 := Hb1.out.trans (hb2.mono z1)
    have Hbw := Lib.hid hbw; clear hbw
    clear hb2
    go_wp2
    go_ret2
    unfold MatrixPost
    rw [Hr.out]
    exact ⟨A2, c2, by rw [Hmm.out]; rfl, Hbw.out, hs2.out.wide fun q hq => ⟨Nat.le_trans z1 hq.1, hq.2⟩⟩
  · have e0 : (checkG rs p != 0) = true := by simp [hck]
    have hr : matF rs p = ([], checkG rs p) := by unfold matF; rw [if_neg hck]
    have Hr := Lib.hid hr; clear hr
    have Hck := Lib.hid hck; clear hck
    go_enter Try.func13, Try.ntmps13
    go_wp2_with fail
    refine (gCheck_calls A c rs p w H.out Hs.out hp).mono ?_
    rintro e w1 ⟨rfl, hb1⟩
    have z1 := hb1.size
    have Hb1 := Lib.hid hb1; clear hb1
    go_wp2
    go_ret2
    unfold MatrixPost
    rw [Hr.out]
    exact ⟨none, 0, rfl, Hb1.out, sl_nil⟩
end Go.Proofs.Ytflojbohcippnaa
