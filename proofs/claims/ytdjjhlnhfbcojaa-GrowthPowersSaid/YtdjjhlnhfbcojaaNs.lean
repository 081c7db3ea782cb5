/-
  GrowthPowers, the walk of the law: it returns true.
-/
import Derived.Test.YtdjjhlnhfbcojaaNr
namespace Go.Proofs.Ytdjjhlnhfbcojaa
open Go.RowKit Go.Sort

theorem cellsAre_ints_eq {k : IntKind} {F : Nat → Prop} {w : World} : ∀ {xs : List Int} {cells : List Value}, CellsAre (pI k) F w cells xs → cells = xs.map (Value.int k)
  | [], _, h => h
  | x :: xs, _, ⟨cs, rest, h1, ⟨h2, _⟩, h3⟩ => by rw [h1, h2, cellsAre_ints_eq h3]; rfl
theorem cellsN_list {N : Nat} {x : List Int} (h : x.length = N) : (x.map (Value.int .i64)).toArray = cellsN N (fun k => x.getD k 0) := by
  unfold cellsN
  congr 1
  apply List.ext_getElem?
  intro i
  rw [List.getElem?_map, List.getElem?_map]
  by_cases hi : i < N
  · rw [List.getElem?_range hi, List.getElem?_eq_getElem (by omega)]
    simp [List.getD_eq_getElem?_getD, List.getElem?_eq_getElem (show i < x.length by omega)]
  · rw [List.getElem?_eq_none (by omega), List.getElem?_eq_none (by simpa using hi)]; rfl
theorem topM_eq {N : Nat} {x : List Int} (h : x.length = N) : ((List.range N).map fun i => (List.range N).map ((fun i k => if i = 0 then x.getD k 0 else 0) i)) = topM N x := by
  unfold topM
  refine List.map_congr_left fun i _ => ?_
  by_cases hi : i = 0
  · subst hi
    simp only [if_true]
    apply List.ext_getElem?
    intro k
    rw [List.getElem?_map]
    by_cases hk : k < N
    · rw [List.getElem?_range hk, List.getElem?_eq_getElem (by omega)]
      simp [List.getD_eq_getElem?_getD, List.getElem?_eq_getElem (show k < x.length by omega)]
    · rw [List.getElem?_eq_none (by simpa using hk), List.getElem?_eq_none (by omega)]; rfl
  · simp only [if_neg hi]
    rw [List.map_const', List.length_range]
theorem rows_bd {rs : List Rul} {p : ByteArray} (hs : Small rs) : ∀ r ∈ rowsF rs p, ∀ v ∈ r, 0 ≤ v ∧ v ≤ ((30 : Nat) : Int) := by
  intro r hr v hv
  unfold rowsF at hr
  obtain ⟨i, _, rfl⟩ := List.mem_map.1 hr
  obtain ⟨k, _, rfl⟩ := List.mem_map.1 hv
  unfold rowsFn rowFn
  cases hf : rs.find? (fun r => r.name == (bytesI p).getD i 0) with
  | none => dsimp only; split <;> omega
  | some r =>
    have h1 := tally_bd p k r.out
    have h2 := hs.o r (List.mem_of_find?_eq_some hf)
    dsimp only; omega
theorem iterF_nil : ∀ k, iterF [] k [] = some []
  | 0 => rfl
  | k + 1 => by
    show (prodRow [] []).bind _ = _
    rw [show prodRow [] [] = some [] from by decide]
    exact iterF_nil k
theorem iter_step (M : List (List Int)) (k : Nat) (x y : List Int) (h : iterF M k x = some y) : iterF M (k + 1) x = prodRow y M := by rw [iterF_succ, h]; rfl
theorem iter_dead {M : List (List Int)} {k m : Nat} {x : List Int} (h : iterF M (k + 1) x = none) (hk : k < m) : iterF M m x = none := by
  rw [show m = (k + 1) + (m - (k + 1)) from by omega, iterF_add, h]; rfl

/-- the power on its way, behind k of m products -/
def PowOk (N : Nat) (M : List (List Int)) (x : List Int) (m k : Nat) (P : List (List Int)) (g : Int) : Prop :=
  (g = 0 ∧ ((N = 0 ∧ P = []) ∨ (N ≠ 0 ∧ ∃ y, iterF M k x = some y ∧ P = topM N y))) ∨ (g = 16 ∧ N ≠ 0 ∧ iterF M m x = none)
theorem pow_step {N : Nat} {M : List (List Int)} {x : List Int} {m k : Nat} {P : List (List Int)} (h : PowOk N M x m k P 0) (hM : squareF M = true) (hl : M.length = N) (hx : Pos x) (hxl : x.length = N) (hk : k < m) : PowOk N M x m (k + 1) (timesRes P M).2 (timesRes P M).1 := by
  rcases h with ⟨_, ⟨hN, rfl⟩ | ⟨hN, y, hy, rfl⟩⟩ | ⟨h, _⟩
  · subst hN
    have : M = [] := List.eq_nil_of_length_eq_zero hl
    subst this
    rw [timesRes_nil]
    exact .inl ⟨rfl, .inl ⟨rfl, rfl⟩⟩
  · obtain ⟨hyp, hyl⟩ := iterF_pos (squareF_iff.1 hM).2.1 k hx (by rw [hxl, hl]) hy
    rw [timesRes_top hM hl hN hyp (by rw [hyl, hl])]
    have hs := iter_step M k x y hy
    cases hp : prodRow y M with
    | none => exact .inr ⟨rfl, hN, iter_dead (by rw [hs, hp]) hk⟩
    | some z => exact .inl ⟨rfl, .inr ⟨hN, z, by rw [hs, hp], rfl⟩⟩
  · cases h

set_option maxRecDepth 100000 in
set_option maxHeartbeats 8000000 in
theorem growthPowers_walk (A : Option Addr) (c : Nat) (rs : List Rul) (p : ByteArray) (B : Option Addr) (cb : Nat) (us : List Mod) (n m : Int) (w : World) (h : SlAt pRul (Old w) w A c rs) (h1 : SlAt pMod (Old w) w B cb us) (hn : Fits .i64 n) (hm : Fits .i64 m) :
    Calls Try.prog 7 #[.slice A rs.length c, .string p, .slice B us.length cb, .int .i64 n, .int .i64 m] w (OkPost w) := by
  have hmx := h.lenle
  have hmy := h1.lenle
  have hn' := hn.i64
  have hm' := hm.i64
  have H := Lib.hid h; clear h
  have H1 := Lib.hid h1; clear h1
  have out : ∀ (W : World), Below w.heap.size w W → Calls Try.prog 25 #[] W fun e W' => e = .returned (.bool true) ∧ Hid (Below w.heap.size w W') := fun W hW => (alive_calls W).mono fun e W' hh => ⟨hh.1, hW.trans (hh.2.mono hW.size)⟩
  have Out := Lib.hid out; clear out
  cases hv : validF rs p
  · go_enter Try.func7, Try.ntmps7
    go_wp2_with fail
    refine (valid_calls A c rs p w H.out).mono ?_
    rintro e w1 ⟨rfl, b1⟩
    rw [hv]
    go_wp2_with fail
    refine (Out.out w1 b1).mono ?_
    rintro e w2 ⟨rfl, b2⟩
    go_wp2
    go_ret
    exact ⟨rfl, b2.out⟩
  obtain ⟨hs, hp, hk⟩ := validF_yes hv
  cases hg1 : greatF us
  rotate_left
  · have Hs := Lib.hid hs; clear hs
    have Hk := Lib.hid hk; clear hk
    go_enter Try.func7, Try.ntmps7
    go_wp2_with fail
    refine (valid_calls A c rs p w H.out).mono ?_
    rintro e w1 ⟨rfl, b1⟩
    rw [hv]
    have T1 := Lib.hid b1; clear b1
    go_wp2_with fail
    refine (great_calls B cb us w1 (H1.out.later T1.out)).mono ?_
    rintro e w' ⟨rfl, rfl⟩
    rw [hg1]
    go_wp2_with fail
    refine (Out.out _ T1.out).mono ?_
    rintro e w7 ⟨rfl, b7⟩
    go_wp2
    go_ret
    exact ⟨rfl, b7.out⟩
  by_cases hrange : n < 0 ∨ (¬ n < 0 ∧ (m < 0 ∨ (¬ m < 0 ∧ (8 < m ∨ (¬ 8 < m ∧ 50 < n)))))
  · have Hs := Lib.hid hs; clear hs
    have Hk := Lib.hid hk; clear hk
    rcases hrange with hr | ⟨hr, hr2 | ⟨hr2, hr3 | ⟨hr3, hr4⟩⟩⟩
    all_goals
      go_enter Try.func7, Try.ntmps7
      go_wp2_with fail
      refine (valid_calls A c rs p w H.out).mono ?_
      rintro e w1 ⟨rfl, b1⟩
      rw [hv]
      have T1 := Lib.hid b1; clear b1
      go_wp2_with fail
      refine (great_calls B cb us w1 (H1.out.later T1.out)).mono ?_
      rintro e w' ⟨rfl, rfl⟩
      rw [hg1]
      go_wp2_with fail
      refine (Out.out _ T1.out).mono ?_
      rintro e w7 ⟨rfl, b7⟩
      go_wp2
      go_ret
      exact ⟨rfl, b7.out⟩
  obtain ⟨N, rfl⟩ := Int.eq_ofNat_of_zero_le (show 0 ≤ n by omega)
  obtain ⟨K, rfl⟩ := Int.eq_ofNat_of_zero_le (show 0 ≤ m by omega)
  have hN : N ≤ 50 := by omega
  have hK : K ≤ 8 := by omega
  clear hrange hn' hm'
  have hcx := counts_pos (p := p) (ms := us) (n := (N : Int)) hs
  have herr := fun hx => powers_err (rs := rs) (p := p) (ms := us) hk hN hK hx
  have hok := fun hx => powers_ok (rs := rs) (p := p) (ms := us) hk hN hK hx
  have hp12 := (checkG_zero hk).2.1
  have hM : matF rs p = (rowsF rs p, 0) := by unfold matF; rw [if_pos hk]
  have hsq := square_rows (rs := rs) (p := p) hs hp12
  have hml := rowsF_length rs p
  have hbd := rows_bd (rs := rs) (p := p) hs
  obtain ⟨p1, t2, t3⟩ := timesRes_mul (A := 30) (B := 30) hsq hsq rfl hbd hbd (by decide)
  obtain ⟨p4, _, _⟩ := timesRes_mul (A := 10800) (B := 30) t2 hsq (by rw [mulM_length]) t3 hbd (by decide)
  obtain ⟨p6, _, _⟩ := timesRes_mul (A := 30) (B := 10800) hsq t2 (by rw [mulM_length]) hbd t3 (by decide)
  have has := mulM_assoc (a := rowsF rs p) (b := rowsF rs p) (c := rowsF rs p) (n := p.size) (by rw [← hml]; exact (squareF_iff.1 hsq).2.2) hml (by rw [← hml]; exact (squareF_iff.1 hsq).2.2) hml
  have h0 : (0 : Int) ≤ (N : Int) := Int.natCast_nonneg _
  have h0' : (0 : Int) ≤ (K : Int) := Int.natCast_nonneg _
  have hnm : Fits .i64 ((N : Int) + K) := fits_i64 (by omega)
  have Hs := Lib.hid hs; clear hs
  have Hk := Lib.hid hk; clear hk
  have Hcx := Lib.hid hcx; clear hcx
  have Herr := Lib.hid herr; clear herr
  have Hok := Lib.hid hok; clear hok
  have Hsq := Lib.hid hsq; clear hsq
  have Hbd := Lib.hid hbd; clear hbd
  have Hnm := Lib.hid hnm; clear hnm
  go_enter Try.func7, Try.ntmps7
  go_wp2_with fail
  refine (valid_calls A c rs p w H.out).mono ?_
  rintro e w1 ⟨rfl, b1⟩
  rw [hv]
  have T1 := Lib.hid b1; clear b1
  go_wp2_with fail
  refine (great_calls B cb us w1 (H1.out.later T1.out)).mono ?_
  rintro e w' ⟨rfl, rfl⟩
  rw [hg1]
  clear hg1 hv
  have hcn := gCounts_calls A c rs p B cb us (N : Int) w1 (H.out.later T1.out) Hs.out hp (H1.out.later T1.out) hn
  clear t2 t3
  have P1 := Lib.hid p1; clear p1
  have P4 := Lib.hid p4; clear p4
  have P6 := Lib.hid p6; clear p6
  have Has := Lib.hid has; clear has
  have HM := Lib.hid hM; clear hM
  have Hml := Lib.hid hml; clear hml
  have Hcn := Lib.hid hcn; clear hcn
  go_wp2_with fail
  refine Hcn.out.mono ?_
  rintro e w2 ⟨A2, c2, rfl, b2, s2⟩
  have T2 := Lib.hid (T1.out.trans (b2.mono T1.out.size))
  have S2 := Lib.hid (sl_old s2.out fun q hq => hq.2)
  clear b2 s2
  have hcm := gCounts_calls A c rs p B cb us ((N : Int) + K) w2 (H.out.later T2.out) Hs.out hp (H1.out.later T2.out) Hnm.out
  have Hcm := Lib.hid hcm; clear hcm
  go_wp2_with fail
  refine Hcm.out.mono ?_
  rintro e w3 ⟨A3, c3, rfl, b3, s3⟩
  have T3 := Lib.hid (T2.out.trans (b3.mono T2.out.size))
  have S3 := Lib.hid (sl_old s3.out fun q hq => hq.2)
  have S23 := Lib.hid (S2.out.later b3)
  clear b3 s3 S2
  go_wp2_with fail
  refine (gMatrix_calls A c rs p w3 (H.out.later T3.out) Hs.out hp).mono ?_
  rintro e w4 ⟨A4, c4, rfl, b4, s4⟩
  rw [HM.out] at s4 ⊢
  dsimp only at s4 ⊢
  have T4 := Lib.hid (T3.out.trans (b4.mono T3.out.size))
  have S4 := Lib.hid (sl_old s4.out fun q hq => hq.2)
  have S24 := Lib.hid (S23.out.later b4)
  have S34 := Lib.hid (S3.out.later b4)
  clear b4 s4 S23 S3
  obtain ⟨M, hMe⟩ : ∃ M, rowsF rs p = M := ⟨_, rfl⟩
  obtain ⟨⟨x, ef⟩, hxe⟩ : ∃ r, countsF rs p us (N : Int) = r := ⟨_, rfl⟩
  obtain ⟨⟨y, eg⟩, hye⟩ : ∃ r, countsF rs p us ((N : Int) + K) = r := ⟨_, rfl⟩
  rw [hxe] at S24 Hcx Herr Hok ⊢
  rw [hye] at S34 Herr Hok ⊢
  rw [hMe] at S4 Hok Hsq Hbd P1 P4 P6 Has HM Hml ⊢
  dsimp only at S24 S34 Hcx Herr Hok ⊢
  clear hxe hye hMe
  have hl2 := S24.out.lenle.1
  have hl3 := S34.out.lenle.1
  by_cases hef : ef = 0
  rotate_left
  · obtain rfl := Herr.out hef
    have e0 : (eg != 0) = true := by simpa using hef
    have e1 : (eg == eg) = true := beq_self_eq_true _
    clear hef
    rw [Hml.out]
    go_wp2_with fail
    refine (Out.out _ T4.out).mono ?_
    rintro e w7 ⟨rfl, b7⟩
    go_wp2
    go_ret
    exact ⟨rfl, b7.out⟩
  subst hef
  obtain ⟨hx, hxl, _⟩ := Hcx.out rfl
  obtain ⟨okn, oks⟩ := Hok.out rfl
  clear Hcx Hok Herr
  have Hx := Lib.hid hx; clear hx
  have Hxl := Lib.hid hxl; clear hxl
  have Okn := Lib.hid okn; clear okn
  have Oks := Lib.hid oks; clear oks
  have hmk := fun (wx : World) => run_make_row' (P := Try.prog) 24 2 (.int .i64 0) 8 Try.underlying24 info_int64 rfl .i64 .i64 p.size (by omega) (by omega) wx
  simp only [cellsN_made] at hmk
  have hmo := fun (wx : World) => run_make_row' (P := Try.prog) 22 24 (.slice none 0 0) 24 Try.underlying22 info_sl64 rfl .i64 .i64 p.size (by omega) (by omega) wx
  rw [gridC_made w4.heap.size] at hmo
  rw [Hml.out, Hxl.out]
  go_wp2
  go_loopw [18] (fun i wr => ∃ k : Nat, k ≤ p.size ∧ i = .int .i64 k ∧ Hid (Below w4.heap.size w4 wr) ∧ Hid (wr.heap.size = w4.heap.size + 1 + k) ∧ Hid (Grid wr w4.heap.size p.size k (fun _ _ => 0))) (fun i _ => p.size - (intOf i).toNat)
  case atStart => exact ⟨0, Nat.zero_le _, rfl, (Below.refl _ _).alloc (Nat.le_refl _) _, by unfold Hid; simp, ⟨Blk.new _ _ _, fun i hi => absurd hi (Nat.not_lt_zero _)⟩⟩
  case round =>
    obtain ⟨k, hk, rfl, hb, hsz, hgr⟩ := hrel
    by_cases hlt : k < p.size
    · have htop := hgr.out.top.alloc (.cells (cellsN p.size fun _ => 0) 2)
      have hcm := (htop.cell k).trans (gridC_get (k := k) hlt)
      rw [if_neg (Nat.lt_irrefl _)] at hcm
      have hfz := htop.free k
      have hg1 := hgr.out.alloc (.cells (cellsN p.size fun _ => 0) 2)
      have hnew := Blk.new wr 2 (cellsN p.size fun _ => 0)
      have hset := htop.set k (.slice (some ⟨wr.heap.size, 0, none⟩) p.size p.size)
      have hbb : Below w4.heap.size w4 ((wr.alloc (.cells (cellsN p.size fun _ => 0) 2)).setCell ⟨w4.heap.size, k, none⟩ (.slice (some ⟨wr.heap.size, 0, none⟩) p.size p.size)) := (hb.out.alloc (by have := hsz.out; omega) _).setCell (Nat.le_refl _) _
      have hgrid : Grid ((wr.alloc (.cells (cellsN p.size fun _ => 0) 2)).setCell ⟨w4.heap.size, k, none⟩ (.slice (some ⟨wr.heap.size, 0, none⟩) p.size p.size)) w4.heap.size p.size (k + 1) (fun _ _ => 0) := by
        refine ⟨?_, fun i hi => ?_⟩
        · rw [hsz.out] at hset ⊢; rwa [gridC_set] at hset
        · have hne : w4.heap.size ≠ w4.heap.size + 1 + i := by omega
          by_cases hik : i < k
          · refine (hg1.row i hik).same ?_
            unfold World.setCell; rw [Array.getElem?_modify, if_neg hne]
          · obtain rfl : i = k := by omega
            rw [hsz.out] at hnew
            refine hnew.same ?_
            rw [hsz.out]
            unfold World.setCell; rw [Array.getElem?_modify, if_neg hne]
      have hsz2 : ((wr.alloc (.cells (cellsN p.size fun _ => 0) 2)).setCell ⟨w4.heap.size, k, none⟩ (.slice (some ⟨wr.heap.size, 0, none⟩) p.size p.size)).heap.size = w4.heap.size + 1 + (k + 1) := by
        simp [World.setCell]; rw [hsz.out]; omega
      have Hbb := Lib.hid hbb; clear hbb
      have Hgrid := Lib.hid hgrid; clear hgrid
      have Hsz2 := Lib.hid hsz2; clear hsz2
      clear htop hg1 hnew hset
      go_wp2
      go_roundw
      case rel => exact ⟨k + 1, by omega, by go_num, Hbb, Hsz2, Hgrid⟩
      case measure => simp [intOf]; omega
    · obtain rfl : k = p.size := by omega
      obtain ⟨wo, rfl⟩ : ∃ wo : World, wo = wr := ⟨_, rfl⟩
      clear hlt hk hmk hmo
      have To := Lib.hid (T4.out.trans (hb.out.mono T4.out.size))
      have So4 := Lib.hid (S4.out.later hb.out)
      have So3 := Lib.hid (S34.out.later hb.out)
      have So2 := Lib.hid (S24.out.later hb.out)
      have hzo : w4.heap.size + 1 + p.size ≤ wo.heap.size := Nat.le_of_eq hsz.out.symm
      by_cases hN0 : p.size = 0
      · have hMx : M = [] ∧ x = [] := ⟨List.eq_nil_of_length_eq_zero (by rw [Hml.out, hN0]), List.eq_nil_of_length_eq_zero (by rw [Hxl.out, hN0])⟩
        obtain ⟨P0, hP0⟩ : ∃ P0 : List (List Int), P0 = [] := ⟨_, rfl⟩
        have HP0 : Hid (P0.length = p.size) := by unfold Hid; rw [hP0, hN0]; rfl
        have SlP : Hid (SlAt (pSl (pI .i64)) (Old wo) wo (some ⟨w4.heap.size, 0, none⟩) p.size P0) := by
          unfold Hid; rw [hP0]; exact ⟨Nat.zero_le _, by unfold maxLen; omega, (fun h => by cases h), fun i x hx => by simp at hx⟩
        have Pow0 : Hid (PowOk p.size M x K 0 P0 0) := .inl ⟨rfl, .inl ⟨hN0, hP0⟩⟩
        have hn0 : ¬ (0 : Int) < (p.size : Int) := by omega
        have HN0 := Lib.hid hN0; clear hN0
        have HMx := Lib.hid hMx; clear hMx
        obtain ⟨wq, rfl⟩ : ∃ wq : World, wq = wo := ⟨_, rfl⟩
        have Tq := To
        have Sq4 := So4
        have Sq3 := So3
        clear To So4 So3 So2 hgr hb hsz hP0
        go_wp2
        go_loopw [20, 19, 16] (fun i pw g wr => ∃ k : Nat, k ≤ K ∧ i = .int .i64 k ∧ ∃ Ap cp P gg, pw = .slice Ap (List.length (α := List Int) P) cp ∧ g = .int .i64 gg ∧ P.length ≤ 9223372036854775807 ∧ Hid (Below wq.heap.size wq wr) ∧ wq.heap.size ≤ wr.heap.size ∧ Hid (SlAt (pSl (pI .i64)) (Old wr) wr Ap cp P) ∧ Hid (PowOk p.size M x K k P gg)) (fun i _ _ _ => K - (intOf i).toNat)
        case atStart => exact ⟨0, Nat.zero_le _, rfl, _, _, P0, 0, by rw [HP0.out], rfl, by rw [HP0.out]; omega, Below.refl _ _, Nat.le_refl _, SlP, Pow0⟩
        case round =>
          obtain ⟨k, hk, rfl, Ap, cp, P, gg, rfl, rfl, hPl, hbr, hszr, hsp, hpow⟩ := hrel
          have Tr := Lib.hid (Tq.out.trans (hbr.out.mono Tq.out.size))
          have Sr4 := Lib.hid (Sq4.out.later hbr.out)
          have Sr3 := Lib.hid (Sq3.out.later hbr.out)
          by_cases hg : gg = 0
          · subst hg
            by_cases hlt : k < K
            · have hst := pow_step hpow.out Hsq.out Hml.out Hx.out Hxl.out hlt
              obtain ⟨⟨te, tr⟩, hT⟩ : ∃ r, timesRes P M = r := ⟨_, rfl⟩
              rw [hT] at hst
              dsimp only at hst
              have Hst := Lib.hid hst; clear hst
              have HT := Lib.hid hT; clear hT
              have q5 := times_calls Ap A4 cp c4 P M wr hsp.out Sr4.out
              rw [Hml.out] at q5
              have Q5 := Lib.hid q5; clear q5
              go_wp2_with fail
              refine Q5.out.mono ?_
              intro e5 w5 ht5
              obtain ⟨b5, A5, c5, rfl, s5⟩ := times_uniform ht5
              rw [HT.out] at s5 ⊢
              dsimp only at s5 ⊢
              have B5 := Lib.hid (hbr.out.trans (b5.mono hszr))
              have S5 := Lib.hid s5
              have hl5 := s5.lenle.1
              have hz5 : wq.heap.size ≤ w5.heap.size := B5.out.size
              clear ht5 b5 s5
              go_wp2
              go_roundw
              case rel => exact ⟨k + 1, by omega, by go_num, A5, c5, tr, te, rfl, rfl, hl5, B5, hz5, S5, Hst⟩
              case measure => simp [intOf]; omega
            · obtain rfl : k = K := by omega
              rcases hpow.out with ⟨_, ⟨hN, rfl⟩ | ⟨hN, y1, hy1, rfl⟩⟩ | ⟨h, _⟩
              · have hyy := Oks.out [] (by rw [HMx.out.1, HMx.out.2]; exact iterF_nil _)
                simp only [Prod.mk.injEq] at hyy
                obtain ⟨rfl, rfl⟩ := hyy
                clear hpow hN
                have q5 := times_calls A4 A4 c4 c4 M M wr Sr4.out Sr4.out
                rw [Hml.out] at q5
                have Q5 := Lib.hid q5; clear q5
                go_wp2_with fail
                refine Q5.out.mono ?_
                intro e5 w5 ht5
                obtain ⟨b5, A5, c5, rfl, s5⟩ := times_uniform ht5
                rw [P1.out] at s5 ⊢
                dsimp only at s5 ⊢
                have T5 := Lib.hid ((Tr.out).trans (b5.mono (Tr.out).size))
                have S45 := Lib.hid ((Sr4.out).later b5)
                have S5 := Lib.hid s5
                clear ht5 b5 s5
                have q6 := times_calls A5 A4 c5 c4 (mulM M M) M w5 S5.out S45.out
                rw [Hml.out] at q6
                have Q6 := Lib.hid q6; clear q6
                go_wp2_with fail
                refine Q6.out.mono ?_
                intro e6 w6 ht6
                obtain ⟨b6, A6, c6, rfl, s6⟩ := times_uniform ht6
                rw [P4.out] at s6 ⊢
                dsimp only at s6 ⊢
                have T6 := Lib.hid (T5.out.trans (b6.mono T5.out.size))
                have S46 := Lib.hid (S45.out.later b6)
                have S56 := Lib.hid (S5.out.later b6)
                have S6 := Lib.hid s6
                clear ht6 b6 s6
                have q7 := times_calls A4 A5 c4 c5 M (mulM M M) w6 S46.out S56.out
                rw [Hml.out] at q7
                have Q7 := Lib.hid q7; clear q7
                go_wp2_with fail
                refine Q7.out.mono ?_
                intro e7 w7 ht7
                obtain ⟨b7, A7, c7, rfl, s7⟩ := times_uniform ht7
                rw [P6.out] at s7 ⊢
                dsimp only at s7 ⊢
                have T7 := Lib.hid (T6.out.trans (b7.mono T6.out.size))
                have S67 := Lib.hid (S6.out.later b7)
                have S7 := Lib.hid s7
                clear ht7 b7 s7
                go_wp2_with fail
                refine (sameRows_calls A6 A7 c6 c7 (mulM (mulM M M) M) (mulM M (mulM M M)) w7 S67.out S7.out).mono ?_
                rintro e8 w8 ⟨rfl, n8, rfl⟩
                rw [show (mulM (mulM M M) M == mulM M (mulM M M)) = true from by rw [Has.out]; exact beq_self_eq_true _]
                go_wp2_with fail
                refine (Out.out _ (below_drewN T7.out _)).mono ?_
                rintro e9 w9 ⟨rfl, b9⟩
                go_wp2
                go_ret
                exact ⟨rfl, b9.out⟩
              · exact absurd HN0.out hN
              · cases h
          · have e9 : (gg == 0) = false := by simpa using hg
            rcases hpow.out with ⟨h, _⟩ | ⟨h, hN, hdead⟩
            · exact absurd h hg
            · subst h
              exact absurd HN0.out hN
      · have h0l : 0 < p.size := by omega
        have HN0 := Lib.hid hN0; clear hN0
        have hn0 : (0 : Int) < (p.size : Int) := by omega
        have hc0 := (hgr.out.top.cell 0).trans (gridC_get (k := p.size) h0l)
        rw [if_pos h0l, Nat.add_zero] at hc0
        have hrow := hgr.out.row 0 h0l
        rw [Nat.add_zero] at hrow
        have hcs0 : (cellsN p.size fun _ => 0).size = p.size * (pI .i64).n := by simp [cellsN, pI]
        have hne : ∀ q, (q < w4.heap.size) → q ≠ w4.heap.size + 1 := fun q hq => by omega
        have So2' : Hid (SlAt (pI .i64) (· < w4.heap.size) wo A2 c2 x) := S24.out.keep fun q hq => hb.out.block q hq
        have Hrow := Lib.hid hrow; clear hrow
        have Hcs0 := Lib.hid hcs0; clear hcs0
        have Hne := Lib.hid hne; clear hne
        go_wp2_with ((with_reducible show wpList _ _ _ (Oper.mk (some 108) _ _ _ _ _ :: _) _ _); refine wpList_copyAll (E := pI .i64) 24 2 (.tmp 106) (.tmp 107) rfl rfl Try.underlying24 (by kernel_rfl) p.size (w4.heap.size + 1) 2 _ rfl Hrow.out Hcs0.out A2 c2 x (by rw [Hxl.out]; rfl) Hxl.out (· < w4.heap.size) So2'.out Hne.out w4.heap.size w4 hb.out (Nat.le_succ _) ?_; intro wq cells hblk hcells hb1 hk1 hsz1)
        have hcq := cellsAre_ints_eq hcells.out
        have hblk2 : Blk wq (w4.heap.size + 1) 2 (cellsN p.size (fun k => x.getD k 0)) := by
          have := hblk.out
          rwa [hcq, cellsN_list Hxl.out] at this
        have hG : Grid wq w4.heap.size p.size p.size (fun i k => if i = 0 then x.getD k 0 else 0) := by
          refine ⟨hgr.out.top.same (hk1.out _ (by omega)), fun i hi => ?_⟩
          by_cases hi0 : i = 0
          · subst hi0
            simp only [if_true, Nat.add_zero]; exact hblk2
          · simp only [if_neg hi0]
            exact (hgr.out.row i hi).same (hk1.out _ (by omega))
        have hzq : w4.heap.size + 1 + p.size ≤ wq.heap.size := by rw [hsz1]; exact hzo
        have hslp := hG.sl (G := Old wq) (by omega) (fun i hi k hk => by
          split
          · have := Hx.out.getD k; exact fits_i64 (by omega)
          · exact fits_i64 (by decide)) (fun q _ hq => by unfold Old; omega)
        rw [topM_eq Hxl.out] at hslp
        obtain ⟨P0, hP0⟩ : ∃ P0, P0 = topM p.size x := ⟨_, rfl⟩
        rw [← hP0] at hslp
        have HP0 : Hid (P0.length = p.size) := by unfold Hid; rw [hP0, topM_length]
        have SlP := Lib.hid hslp
        have Pow0 : Hid (PowOk p.size M x K 0 P0 0) := .inl ⟨rfl, .inr ⟨HN0.out, x, rfl, hP0⟩⟩
        have Tq := Lib.hid (T4.out.trans (hb1.mono T4.out.size))
        have Sq4 := Lib.hid (S4.out.later hb1)
        have Sq3 := Lib.hid (S34.out.later hb1)
        clear To So4 So3 So2 So2' hgr hb hsz hP0 hG hblk2 hcq hblk hcells hb1 hk1 hsz1 hslp hc0 hzo hzq
        go_wp2
        go_loopw [20, 19, 16] (fun i pw g wr => ∃ k : Nat, k ≤ K ∧ i = .int .i64 k ∧ ∃ Ap cp P gg, pw = .slice Ap (List.length (α := List Int) P) cp ∧ g = .int .i64 gg ∧ P.length ≤ 9223372036854775807 ∧ Hid (Below wq.heap.size wq wr) ∧ wq.heap.size ≤ wr.heap.size ∧ Hid (SlAt (pSl (pI .i64)) (Old wr) wr Ap cp P) ∧ Hid (PowOk p.size M x K k P gg)) (fun i _ _ _ => K - (intOf i).toNat)
        case atStart => exact ⟨0, Nat.zero_le _, rfl, _, _, P0, 0, by rw [HP0.out], rfl, by rw [HP0.out]; omega, Below.refl _ _, Nat.le_refl _, SlP, Pow0⟩
        case round =>
          obtain ⟨k, hk, rfl, Ap, cp, P, gg, rfl, rfl, hPl, hbr, hszr, hsp, hpow⟩ := hrel
          have Tr := Lib.hid (Tq.out.trans (hbr.out.mono Tq.out.size))
          have Sr4 := Lib.hid (Sq4.out.later hbr.out)
          have Sr3 := Lib.hid (Sq3.out.later hbr.out)
          by_cases hg : gg = 0
          · subst hg
            by_cases hlt : k < K
            · have hst := pow_step hpow.out Hsq.out Hml.out Hx.out Hxl.out hlt
              obtain ⟨⟨te, tr⟩, hT⟩ : ∃ r, timesRes P M = r := ⟨_, rfl⟩
              rw [hT] at hst
              dsimp only at hst
              have Hst := Lib.hid hst; clear hst
              have HT := Lib.hid hT; clear hT
              have q5 := times_calls Ap A4 cp c4 P M wr hsp.out Sr4.out
              rw [Hml.out] at q5
              have Q5 := Lib.hid q5; clear q5
              go_wp2_with fail
              refine Q5.out.mono ?_
              intro e5 w5 ht5
              obtain ⟨b5, A5, c5, rfl, s5⟩ := times_uniform ht5
              rw [HT.out] at s5 ⊢
              dsimp only at s5 ⊢
              have B5 := Lib.hid (hbr.out.trans (b5.mono hszr))
              have S5 := Lib.hid s5
              have hl5 := s5.lenle.1
              have hz5 : wq.heap.size ≤ w5.heap.size := B5.out.size
              clear ht5 b5 s5
              go_wp2
              go_roundw
              case rel => exact ⟨k + 1, by omega, by go_num, A5, c5, tr, te, rfl, rfl, hl5, B5, hz5, S5, Hst⟩
              case measure => simp [intOf]; omega
            · obtain rfl : k = K := by omega
              rcases hpow.out with ⟨_, ⟨hN, rfl⟩ | ⟨hN, y1, hy1, rfl⟩⟩ | ⟨h, _⟩
              · exact absurd hN HN0.out
              · have hyy := Oks.out y1 hy1
                simp only [Prod.mk.injEq] at hyy
                obtain ⟨rfl, rfl⟩ := hyy
                have htl := topM_length p.size y
                have h0l : 0 < p.size := by omega
                obtain ⟨b6, o6, A8, c8, z8, hd8, rfl, _, hc8, hs8, _⟩ := hsp.out.getSl (i := 0) (by rw [htl]; exact h0l)
                rw [Nat.add_zero] at hc8
                obtain rfl : z8 = y := by
                  obtain ⟨q, hq⟩ : ∃ q, p.size = q + 1 := ⟨p.size - 1, by omega⟩
                  have := hd8.out
                  rw [List.drop_zero, hq, topM_cons] at this
                  exact ((List.cons.inj this).1).symm
                have S8 := Lib.hid hs8.out
                have hlz := hs8.out.lenle.1
                clear hpow hs8 hy1 hN
                rw [htl]
                go_wp2_with fail
                refine (same_calls A8 A3 c8 c3 z8 z8 wr S8.out Sr3.out).mono ?_
                rintro e4 w10 ⟨rfl, n10, rfl⟩
                rw [show (z8 == z8) = true from beq_self_eq_true _]
                clear hc8
                have T9 := Lib.hid (below_drewN Tr.out n10)
                have S9 := Lib.hid (Sr4.out.keep (w' := wr.drewN n10) fun _ _ => rfl)
                have q5 := times_calls A4 A4 c4 c4 M M (wr.drewN n10) S9.out S9.out
                rw [Hml.out] at q5
                have Q5 := Lib.hid q5; clear q5
                go_wp2_with fail
                refine Q5.out.mono ?_
                intro e5 w5 ht5
                obtain ⟨b5, A5, c5, rfl, s5⟩ := times_uniform ht5
                rw [P1.out] at s5 ⊢
                dsimp only at s5 ⊢
                have T5 := Lib.hid ((T9.out).trans (b5.mono (T9.out).size))
                have S45 := Lib.hid ((S9.out).later b5)
                have S5 := Lib.hid s5
                clear ht5 b5 s5
                have q6 := times_calls A5 A4 c5 c4 (mulM M M) M w5 S5.out S45.out
                rw [Hml.out] at q6
                have Q6 := Lib.hid q6; clear q6
                go_wp2_with fail
                refine Q6.out.mono ?_
                intro e6 w6 ht6
                obtain ⟨b6, A6, c6, rfl, s6⟩ := times_uniform ht6
                rw [P4.out] at s6 ⊢
                dsimp only at s6 ⊢
                have T6 := Lib.hid (T5.out.trans (b6.mono T5.out.size))
                have S46 := Lib.hid (S45.out.later b6)
                have S56 := Lib.hid (S5.out.later b6)
                have S6 := Lib.hid s6
                clear ht6 b6 s6
                have q7 := times_calls A4 A5 c4 c5 M (mulM M M) w6 S46.out S56.out
                rw [Hml.out] at q7
                have Q7 := Lib.hid q7; clear q7
                go_wp2_with fail
                refine Q7.out.mono ?_
                intro e7 w7 ht7
                obtain ⟨b7, A7, c7, rfl, s7⟩ := times_uniform ht7
                rw [P6.out] at s7 ⊢
                dsimp only at s7 ⊢
                have T7 := Lib.hid (T6.out.trans (b7.mono T6.out.size))
                have S67 := Lib.hid (S6.out.later b7)
                have S7 := Lib.hid s7
                clear ht7 b7 s7
                go_wp2_with fail
                refine (sameRows_calls A6 A7 c6 c7 (mulM (mulM M M) M) (mulM M (mulM M M)) w7 S67.out S7.out).mono ?_
                rintro e8 w8 ⟨rfl, n8, rfl⟩
                rw [show (mulM (mulM M M) M == mulM M (mulM M M)) = true from by rw [Has.out]; exact beq_self_eq_true _]
                go_wp2_with fail
                refine (Out.out _ (below_drewN T7.out _)).mono ?_
                rintro e9 w9 ⟨rfl, b9⟩
                go_wp2
                go_ret
                exact ⟨rfl, b9.out⟩
              · cases h
          · have e9 : (gg == 0) = false := by simpa using hg
            rcases hpow.out with ⟨h, _⟩ | ⟨h, hN, hdead⟩
            · exact absurd h hg
            · subst h
              have hyy := Okn.out hdead
              simp only [Prod.mk.injEq] at hyy
              obtain ⟨rfl, rfl⟩ := hyy
              clear hpow hg e9 hdead hN
              rcases Nat.lt_or_ge k K with hlt | hlt
              all_goals
                have q5 := times_calls A4 A4 c4 c4 M M wr Sr4.out Sr4.out
                rw [Hml.out] at q5
                have Q5 := Lib.hid q5; clear q5
                go_wp2_with fail
                refine Q5.out.mono ?_
                intro e5 w5 ht5
                obtain ⟨b5, A5, c5, rfl, s5⟩ := times_uniform ht5
                rw [P1.out] at s5 ⊢
                dsimp only at s5 ⊢
                have T5 := Lib.hid ((Tr.out).trans (b5.mono (Tr.out).size))
                have S45 := Lib.hid ((Sr4.out).later b5)
                have S5 := Lib.hid s5
                clear ht5 b5 s5
                have q6 := times_calls A5 A4 c5 c4 (mulM M M) M w5 S5.out S45.out
                rw [Hml.out] at q6
                have Q6 := Lib.hid q6; clear q6
                go_wp2_with fail
                refine Q6.out.mono ?_
                intro e6 w6 ht6
                obtain ⟨b6, A6, c6, rfl, s6⟩ := times_uniform ht6
                rw [P4.out] at s6 ⊢
                dsimp only at s6 ⊢
                have T6 := Lib.hid (T5.out.trans (b6.mono T5.out.size))
                have S46 := Lib.hid (S45.out.later b6)
                have S56 := Lib.hid (S5.out.later b6)
                have S6 := Lib.hid s6
                clear ht6 b6 s6
                have q7 := times_calls A4 A5 c4 c5 M (mulM M M) w6 S46.out S56.out
                rw [Hml.out] at q7
                have Q7 := Lib.hid q7; clear q7
                go_wp2_with fail
                refine Q7.out.mono ?_
                intro e7 w7 ht7
                obtain ⟨b7, A7, c7, rfl, s7⟩ := times_uniform ht7
                rw [P6.out] at s7 ⊢
                dsimp only at s7 ⊢
                have T7 := Lib.hid (T6.out.trans (b7.mono T6.out.size))
                have S67 := Lib.hid (S6.out.later b7)
                have S7 := Lib.hid s7
                clear ht7 b7 s7
                go_wp2_with fail
                refine (sameRows_calls A6 A7 c6 c7 (mulM (mulM M M) M) (mulM M (mulM M M)) w7 S67.out S7.out).mono ?_
                rintro e8 w8 ⟨rfl, n8, rfl⟩
                rw [show (mulM (mulM M M) M == mulM M (mulM M M)) = true from by rw [Has.out]; exact beq_self_eq_true _]
                go_wp2_with fail
                refine (Out.out _ (below_drewN T7.out _)).mono ?_
                rintro e9 w9 ⟨rfl, b9⟩
                go_wp2
                go_ret
                exact ⟨rfl, b9.out⟩
end Go.Proofs.Ytdjjhlnhfbcojaa
