/-
  Layer 10: the walks of both products.
-/
import Derived.Test.YtdjjhlnhfbcojaaGb
import Derived.StillTailTactics
namespace Go.Proofs.Ytdjjhlnhfbcojaa
open Go.RowKit

theorem squareF_pos {a : List (List Int)} (h : squareF a = true) : a.length ≤ 12 ∧ (∀ r ∈ a, Pos r) ∧ ∀ r ∈ a, r.length = a.length := by
  unfold squareF at h
  rw [Bool.and_eq_true, List.all_eq_true] at h
  refine ⟨of_decide_eq_true h.2, fun r hr v hv => ?_, fun r hr => ?_⟩
  · have h1 := h.1 r hr
    unfold rowOk at h1
    rw [Bool.and_eq_true, List.all_eq_true] at h1
    have h2 := h1.2 v hv
    unfold inRange at h2
    simpa using h2
  · have h1 := h.1 r hr
    unfold rowOk at h1
    rw [Bool.and_eq_true] at h1
    simpa using h1.1

def timesGo (b : List (List Int)) : List (List Int) → Option (List (List Int))
  | [] => some []
  | r :: rs => match prodRow r b with
    | none => none
    | some x => (timesGo b rs).map (x :: ·)
def timesOk (a b : List (List Int)) : Bool := squareF a && squareF b && a.length == b.length

def TimesPost (xs ys : List (List Int)) (w : World) (e : Ending) (w' : World) : Prop :=
  Below w.heap.size w w' ∧ ((timesOk xs ys = false ∧ e = .returned (.tuple #[.slice none 0 0, .int .i64 8])) ∨
    (timesOk xs ys = true ∧ timesGo ys xs = none ∧ e = .returned (.tuple #[.slice none 0 0, .int .i64 16])) ∨
    (timesOk xs ys = true ∧ ∃ r A cap, timesGo ys xs = some r ∧ e = .returned (.tuple #[.slice A r.length cap, .int .i64 0]) ∧ SlAt (pSl (pI .i64)) (fun k => w.heap.size ≤ k ∧ k < w'.heap.size) w' A cap r))

theorem info_sl64 : (Try.prog.info? 24).map (fun i => (i.zero, i.size, i.bytes)) = some (some (.slice none 0 0), 1, 24) := by kernel_rfl

set_option maxRecDepth 100000 in
set_option maxHeartbeats 1000000 in
theorem times_calls (A B : Option Addr) (cap cap' : Nat) (xs ys : List (List Int)) (w : World) (h : SlAt (pSl (pI .i64)) (Old w) w A cap xs) (h' : SlAt (pSl (pI .i64)) (Old w) w B cap' ys) :
    Calls Try.prog 10 #[.slice A xs.length cap, .slice B ys.length cap'] w (TimesPost xs ys w) := by
  have hmx := h.lenle
  have hmy := h'.lenle
  have H := Lib.hid h; clear h
  have H' := Lib.hid h'; clear h'
  cases hsa : squareF xs
  · go_enter Try.func10, Try.ntmps10
    go_wp2_with (go_at_call 32; refine (square_calls _ _ _ _ H.out).mono ?_; rintro e w' ⟨rfl, rfl⟩)
    go_ret2
    exact ⟨Below.refl _ _, .inl ⟨by unfold timesOk; rw [hsa]; rfl, rfl⟩⟩
  · cases hsb : squareF ys
    · go_enter Try.func10, Try.ntmps10
      go_wp2_with (go_at_call 32; first | ((with_reducible refine (square_calls _ _ _ _ H.out).mono ?_); rintro e w' ⟨rfl, rfl⟩) | ((with_reducible refine (square_calls _ _ _ _ H'.out).mono ?_); rintro e w' ⟨rfl, rfl⟩))
      go_ret2
      exact ⟨Below.refl _ _, .inl ⟨by unfold timesOk; rw [hsa, hsb]; rfl, rfl⟩⟩
    · by_cases hl : xs.length = ys.length
      · have e0 : ((xs.length : Int) != (ys.length : Int)) = false := by simp [hl]
        have Hok := Lib.hid (show timesOk xs ys = true by unfold timesOk; rw [hsa, hsb]; simp [hl])
        have Hl := Lib.hid hl; clear hl
        obtain ⟨hx12, hxp, hxl⟩ := squareF_pos hsa
        obtain ⟨hy12, hyp, hyl⟩ := squareF_pos hsb
        have Hxp := Lib.hid hxp; clear hxp
        have Hyp := Lib.hid hyp; clear hyp
        have Hxl := Lib.hid hxl; clear hxl
        have Hyl := Lib.hid hyl; clear hyl
        go_enter Try.func10, Try.ntmps10
        go_wp2_with (go_at_call 32; first | ((with_reducible refine (square_calls _ _ _ _ H.out).mono ?_); rintro e w' ⟨rfl, rfl⟩) | ((with_reducible refine (square_calls _ _ _ _ H'.out).mono ?_); rintro e w' ⟨rfl, rfl⟩))
        clear hsa hsb
        go_loopw [28, 6] (fun i out wr => ∃ k : Nat, k ≤ xs.length ∧ i = .int .i64 k ∧ Hid (Below w.heap.size w wr) ∧ w.heap.size ≤ wr.heap.size ∧ ∃ done : List (List Int), done.length = k ∧
          Hid (Own (pSl (pI .i64)) 24 w.heap.size (w.heap.size ≤ ·) wr out done) ∧ Hid (timesGo ys xs = (timesGo ys (xs.drop k)).map (done ++ ·))) (fun i _ _ => xs.length - (intOf i).toNat)
        case atStart => exact ⟨0, Nat.zero_le _, rfl, Below.refl _ _, Nat.le_refl _, [], rfl, Own.nil, by unfold Hid; simp⟩
        case round =>
          obtain ⟨k, hk, rfl, hb, hsz, done, hdl, hown, hgo⟩ := hrel
          obtain ⟨wo, rfl⟩ : ∃ wo : World, wo = wr := ⟨_, rfl⟩
          have Hdl := Lib.hid hdl; clear hdl
          by_cases hlt : k < xs.length
          · obtain ⟨b, o, A', c', r, hd, rfl, hob, hcell, hrow, hrl⟩ := (H.out.below hb.out).getSl hlt
            have HT := Lib.hid (through_calls A' B c' cap' r ys wo ((hrow.out).wide fun k hk => Nat.lt_of_lt_of_le hk hsz) (H'.out.below hb.out |>.wide fun k hk => Nat.lt_of_lt_of_le hk hsz) hy12 (by rw [Hxl.out _ (mem_of_drop hd.out), Hl.out]) (Hxp.out _ (mem_of_drop hd.out)) Hyp.out Hyl.out)
            go_wp2_with fail
            refine HT.out.mono ?_
            rintro e w1 ⟨hb1, ⟨hn, rfl⟩ | ⟨x, A1, c1, hsome, rfl, hsx⟩⟩
            · have Hn := Lib.hid hn; clear hn
              go_wp2
              go_ret2
              exact ⟨hb.out.trans (hb1.mono hsz), .inr (.inl ⟨Hok.out, by rw [hgo.out, hd.out]; simp [timesGo, Hn.out], rfl⟩)⟩
            · have Hn := Lib.hid hsome; clear hsome
              have Hb1 := Lib.hid hb1
              have hsz1 := hb1.size; clear hb1
              have Hsx := Lib.hid hsx; clear hsx
              have hd12 : done.length ≤ 12 := by rw [Hdl.out]; omega
              go_wp2_with (at_builtin; refine wpList_app (E := pSl (pI .i64)) (xs := done) (base := w.heap.size) (G := (w.heap.size ≤ ·)) 22 24 (.slice none 0 0) 24 rfl _ _ rfl Try.underlying22 info_sl64 rfl (by decide) rfl ((hown.out.later (Hb1.out)).alloc _) _ _ _ rfl [.slice A1 x.length c1] [x] rfl (fun k => wo.heap.size ≤ k ∧ k < w1.heap.size) ?c2 ?c3 ?c4 ?c5 ?c6 ?c7 ?_; rotate_right; intro v2 w2 hown2 hg2 hat2)
              case c2 => exact CellsAre.one ⟨A1, c1, rfl, (Hsx.out).keep fun k hk => Below.heap_alloc _ _ _ hk.2⟩
              case c3 =>
                intro j u hu
                match j, hu with
                | 0, hu =>
                  simp at hu; subst hu
                  rw [Addr.add_zero']
                  exact (Blk.new _ _ _).cell 0
              case c4 =>
                intro k hk0
                refine ⟨by omega, by simp; omega, fun he => ?_⟩
                have := hown.out.lt k he.symm
                omega
              case c5 => simp; omega
              case c6 => decide
              case c7 => simp; omega
              have hbw2 : Below w.heap.size w w2 := below_app ((hb.out.trans (Hb1.out.mono hsz)).alloc (by omega) _) hg2 ((hown.out.later (Hb1.out)).alloc _) (Nat.le_refl _) (by simp; omega)
              go_roundw
              case rel =>
                refine ⟨k + 1, by omega, by go_num, hbw2, hbw2.size, done ++ [x], by simp [Hdl.out], hown2, ?_⟩
                unfold Hid
                rw [hgo.out, hd.out]; simp only [timesGo, Hn.out, Option.map_map]
                congr 1; funext l; simp
              case measure => simp [intOf]; omega
          · obtain rfl : k = xs.length := by omega
            go_wp2
            go_ret2
            obtain ⟨A1, c1, hv1, hs1⟩ := hown.out.fresh
            subst hv1
            refine ⟨hb.out, .inr (.inr ⟨Hok.out, done, A1, c1, ?_, rfl, hs1⟩)⟩
            rw [hgo.out, drop_end hlt]; simp [timesGo]
      · have e0 : ((xs.length : Int) != (ys.length : Int)) = true := by simp; omega
        go_enter Try.func10, Try.ntmps10
        go_wp2_with (go_at_call 32; first | ((with_reducible refine (square_calls _ _ _ _ H.out).mono ?_); rintro e w' ⟨rfl, rfl⟩) | ((with_reducible refine (square_calls _ _ _ _ H'.out).mono ?_); rintro e w' ⟨rfl, rfl⟩))
        go_ret2
        exact ⟨Below.refl _ _, .inl ⟨by unfold timesOk; rw [hsa, hsb]; simp [hl], rfl⟩⟩

def capdot (x : List Int) (m : List (List Int)) (k j : Nat) : Int := min (dot x m k j) 1000000000000001
theorem capdot_step {x : List Int} {m : List (List Int)} (hx : Pos x) (hm : ∀ r ∈ m, Pos r) (k j : Nat) : addF (capdot x m k j) (x.getD j 0) ((m.getD j []).getD k 0) = capdot x m k (j + 1) := by
  have h1 := dot_nonneg hx hm k j
  have h2 := Int.mul_nonneg (hx.getD j).1 ((PosM.getD hm j).getD k).1
  show min (min (dot x m k j) 1000000000000001 + _) _ = min (dot x m k j + _) _
  omega
theorem capdot_bd {x : List Int} {m : List (List Int)} (hx : Pos x) (hm : ∀ r ∈ m, Pos r) (k j : Nat) : 0 ≤ capdot x m k j ∧ capdot x m k j ≤ 1000000000000001 := by
  have h1 := dot_nonneg hx hm k j
  unfold capdot; omega

set_option maxRecDepth 100000 in
set_option maxHeartbeats 1000000 in
theorem refTimes_calls (A B : Option Addr) (cap cap' : Nat) (xs ys : List (List Int)) (w : World) (h : SlAt (pSl (pI .i64)) (Old w) w A cap xs) (h' : SlAt (pSl (pI .i64)) (Old w) w B cap' ys) :
    Calls Try.prog 11 #[.slice A xs.length cap, .slice B ys.length cap'] w (TimesPost xs ys w) := by
  have hmx := h.lenle
  have hmy := h'.lenle
  have H := Lib.hid h; clear h
  have H' := Lib.hid h'; clear h'
  cases hsa : squareF xs
  · go_enter Try.func11, Try.ntmps11
    go_wp2_with (go_at_call 34; refine (refSquare_calls _ _ _ _ H.out).mono ?_; rintro e w' ⟨rfl, rfl⟩)
    go_ret2
    exact ⟨Below.refl _ _, .inl ⟨by unfold timesOk; rw [hsa]; rfl, rfl⟩⟩
  · cases hsb : squareF ys
    · go_enter Try.func11, Try.ntmps11
      go_wp2_with (go_at_call 34; first | ((with_reducible refine (refSquare_calls _ _ _ _ H.out).mono ?_); rintro e w' ⟨rfl, rfl⟩) | ((with_reducible refine (refSquare_calls _ _ _ _ H'.out).mono ?_); rintro e w' ⟨rfl, rfl⟩))
      go_ret2
      exact ⟨Below.refl _ _, .inl ⟨by unfold timesOk; rw [hsa, hsb]; rfl, rfl⟩⟩
    · by_cases hl : xs.length = ys.length
      · have e0 : ((xs.length : Int) != (ys.length : Int)) = false := by simp [hl]
        have Hok := Lib.hid (show timesOk xs ys = true by unfold timesOk; rw [hsa, hsb]; simp [hl])
        have Hl := Lib.hid hl; clear hl
        obtain ⟨hx12, hxp, hxl⟩ := squareF_pos hsa
        obtain ⟨hy12, hyp, hyl⟩ := squareF_pos hsb
        have Hxp := Lib.hid hxp; clear hxp
        have Hyp := Lib.hid hyp; clear hyp
        have Hxl := Lib.hid hxl; clear hxl
        have Hyl := Lib.hid hyl; clear hyl
        have hmk := fun (wx : World) => run_make_row' (P := Try.prog) 24 2 (.int .i64 0) 8 Try.underlying24 info_int64 rfl .i64 .i64 xs.length (by omega) (by omega) wx
        simp only [cellsN_made] at hmk
        go_enter Try.func11, Try.ntmps11
        go_wp2_with (go_at_call 34; first | ((with_reducible refine (refSquare_calls _ _ _ _ H.out).mono ?_); rintro e w' ⟨rfl, rfl⟩) | ((with_reducible refine (refSquare_calls _ _ _ _ H'.out).mono ?_); rintro e w' ⟨rfl, rfl⟩))
        clear hsa hsb
        go_loopw [7, 6] (fun i out wr => ∃ k : Nat, k ≤ xs.length ∧ i = .int .i64 k ∧ Hid (Below w.heap.size w wr) ∧ w.heap.size ≤ wr.heap.size ∧ ∃ done : List (List Int), Hid (done.length = k) ∧
          Hid (Own (pSl (pI .i64)) 24 w.heap.size (w.heap.size ≤ ·) wr out done) ∧ Hid (timesGo ys xs = (timesGo ys (xs.drop k)).map (done ++ ·))) (fun i _ _ => xs.length - (intOf i).toNat)
        case atStart => exact ⟨0, Nat.zero_le _, rfl, Below.refl _ _, Nat.le_refl _, [], rfl, Own.nil, by unfold Hid; simp⟩
        case round =>
          obtain ⟨k, hk, rfl, hb, hsz, done, Hdl, hown, hgo⟩ := hrel
          obtain ⟨wo, rfl⟩ : ∃ wo : World, wo = wr := ⟨_, rfl⟩
          by_cases hlt : k < xs.length
          · obtain ⟨b, o, A', c', r, hd, rfl, hob, hcell, hrow, hrl⟩ := (H.out.below hb.out).getSl hlt
            have hrl : r.length = xs.length := Hxl.out _ (mem_of_drop hd.out)
            have hrp : Pos r := Hxp.out _ (mem_of_drop hd.out)
            have Hrl := Lib.hid hrl; clear hrl
            have Hrp := Lib.hid hrp; clear hrp
            have hob' : b < wo.heap.size := Nat.lt_of_lt_of_le hob hsz
            have hcell0 := Lib.hid hcell
            go_wp2
            go_loopw [9] (fun i wr => ∃ m : Nat, m ≤ xs.length ∧ i = .int .i64 m ∧ Hid (Below wo.heap.size wo wr) ∧ wo.heap.size < wr.heap.size ∧ ∃ f : Nat → Int, Hid (Blk wr wo.heap.size 2 (cellsN xs.length f)) ∧
              Hid (∀ i, (i < m → f i = dot r ys i xs.length ∧ f i ≤ 1000000000000000) ∧ (m ≤ i → f i = 0))) (fun i _ => xs.length - (intOf i).toNat)
            case atStart => exact ⟨0, Nat.zero_le _, rfl, (Below.refl _ _).alloc (Nat.le_refl _) _, by simp, fun _ => 0, Blk.new _ _ _, fun i => ⟨fun h => absurd h (Nat.not_lt_zero _), fun _ => rfl⟩⟩
            case round =>
              clear hcell
              obtain ⟨m, hm, rfl, hb2, hsz2, f, hblk, hf⟩ := hrel
              obtain ⟨wm, rfl⟩ : ∃ wm : World, wm = wr := ⟨_, rfl⟩
              by_cases hlt2 : m < xs.length
              · go_wp2
                go_loopw [10] (fun i wr => ∃ p : Nat, p ≤ xs.length ∧ i = .int .i64 p ∧ Hid (Below wo.heap.size wo wr) ∧ wo.heap.size < wr.heap.size ∧ ∃ f : Nat → Int, Hid (Blk wr wo.heap.size 2 (cellsN xs.length f)) ∧
                  Hid (f m = capdot r ys m p ∧ ∀ i, (i < m → f i = dot r ys i xs.length ∧ f i ≤ 1000000000000000) ∧ (m < i → f i = 0))) (fun i _ => xs.length - (intOf i).toNat)
                case atStart => exact ⟨0, Nat.zero_le _, rfl, hb2, hsz2, f, hblk, (hf.out m).2 (Nat.le_refl _), fun i => ⟨(hf.out i).1, fun h => (hf.out i).2 (Nat.le_of_lt h)⟩⟩
                case round =>
                  obtain ⟨p, hp, rfl, hb3, hsz3, f3, hblk3, hf3⟩ := hrel
                  by_cases hlt3 : p < xs.length
                  · have hc1 : wr.cell? ⟨b, o + k, none⟩ = some (.slice A' r.length c') := by rw [cell_keep (hb3.out.block b hob')]; exact hcell0.out
                    obtain ⟨b2, o2, x, hdx, rfl, _, hcx, _⟩ := (hrow.out.keep (w' := wr) fun q hq => hb3.out.block q (Nat.lt_of_lt_of_le hq hsz)).getI (i := p) (by rw [Hrl.out]; exact hlt3)
                    obtain ⟨b4, o4, A5, c5, s, hds, rfl, _, hcs, hrs, _⟩ := (H'.out.keep (w' := wr) fun q hq => (hb3.out.block q (Nat.lt_of_lt_of_le hq hsz)).trans (hb.out.block q hq)).getSl (i := p) (by rw [← Hl.out]; exact hlt3)
                    have hls : s.length = ys.length := Hyl.out _ (mem_of_drop hds.out)
                    have Hls := Lib.hid hls; clear hls
                    obtain ⟨b6, o6, y, hdy, rfl, _, hcy, _⟩ := hrs.out.getI (i := m) (by rw [Hls.out, ← Hl.out]; exact hlt2)
                    have hx0 : 0 ≤ x ∧ x ≤ 1000000000000000 := Hrp.out _ (mem_of_drop hdx.out)
                    have hy0 : 0 ≤ y ∧ y ≤ 1000000000000000 := Hyp.out _ (mem_of_drop hds.out) _ (mem_of_drop hdy.out)
                    have hcm := (hblk3.out.cell m).trans (cellsN_get f3 hlt2)
                    have hfz := hblk3.out.free m
                    have hi1 : p < r.length := by rw [Hrl.out]; exact hlt3
                    have hi2 : p < ys.length := by rw [← Hl.out]; exact hlt3
                    have hi3 : m < s.length := by rw [Hls.out, ← Hl.out]; exact hlt2
                    have hbd : 0 ≤ f3 m ∧ f3 m ≤ 1000000000000001 := by rw [hf3.out.1]; exact capdot_bd Hrp.out Hyp.out m p
                    have hst := capdot_step (x := r) (m := ys) Hrp.out Hyp.out m p
                    rw [getD_of_drop hdx.out, getD_of_drop hds.out, getD_of_drop hdy.out, ← hf3.out.1] at hst
                    have HB := hblk3.out.set m (.int .i64 (addF (f3 m) x y))
                    have Hst := Lib.hid hst; clear hst
                    have HB := Lib.hid HB
                    have hq : ∀ wx : World, Calls Try.prog 35 #[.int .i64 (f3 m), .int .i64 x, .int .i64 y] wx fun e w' => e = .returned (.int .i64 (addF (f3 m) x y)) ∧ w' = wx := fun wx =>
                      (add_calls (f3 m) x y wx hbd hx0 hy0).mono fun _ _ h => ⟨h.1, h.2.symm⟩
                    have Hq := Lib.hid hq; clear hq
                    generalize addF (f3 m) x y = z at Hst HB Hq
                    generalize f3 m = f3m at hcm hbd Hq
                    go_wp2
                    go_still_tail 22, (by kernel_rfl)
                    still_call (Hq.out _)
                    repeat still_step
                    refine wpStill_nil ?_
                    change wpList _ _ _ _ _ wr.drew
                    go_wp2
                    go_roundw
                    case rel =>
                      refine ⟨p + 1, by omega, by go_num, (hb3.out.drew).setCell (Nat.le_refl _) _, by simpa [World.setCell] using hsz3, _, by have h7 := HB.out; rw [cellsN_set] at h7; exact h7, by simpa using Hst.out, fun i => ⟨fun hi => ?_, fun hi => ?_⟩⟩
                      · rw [if_neg (by omega)]; exact (hf3.out.2 i).1 hi
                      · rw [if_neg (by omega)]; exact (hf3.out.2 i).2 hi
                    case measure => simp [intOf]; omega
                  · obtain rfl : p = xs.length := by omega
                    have hcm := (hblk3.out.cell m).trans (cellsN_get f3 hlt2)
                    have hbd : 0 ≤ f3 m ∧ f3 m ≤ 1000000000000001 := by rw [hf3.out.1]; exact capdot_bd Hrp.out Hyp.out m _
                    have hv := hf3.out.1
                    unfold capdot at hv
                    have Hv := Lib.hid hv; clear hv
                    generalize hfm : f3 m = f3m at hcm hbd Hv
                    have Hfm := Lib.hid hfm; clear hfm
                    by_cases hov : 1000000000000000 < f3m
                    · go_wp2
                      go_ret2
                      refine ⟨hb.out.trans (hb3.out.mono hsz), .inr (.inl ⟨Hok.out, ?_, rfl⟩)⟩
                      rw [hgo.out, hd.out]
                      have : prodRow r ys = none := by
                        unfold prodRow
                        rw [if_neg]
                        intro hall
                        have h1 := of_decide_eq_true (List.all_eq_true.1 hall m (by rw [← Hl.out]; simpa using hlt2))
                        rw [Hrl.out] at h1
                        have h2 := Hv.out
                        omega
                      simp [timesGo, this]
                    · go_wp2
                      go_roundw
                      case rel =>
                        refine ⟨m + 1, by omega, by go_num, hb3, hsz3, f3, hblk3, fun i => ⟨fun hi => ?_, fun hi => ?_⟩⟩
                        · rcases Nat.lt_succ_iff_lt_or_eq.1 hi with hi' | rfl
                          · exact (hf3.out.2 i).1 hi'
                          · have h2 := Hv.out
                            have h3 := Hfm.out
                            exact ⟨by omega, by omega⟩
                        · exact (hf3.out.2 i).2 hi
                      case measure => simp [intOf]; omega
              · obtain rfl : m = xs.length := by omega
                have hpr : prodRow r ys = some ((List.range xs.length).map f) := by
                  unfold prodRow
                  rw [← Hl.out, Hrl.out, if_pos]
                  · congr 1
                    exact List.map_congr_left fun i hi => ((hf.out i).1 (by simpa using hi)).1.symm
                  · rw [List.all_eq_true]
                    intro i hi
                    have h1 := (hf.out i).1 (by simpa using hi)
                    rw [← h1.1]; exact decide_eq_true h1.2
                have Hpr := Lib.hid hpr; clear hpr
                have hd12 : done.length ≤ 12 := by rw [Hdl.out]; omega
                have hsx : SlAt (pI .i64) (fun q => q = wo.heap.size) wm (some ⟨wo.heap.size, 0, none⟩) xs.length ((List.range xs.length).map f) :=
                  sl_of_blk hblk.out rfl (by unfold maxLen; omega) fun i hi => by
                    have h1 := (hf.out i).1 hi
                    have h2 := dot_nonneg Hrp.out Hyp.out i xs.length
                    exact fits_i64 (by omega)
                have Hsx := Lib.hid hsx; clear hsx
                go_wp2_with (at_builtin; refine wpList_app (E := pSl (pI .i64)) (xs := done) (base := w.heap.size) (G := (w.heap.size ≤ ·)) 22 24 (.slice none 0 0) 24 rfl _ _ rfl Try.underlying22 info_sl64 rfl (by decide) rfl ((hown.out.later hb2.out).alloc _) _ _ _ rfl [.slice (some ⟨wo.heap.size, 0, none⟩) xs.length xs.length] [(List.range xs.length).map f] rfl (fun q => q = wo.heap.size) ?c2 ?c3 ?c4 ?c5 ?c6 ?c7 ?_; rotate_right; intro v2 w2 hown2 hg2 hat2)
                case c2 => exact CellsAre.one ⟨_, xs.length, by simp, (Hsx.out).keep fun k hk => Below.heap_alloc _ _ _ (by rw [hk]; exact hsz2)⟩
                case c3 =>
                  intro j u hu
                  match j, hu with
                  | 0, hu =>
                    simp at hu; subst hu
                    rw [Addr.add_zero']
                    exact (Blk.new _ _ _).cell 0
                case c4 =>
                  rintro q rfl
                  refine ⟨hsz, by simp; omega, fun he => ?_⟩
                  have := hown.out.lt _ he.symm
                  omega
                case c5 => simp; omega
                case c6 => decide
                case c7 => simp; omega
                have hbw2 : Below w.heap.size w w2 := below_app ((hb.out.trans (hb2.out.mono hsz)).alloc (by omega) _) hg2 ((hown.out.later hb2.out).alloc _) (Nat.le_refl _) (by simp; omega)
                go_roundw
                case rel =>
                  refine ⟨k + 1, by omega, by go_num, hbw2, hbw2.size, done ++ [_], by unfold Hid; simp [Hdl.out], hown2, ?_⟩
                  unfold Hid
                  rw [hgo.out, hd.out]; simp only [timesGo, Hpr.out, Option.map_map]
                  congr 1; funext l; simp
                case measure => simp [intOf]; omega
          · obtain rfl : k = xs.length := by omega
            go_wp2
            go_ret2
            obtain ⟨A1, c1, hv1, hs1⟩ := hown.out.fresh
            subst hv1
            refine ⟨hb.out, .inr (.inr ⟨Hok.out, done, A1, c1, ?_, rfl, hs1⟩)⟩
            rw [hgo.out, drop_end hlt]; simp [timesGo]
      · have e0 : ((xs.length : Int) != (ys.length : Int)) = true := by simp; omega
        go_enter Try.func11, Try.ntmps11
        go_wp2_with (go_at_call 34; first | ((with_reducible refine (refSquare_calls _ _ _ _ H.out).mono ?_); rintro e w' ⟨rfl, rfl⟩) | ((with_reducible refine (refSquare_calls _ _ _ _ H'.out).mono ?_); rintro e w' ⟨rfl, rfl⟩))
        go_ret2
        exact ⟨Below.refl _ _, .inl ⟨by unfold timesOk; rw [hsa, hsb]; simp [hl], rfl⟩⟩

end Go.Proofs.Ytdjjhlnhfbcojaa
