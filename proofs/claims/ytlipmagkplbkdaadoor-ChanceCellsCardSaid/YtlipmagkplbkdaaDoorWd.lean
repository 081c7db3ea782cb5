/-
  Layer 6: the walks of the reference's Check and of Great.
-/
import Derived.Test.YtlipmagkplbkdaaDoorWc
namespace Go.Proofs.YtlipmagkplbkdaaDoor
open Go.RowKit

theorem checkF_open {ms : List Mod} (h1 : ¬ 2000 < ms.length) (h2 : ms.all fineF = true) : checkF ms = match openL 0 ms with
    | none => 28
    | some l => if 0 < l.getLast?.getD 0 then 28 else 0 := by
  unfold checkF
  rw [if_neg h1, if_neg (by rw [h2]; decide)]
  have := scan_openL ms 0
  cases hs : scan 0 ms with
  | none =>
    rw [hs] at this
    cases ho : openL 0 ms with
    | none => rfl
    | some l => rw [ho] at this; cases this
  | some n =>
    rw [hs] at this
    cases ho : openL 0 ms with
    | none => rw [ho] at this; cases this
    | some l =>
      rw [ho] at this
      simp only [Option.map_some, Option.some.injEq] at this
      have h3 : l.getLast?.getD 0 = (n : Int) := this.symm
      simp only [h3]
      by_cases h0 : 0 < n
      · rw [if_pos h0, if_pos (by omega)]
      · rw [if_neg h0, if_neg (by omega)]

set_option maxRecDepth 100000 in
set_option maxHeartbeats 1000000 in
theorem refCheck_calls (A : Option Addr) (c : Nat) (ms : List Mod) (w : World) (h : SlAt pMod (Old w) w A c ms) :
    Calls Tryd.prog 38 #[.slice A ms.length c] w (CheckPost ms w) := by
  have hmx := h.lenle
  have H := Lib.hid h; clear h
  by_cases hbig : 2000 < ms.length
  · go_enter Tryd.func38, Tryd.ntmps38
    go_wp2
    go_ret
    exact ⟨ret_int (by unfold checkF; rw [if_pos hbig]), Below.refl _ _⟩
  · have Hbig := Lib.hid hbig; clear hbig
    have hle : ms.length ≤ 2000 := by have := Hbig.out; omega
    go_enter Tryd.func38, Tryd.ntmps38
    go_wp2
    go_loopw [3] (fun i wr => ∃ k : Nat, k ≤ ms.length ∧ i = .int .i64 k ∧ Hid (Below w.heap.size w wr) ∧ w.heap.size ≤ wr.heap.size ∧ Hid (ms.all fineF = (ms.drop k).all fineF)) (fun i _ => ms.length - (intOf i).toNat)
    case atStart => exact ⟨0, Nat.zero_le _, rfl, Below.refl _ _, Nat.le_refl _, rfl⟩
    case round =>
      obtain ⟨k, hk, rfl, hb, hsz, hall⟩ := hrel
      obtain ⟨wo, rfl⟩ : ∃ wo : World, wo = wr := ⟨_, rfl⟩
      by_cases hlt : k < ms.length
      · obtain ⟨b, o, A', c', m, hd, rfl, hob, hc0, hc1, hf8, hargs, hl⟩ := (H.out.below hb.out).getMod hlt
        have hob' : b < wo.heap.size := Nat.lt_of_lt_of_le hob hsz
        have hcall : Calls Tryd.prog 32 #[.agg #[.int .u8 m.name, .slice A' m.args.length c']] wo (FinePost m wo) :=
          refFine_calls A' c' m wo hargs.out (fun q hq => Nat.lt_of_lt_of_le hq hsz)
        have Hcall := Lib.hid hcall; clear hcall
        go_wp2_with fail
        refine Hcall.out.mono ?_
        rintro e w1 ⟨rfl, hb1⟩
        have hbw : Below w.heap.size w w1 := hb.out.trans (hb1.mono hsz)
        have Hbw := Lib.hid hbw; clear hbw hb1
        cases hfm : fineF m
        · go_wp2
          go_ret
          refine ⟨ret_int ?_, Hbw.out⟩
          unfold checkF
          rw [if_neg Hbig.out, if_pos]
          rw [hall.out, hd.out, List.all_cons, hfm]; rfl
        · go_wp2
          go_roundw
          case rel =>
            refine ⟨k + 1, by omega, by go_num, Hbw, Hbw.out.size, ?_⟩
            unfold Hid; rw [hall.out, hd.out, List.all_cons, hfm]; rfl
          case measure => simp [intOf]; omega
      · have hok : ms.all fineF = true := by rw [hall.out, drop_end hlt]; rfl
        have Hck := Lib.hid (checkF_open Hbig.out hok)
        clear hok
        have hop := refOpen_calls A c ms wo (((H.out.below hb.out)).wide fun q hq => Nat.lt_of_lt_of_le hq hsz) (by omega)
        have Hop := Lib.hid hop; clear hop
        go_wp2_with fail
        refine Hop.out.mono ?_
        rintro e w1 ⟨hb1, ⟨hn, rfl⟩ | ⟨l, A1, c1, hsome, hll, rfl, hsl⟩⟩
        · have hbw : Below w.heap.size w w1 := hb.out.trans (hb1.mono hsz)
          have Hbw := Lib.hid hbw; clear hbw hb1
          have Hn := Lib.hid hn; clear hn
          go_wp2
          go_ret
          exact ⟨ret_int (by rw [Hck.out, Hn.out]), Hbw.out⟩
        · have hbw : Below w.heap.size w w1 := hb.out.trans (hb1.mono hsz)
          have Hbw := Lib.hid hbw; clear hbw hb1
          have Hn := Lib.hid hsome; clear hsome
          have Hll := Lib.hid hll; clear hll
          have Hsl := Lib.hid hsl; clear hsl
          have hlx : l.length ≤ 2000 := by rw [Hll.out]; exact hle
          by_cases hl0 : l = []
          · subst hl0
            go_wp2
            go_ret
            exact ⟨ret_int (by rw [Hck.out, Hn.out]; rfl), Hbw.out⟩
          · have hpos : 0 < l.length := List.length_pos_iff.2 hl0
            obtain ⟨b, o, x, hd, rfl, _, hcx, _⟩ := Hsl.out.getI (i := l.length - 1) (by omega)
            have hlast : l.getLast?.getD 0 = x := by
              rw [List.getLast?_eq_getElem?, get_of_drop hd.out]; rfl
            have Hlast := Lib.hid hlast; clear hlast
            have hposI : decide ((0 : Int) < (l.length : Int)) = true := by simpa using hpos
            have hidx : ((l.length : Int) - 1).toNat = l.length - 1 := by omega
            clear hl0
            by_cases hx : 0 < x
            · go_wp2
              go_ret
              exact ⟨ret_int (by rw [Hck.out, Hn.out]; simp only [Hlast.out]; rw [if_pos hx]), Hbw.out⟩
            · go_wp2
              go_ret
              exact ⟨ret_int (by rw [Hck.out, Hn.out]; simp only [Hlast.out]; rw [if_neg (by omega)]), Hbw.out⟩

def greatF (ms : List Mod) : Bool := decide (2100 < ms.length) || ms.any (fun m => decide (10 < m.args.length))
set_option maxRecDepth 100000 in
set_option maxHeartbeats 1000000 in
theorem great_calls {F : Nat → Prop} (A : Option Addr) (c : Nat) (ms : List Mod) (w : World) (h : SlAt pMod F w A c ms) :
    Calls Tryd.prog 12 #[.slice A ms.length c] w fun e w' => e = .returned (.bool (greatF ms)) ∧ w = w' := by
  have hmx := h.lenle
  have H := Lib.hid h; clear h
  by_cases hbig : 2100 < ms.length
  · go_enter Tryd.func12, Tryd.ntmps12
    go_wp2
    go_ret
    exact ⟨ret_bool (by unfold greatF; simp [hbig]), rfl⟩
  · have Hbig := Lib.hid (show decide (2100 < ms.length) = false by simpa using hbig)
    go_enter Tryd.func12, Tryd.ntmps12
    go_wp2
    go_loop [3] (fun i => ∃ k : Nat, k ≤ ms.length ∧ i = .int .i64 k ∧ Hid (ms.any (fun m => decide (10 < m.args.length)) = (ms.drop k).any (fun m => decide (10 < m.args.length)))) (fun i => ms.length - (intOf i).toNat)
    case atStart => exact ⟨0, Nat.zero_le _, rfl, rfl⟩
    case round =>
      obtain ⟨k, hk, rfl, hall⟩ := hrel
      by_cases hlt : k < ms.length
      · obtain ⟨b, o, A', c', m, hd, rfl, hob, hc0, hc1, hf8, hargs, hl⟩ := H.out.getMod hlt
        by_cases h10 : 10 < m.args.length
        · go_wp2
          go_ret
          refine ⟨ret_bool ?_, rfl⟩
          unfold greatF; rw [Hbig.out, hall.out, hd.out, List.any_cons]; simp [h10]
        · go_wp2
          go_round
          case rel =>
            refine ⟨k + 1, by omega, by go_num, ?_⟩
            unfold Hid; rw [hall.out, hd.out, List.any_cons]; simp [h10]
          case measure => simp [intOf]; omega
      · go_wp2
        go_ret
        refine ⟨ret_bool ?_, rfl⟩
        unfold greatF; rw [Hbig.out, hall.out, drop_end hlt]; rfl

end Go.Proofs.YtlipmagkplbkdaaDoor
