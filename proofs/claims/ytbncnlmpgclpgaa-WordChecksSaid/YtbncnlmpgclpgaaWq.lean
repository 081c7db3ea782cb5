/-
  Layer 6: the walks of Strip.
-/
import Derived.Test.YtbncnlmpgclpgaaWp
namespace Go.Proofs.Ytbncnlmpgclpgaa
open Go.RowKit

def stripF (ms : List Mod) : List Mod × Int := if checkF ms = 0 then (trunk 0 ms, 0) else ([], checkF ms)
theorem stripF_ok {ms : List Mod} (h : checkF ms = 0) : stripF ms = (trunk 0 ms, 0) := by unfold stripF; rw [if_pos h]
theorem stripF_no {ms : List Mod} (h : ¬ checkF ms = 0) : stripF ms = ([], checkF ms) := by unfold stripF; rw [if_neg h]
def StripPost (E : Rp Mod) (ms : List Mod) (w : World) (e : Ending) (w' : World) : Prop :=
  ∃ A c, e = .returned (.tuple #[.slice A (stripF ms).1.length c, .int .i64 (stripF ms).2]) ∧ Own E 46 w.heap.size (w.heap.size ≤ ·) w' (.slice A (stripF ms).1.length c) (stripF ms).1 ∧ Below w.heap.size w w'

set_option maxRecDepth 100000 in
set_option maxHeartbeats 2000000 in
theorem refStrip_calls (A : Option Addr) (c : Nat) (ms : List Mod) (w : World) (h : SlAt pMod (Old w) w A c ms) (hbd2 : ∀ m ∈ ms, m.args.length ≤ 1000) :
    Calls Try.prog 17 #[.slice A ms.length c] w (StripPost pMod ms w) := by
  have hmx := h.lenle
  have H := Lib.hid h; clear h
  have Hbd2 := Lib.hid hbd2; clear hbd2
  go_enter Try.func17, Try.ntmps17
  go_wp2_with fail
  refine (refCheck_calls A c ms w H.out).mono ?_
  rintro e w1 ⟨rfl, hb1⟩
  have H1 := Lib.hid (H.out.later hb1)
  have hs1 := hb1.size
  have Hb1 := Lib.hid hb1; clear hb1
  by_cases hc : checkF ms = 0
  · have e1 : (checkF ms != 0) = false := by simp [hc]
    obtain ⟨hle, l, hol, hll, hlj, hpos, hend⟩ := check_zero hc
    have Hc := Lib.hid hc
    have Hol := Lib.hid hol; have Hlj := Lib.hid hlj; have Hll := Lib.hid hll
    clear hpos hend hc hol hlj hll
    have hop := refOpen_calls _ c ms w1 H1.out (by omega)
    have Hop := Lib.hid hop; clear hop
    go_wp2_with fail
    refine Hop.out.mono ?_
    rintro e w2 ⟨hb2, ⟨hno, rfl⟩ | ⟨l', A1, c1, hsome, hll', rfl, hsl⟩⟩
    · rw [Hol.out] at hno; cases hno
    · rw [Hol.out] at hsome
      cases hsome
      have hs2 := hb2.size
      have Hb2 := Lib.hid (Hb1.out.trans (hb2.mono hs1)); clear hb2
      have Hsl := Lib.hid hsl; clear hsl
      have hs02 := Hb2.out.size
      go_wp2
      go_loopw [7, 6] (fun i out wr => ∃ k : Nat, k ≤ ms.length ∧ i = .int .i64 k ∧ Hid (Below w2.heap.size w2 wr) ∧ w2.heap.size ≤ wr.heap.size ∧ ∃ (done : List Mod) (A' : Option Addr) (c' : Nat), out = .slice A' done.length c' ∧ done.length ≤ k ∧
        Hid (Own pMod 46 w2.heap.size (fun _ => True) wr out done) ∧ Hid (trunk 0 ms = done ++ trunk (dep ms k) (ms.drop k))) (fun i _ _ => ms.length - (intOf i).toNat)
      case atStart => exact ⟨0, Nat.zero_le _, rfl, Below.refl _ _, Nat.le_refl _, [], none, 0, rfl, Nat.le_refl _, Own.nil, rfl⟩
      case round =>
        obtain ⟨k, hk, rfl, hb, hsz, done, Ao, co, rfl, hdk, hown, htr⟩ := hrel
        obtain ⟨wo, rfl⟩ : ∃ wo : World, wo = wr := ⟨_, rfl⟩
        have hbw := Hb2.out.trans (hb.out.mono hs02)
        have Hbw := Lib.hid hbw; clear hbw
        by_cases hlt : k < ms.length
        · obtain ⟨b, o, A', c', m, hd, rfl, hob, hx0, hx1, hf8, hargs, _⟩ := (H.out.below Hbw.out).getMod hlt
          obtain ⟨b1, o1, x, hdx, rfl, _, hcx, _⟩ := (Hsl.out.keep fun q hq => hb.out.block q hq.2).getI (show k < l.length by rw [Hll.out]; exact hlt)
          have hx : x = dep ms k + delta m := by
            have h1 := get_of_drop hdx.out
            rw [Hlj.out k hlt] at h1
            rw [← dep_succ hd.out]; exact (Option.some.inj h1).symm
          have Hx := Lib.hid hx; clear hx
          have Hf8 := Lib.hid hf8; clear hf8
          have Hds := Lib.hid (dep_succ hd.out)
          have skip : ¬ (x = 0 ∧ ¬ m.name = 93) → Hid (trunk 0 ms = done ++ trunk (dep ms (k + 1)) (ms.drop (k + 1))) := fun hn => by
            unfold Hid; rw [htr.out, hd.out, trunk_drop (by rw [← Hx.out]; exact hn), Hds.out]
          by_cases hz : x = 0
          · have ez : (x == 0) = true := by simp [hz]
            by_cases h93 : m.name = 93
            · have e3 : (m.name != 93) = false := by simp [h93]
              have Hsk := skip (fun hh => hh.2 h93)
              clear h93 skip
              go_wp2
              go_roundw
              case rel => exact ⟨k + 1, by omega, by go_num, hb, hsz, done, Ao, co, rfl, by omega, hown, Hsk⟩
              case measure => simp [intOf]; omega
            · have e3 : (m.name != 93) = true := by simp [h93]
              have Hkeep : Hid (trunk 0 ms = (done ++ [m]) ++ trunk (dep ms (k + 1)) (ms.drop (k + 1))) := by
                unfold Hid; rw [htr.out, hd.out, trunk_keep (by rw [← Hx.out]; exact hz) h93, Hds.out, List.append_assoc]; rfl
              clear h93 skip
              have hown2 := hown.out.alloc (.cells #[.int .u8 m.name, .slice A' m.args.length c'] 46)
              have Hown2 := Lib.hid hown2; clear hown2
              have hbox := sl_boxed (E := pMod) (w := wo) (F := Old w) (u := .agg #[.int .u8 m.name, .slice A' m.args.length c']) (x := m) (e := 46) ⟨A', c', rfl, Hf8.out, hargs.out⟩ (fun q hq => Nat.lt_of_lt_of_le hq Hbw.out.size)
              have Hbox := Lib.hid hbox; clear hbox
              have hF : ∀ q, (Old w q ∨ q = wo.heap.size) → True ∧ q < (wo.alloc (.cells #[.int .u8 m.name, .slice A' m.args.length c'] 46)).heap.size ∧ some q ≠ (Value.slice Ao done.length co).ownBlock := fun q hq => by
                have hbs := Hbw.out.size
                refine ⟨trivial, ?_, fun he => ?_⟩
                · rcases hq with hq | hq
                  · have : q < w.heap.size := hq
                    simp; omega
                  · simp; omega
                · have := hown.out.lt q he.symm
                  rcases hq with hq | hq
                  · have : q < w.heap.size := hq
                    omega
                  · omega
              have HF := Lib.hid hF; clear hF
              have hlen : (done ++ [m]).length = done.length + 1 := by simp
              have hb2' : Below w2.heap.size w2 (wo.alloc (.cells #[.int .u8 m.name, .slice A' m.args.length c'] 46)) := hb.out.alloc hsz _
              have Hb2' := Lib.hid hb2'; clear hb2'
              go_wp2_with ((with_reducible show wpList _ _ _ (Oper.mk (some 43) _ _ _ _ _ :: _) _ _); refine wpList_cat (E := pMod) (xs := done) 22 46 (.agg #[.int .u8 0, .slice none 0 0]) 32 (.tmp 37) (.tmp 42) rfl rfl Try.underlying22 info_mod rfl (by decide) rfl Hown2.out _ 1 [m] rfl _ Hbox.out HF.out (done.length + 1) hlen (room_of (by omega)) (by decide) Hb2'.out.size ?_; intro A6 c6 w6 hown6 hb6 hk6)
              go_roundw
              case rel =>
                have hb7 := Hb2'.out.trans hb6
                refine ⟨k + 1, by omega, by go_num, hb7, hb7.size, done ++ [m], A6, c6, by rw [hlen], by simp; omega, ?_, Hkeep⟩
                exact hown6
              case measure => simp [intOf]; omega
          · have ez : (x == 0) = false := by simp [hz]
            have Hsk := skip (fun hh => hz hh.1)
            clear skip
            go_wp2
            go_roundw
            case rel => exact ⟨k + 1, by omega, by go_num, hb, hsz, done, Ao, co, rfl, by omega, hown, Hsk⟩
            case measure => simp [intOf]; omega
        · have hfin : trunk 0 ms = done := by rw [htr.out, drop_end hlt]; simp [trunk]
          have Hfin := Lib.hid hfin; clear hfin
          obtain ⟨A3, c3, hv3, sl3⟩ := hown.out.sl
          cases hv3
          have sl3' : SlAt pMod (Old wo) wo Ao co done := sl3.wide fun q hq => hq.2
          have Sl3 := Lib.hid sl3'; clear sl3 sl3'
          have hst : stripF ms = (done, 0) := by rw [stripF_ok Hc.out, Hfin.out]
          have Hst := Lib.hid hst; clear hst
          have ha : ∀ m ∈ done, m.args.length ≤ 1000 := fun m hm => Hbd2.out m (trunk_mem ms 0 m (by rw [Hfin.out]; exact hm))
          have Ha := Lib.hid ha; clear ha
          go_wp2_with fail
          refine (refTwin_calls Ao co done wo Sl3.out (by omega) Ha.out).mono ?_
          rintro e w7 ⟨A7, c7, rfl, own7, hb7⟩
          have own7' := own7.mono (base' := w.heap.size) (G' := (w.heap.size ≤ ·)) Hbw.out.size (fun q hq => Nat.le_trans Hbw.out.size hq)
          have Own7 := Lib.hid own7'; clear own7 own7'
          have Hb7 := Lib.hid (Hbw.out.trans (hb7.mono Hbw.out.size)); clear hb7
          go_wp2
          go_ret2
          exact ⟨A7, c7, by simp only [Hst.out]; rfl, by simp only [Hst.out]; exact Own7.out, Hb7.out⟩
  · have e1 : (checkF ms != 0) = true := by simp [hc]
    have Hc := Lib.hid hc; clear hc
    go_wp2_with fail
    refine (refCheck_calls A c ms w1 H1.out).mono ?_
    rintro e w2 ⟨rfl, hb2⟩
    have Hb2 := Lib.hid (Hb1.out.trans (hb2.mono hs1)); clear hb2
    go_wp2
    go_ret2
    exact ⟨none, 0, by rw [stripF_no Hc.out]; rfl, by rw [stripF_no Hc.out]; exact Own.nil, Hb2.out⟩
end Go.Proofs.Ytbncnlmpgclpgaa
