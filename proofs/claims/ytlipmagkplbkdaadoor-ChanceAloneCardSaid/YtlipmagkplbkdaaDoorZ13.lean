/- Texts of the proof that the statement of ChanceAlone holds, several in one. -/
import Derived.Test.YtlipmagkplbkdaaDoorZ9
set_option linter.unusedVariables false
set_option linter.unusedSimpArgs false
set_option linter.unusedSectionVars false
set_option maxRecDepth 100000
set_option maxHeartbeats 8000000
namespace Go.Proofs.YtlipmagkplbkdaaDoor
section
open Go.RowKit Go.Sort
theorem checkR_ok {rs : List Rul} (h : checkR rs = 0) : rs.all coreR = true /\ rs.all fineR = true /\ manyR rs = false := by
 unfold checkR at h
 by_cases hm : manyR rs = true
 ·rw [if_pos hm] at h; cases h
 ·rw [if_neg hm] at h
  by_cases hf : rs.all fineR = true
  ·refine ⟨?_, hf, by simpa using hm⟩
   rw [List.all_eq_true] at hf ⊢
   intro r hr
   have := hf r hr
   unfold fineR at this
   simp only [Bool.and_eq_true] at this
   exact this.1
  ·rw [if_neg hf] at h; cases h
end
section
open Go.RowKit Go.Sort
def gF (g : Frm) : Bool := decide (10 < g.coefs.length)
def gS (s : Shp) : Bool := decide (10 < s.args.length) || s.args.any gF
def gB (r : Rul) : Bool := decide (10 < r.guards.length) || decide (30 < r.out.length) || r.guards.any gF || r.out.any gS
theorem greatR_eq (rs : List Rul) : greatR rs = (decide (50 < rs.length) || rs.any gB) := rfl
theorem small_of {rs : List Rul} (h : greatR rs = false) : Small rs := by
 rw [greatR_eq, Bool.or_eq_false_iff, List.any_eq_false] at h
 have hB : ∀ r ∈ rs, r.guards.length <= 10 /\ r.out.length <= 30 /\ ∀ s ∈ r.out, s.args.length <= 10 := by
  intro r hr
  have := h.2 r hr
  unfold gB at this
  simp only [Bool.or_eq_true, decide_eq_true_eq, List.any_eq_true, not_or, not_exists, not_and] at this
  refine ⟨by omega, by omega, fun s hs => ?_⟩
  have h2 := this.2 s hs
  unfold gS at h2
  simp only [Bool.or_eq_true, decide_eq_true_eq, not_or] at h2
  omega
 exact ⟨by have := h.1; simp at this; omega, fun r hr => (hB r hr).1, fun r hr => (hB r hr).2.1, fun r hr => (hB r hr).2.2⟩
def GreatPost (rs : List Rul) (w : World) (e : Ending) (w' : World) : Prop := e = .returned (.bool (greatR rs)) /\ w = w'
theorem greatR_calls {F : Nat -> Prop} (A : Option Addr) (c : Nat) (rs : List Rul) (w : World) (h : SlAt pRul F w A c rs) :
  Calls Tryd.prog 11 #[.slice A rs.length c] w (GreatPost rs w) := by
 have hmx := h.lenle
 have he := greatR_eq rs
 obtain ⟨H, He⟩ := HH2 h he; clear h he
 by_cases hbig : 50 < rs.length
 ·have hy : greatR rs = true := by rw [He.out]; simp [hbig]
  have Hy := HH1 hy; clear hy
  go_enter Tryd.func11, Tryd.ntmps11
  go_wp2
  go_ret
  exact ⟨by rw [Hy.out]; rfl, rfl⟩
 ·have hy : greatR rs = rs.any gB := by rw [He.out]; simp [hbig]
  have Hy := HH1 hy; clear hy
  go_enter Tryd.func11, Tryd.ntmps11
  go_wp2
  go_loop [3] (fun i => ∃ k : Nat, k <= rs.length /\ i = .int .i64 k /\ Hid (greatR rs = (rs.drop k).any gB)) (fun i => rs.length - (intOf i).toNat)
  case atStart => exact ⟨0, Nat.zero_le _, rfl, Hy⟩
  case round =>
   obtain ⟨k, hk, rfl, hall⟩ := hrel
   by_cases hlt : k < rs.length
   ·obtain ⟨b, o, A1, c1, A2, c2, r, hd, rfl, hob, k0, k1, k2, k3, k4, k5, k6, hat, hl1, hl2⟩ := H.out.getRulAt hlt
    clear k0 k1 k2 k3 k5
    have yes : gB r = true -> greatR rs = true := fun hy => by rw [hall.out, hd.out, List.any_cons, hy]; rfl
    have next : gB r = false -> greatR rs = (rs.drop (k + 1)).any gB := fun hn => by rw [hall.out, hd.out, List.any_cons, hn]; rfl
    obtain ⟨Yes, Next⟩ := HH2 yes next; clear yes next
    by_cases hg : 10 < r.guards.length
    ·have hy := Yes.out (by unfold gB; simp [hg])
     have Hy := HH1 hy; clear hy
     go_wp2
     go_ret
     exact ⟨by rw [Hy.out]; rfl, rfl⟩
    by_cases ho : 30 < r.out.length
    ·have hy := Yes.out (by unfold gB; simp [ho])
     have Hy := HH1 hy; clear hy
     go_wp2
     go_ret
     exact ⟨by rw [Hy.out]; rfl, rfl⟩
    have hgb : gB r = (r.guards.any gF || r.out.any gS) := by unfold gB; simp [hg, ho]
    have Hgb := HH1 hgb; clear hgb
    go_wp2
    clear hg ho
    go_loop [4] (fun i => ∃ j : Nat, j <= r.guards.length /\ i = .int .i64 j /\ Hid (r.guards.any gF = (r.guards.drop j).any gF)) (fun i => r.guards.length - (intOf i).toNat)
    case atStart => exact ⟨0, Nat.zero_le _, rfl, rfl⟩
    case round =>
     obtain ⟨j, hj, rfl, hall2⟩ := hrel
     by_cases hlt2 : j < r.guards.length
     ·obtain ⟨b3, o3, A3, c3, f, hdf, rfl, hob3, hs0, hs1, hsc, hsa, hsl⟩ := hat.out.sg.getFrm hlt2
      by_cases hf : 10 < f.coefs.length
      ·have hy := Yes.out (by rw [Hgb.out, hall2.out, hdf.out, List.any_cons, show gF f = true from by unfold gF; simp [hf]]; rfl)
       have Hy := HH1 hy; clear hy
       go_wp2
       go_ret
       exact ⟨by rw [Hy.out]; rfl, rfl⟩
      ·go_wp2
       go_round
       case rel =>
        refine ⟨j + 1, by omega, by go_num, ?_⟩
        unfold Hid; rw [hall2.out, hdf.out, List.any_cons, show gF f = false from by unfold gF; simp; omega]; rfl
       case measure => simp [intOf]; omega
     ·have hgb2 : gB r = r.out.any gS := by rw [Hgb.out, hall2.out, drop_end hlt2]; rfl
      have Hgb2 := HH1 hgb2; clear hgb2
      clear hall2
      go_wp2
      clear hlt2
      go_loop [5] (fun i => ∃ j : Nat, j <= r.out.length /\ i = .int .i64 j /\ Hid (r.out.any gS = (r.out.drop j).any gS)) (fun i => r.out.length - (intOf i).toNat)
      case atStart => exact ⟨0, Nat.zero_le _, rfl, rfl⟩
      case round =>
       obtain ⟨j2, hj2, rfl, hall2⟩ := hrel
       by_cases hlt2 : j2 < r.out.length
       ·obtain ⟨b3, o3, A3, c3, s, hds, rfl, hob3, hs0, hs1, hsc, hsa, hsl⟩ := hat.out.so.getShp hlt2
        have yes2 : gS s = true -> greatR rs = true := fun hy => Yes.out (by rw [Hgb2.out, hall2.out, hds.out, List.any_cons, hy]; rfl)
        have next2 : gS s = false -> r.out.any gS = (r.out.drop (j2 + 1)).any gS := fun hn => by rw [hall2.out, hds.out, List.any_cons, hn]; rfl
        obtain ⟨Yes2, Next2⟩ := HH2 yes2 next2; clear yes2 next2
        by_cases hg : 10 < s.args.length
        ·have hy := Yes2.out (by unfold gS; simp [hg])
         have Hy := HH1 hy; clear hy
         go_wp2
         go_ret
         exact ⟨by rw [Hy.out]; rfl, rfl⟩
        have hgs : gS s = s.args.any gF := by unfold gS; simp [hg]
        have Hgs := HH1 hgs; clear hgs
        go_wp2
        clear hg
        go_loop [6] (fun i => ∃ j : Nat, j <= s.args.length /\ i = .int .i64 j /\ Hid (s.args.any gF = (s.args.drop j).any gF)) (fun i => s.args.length - (intOf i).toNat)
        case atStart => exact ⟨0, Nat.zero_le _, rfl, rfl⟩
        case round =>
         obtain ⟨j3, hj3, rfl, hall3⟩ := hrel
         by_cases hlt3 : j3 < s.args.length
         ·obtain ⟨b4, o4, A4, c4, f, hdf, rfl, hob4, hf0, hf1, hfc, hfa, hfl⟩ := hsa.out.getFrm hlt3
          by_cases hf : 10 < f.coefs.length
          ·have hy := Yes2.out (by rw [Hgs.out, hall3.out, hdf.out, List.any_cons, show gF f = true from by unfold gF; simp [hf]]; rfl)
           have Hy := HH1 hy; clear hy
           go_wp2
           go_ret
           exact ⟨by rw [Hy.out]; rfl, rfl⟩
          ·go_wp2
           go_round
           case rel =>
            refine ⟨j3 + 1, by omega, by go_num, ?_⟩
            unfold Hid; rw [hall3.out, hdf.out, List.any_cons, show gF f = false from by unfold gF; simp; omega]; rfl
           case measure => simp [intOf]; omega
         ·have hn := Next2.out (by rw [Hgs.out, hall3.out, drop_end hlt3]; rfl)
          have Hn := HH1 hn; clear hn
          go_wp2
          go_round
          case rel => exact ⟨j2 + 1, by omega, by go_num, Hn⟩
          case measure => simp [intOf]; omega
       ·have hn := Next.out (by rw [Hgb2.out, hall2.out, drop_end hlt2]; rfl)
        have Hn := HH1 hn; clear hn
        go_wp2
        go_round
        case rel => exact ⟨k + 1, by omega, by go_num, Hn⟩
        case measure => simp [intOf]; omega
   ·go_wp2
    go_ret
    exact ⟨ret_bool (by rw [hall.out, drop_end hlt]; rfl), rfl⟩
end
section
open Go.RowKit Go.Sort
theorem great_noC {ms : List Mod} (h : greatF ms = false) : ms.length <= 10000 /\ ∀ m ∈ ms, m.args.length <= 1000 := by
 unfold greatF at h
 rw [Bool.or_eq_false_iff] at h
 obtain ⟨h1, h2⟩ := h
 have h1' := of_decide_eq_false h1
 refine ⟨by omega, fun m hm => ?_⟩
 have := List.any_eq_false.1 h2 m hm
 simp at this
 omega
end
end Go.Proofs.YtlipmagkplbkdaaDoor
