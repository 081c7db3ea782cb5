/-
  Layer 6: the walks of word.Check, of the reference's Letter, Fine, Open and Check, and of Great.
-/
import Derived.Test.YtfeafembifdklaaWa
namespace Go.Proofs.Ytfeafembifdklaa
open Go.RowKit

def CheckPost (ms : List Mod) (w : World) (e : Ending) (w' : World) : Prop := e = .returned (.int .i64 (checkF ms)) ∧ Below w.heap.size w w'

theorem modAt_keep {w w' : World} {A : Option Addr} {c : Nat} {xs : List Mod} (h : SlAt pMod (Old w) w A c xs) (hb : Below w.heap.size w w') : SlAt pMod (Old w) w' A c xs := h.below hb

set_option maxRecDepth 100000 in
set_option maxHeartbeats 1000000 in
theorem wordCheck_calls (A : Option Addr) (c : Nat) (ms : List Mod) (w : World) (h : SlAt pMod (Old w) w A c ms) :
    Calls Try.prog 39 #[.slice A ms.length c] w (CheckPost ms w) := by
  have hmx := h.lenle
  have H := Lib.hid h; clear h
  by_cases hbig : 2000 < ms.length
  · go_enter Try.func39, Try.ntmps39
    go_wp2
    go_ret
    exact ⟨ret_int (by unfold checkF; rw [if_pos hbig]), Below.refl _ _⟩
  · have Hbig := Lib.hid hbig; clear hbig
    have hle : ms.length ≤ 2000 := by have := Hbig.out; omega
    go_enter Try.func39, Try.ntmps39
    go_wp2
    go_loopw [12] (fun i wr => ∃ k : Nat, k ≤ ms.length ∧ i = .int .i64 k ∧ Hid (Below w.heap.size w wr) ∧ w.heap.size ≤ wr.heap.size ∧ Hid (ms.all fineF = (ms.drop k).all fineF)) (fun i _ => ms.length - (intOf i).toNat)
    case atStart => exact ⟨0, Nat.zero_le _, rfl, Below.refl _ _, Nat.le_refl _, rfl⟩
    case round =>
      obtain ⟨k, hk, rfl, hb, hsz, hall⟩ := hrel
      obtain ⟨wo, rfl⟩ : ∃ wo : World, wo = wr := ⟨_, rfl⟩
      by_cases hlt : k < ms.length
      · obtain ⟨b, o, A', c', m, hd, rfl, hob, hc0, hc1, hf8, hargs, hl⟩ := (H.out.below hb.out).getMod hlt
        have hob' : b < wo.heap.size := Nat.lt_of_lt_of_le hob hsz
        have hcall : ∀ W : World, Below wo.heap.size wo W → Calls Try.prog 41 #[.agg #[.int .u8 m.name, .slice A' m.args.length c']] W (FinePost m W) := fun W hW =>
          fine_calls A' c' m W (hargs.out.keep fun q hq => hW.block q (Nat.lt_of_lt_of_le hq hsz)) (fun q hq => Nat.lt_of_lt_of_le hq (Nat.le_trans hsz hW.size)) hf8
        have Hcall := Lib.hid hcall; clear hcall
        go_wp2_with fail
        refine (Hcall.out _ (((Below.refl _ _).alloc (Nat.le_refl _) _))).mono ?_
        rintro e w1 ⟨rfl, hb1⟩
        have hsz1 := hb1.size
        simp at hsz1
        have hbw : Below w.heap.size w w1 := (hb.out.alloc hsz _).trans (hb1.mono (by simp; omega))
        have Hbw := Lib.hid hbw; clear hbw hb1
        cases hfm : fineF m
        · go_wp2
          go_ret
          refine ⟨ret_int ?_, Hbw.out⟩
          unfold checkF
          rw [if_neg Hbig.out, if_pos]
          rw [hall.out, hd.out, List.all_cons, hfm]; rfl
        · go_wp2
          go_roundw
          case rel =>
            refine ⟨k + 1, by omega, by go_num, Hbw, Hbw.out.size, ?_⟩
            unfold Hid; rw [hall.out, hd.out, List.all_cons, hfm]; rfl
          case measure => simp [intOf]; omega
      · have hok : ms.all fineF = true := by rw [hall.out, drop_end hlt]; rfl
        have Hok := Lib.hid hok; clear hok
        go_wp2
        go_loopw [22, 5] (fun i n wr => ∃ k o : Nat, k ≤ ms.length ∧ o ≤ k ∧ i = .int .i64 k ∧ n = .int .i64 o ∧ wr = wo ∧ Hid (scan 0 ms = scan o (ms.drop k))) (fun i _ _ => ms.length - (intOf i).toNat)
        case atStart => exact ⟨0, 0, Nat.zero_le _, Nat.le_refl _, rfl, rfl, rfl, rfl⟩
        case round =>
          obtain ⟨k2, op, hk2, hop, rfl, rfl, rfl, hsc⟩ := hrel
          by_cases hlt2 : k2 < ms.length
          · obtain ⟨b, o, A', c', m, hd, rfl, hob, hc0, hc1, hf8, hargs, hl⟩ := (H.out.below hb.out).getMod hlt2
            by_cases h91 : m.name = 91
            · have e0 : (m.name == 91) = true := by simp [h91]
              have e1 : (m.name == 93) = false := by simp [h91]
              have H91 := Lib.hid h91; clear h91
              go_wp2
              go_roundw
              case rel =>
                refine ⟨k2 + 1, op + 1, by omega, by omega, by go_num, by go_num, trivial, ?_⟩
                unfold Hid; rw [hsc.out, hd.out]; simp [scan, H91.out]
              case measure => simp [intOf]; omega
            · have e0 : (m.name == 91) = false := by simp [h91]
              by_cases h93 : m.name = 93
              · have e1 : (m.name == 93) = true := by simp [h93]
                have H93 := Lib.hid h93; clear h93
                by_cases h0 : op = 0
                · subst h0
                  go_wp2
                  go_ret
                  refine ⟨ret_int ?_, hb.out⟩
                  unfold checkF
                  rw [if_neg Hbig.out, if_neg (by rw [Hok.out]; decide), hsc.out, hd.out]; simp [scan, H93.out]
                · have e2 : ((op : Int) == 0) = false := by simp; omega
                  go_wp2
                  go_roundw
                  case rel =>
                    refine ⟨k2 + 1, op - 1, by omega, by omega, by go_num, by congr 1; omega, trivial, ?_⟩
                    unfold Hid; rw [hsc.out, hd.out]; simp [scan, H93.out, h0]
                  case measure => simp [intOf]; omega
              · have e1 : (m.name == 93) = false := by simp [h93]
                go_wp2
                go_roundw
                case rel =>
                  refine ⟨k2 + 1, op, by omega, by omega, by go_num, rfl, trivial, ?_⟩
                  unfold Hid; rw [hsc.out, hd.out]; simp [scan, h91, h93]
                case measure => simp [intOf]; omega
          · have hs : scan 0 ms = some op := by rw [hsc.out, drop_end hlt2]; rfl
            have Hs := Lib.hid hs; clear hs
            by_cases h0 : 0 < op
            · go_wp2
              go_ret
              refine ⟨ret_int ?_, hb.out⟩
              unfold checkF
              rw [if_neg Hbig.out, if_neg (by rw [Hok.out]; decide), Hs.out]; simp [h0]
            · obtain rfl : op = 0 := by omega
              go_wp2
              go_ret
              refine ⟨ret_int ?_, hb.out⟩
              unfold checkF
              rw [if_neg Hbig.out, if_neg (by rw [Hok.out]; decide), Hs.out]; rfl

end Go.Proofs.Ytfeafembifdklaa
