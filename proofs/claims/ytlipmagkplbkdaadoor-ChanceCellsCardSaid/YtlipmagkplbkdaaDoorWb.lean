/-
  Layer 6: the walks of word.Check, of the reference's Letter, Fine, Open and Check, and of Great.
-/
import Derived.Test.YtlipmagkplbkdaaDoorWa
namespace Go.Proofs.YtlipmagkplbkdaaDoor
open Go.RowKit

def CheckPost (ms : List Mod) (w : World) (e : Ending) (w' : World) : Prop := e = .returned (.int .i64 (checkF ms)) ∧ Below w.heap.size w w'

theorem modAt_keep {w w' : World} {A : Option Addr} {c : Nat} {xs : List Mod} (h : SlAt pMod (Old w) w A c xs) (hb : Below w.heap.size w w') : SlAt pMod (Old w) w' A c xs := h.below hb

set_option maxRecDepth 100000 in
set_option maxHeartbeats 1000000 in
theorem wordCheck_calls (A : Option Addr) (c : Nat) (ms : List Mod) (w : World) (h : SlAt pMod (Old w) w A c ms) :
    Calls Tryd.prog 42 #[.slice A ms.length c] w (CheckPost ms w) := by
  have hmx := h.lenle
  have H := Lib.hid h; clear h
  by_cases hbig : 2000 < ms.length
  · go_enter Tryd.func42, Tryd.ntmps42
    go_wp2
    go_ret
    exact ⟨ret_int (by unfold checkF; rw [if_pos hbig]), Below.refl _ _⟩
  · have Hbig := Lib.hid hbig; clear hbig
    have hle : ms.length ≤ 2000 := by have := Hbig.out; omega
    go_enter Tryd.func42, Tryd.ntmps42
    go_wp2
    go_loopw [12] (fun i wr => ∃ k : Nat, k ≤ ms.length ∧ i = .int .i64 k ∧ Hid (Below w.heap.size w wr) ∧ w.heap.size ≤ wr.heap.size ∧ Hid (ms.all fineF = (ms.drop k).all fineF)) (fun i _ => ms.length - (intOf i).toNat)
    case atStart => exact ⟨0, Nat.zero_le _, rfl, Below.refl _ _, Nat.le_refl _, rfl⟩
    case round =>
      obtain ⟨k, hk, rfl, hb, hsz, hall⟩ := hrel
      obtain ⟨wo, rfl⟩ : ∃ wo : World, wo = wr := ⟨_, rfl⟩
      by_cases hlt : k < ms.length
      · obtain ⟨b, o, A', c', m, hd, rfl, hob, hc0, hc1, hf8, hargs, hl⟩ := (H.out.below hb.out).getMod hlt
        have hob' : b < wo.heap.size := Nat.lt_of_lt_of_le hob hsz
        have hcall : ∀ W : World, Below wo.heap.size wo W → Calls Tryd.prog 63 #[.agg #[.int .u8 m.name, .slice A' m.args.length c']] W (FinePost m W) := fun W hW =>
          fine_calls A' c' m W (hargs.out.keep fun q hq => hW.block q (Nat.lt_of_lt_of_le hq hsz)) (fun q hq => Nat.lt_of_lt_of_le hq (Nat.le_trans hsz hW.size)) hf8
        have Hcall := Lib.hid hcall; clear hcall
        go_wp2_with fail
        refine (Hcall.out _ (((Below.refl _ _).alloc (Nat.le_refl _) _))).mono ?_
        rintro e w1 ⟨rfl, hb1⟩
        have hsz1 := hb1.size
        simp at hsz1
        have hbw : Below w.heap.size w w1 := (hb.out.alloc hsz _).trans (hb1.mono (by simp; omega))
        have Hbw := Lib.hid hbw; clear hbw hb1
        cases hfm : fineF m
        · go_wp2
          go_ret
          refine ⟨ret_int ?_, Hbw.out⟩
          unfold checkF
          rw [if_neg Hbig.out, if_pos]
          rw [hall.out, hd.out, List.all_cons, hfm]; rfl
        · go_wp2
          go_roundw
          case rel =>
            refine ⟨k + 1, by omega, by go_num, Hbw, Hbw.out.size, ?_⟩
            unfold Hid; rw [hall.out, hd.out, List.all_cons, hfm]; rfl
          case measure => simp [intOf]; omega
      · have hok : ms.all fineF = true := by rw [hall.out, drop_end hlt]; rfl
        have Hok := Lib.hid hok; clear hok
        go_wp2
        go_loopw [22, 5] (fun i n wr => ∃ k o : Nat, k ≤ ms.length ∧ o ≤ k ∧ i = .int .i64 k ∧ n = .int .i64 o ∧ wr = wo ∧ Hid (scan 0 ms = scan o (ms.drop k))) (fun i _ _ => ms.length - (intOf i).toNat)
        case atStart => exact ⟨0, 0, Nat.zero_le _, Nat.le_refl _, rfl, rfl, rfl, rfl⟩
        case round =>
          obtain ⟨k2, op, hk2, hop, rfl, rfl, rfl, hsc⟩ := hrel
          by_cases hlt2 : k2 < ms.length
          · obtain ⟨b, o, A', c', m, hd, rfl, hob, hc0, hc1, hf8, hargs, hl⟩ := (H.out.below hb.out).getMod hlt2
            by_cases h91 : m.name = 91
            · have e0 : (m.name == 91) = true := by simp [h91]
              have e1 : (m.name == 93) = false := by simp [h91]
              have H91 := Lib.hid h91; clear h91
              go_wp2
              go_roundw
              case rel =>
                refine ⟨k2 + 1, op + 1, by omega, by omega, by go_num, by go_num, trivial, ?_⟩
                unfold Hid; rw [hsc.out, hd.out]; simp [scan, H91.out]
              case measure => simp [intOf]; omega
            · have e0 : (m.name == 91) = false := by simp [h91]
              by_cases h93 : m.name = 93
              · have e1 : (m.name == 93) = true := by simp [h93]
                have H93 := Lib.hid h93; clear h93
                by_cases h0 : op = 0
                · subst h0
                  go_wp2
                  go_ret
                  refine ⟨ret_int ?_, hb.out⟩
                  unfold checkF
                  rw [if_neg Hbig.out, if_neg (by rw [Hok.out]; decide), hsc.out, hd.out]; simp [scan, H93.out]
                · have e2 : ((op : Int) == 0) = false := by simp; omega
                  go_wp2
                  go_roundw
                  case rel =>
                    refine ⟨k2 + 1, op - 1, by omega, by omega, by go_num, by congr 1; omega, trivial, ?_⟩
                    unfold Hid; rw [hsc.out, hd.out]; simp [scan, H93.out, h0]
                  case measure => simp [intOf]; omega
              · have e1 : (m.name == 93) = false := by simp [h93]
                go_wp2
                go_roundw
                case rel =>
                  refine ⟨k2 + 1, op, by omega, by omega, by go_num, rfl, trivial, ?_⟩
                  unfold Hid; rw [hsc.out, hd.out]; simp [scan, h91, h93]
                case measure => simp [intOf]; omega
          · have hs : scan 0 ms = some op := by rw [hsc.out, drop_end hlt2]; rfl
            have Hs := Lib.hid hs; clear hs
            by_cases h0 : 0 < op
            · go_wp2
              go_ret
              refine ⟨ret_int ?_, hb.out⟩
              unfold checkF
              rw [if_neg Hbig.out, if_neg (by rw [Hok.out]; decide), Hs.out]; simp [h0]
            · obtain rfl : op = 0 := by omega
              go_wp2
              go_ret
              refine ⟨ret_int ?_, hb.out⟩
              unfold checkF
              rw [if_neg Hbig.out, if_neg (by rw [Hok.out]; decide), Hs.out]; rfl

/-! ### the reference -/
theorem symS_get (k : Nat) (hk : k < (⟨#[43, 45, 38, 94, 124, 33, 91, 93]⟩ : ByteArray).size) : symL[k]? = some (((⟨#[43, 45, 38, 94, 124, 33, 91, 93]⟩ : ByteArray)[k]'hk).toNat : Int) := by
  have h8 : k < 8 := hk
  rcases (show k = 0 ∨ k = 1 ∨ k = 2 ∨ k = 3 ∨ k = 4 ∨ k = 5 ∨ k = 6 ∨ k = 7 by omega) with rfl | rfl | rfl | rfl | rfl | rfl | rfl | rfl <;> rfl
set_option maxRecDepth 100000 in
set_option maxHeartbeats 2000000 in
theorem letter_calls (c : Int) (w : World) : Calls Tryd.prog 55 #[.int .u8 c] w fun e w' => e = .returned (.bool (letterB c)) ∧ w = w' := by
  go_enter Tryd.func55, Tryd.ntmps55
  go_wp2
  go_loop [4] (fun i => ∃ k : Nat, k ≤ 8 ∧ i = .int .i64 k ∧ Hid (symB c = (symL.drop k).contains c)) (fun i => 8 - (intOf i).toNat)
  case atStart => exact ⟨0, by omega, rfl, rfl⟩
  case round =>
    obtain ⟨k, hk, rfl, hs⟩ := hrel
    by_cases h8 : k < 8
    · have step : ∀ v : Int, symL[k]? = some v → v = c ∨ (v ≠ c ∧ symB c = (symL.drop (k + 1)).contains c) := by
        intro v hv
        by_cases hvc : v = c
        · exact .inl hvc
        · refine .inr ⟨hvc, ?_⟩
          rw [hs.out, drop_cons hv, List.contains_cons]
          simp [Ne.symm hvc]
      have yes : ∀ v : Int, symL[k]? = some v → v = c → letterB c = true := by
        intro v hv hvc
        unfold letterB
        rw [hs.out, drop_cons hv, List.contains_cons, hvc]; simp
      have hget := symS_get k h8
      by_cases hvc : (((⟨#[43, 45, 38, 94, 124, 33, 91, 93]⟩ : ByteArray)[k]'h8).toNat : Int) = c
      · have hy := yes _ hget hvc
        have e0 : ((((⟨#[43, 45, 38, 94, 124, 33, 91, 93]⟩ : ByteArray)[k]'h8).toNat : Int) == c) = true := by simpa using hvc
        have Hy := Lib.hid hy
        clear hy step yes hget hvc
        go_wp2
        go_ret
        exact ⟨ret_bool Hy.out.symm, rfl⟩
      · have hy := (step _ hget).resolve_left hvc
        have e0 : ((((⟨#[43, 45, 38, 94, 124, 33, 91, 93]⟩ : ByteArray)[k]'h8).toNat : Int) == c) = false := by simpa using hvc
        have Hn := Lib.hid hy.2
        clear hy step yes hget hvc
        go_wp2
        go_round
        case rel => exact ⟨k + 1, by omega, by go_num, Hn⟩
        case measure => simp [intOf]; omega
    · have hs2 : symB c = false := by rw [hs.out, drop_end (show ¬ k < symL.length from h8)]; rfl
      have Hs2 := Lib.hid hs2; clear hs2
      have hcs : c < 65 ∨ (65 ≤ c ∧ c ≤ 90) ∨ (90 < c ∧ c < 97) ∨ (97 ≤ c ∧ c ≤ 122) ∨ 122 < c := by omega
      rcases hcs with h1 | ⟨h1, h2⟩ | ⟨h1, h2⟩ | ⟨h1, h2⟩ | h1
      all_goals
        go_wp2
        go_ret
        refine ⟨ret_bool ?_, rfl⟩
        unfold letterB upB loB; rw [Hs2.out, Bool.eq_iff_iff]; simp; try omega

def openL (n : Nat) : List Mod → Option (List Int)
  | [] => some []
  | m :: ms => if m.name = 91 then (openL (n + 1) ms).map ((((n + 1 : Nat) : Int)) :: ·) else if m.name = 93 then (if n = 0 then none else (openL (n - 1) ms).map (((n - 1 : Nat) : Int) :: ·)) else (openL n ms).map ((n : Int) :: ·)
theorem scan_openL : ∀ (ms : List Mod) (n : Nat), Option.map (fun k : Nat => (k : Int)) (scan n ms) = (openL n ms).map (fun l => l.getLast?.getD (n : Int))
  | [], n => rfl
  | m :: ms, n => by
    have key : ∀ k : Nat, Option.map (fun k : Nat => (k : Int)) (scan k ms) = ((openL k ms).map ((k : Int) :: ·)).map (fun l => l.getLast?.getD (n : Int)) := by
      intro k
      rw [scan_openL ms k, Option.map_map]
      congr 1
      funext l
      cases l with
      | nil => rfl
      | cons x l => simp [List.getLast?_cons]
    unfold scan openL
    split
    · exact key (n + 1)
    · split
      · split
        · rfl
        · exact key (n - 1)
      · exact key n

set_option maxRecDepth 100000 in
set_option maxHeartbeats 2000000 in
theorem refFine_calls {F : Nat → Prop} (A : Option Addr) (c : Nat) (m : Mod) (w : World) (h : SlAt (pI .i64) F w A c m.args) (hF : ∀ k, F k → k < w.heap.size) :
    Calls Tryd.prog 32 #[.agg #[.int .u8 m.name, .slice A m.args.length c]] w (FinePost m w) := by
  obtain ⟨nm, args⟩ := m
  simp only at h ⊢
  have hmx := h.lenle
  have H := Lib.hid h; clear h
  have HF := Lib.hid hF; clear hF
  have hkp : ∀ k, F k → (w.alloc (.cells #[.int .u8 nm, .slice A args.length c] 49)).heap[k]? = w.heap[k]? := fun k hk => Below.heap_alloc _ _ _ (HF.out k hk)
  have H2 := Lib.hid (H.out.keep hkp)
  clear hkp
  have no : fineF ⟨nm, args⟩ = false → FinePost ⟨nm, args⟩ w (.returned (.bool false)) (w.alloc (.cells #[.int .u8 nm, .slice A args.length c] 49)) := fun hn => ⟨by rw [hn], (Below.refl _ _).alloc (Nat.le_refl _) _⟩
  have No := Lib.hid no; clear no
  cases hlt : letterB nm
  · go_enter Tryd.func32, Tryd.ntmps32
    go_wp2_with (go_at_call 55; refine (letter_calls _ _).mono ?_; rintro e w' ⟨rfl, rfl⟩)
    go_ret
    exact No.out (by unfold fineF; rw [hlt]; rfl)
  · by_cases h4 : 4 < args.length
    · go_enter Tryd.func32, Tryd.ntmps32
      go_wp2_with (go_at_call 55; refine (letter_calls _ _).mono ?_; rintro e w' ⟨rfl, rfl⟩)
      go_ret
      exact No.out (by unfold fineF shapeOk; rw [show (args.length == 0) = false from by simp; rintro rfl; simp at h4, show decide (args.length ≤ 4) = false from by simp; omega]; simp)
    · have hcase : (shapeOk ⟨nm, args⟩ = false ∧ 0 < args.length ∧ (((nm == 91) = true) ∨ ((nm == 91) = false ∧ (nm == 93) = true))) ∨
          (shapeOk ⟨nm, args⟩ = true ∧ (((nm == 91) = true ∧ ¬ 0 < args.length) ∨ ((nm == 91) = false ∧ (nm == 93) = true ∧ ¬ 0 < args.length) ∨ ((nm == 91) = false ∧ (nm == 93) = false))) := by
        unfold shapeOk
        by_cases h0 : 0 < args.length
        · have e0 : (args.length == 0) = false := by simp; rintro rfl; simp at h0
          have e4 : decide (args.length ≤ 4) = true := by simp; omega
          simp only [e0, e4]
          by_cases h1 : nm = 91
          · left; subst h1; exact ⟨rfl, h0, .inl rfl⟩
          · by_cases h3 : nm = 93
            · left; subst h3; exact ⟨rfl, h0, .inr ⟨rfl, rfl⟩⟩
            · right; exact ⟨by simp [h1, h3], .inr (.inr ⟨by simp [h1], by simp [h3]⟩)⟩
        · have e0 : (args.length == 0) = true := by simp; exact List.eq_nil_of_length_eq_zero (by omega)
          right
          refine ⟨by simp [e0], ?_⟩
          by_cases h1 : nm = 91
          · exact .inl ⟨by simp [h1], h0⟩
          · by_cases h3 : nm = 93
            · exact .inr (.inl ⟨by simp [h1], by simp [h3], h0⟩)
            · exact .inr (.inr ⟨by simp [h1], by simp [h3]⟩)
      rcases hcase with ⟨hsh, h0, h1 | ⟨h1, h3⟩⟩ | ⟨hsh, hcs⟩
      · go_enter Tryd.func32, Tryd.ntmps32
        go_wp2_with (go_at_call 55; refine (letter_calls _ _).mono ?_; rintro e w' ⟨rfl, rfl⟩)
        go_ret
        exact No.out (by unfold fineF; rw [hsh]; simp)
      · go_enter Tryd.func32, Tryd.ntmps32
        go_wp2_with (go_at_call 55; refine (letter_calls _ _).mono ?_; rintro e w' ⟨rfl, rfl⟩)
        go_ret
        exact No.out (by unfold fineF; rw [hsh]; simp)
      · have Hsh := Lib.hid hsh; clear hsh
        go_enter Tryd.func32, Tryd.ntmps32
        rcases hcs with ⟨h1, h0⟩ | ⟨h1, h3, h0⟩ | ⟨h1, h3⟩
        · go_wp2_with (go_at_call 55; refine (letter_calls _ _).mono ?_; rintro e w' ⟨rfl, rfl⟩)
          have Hlt := Lib.hid hlt
          go_loop [3] (fun i => i = .int .i64 0) (fun i => 0)
          case atStart => rfl
          case round =>
            subst hrel
            go_wp2
            go_ret
            refine ⟨ret_bool ?_, (Below.refl _ _).alloc (Nat.le_refl _) _⟩
            have ha : args = [] := List.eq_nil_of_length_eq_zero (by omega)
            unfold fineF; rw [Hlt.out, Hsh.out, ha]; rfl
        · go_wp2_with (go_at_call 55; refine (letter_calls _ _).mono ?_; rintro e w' ⟨rfl, rfl⟩)
          have Hlt := Lib.hid hlt
          go_loop [3] (fun i => i = .int .i64 0) (fun i => 0)
          case atStart => rfl
          case round =>
            subst hrel
            go_wp2
            go_ret
            refine ⟨ret_bool ?_, (Below.refl _ _).alloc (Nat.le_refl _) _⟩
            have ha : args = [] := List.eq_nil_of_length_eq_zero (by omega)
            unfold fineF; rw [Hlt.out, Hsh.out, ha]; rfl
        · go_wp2_with (go_at_call 55; refine (letter_calls _ _).mono ?_; rintro e w' ⟨rfl, rfl⟩)
          have Hlt := Lib.hid hlt
          go_loop [3] (fun i => ∃ k : Nat, k ≤ args.length ∧ i = .int .i64 k ∧ Hid (args.all argOk = (args.drop k).all argOk)) (fun i => args.length - (intOf i).toNat)
          case atStart => exact ⟨0, Nat.zero_le _, rfl, rfl⟩
          case round =>
            obtain ⟨k, hk, rfl, hall⟩ := hrel
            by_cases hlt2 : k < args.length
            · obtain ⟨b, o, x, hd, rfl, _, hcx, _⟩ := H2.out.getI hlt2
              by_cases hx0 : x < -1000000000
              · go_wp2
                go_ret
                exact No.out (by unfold fineF; rw [hall.out, hd.out, List.all_cons, argOk_no (.inl hx0)]; simp)
              · by_cases hx1 : 1000000000 < x
                · go_wp2
                  go_ret
                  exact No.out (by unfold fineF; rw [hall.out, hd.out, List.all_cons, argOk_no (.inr hx1)]; simp)
                · go_wp2
                  go_round
                  case rel =>
                    refine ⟨k + 1, by omega, by go_num, ?_⟩
                    unfold Hid; rw [hall.out, hd.out, List.all_cons, argOk_yes hx0 hx1]; rfl
                  case measure => simp [intOf]; omega
            · go_wp2
              go_ret
              refine ⟨ret_bool ?_, (Below.refl _ _).alloc (Nat.le_refl _) _⟩
              unfold fineF; rw [Hlt.out, hall.out, drop_end hlt2, Hsh.out]; rfl

end Go.Proofs.YtlipmagkplbkdaaDoor
