/-
  Layer 10: the walks of plain and of the two Checks.
-/
import Derived.Test.YtflojbohcippnaaNb
namespace Go.Proofs.Ytflojbohcippnaa
open Go.RowKit Go.Sort

theorem plainF_no {p : ByteArray} {r : Rul} (h : (r.arity != 0) = true ∨ 0 < r.guards.length ∨ atF p r.name < 0) : plainF p r = false := by
  unfold plainF
  rcases h with h | h | h
  · have : r.arity ≠ 0 := by simpa using h
    simp [this]
  · have : r.guards.length ≠ 0 := by omega
    have h3 : (r.guards.length == 0) = false := by simpa using this
    rw [h3]; simp
  · rw [decide_eq_false (by omega)]; simp
theorem plainF_out {p : ByteArray} {r : Rul} (h : (r.arity != 0) = false) (h1 : ¬ 0 < r.guards.length) (h2 : ¬ atF p r.name < 0) : plainF p r = r.out.all (plainS p) := by
  unfold plainF
  have h3 : r.arity = 0 := by simpa using h
  have h4 : r.guards.length = 0 := by omega
  rw [h3, h4, decide_eq_true (by omega)]; rfl
/-- the shape's test, as both texts make it -/
theorem plainS_cases (p : ByteArray) (s : Shp) : (plainS p s = false ∧ (0 < s.args.length ∨ (¬ 0 < s.args.length ∧ (s.name == 91 || s.name == 93) = false ∧ atF p s.name < 0 ∧ atF (p ++ ⟨#[91, 93]⟩) s.name < 0))) ∨
    (plainS p s = true ∧ ¬ 0 < s.args.length ∧ ¬ atF (p ++ ⟨#[91, 93]⟩) s.name < 0 ∧ ((s.name == 91 || s.name == 93) = true ∨ ((s.name == 91 || s.name == 93) = false ∧ ¬ atF p s.name < 0))) := by
  have hb := atF_brk p s.name
  unfold plainS
  by_cases h1 : 0 < s.args.length
  · left
    refine ⟨?_, .inl h1⟩
    rw [show (s.args.length == 0) = false from by simp; intro h; rw [h] at h1; simp at h1]; rfl
  · have h2 : (s.args.length == 0) = true := by simp; exact List.eq_nil_of_length_eq_zero (by omega)
    rw [h2]
    by_cases h3 : s.name = 91
    · right; refine ⟨by simp [h3], h1, fun h => (hb.1 h).2.1 h3, .inl (by simp [h3])⟩
    · by_cases h4 : s.name = 93
      · right; refine ⟨by simp [h4], h1, fun h => (hb.1 h).2.2 h4, .inl (by simp [h4])⟩
      · have h5 : (s.name == 91) = false := by simpa using h3
        have h6 : (s.name == 93) = false := by simpa using h4
        by_cases h7 : atF p s.name < 0
        · left; exact ⟨by rw [h5, h6, decide_eq_false (by omega)]; rfl, .inr ⟨h1, by rw [h5, h6]; rfl, h7, hb.2 ⟨h7, h3, h4⟩⟩⟩
        · right; exact ⟨by rw [decide_eq_true (by omega)]; simp, h1, fun h => h7 (hb.1 h).1, .inr ⟨by rw [h5, h6]; rfl, h7⟩⟩

set_option maxRecDepth 100000 in
set_option maxHeartbeats 2000000 in
theorem plain_calls (r : Rul) (A : Option Addr) (c : Nat) (A2 : Option Addr) (c2 : Nat) (p : ByteArray) (w : World) (h : RulAt r (Old w) w A c A2 c2) (hp : p.size ≤ 100) :
    Calls Try.prog 28 #[.agg #[.int .u8 r.name, .int .i64 r.arity, .int .u8 r.left, .int .u8 r.right, .slice A r.guards.length c, .int .i64 r.weight, .slice A2 r.out.length c2], .string p] w (BoolPost (plainF p r) w) := by
  have hmx := h.sg.lenle
  have hmo := h.so.lenle
  obtain ⟨W0, hW0⟩ : ∃ W0, W0 = w.alloc (.cells #[.int .u8 r.name, .int .i64 r.arity, .int .u8 r.left, .int .u8 r.right, .slice A r.guards.length c, .int .i64 r.weight, .slice A2 r.out.length c2] 61) := ⟨_, rfl⟩
  have hb0 : Below w.heap.size w W0 := by rw [hW0]; exact (Below.refl _ _).alloc (Nat.le_refl _) _
  have hbr0 : Blk W0 w.heap.size 61 #[.int .u8 r.name, .int .i64 r.arity, .int .u8 r.left, .int .u8 r.right, .slice A r.guards.length c, .int .i64 r.weight, .slice A2 r.out.length c2] := by rw [hW0]; exact Blk.new _ _ _
  have hrg := atF_rng p r.name
  have hai := h.fa.i64
  have H := Lib.hid h; clear h
  have Hb0 := Lib.hid hb0; clear hb0
  have Hbr0 := Lib.hid hbr0; clear hbr0
  have HW0 := Lib.hid hW0; clear hW0
  cases h1 : (r.arity != 0)
  · by_cases h2 : 0 < r.guards.length
    · have hno := plainF_no (p := p) (.inr (.inl h2))
      have Hno := Lib.hid hno; clear hno
      go_enter Try.func28, Try.ntmps28
      go_wp2
      go_ret
      exact ⟨by rw [Hno.out]; rfl, by rw [← HW0.out]; exact Hb0.out⟩
    · by_cases h3 : atF p r.name < 0
      · have hno := plainF_no (r := r) (.inr (.inr h3))
        have Hno := Lib.hid hno; clear hno
        go_enter Try.func28, Try.ntmps28
        go_wp2_with fail
        refine (at_calls _ _ _ hp).mono ?_
        rintro e w' ⟨rfl, rfl⟩
        go_wp2
        go_ret
        exact ⟨by rw [Hno.out]; rfl, by rw [← HW0.out]; exact Hb0.out⟩
      · have hff := plainF_out h1 h2 h3
        obtain ⟨x0, x1, x2, x3, x4, x5, x6⟩ := Hbr0.out.rul
        have Hff := Lib.hid hff; clear hff
        go_enter Try.func28, Try.ntmps28
        go_wp2_with fail
        refine (at_calls _ _ _ hp).mono ?_
        rintro e w' ⟨rfl, rfl⟩
        go_wp2
        rw [← HW0.out]
        clear h1 h2 h3 hrg
        go_loop [5] (fun i => ∃ j : Nat, j ≤ r.out.length ∧ i = .int .i64 j ∧ Hid (plainF p r = (r.out.drop j).all (plainS p))) (fun i => r.out.length - (intOf i).toNat)
        case atStart => exact ⟨0, Nat.zero_le _, rfl, Hff⟩
        case round =>
          obtain ⟨j, hj, rfl, hall⟩ := hrel
          clear x0 x1 x2 x3 x4 x5
          by_cases hlt : j < r.out.length
          · obtain ⟨b3, o3, A3, c3, s, hds, rfl, hob3, hs0, hs1, hsc, hsa, hsl⟩ := (H.out.so.below Hb0.out).getShp hlt
            have hrs := atF_rng p s.name
            have yes : plainS p s = true → plainF p r = (r.out.drop (j + 1)).all (plainS p) := fun hy => by rw [hall.out, hds.out, List.all_cons, hy]; rfl
            have no : plainS p s = false → plainF p r = false := fun hy => by rw [hall.out, hds.out, List.all_cons, hy]; rfl
            rcases plainS_cases p s with ⟨hc, h1 | ⟨h1, h2, h3, h4⟩⟩ | ⟨hc, h1, h2, h3 | ⟨h3, h4⟩⟩
            · have hn := no hc
              have Hn := Lib.hid hn; clear hn
              clear yes no hc
              go_wp2
              go_ret
              exact ⟨by rw [Hn.out]; rfl, Hb0.out⟩
            · have hn := no hc
              have Hn := Lib.hid hn; clear hn
              clear yes no hc h4
              go_wp2_with fail
              refine (bracket_calls _ _).mono ?_
              rintro e w' ⟨rfl, rfl⟩
              rw [h2]
              go_wp2_with fail
              refine (at_calls _ _ _ hp).mono ?_
              rintro e w' ⟨rfl, rfl⟩
              go_wp2
              go_ret
              exact ⟨by rw [Hn.out]; rfl, Hb0.out⟩
            · have hn := yes hc
              have Hn := Lib.hid hn; clear hn
              clear yes no hc h2
              go_wp2_with fail
              refine (bracket_calls _ _).mono ?_
              rintro e w' ⟨rfl, rfl⟩
              rw [h3]
              go_wp2
              go_round
              case rel => exact ⟨j + 1, by omega, by go_num, Hn⟩
              case measure => simp [intOf]; omega
            · have hn := yes hc
              have Hn := Lib.hid hn; clear hn
              clear yes no hc h2
              go_wp2_with fail
              refine (bracket_calls _ _).mono ?_
              rintro e w' ⟨rfl, rfl⟩
              rw [h3]
              go_wp2_with fail
              refine (at_calls _ _ _ hp).mono ?_
              rintro e w' ⟨rfl, rfl⟩
              go_wp2
              go_round
              case rel => exact ⟨j + 1, by omega, by go_num, Hn⟩
              case measure => simp [intOf]; omega
          · go_wp2
            go_ret
            exact ⟨ret_bool (by rw [hall.out, drop_end hlt]; rfl), Hb0.out⟩
  · have hno := plainF_no (p := p) (.inl h1)
    have Hno := Lib.hid hno; clear hno
    go_enter Try.func28, Try.ntmps28
    go_wp2
    go_ret
    exact ⟨by rw [Hno.out]; rfl, by rw [← HW0.out]; exact Hb0.out⟩

set_option maxRecDepth 100000 in
set_option maxHeartbeats 2000000 in
theorem refGCheck_calls (A : Option Addr) (c : Nat) (rs : List Rul) (p : ByteArray) (w : World) (h : SlAt pRul (Old w) w A c rs) (hs : Small rs) (hp : p.size ≤ 100) :
    Calls Try.prog 12 #[.slice A rs.length c, .string p] w (IntPost (checkG rs p) w) := by
  have hmx := h.lenle
  have H := Lib.hid h; clear h
  have Hs := Lib.hid hs; clear hs
  by_cases hck : checkR rs = 0
  · have e0 : (checkR rs != 0) = false := by simp [hck]
    by_cases hmany : 12 < p.size
    · have hr := checkG_many hck hmany
      have Hck := Lib.hid hck; clear hck
      have Hr := Lib.hid hr; clear hr
      go_enter Try.func12, Try.ntmps12
      go_wp2_with fail
      refine (refRCheck_calls A c rs w H.out Hs.out).mono ?_
      rintro e w1 ⟨rfl, hb1⟩
      have z1 := hb1.size
      have Hb1 := Lib.hid hb1; clear hb1
      go_wp2
      go_ret
      exact ⟨by rw [Hr.out]; rfl, Hb1.out⟩
    · have hbad := checkG_bad hck hmany
      have hok := checkG_ok hck hmany
      have Hck := Lib.hid hck; clear hck
      have Hbad := Lib.hid hbad; clear hbad
      have Hok := Lib.hid hok; clear hok
      cases hnm : namedF p
      · have hr := Hbad.out (.inl hnm)
        have Hr := Lib.hid hr; clear hr
        go_enter Try.func12, Try.ntmps12
        go_wp2_with fail
        refine (refRCheck_calls A c rs w H.out Hs.out).mono ?_
        rintro e w1 ⟨rfl, hb1⟩
        have z1 := hb1.size
        have Hb1 := Lib.hid hb1; clear hb1
        go_wp2_with fail
        refine (named_calls _ _ hp).mono ?_
        rintro e w' ⟨rfl, rfl⟩
        rw [hnm]
        go_wp2
        go_ret
        exact ⟨by rw [Hr.out]; rfl, Hb1.out⟩
      · go_enter Try.func12, Try.ntmps12
        go_wp2_with fail
        refine (refRCheck_calls A c rs w H.out Hs.out).mono ?_
        rintro e w1 ⟨rfl, hb1⟩
        have z1 := hb1.size
        have Hb1 := Lib.hid hb1; clear hb1
        go_wp2_with fail
        refine (named_calls _ _ hp).mono ?_
        rintro e w' ⟨rfl, rfl⟩
        rw [hnm]
        have Hnm := Lib.hid hnm; clear hnm
        go_wp2
        clear e0 hmany
        go_loopw [5] (fun i wr => ∃ k : Nat, k ≤ rs.length ∧ i = .int .i64 k ∧ Hid (Below w.heap.size w wr) ∧ w.heap.size ≤ wr.heap.size ∧ Hid (rs.all (plainF p) = (rs.drop k).all (plainF p))) (fun i _ => rs.length - (intOf i).toNat)
        case atStart => exact ⟨0, Nat.zero_le _, rfl, Hb1, z1, rfl⟩
        case round =>
          obtain ⟨j, hj, rfl, hb2, hsz2, hall⟩ := hrel
          obtain ⟨wp, rfl⟩ : ∃ wp : World, wp = wr := ⟨_, rfl⟩
          by_cases hlt : j < rs.length
          · obtain ⟨b, o, A1, c1, A2, c2, r, hd, rfl, hob, k0, k1, k2, k3, k4, k5, k6, hat, hl1, hl2⟩ := (H.out.below hb2.out).getRulAt hlt
            have hcall := plain_calls r A1 c1 A2 c2 p wp (hat.out.to hsz2 (Below.refl _ _)) hp
            have Hcall := Lib.hid hcall; clear hcall
            go_wp2_with fail
            refine (Hcall.out).mono ?_
            rintro e w2 ⟨rfl, hb3⟩
            have hbw : Below w.heap.size w w2 := hb2.out.trans (hb3.mono hsz2)
            have Hbw := Lib.hid hbw; clear hbw
            clear hb3 k0 k1 k2 k3 k4 k5 k6
            cases hfm : plainF p r
            · have hr := Hbad.out (.inr (by rw [hall.out, hd.out, List.all_cons, hfm]; rfl))
              have Hr := Lib.hid hr; clear hr
              go_wp2
              go_ret
              exact ⟨by rw [Hr.out]; rfl, Hbw.out⟩
            · have hn : rs.all (plainF p) = (rs.drop (j + 1)).all (plainF p) := by rw [hall.out, hd.out, List.all_cons, hfm]; rfl
              have Hn := Lib.hid hn; clear hn
              go_wp2
              go_roundw
              case rel => exact ⟨j + 1, by omega, by go_num, Hbw, Hbw.out.size, Hn⟩
              case measure => simp [intOf]; omega
          · have hr := Hok.out Hnm.out (by rw [hall.out, drop_end hlt]; rfl)
            have Hr := Lib.hid hr; clear hr
            go_wp2
            go_ret
            exact ⟨by rw [Hr.out]; rfl, hb2.out⟩
  · have e0 : (checkR rs != 0) = true := by simp [hck]
    have hr := checkG_rules (p := p) hck
    have Hr := Lib.hid hr; clear hr
    have Hck := Lib.hid hck; clear hck
    go_enter Try.func12, Try.ntmps12
    go_wp2_with fail
    refine (refRCheck_calls A c rs w H.out Hs.out).mono ?_
    rintro e w1 ⟨rfl, hb1⟩
    have z1 := hb1.size
    have Hb1 := Lib.hid hb1; clear hb1
    go_wp2_with fail
    refine (refRCheck_calls A c rs w1 (H.out.later Hb1.out) Hs.out).mono ?_
    rintro e w2 ⟨rfl, hb2⟩
    have Hb2 := Lib.hid (Hb1.out.trans (hb2.mono z1)); clear hb2
    have z2 := Hb2.out.size
    go_wp2
    go_ret
    exact ⟨by rw [Hr.out]; rfl, Hb2.out⟩
end Go.Proofs.Ytflojbohcippnaa
