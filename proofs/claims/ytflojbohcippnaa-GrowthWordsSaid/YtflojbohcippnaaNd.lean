/-
  Layer 10: the walk of the program's Check.
-/
import Derived.Test.YtflojbohcippnaaNc
namespace Go.Proofs.Ytflojbohcippnaa
open Go.RowKit Go.Sort

theorem fine_arity {rs : List Rul} (h : checkR rs = 0) : ∀ r ∈ rs, 0 ≤ r.arity := by
  intro r hr
  exact (fineR_guards (List.all_eq_true.1 (checkR_ok h).1 r hr)).1

set_option maxRecDepth 100000 in
set_option maxHeartbeats 4000000 in
theorem gCheck_calls (A : Option Addr) (c : Nat) (rs : List Rul) (p : ByteArray) (w : World) (h : SlAt pRul (Old w) w A c rs) (hs : Small rs) (hp : p.size ≤ 100) :
    Calls Try.prog 18 #[.slice A rs.length c, .string p] w (IntPost (checkG rs p) w) := by
  have hmx := h.lenle
  have H := Lib.hid h; clear h
  have Hs := Lib.hid hs; clear hs
  by_cases hck : checkR rs = 0
  · have e0 : (checkR rs != 0) = false := by simp [hck]
    by_cases hmany : 12 < p.size
    · have hr := checkG_many hck hmany
      have Hck := Lib.hid hck; clear hck
      have Hr := Lib.hid hr; clear hr
      go_enter Try.func18, Try.ntmps18
      go_wp2_with fail
      refine (rCheck_calls A c rs w H.out Hs.out).mono ?_
      rintro e w1 ⟨rfl, hb1⟩
      have z1 := hb1.size
      have Hb1 := Lib.hid hb1; clear hb1
      go_wp2
      go_ret
      exact ⟨by rw [Hr.out]; rfl, Hb1.out⟩
    · have hbad := checkG_bad hck hmany
      have hok := checkG_ok hck hmany
      have har := fine_arity hck
      have Hck := Lib.hid hck; clear hck
      have Hbad := Lib.hid hbad; clear hbad
      have Hok := Lib.hid hok; clear hok
      have Har := Lib.hid har; clear har
      go_enter Try.func18, Try.ntmps18
      go_wp2_with fail
      refine (rCheck_calls A c rs w H.out Hs.out).mono ?_
      rintro e w1 ⟨rfl, hb1⟩
      have z1 := hb1.size
      have Hb1 := Lib.hid hb1; clear hb1
      go_wp2
      clear e0 hmany
      go_loopw [6] (fun i wr => ∃ k : Nat, k ≤ p.size ∧ i = .int .i64 k ∧ Hid (Below w.heap.size w wr) ∧ w.heap.size ≤ wr.heap.size ∧ Hid (namedF p = namedFrom p ((bytesI p).drop k) k)) (fun i _ => p.size - (intOf i).toNat)
      case atStart => exact ⟨0, Nat.zero_le _, rfl, Hb1, z1, rfl⟩
      case round =>
        obtain ⟨k, hk, rfl, hb, hsz, hall⟩ := hrel
        obtain ⟨wo, rfl⟩ : ∃ wo : World, wo = wr := ⟨_, rfl⟩
        by_cases hlt : k < p.size
        · have hf := byte_fits hlt
          obtain ⟨x, hx⟩ : ∃ x, (p[k].toNat : Int) = x := ⟨_, rfl⟩
          rw [hx] at hf
          have hd : (bytesI p).drop k = x :: (bytesI p).drop (k + 1) := by rw [drop_bytesI hlt, hx]
          have step : namedF p = (letterB x && (x != 91) && (x != 93) && decide ((k : Int) ≤ atF p x) && namedFrom p ((bytesI p).drop (k + 1)) (k + 1)) := by rw [hall.out, hd, namedFrom_cons]
          clear hd
          have hrg := atF_rng p x
          by_cases ha : atF p x < k
          · have hy : namedF p = false := by rw [step, decide_eq_false (by omega)]; simp
            have hr := Hbad.out (.inl hy)
            have Hr := Lib.hid hr; clear hr
            clear step hy
            go_wp2_with fail
            refine (ixb_calls _ _ _ hf).mono ?_
            rintro e w' ⟨rfl, rfl⟩
            go_wp2
            go_ret
            exact ⟨by rw [Hr.out]; rfl, hb.out⟩
          · have hco := check_one x
            by_cases hc : checkF [⟨x, []⟩] = 0
            · have e1 : (checkF [⟨x, []⟩] != 0) = false := by simp [hc]
              have hy : namedF p = namedFrom p ((bytesI p).drop (k + 1)) (k + 1) := by
                obtain ⟨h1, h2, h3⟩ := hco.1 hc
                rw [step, h1, show (x != 91) = true from by simpa using h2, show (x != 93) = true from by simpa using h3, decide_eq_true (by omega)]; rfl
              have Hy := Lib.hid hy; clear hy
              clear step hco hc
              go_wp2_with fail
              refine (ixb_calls _ _ _ hf).mono ?_
              rintro e w' ⟨rfl, rfl⟩
              go_wp2_with fail
              ((with_reducible refine (oneCheck _ _ hf _ rfl).mono ?_))
              rintro e w2 ⟨rfl, hb2⟩
              have hbw : Below w.heap.size w w2 := (hb.out.alloc hsz _).trans (hb2.mono (by simp; omega))
              have Hbw := Lib.hid hbw; clear hbw
              clear hb2
              go_wp2
              go_roundw
              case rel => exact ⟨k + 1, by omega, by go_num, Hbw, Hbw.out.size, Hy⟩
              case measure => simp [intOf]; omega
            · have e1 : (checkF [⟨x, []⟩] != 0) = true := by simp [hc]
              have hy : namedF p = false := by
                rw [step]
                cases h1 : letterB x
                · rfl
                · cases h2 : (x != 91)
                  · rfl
                  · cases h3 : (x != 93)
                    · rfl
                    · exact absurd (hco.2 ⟨h1, by simpa using h2, by simpa using h3⟩) hc
              have hr := Hbad.out (.inl hy)
              have Hr := Lib.hid hr; clear hr
              clear step hco hc hy
              go_wp2_with fail
              refine (ixb_calls _ _ _ hf).mono ?_
              rintro e w' ⟨rfl, rfl⟩
              go_wp2_with fail
              ((with_reducible refine (oneCheck _ _ hf _ rfl).mono ?_))
              rintro e w2 ⟨rfl, hb2⟩
              have hbw : Below w.heap.size w w2 := (hb.out.alloc hsz _).trans (hb2.mono (by simp; omega))
              have Hbw := Lib.hid hbw; clear hbw
              clear hb2
              go_wp2
              go_ret
              exact ⟨by rw [Hr.out]; rfl, Hbw.out⟩
        · have hnm : namedF p = true := by rw [hall.out, drop_end (by rw [bytesI_length]; exact hlt)]; rfl
          have Hnm := Lib.hid hnm; clear hnm
          go_wp2
          clear hlt
          go_loopw [43] (fun i wr => ∃ k : Nat, k ≤ rs.length ∧ i = .int .i64 k ∧ Hid (Below w.heap.size w wr) ∧ w.heap.size ≤ wr.heap.size ∧ Hid (rs.all (plainF p) = (rs.drop k).all (plainF p))) (fun i _ => rs.length - (intOf i).toNat)
          case atStart => exact ⟨0, Nat.zero_le _, rfl, hb, hsz, rfl⟩
          case round =>
            clear hall
            obtain ⟨j, hj, rfl, hb2, hsz2, hall⟩ := hrel
            obtain ⟨wp, rfl⟩ : ∃ wp : World, wp = wr := ⟨_, rfl⟩
            by_cases hlt : j < rs.length
            · obtain ⟨b, o, A1, c1, A2, c2, r, hd, rfl, hob, k0, k1, k2, k3, k4, k5, k6, hat, hl1, hl2⟩ := (H.out.below hb2.out).getRulAt hlt
              have hob' : b < wp.heap.size := Nat.lt_of_lt_of_le hob hsz2
              have hmem := mem_of_drop hd.out
              have h0 := Har.out r hmem
              have hrg := atF_rng p r.name
              have hbr : plainF p r = false → checkG rs p = 8 := fun hfm => Hbad.out (.inr (by rw [hall.out, hd.out, List.all_cons, hfm]; rfl))
              have hnx : plainF p r = true → rs.all (plainF p) = (rs.drop (j + 1)).all (plainF p) := fun hfm => by rw [hall.out, hd.out, List.all_cons, hfm]; rfl
              have hbz : Below w.heap.size w (wp.alloc (.cells #[.int .u8 r.name, .int .i64 r.arity, .int .u8 r.left, .int .u8 r.right, .slice A1 r.guards.length c1, .int .i64 r.weight, .slice A2 r.out.length c2] 61)) := hb2.out.alloc hsz2 _
              have hfn := hat.out.fn
              have Hbr := Lib.hid hbr; clear hbr
              have Hnx := Lib.hid hnx; clear hnx
              have Hbz := Lib.hid hbz; clear hbz
              have Hmem := Lib.hid hmem; clear hmem
              by_cases h1 : 0 < r.arity
              · have hr := Hbr.out (plainF_no (.inl (by simp; omega)))
                have Hr := Lib.hid hr; clear hr
                go_wp2
                go_ret
                exact ⟨by rw [Hr.out]; rfl, Hbz.out⟩
              by_cases h2 : 0 < r.guards.length
              · have hr := Hbr.out (plainF_no (.inr (.inl h2)))
                have Hr := Lib.hid hr; clear hr
                go_wp2
                go_ret
                exact ⟨by rw [Hr.out]; rfl, Hbz.out⟩
              by_cases h3 : atF p r.name < 0
              · have hr := Hbr.out (plainF_no (.inr (.inr h3)))
                have Hr := Lib.hid hr; clear hr
                go_wp2_with fail
                refine (ixb_calls _ _ _ hfn).mono ?_
                rintro e w' ⟨rfl, rfl⟩
                go_wp2
                go_ret
                exact ⟨by rw [Hr.out]; rfl, Hbz.out⟩
              have hff := plainF_out (r := r) (p := p) (by simp; omega) h2 h3
              have hal : Blk (wp.alloc (.cells #[.int .u8 r.name, .int .i64 r.arity, .int .u8 r.left, .int .u8 r.right, .slice A1 r.guards.length c1, .int .i64 r.weight, .slice A2 r.out.length c2] 61)) wp.heap.size 61 #[.int .u8 r.name, .int .i64 r.arity, .int .u8 r.left, .int .u8 r.right, .slice A1 r.guards.length c1, .int .i64 r.weight, .slice A2 r.out.length c2] := Blk.new _ _ _
              have Hff := Lib.hid hff; clear hff
              have Hal := Lib.hid hal; clear hal
              go_wp2_with fail
              refine (ixb_calls _ _ _ hfn).mono ?_
              rintro e w' ⟨rfl, rfl⟩
              go_wp2
              clear h1 h2 h3 hrg h0 k0 k1 k2 k3 k4 k5 k6
              go_loopw [66] (fun i wr => ∃ k : Nat, k ≤ r.out.length ∧ i = .int .i64 k ∧ Hid (Below w.heap.size w wr) ∧ w.heap.size ≤ wr.heap.size ∧ Hid (plainF p r = (r.out.drop k).all (plainS p))) (fun i _ => r.out.length - (intOf i).toNat)
              case atStart => exact ⟨0, Nat.zero_le _, rfl, Hbz, Hbz.out.size, Hff⟩
              case round =>
                clear hall
                obtain ⟨m, hm, rfl, hb3, hsz3, hall⟩ := hrel
                obtain ⟨wq, rfl⟩ : ∃ wq : World, wq = wr := ⟨_, rfl⟩
                by_cases hlt2 : m < r.out.length
                · obtain ⟨b3, o3, A3, c3, s, hds, rfl, hob3, hs0, hs1, hsc, hsa, hsl⟩ := (hat.out.so.keep (w' := wq) fun q hq => (hb3.out.block q hq).trans (hb2.out.block q hq).symm).getShp hlt2
                  have hob3' : b3 < wq.heap.size := Nat.lt_of_lt_of_le hob3 hsz3
                  have hrs := atF_rng p s.name
                  have yes : plainS p s = true → plainF p r = (r.out.drop (m + 1)).all (plainS p) := fun hy => by rw [hall.out, hds.out, List.all_cons, hy]; rfl
                  have no : plainS p s = false → checkG rs p = 8 := fun hy => Hbr.out (by rw [hall.out, hds.out, List.all_cons, hy]; rfl)
                  have hbs : Below w.heap.size w (wq.alloc (.cells #[.int .u8 s.name, .slice A3 s.args.length c3] 65)) := hb3.out.alloc hsz3 _
                  have Hbs := Lib.hid hbs; clear hbs
                  rcases plainS_cases p s with ⟨hc, h1 | ⟨h1, h2, h3, h4⟩⟩ | ⟨hc, h1, h2, _⟩
                  · have hn := no hc
                    have Hn := Lib.hid hn; clear hn
                    clear yes no hc
                    go_wp2
                    go_ret
                    exact ⟨by rw [Hn.out]; rfl, Hbs.out⟩
                  · have hn := no hc
                    have Hn := Lib.hid hn; clear hn
                    clear yes no hc h2 h3
                    go_wp2_with fail
                    refine (ixb_calls _ _ _ hsc).mono ?_
                    rintro e w' ⟨rfl, rfl⟩
                    go_wp2
                    go_ret
                    exact ⟨by rw [Hn.out]; rfl, Hbs.out⟩
                  · have hn := yes hc
                    have Hn := Lib.hid hn; clear hn
                    clear yes no hc
                    go_wp2_with fail
                    refine (ixb_calls _ _ _ hsc).mono ?_
                    rintro e w' ⟨rfl, rfl⟩
                    go_wp2
                    go_roundw
                    case rel => exact ⟨m + 1, by omega, by go_num, Hbs, Hbs.out.size, Hn⟩
                    case measure => simp [intOf]; omega
                · have hn := Hnx.out (by rw [hall.out, drop_end hlt2]; rfl)
                  have Hn := Lib.hid hn; clear hn
                  go_wp2
                  go_roundw
                  case rel => exact ⟨j + 1, by omega, by go_num, hb3, hsz3, Hn⟩
                  case measure => simp [intOf]; omega
            · have hr := Hok.out Hnm.out (by rw [hall.out, drop_end hlt]; rfl)
              have Hr := Lib.hid hr; clear hr
              go_wp2
              go_ret
              exact ⟨by rw [Hr.out]; rfl, hb2.out⟩
  · have e0 : (checkR rs != 0) = true := by simp [hck]
    have hr := checkG_rules (p := p) hck
    have Hr := Lib.hid hr; clear hr
    have Hck := Lib.hid hck; clear hck
    go_enter Try.func18, Try.ntmps18
    go_wp2_with fail
    refine (rCheck_calls A c rs w H.out Hs.out).mono ?_
    rintro e w1 ⟨rfl, hb1⟩
    have z1 := hb1.size
    have Hb1 := Lib.hid hb1; clear hb1
    go_wp2
    go_ret
    exact ⟨by rw [Hr.out]; rfl, Hb1.out⟩
end Go.Proofs.Ytflojbohcippnaa
