/-
  Layer 6: the walk of word.Strip.
-/
import Derived.Test.YtnhdjcdipnginaaDoorWq
namespace Go.Proofs.YtnhdjcdipnginaaDoor
open Go.RowKit

theorem closeIs_open {ms : List Mod} {n : Nat} {m : Mod} {r : Int × Int} (hc : checkF ms = 0) (hm : ms[n]? = some m) (h91 : m.name = 91) (h : CloseIs ms n r) : ∃ k : Nat, Fwd ms n k ∧ r = ((k : Int), 0) := by
  have hn := (List.getElem?_eq_some_iff.1 hm).1
  rcases h with ⟨h1, _⟩ | ⟨_, h2, _⟩ | ⟨_, n', m', hnn, h3, h4⟩
  · exact absurd hc h1
  · omega
  · have : n' = n := by omega
    subst this
    rw [hm] at h3; cases h3
    rcases h4 with ⟨a1, _⟩ | ⟨_, k, a2, a3⟩ | ⟨a1, _⟩
    · exact absurd h91 a1
    · exact ⟨k, a2, a3⟩
    · omega

set_option maxRecDepth 100000 in
set_option maxHeartbeats 2000000 in
theorem strip_calls (A : Option Addr) (c : Nat) (ms : List Mod) (w : World) (h : SlAt pMod (Old w) w A c ms) (hbd2 : ∀ m ∈ ms, m.args.length ≤ 1000) :
    Calls Tryd.prog 22 #[.slice A ms.length c] w (StripPost pModF ms w) := by
  have hmx := h.lenle
  have H := Lib.hid h; clear h
  have Hbd2 := Lib.hid hbd2; clear hbd2
  go_enter Tryd.func22, Tryd.ntmps22
  go_wp2_with fail
  refine (wordCheck_calls A c ms w H.out).mono ?_
  rintro e w2 ⟨rfl, hb1⟩
  have Hb2 := Lib.hid hb1; clear hb1
  have hs02 := Hb2.out.size
  by_cases hc : checkF ms = 0
  · have e1 : (checkF ms != 0) = false := by simp [hc]
    obtain ⟨hle, _, _, _, _, hpos, _⟩ := check_zero hc
    have Hc := Lib.hid hc
    have Hpos := Lib.hid hpos
    clear hpos hc
    go_wp2
    go_loopw [6, 5] (fun i out wr => ∃ k : Nat, k ≤ ms.length ∧ i = .int .i64 k ∧ Hid (Below w2.heap.size w2 wr) ∧ w2.heap.size ≤ wr.heap.size ∧ ∃ (done : List Mod) (A' : Option Addr) (c' : Nat), out = .slice A' done.length c' ∧ done.length ≤ k ∧
        Hid (Own pMod 40 w2.heap.size (fun _ => True) wr out done) ∧ Hid (trunk 0 ms = done ++ trunk 0 (ms.drop k)) ∧ Hid (dep ms k = 0)) (fun i _ _ => ms.length - (intOf i).toNat)
    case atStart => exact ⟨0, Nat.zero_le _, rfl, Below.refl _ _, Nat.le_refl _, [], none, 0, rfl, Nat.le_refl _, Own.nil, rfl, rfl⟩
    case round =>
      obtain ⟨k, hk, rfl, hb, hsz, done, Ao, co, rfl, hdk, hown, htr, hdz⟩ := hrel
      obtain ⟨wo, rfl⟩ : ∃ wo : World, wo = wr := ⟨_, rfl⟩
      have hbw := Hb2.out.trans (hb.out.mono hs02)
      have Hbw := Lib.hid hbw; clear hbw
      by_cases hlt : k < ms.length
      · have Hcl := Lib.hid (close_calls A c ms (k : Int) wo (H.out.later Hbw.out) (fits_i64 (by omega)))
        obtain ⟨b, o, A', c', m, hd, rfl, hob, hx0, hx1, hf8, hargs, _⟩ := (H.out.below Hbw.out).getMod hlt
        have Hf8 := Lib.hid hf8; clear hf8
        have Hds := Lib.hid (dep_succ hd.out)
        by_cases h91 : m.name = 91
        · have e2 : (m.name == 91) = true := by simp [h91]
          have Hn := Lib.hid h91; clear h91
          go_wp2_with fail
          refine Hcl.out.mono ?_
          rintro e w3 ⟨r, hr, rfl, hb3⟩
          obtain ⟨k', hF, rfl⟩ := closeIs_open Hc.out (get_of_drop hd.out) Hn.out hr
          have hk1 := hF.1
          have hk2 := hF.2.1
          have hdz2 : Hid (dep ms (k' + 1) = 0) := by unfold Hid; rw [hF.2.2.1]; exact hdz.out
          have htr2 : Hid (trunk 0 ms = done ++ trunk 0 (ms.drop (k' + 1))) := by
            unfold Hid; rw [htr.out, trunk_skip hdz.out hF (fun m' hm' => by rw [get_of_drop hd.out] at hm'; cases hm'; exact Hn.out)]
          clear hF hr
          have hb4 := hb.out.trans (hb3.mono hsz)
          have Hb4 := Lib.hid hb4
          have Hown3 := Lib.hid (hown.out.later hb3)
          clear hb3 hb4
          go_wp2
          go_roundw
          case rel => exact ⟨k' + 1, by omega, by go_num, Hb4, Hb4.out.size, done, Ao, co, rfl, by omega, Hown3, htr2, hdz2⟩
          case measure => simp [intOf]; omega
        · have e2 : (m.name == 91) = false := by simp [h91]
          have h93 : ¬ m.name = 93 := fun h93 => by
            have h1 := Hds.out
            rw [delta_close h93, hdz.out] at h1
            have := Hpos.out (k + 1) (by omega); omega
          have hd0 := delta_else h91 h93
          have hdz2 : Hid (dep ms (k + 1) = 0) := by unfold Hid; rw [Hds.out, hdz.out, hd0]; rfl
          have Hkeep : Hid (trunk 0 ms = (done ++ [m]) ++ trunk 0 (ms.drop (k + 1))) := by
            unfold Hid; rw [htr.out, hd.out, trunk_keep (by rw [hd0]; rfl) h93, hd0, List.append_assoc]; rfl
          clear h91 h93 hd0 Hcl
          have Hown2 := Lib.hid (hown.out.alloc (.cells #[.int .u8 m.name, .slice A' m.args.length c'] 40))
          have hbox := sl_boxed (E := pMod) (w := wo) (F := Old w) (u := .agg #[.int .u8 m.name, .slice A' m.args.length c']) (x := m) (e := 40) ⟨A', c', rfl, Hf8.out, hargs.out⟩ (fun q hq => Nat.lt_of_lt_of_le hq Hbw.out.size)
          have Hbox := Lib.hid hbox; clear hbox
          have hF : ∀ q, (Old w q ∨ q = wo.heap.size) → True ∧ q < (wo.alloc (.cells #[.int .u8 m.name, .slice A' m.args.length c'] 40)).heap.size ∧ some q ≠ (Value.slice Ao done.length co).ownBlock := fun q hq => by
            have hbs := Hbw.out.size
            refine ⟨trivial, ?_, fun he => ?_⟩
            · rcases hq with hq | hq
              · have : q < w.heap.size := hq
                simp; omega
              · simp; omega
            · have := hown.out.lt q he.symm
              rcases hq with hq | hq
              · have : q < w.heap.size := hq
                omega
              · omega
          have HF := Lib.hid hF; clear hF
          have hlen : (done ++ [m]).length = done.length + 1 := by simp
          have hb2' : Below w2.heap.size w2 (wo.alloc (.cells #[.int .u8 m.name, .slice A' m.args.length c'] 40)) := hb.out.alloc hsz _
          have Hb2' := Lib.hid hb2'; clear hb2'
          go_wp2_with ((with_reducible show wpList _ _ _ (Oper.mk (some 36) _ _ _ _ _ :: _) _ _); refine wpList_cat (E := pMod) (xs := done) 22 40 (.agg #[.int .u8 0, .slice none 0 0]) 32 (.tmp 30) (.tmp 35) rfl rfl Tryd.underlying22 info_mod rfl (by decide) rfl Hown2.out _ 1 [m] rfl _ Hbox.out HF.out (done.length + 1) hlen (room_of (by omega)) (by decide) Hb2'.out.size ?_; intro A6 c6 w6 hown6 hb6 hk6)
          go_roundw
          case rel =>
            have hb7 := Hb2'.out.trans hb6
            refine ⟨k + 1, by omega, by go_num, hb7, hb7.size, done ++ [m], A6, c6, by rw [hlen], by simp; omega, ?_, Hkeep, hdz2⟩
            exact hown6
          case measure => simp [intOf]; omega
      · have hfin : trunk 0 ms = done := by rw [htr.out, drop_end hlt]; simp [trunk]
        have Hfin := Lib.hid hfin; clear hfin
        obtain ⟨A3, c3, hv3, sl3⟩ := hown.out.sl
        cases hv3
        have sl3' : SlAt pMod (Old wo) wo Ao co done := sl3.wide fun q hq => hq.2
        have Sl3 := Lib.hid sl3'; clear sl3 sl3'
        have hst : stripF ms = (done, 0) := by rw [stripF_ok Hc.out, Hfin.out]
        have Hst := Lib.hid hst; clear hst
        have ha : ∀ m ∈ done, m.args.length ≤ 1000 := fun m hm => Hbd2.out m (trunk_mem ms 0 m (by rw [Hfin.out]; exact hm))
        have Ha := Lib.hid ha; clear ha
        go_wp2_with fail
        refine (twin_calls Ao co done wo Sl3.out (by omega) Ha.out).mono ?_
        rintro e w7 ⟨A7, c7, rfl, own7, hb7⟩
        have own7' := own7.mono (base' := w.heap.size) (G' := (w.heap.size ≤ ·)) Hbw.out.size (fun q hq => Nat.le_trans Hbw.out.size hq)
        have Own7 := Lib.hid own7'; clear own7 own7'
        have Hb7 := Lib.hid (Hbw.out.trans (hb7.mono Hbw.out.size)); clear hb7
        go_wp2
        go_ret2
        exact ⟨A7, c7, by simp only [Hst.out]; rfl, by simp only [Hst.out]; exact Own7.out, Hb7.out⟩
  · have e1 : (checkF ms != 0) = true := by simp [hc]
    have Hc := Lib.hid hc; clear hc
    go_wp2
    go_ret2
    exact ⟨none, 0, by rw [stripF_no Hc.out]; rfl, by rw [stripF_no Hc.out]; exact Own.nil, Hb2.out⟩
end Go.Proofs.YtnhdjcdipnginaaDoor
