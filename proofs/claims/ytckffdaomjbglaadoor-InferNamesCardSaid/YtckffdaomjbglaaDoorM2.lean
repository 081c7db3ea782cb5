/-
  Several texts in one.
-/
import Derived.Test.YtckffdaomjbglaaDoorRq
import Derived.Test.YtckffdaomjbglaaDoorFi
import Derived.Test.YtckffdaomjbglaaDoorM1
import Derived.Test.YtckffdaomjbglaaDoorRs
import Derived.Test.YtckffdaomjbglaaDoorWh
import Derived.Lib.ItoaNum
import Derived.Lib.ItoaMem
import Derived.Lib.AtoiTie
import Derived.Shelf.Strings.BuilderK
import Derived.Test.YtckffdaomjbglaaDoorShelf
import Derived.Lib.AppendIntMem
import Derived.Lib.VarintMem
import Derived.Lib.CutLaws
import Derived.Lib.SplitLaws
import Derived.Lib.IndexBytes
import Derived.Lib.AtoiErrMem
import Derived.Test.YtckffdaomjbglaaDoorLi
import Derived.Test.YtckffdaomjbglaaDoorWk
import Derived.Test.YtckffdaomjbglaaDoorJa
import Derived.Test.YtckffdaomjbglaaDoorJd
import Derived.Test.YtckffdaomjbglaaDoorOp
import Derived.Laws.Rows
/-! Rt -/
namespace Go.Proofs.YtckffdaomjbglaaDoor
open Go.RowKit Go.Sort

theorem sl_one {α : Type} {E : Rp α} {F : Nat → Prop} {w : World} {b o cap : Nat} {xs : List α} {i : Nat} {x : α} (h : SlAt E F w (some ⟨b, o, none⟩) cap xs) (hx : xs[i]? = some x) : SlAt E F w (some ⟨b, o + i * E.n, none⟩) (cap - i) [x] := by
  have hi : i < xs.length := (List.getElem?_eq_some_iff.1 hx).1
  have hle := h.le
  have hmx := h.mx
  refine ⟨by simp; omega, by omega, (fun e => by cases e), fun j y hy => ?_⟩
  have hj : j = 0 := by have := (List.getElem?_eq_some_iff.1 hy).1; simpa using this
  subst hj
  simp at hy; subst hy
  obtain ⟨b', o', cs, h1, h2, h3, h4⟩ := h.el i _ hx
  cases h1
  exact ⟨b, o + i * E.n, cs, rfl, h2, h3, fun j c hc => by rw [Nat.zero_mul, Nat.add_zero]; exact h4 j c hc⟩
theorem outsF_le {rs : List Rul} {m : Mod} (h : ∀ r ∈ rs, r.out.length ≤ 30) : (outsF rs m).length ≤ 30 := by
  rcases outsF_cases rs m with ⟨_, h1⟩ | ⟨j, r, _, h2, _, h3⟩
  · rw [h1]; simp
  · rw [h3, List.length_map]; exact h r (List.mem_of_getElem? h2)
theorem succF_le {rs : List Rul} (h : ∀ r ∈ rs, r.out.length ≤ 30) : ∀ (ms : List Mod), (succF rs ms).length ≤ ms.length * 30
  | [] => by simp [succF]
  | m :: ms => by
    have h1 := outsF_le (m := m) h
    have h2 := succF_le h ms
    have e : succF rs (m :: ms) = outsF rs m ++ succF rs ms := rfl
    rw [e, List.length_append, List.length_cons]
    omega
theorem stepF_not {rs : List Rul} {ms : List Mod} {k : Nat} {m : Mod} (hd : ms.drop k = m :: ms.drop (k + 1)) (h : (outsF rs m).all (·.2) = false) : stepF rs ms = ([], 16) := by
  unfold stepF
  rw [if_neg]
  intro hall
  obtain ⟨t, ht⟩ := succF_prefix (rs := rs) (ms := ms) (k + 1)
  rw [← ht, List.all_append, Bool.and_eq_true, succF_snoc hd, List.all_append, Bool.and_eq_true, h] at hall
  exact Bool.noConfusion hall.1.2

def RefStepPost (rs : List Rul) (ms : List Mod) (w : World) (e : Ending) (w' : World) : Prop :=
  ∃ A c, e = .returned (.tuple #[.slice A (rStepF rs ms).1.length c, .int .i64 (rStepF rs ms).2]) ∧ Own pMod 50 w.heap.size (w.heap.size ≤ ·) w' (.slice A (rStepF rs ms).1.length c) (rStepF rs ms).1 ∧ Below w.heap.size w w'

end Go.Proofs.YtckffdaomjbglaaDoor

/-! Ru -/
namespace Go.Proofs.YtckffdaomjbglaaDoor
open Go.RowKit Go.Sort

theorem rOpen_calls (A : Option Addr) (c : Nat) (rs : List Rul) (B : Option Addr) (cb : Nat) (ms : List Mod) (w : World) (h : SlAt pRul (Old w) w A c rs) (h' : SlAt pMod (Old w) w B cb ms) (hs : Small rs) :
    Calls Tryd.prog 36 #[.slice A rs.length c, .slice B ms.length cb] w (IntPost (openR rs ms) w) := by
  have hck := rCheck_calls A c rs w h hs
  have H := Lib.hid h; clear h
  have H' := Lib.hid h'; clear h'
  have Hck := Lib.hid hck; clear hck
  go_enter Tryd.func36, Tryd.ntmps36
  go_wp2_with fail
  refine Hck.out.mono ?_
  rintro e w1 ⟨rfl, hb1⟩
  have hz1 := hb1.size
  by_cases hr : checkR rs = 0
  · have e0 : (checkR rs != 0) = false := by simp [hr]
    have hff : openR rs ms = checkF ms := by unfold openR; rw [if_pos hr]
    have hcw := wordCheck_calls B cb ms w1 (H'.out.later hb1)
    have Hb1 := Lib.hid hb1; clear hb1
    have Hff := Lib.hid hff; clear hff
    have Hr := Lib.hid hr; clear hr
    have Hcw := Lib.hid hcw; clear hcw
    go_wp2_with fail
    refine Hcw.out.mono ?_
    rintro e w2 ⟨rfl, hb2⟩
    have hbw2 := Hb1.out.trans (hb2.mono hz1)
    have Hbw2 := Lib.hid hbw2; clear hbw2
    clear hb2
    go_wp2
    go_ret
    exact ⟨ret_int Hff.out.symm, Hbw2.out⟩
  · have e0 : (checkR rs != 0) = true := by simp [hr]
    have hff : openR rs ms = checkR rs := by unfold openR; rw [if_neg hr]
    have Hb1 := Lib.hid hb1; clear hb1
    have Hff := Lib.hid hff; clear hff
    have Hr := Lib.hid hr; clear hr
    go_wp2
    go_ret
    exact ⟨ret_int Hff.out.symm, Hb1.out⟩

theorem openR_ok {rs : List Rul} {ms : List Mod} (h : openR rs ms = 0) : checkR rs = 0 ∧ checkF ms = 0 := by
  unfold openR at h
  by_cases hr : checkR rs = 0
  · rw [if_pos hr] at h; exact ⟨hr, h⟩
  · rw [if_neg hr] at h; exact absurd h hr

def RStepPost (rs : List Rul) (ms : List Mod) (w : World) (e : Ending) (w' : World) : Prop :=
  ∃ A c, e = .returned (.tuple #[.slice A (rStepF rs ms).1.length c, .int .i64 (rStepF rs ms).2]) ∧ Own pModF 50 w.heap.size (w.heap.size ≤ ·) w' (.slice A (rStepF rs ms).1.length c) (rStepF rs ms).1 ∧ Below w.heap.size w w'

def RRunPost (rs : List Rul) (ms : List Mod) (n : Int) (w : World) (e : Ending) (w' : World) : Prop :=
  ∃ A c, e = .returned (.tuple #[.slice A (rRunF rs ms n).1.length c, .int .i64 (rRunF rs ms n).2]) ∧ Own pModF 50 w.heap.size (w.heap.size ≤ ·) w' (.slice A (rRunF rs ms n).1.length c) (rRunF rs ms n).1 ∧ Below w.heap.size w w'
theorem iterR_step {rs : List Rul} {n : Nat} {ms : List Mod} : iterR rs (n + 1) ms = if (stepF rs ms).2 = 0 then iterR rs n (stepF rs ms).1 else ([], (stepF rs ms).2) := rfl

set_option maxRecDepth 100000 in
set_option maxHeartbeats 1000000 in
theorem rRun_calls (A : Option Addr) (c : Nat) (rs : List Rul) (B : Option Addr) (cb : Nat) (ms : List Mod) (n : Int) (w : World) (h : SlAt pRul (Old w) w A c rs) (h' : SlAt pMod (Old w) w B cb ms) (hs : Small rs) (hn : Fits .i64 n) :
    Calls Tryd.prog 27 #[.slice A rs.length c, .slice B ms.length cb, .int .i64 n] w (RRunPost rs ms n w) := by
  have hck := rOpen_calls A c rs B cb ms w h h' hs
  have hn64 := hn.i64
  have H := Lib.hid h; clear h
  have H' := Lib.hid h'; clear h'
  have Hck := Lib.hid hck; clear hck
  have Hn := Lib.hid hn; clear hn
  go_enter Tryd.func27, Tryd.ntmps27
  go_wp2_with fail
  refine Hck.out.mono ?_
  rintro e w1 ⟨rfl, hb1⟩
  have hz1 := hb1.size
  by_cases hr : openR rs ms = 0
  case neg =>
    have e0 : (openR rs ms != 0) = true := by simp [hr]
    have hff : rRunF rs ms n = ([], openR rs ms) := by unfold rRunF; rw [if_neg hr]
    have Hb1 := Lib.hid hb1; clear hb1
    have Hff := Lib.hid hff; clear hff
    have Hr := Lib.hid hr; clear hr
    go_wp2
    go_ret2
    exact ⟨none, 0, by rw [Hff.out]; rfl, by rw [Hff.out]; exact Own.nil, Hb1.out⟩
  case pos =>
  have e0 : (openR rs ms != 0) = false := by simp [hr]
  obtain ⟨hr1, hr2⟩ := openR_ok hr
  have hcore := (checkR_ok hr1).1
  have hfine := checkF_fine hr2
  have hle := checkF_le hr2
  by_cases hbad : n < 0
  · have hff : rRunF rs ms n = ([], 2) := by unfold rRunF; rw [if_pos hr, if_pos (.inl hbad)]
    have Hb1 := Lib.hid hb1; clear hb1
    have Hff := Lib.hid hff; clear hff
    have Hr := Lib.hid hr; clear hr
    clear hr1 hr2 hcore hfine
    go_wp2
    go_ret2
    exact ⟨none, 0, by rw [Hff.out]; rfl, by rw [Hff.out]; exact Own.nil, Hb1.out⟩
  by_cases hbad2 : 30 < n
  · have hff : rRunF rs ms n = ([], 2) := by unfold rRunF; rw [if_pos hr, if_pos (.inr hbad2)]
    have Hb1 := Lib.hid hb1; clear hb1
    have Hff := Lib.hid hff; clear hff
    have Hr := Lib.hid hr; clear hr
    clear hr1 hr2 hcore hfine
    go_wp2
    go_ret2
    exact ⟨none, 0, by rw [Hff.out]; rfl, by rw [Hff.out]; exact Own.nil, Hb1.out⟩
  obtain ⟨N, rfl⟩ := Int.eq_ofNat_of_zero_le (Int.not_lt.1 hbad)
  have hN : N ≤ 30 := by omega
  have hff : rRunF rs ms (N : Int) = iterR rs N ms := by unfold rRunF; rw [if_pos hr, if_neg (by omega)]; rfl
  have htw := twin_calls B cb ms w1 (H'.out.later hb1) (by omega) (fun m hm => by have := (fine_args (hfine m hm)).2; omega)
  have Hb1 := Lib.hid hb1; clear hb1
  have Hff := Lib.hid hff; clear hff
  have Hr := Lib.hid hr; clear hr
  have Hcore := Lib.hid hcore; clear hcore
  have Htw := Lib.hid htw; clear htw
  have Hr2 := Lib.hid hr2; clear hr2
  clear hr1 hfine
  go_wp2_with fail
  refine Htw.out.mono ?_
  rintro e w2 ⟨A2, c2, rfl, ho2, hb2⟩
  have hbw2 := Hb1.out.trans (hb2.mono hz1)
  have hz2 := hbw2.size
  have ho2' := ho2.mono (base' := w.heap.size) (G' := (w.heap.size ≤ ·)) hz1 (fun k hk => Nat.le_trans hz1 hk)
  have Hbw2 := Lib.hid hbw2; clear hbw2
  have Ho2' := Lib.hid ho2'; clear ho2'
  clear hb2 ho2
  go_wp2
  go_loopw [25, 1] (fun i wv wr => ∃ (k : Nat) (cur : List Mod) (Ac : Option Addr) (cc : Nat), k ≤ N ∧ i = .int .i64 k ∧ wv = .slice Ac cur.length cc ∧ Hid (Below w.heap.size w wr) ∧ w.heap.size ≤ wr.heap.size ∧ Hid (checkF cur = 0) ∧ Hid (iterR rs N ms = iterR rs (N - k) cur) ∧
    Hid (Own pModF 50 w.heap.size (w.heap.size ≤ ·) wr (.slice Ac cur.length cc) cur)) (fun i _ _ => N - (intOf i).toNat)
  case atStart => exact ⟨0, ms, A2, c2, Nat.zero_le _, rfl, rfl, Hbw2, hz2, Hr2, rfl, Ho2'⟩
  case round =>
    obtain ⟨k, cur, Ac, cc, hk, rfl, rfl, hb, hsz, hcf, hit, hown⟩ := hrel
    obtain ⟨wo, rfl⟩ : ∃ wo : World, wo = wr := ⟨_, rfl⟩
    by_cases hlt : k < N
    · obtain ⟨_, _, hv, hsl⟩ := hown.out.fresh; cases hv
      have hst := step_calls A c rs Ac cc cur wo (H.out.later hb.out) ((slAt_modF hsl).wide fun q hq => hq.2) Hcore.out (checkF_fine hcf.out) hs.o (checkF_le hcf.out)
      have hval := step_valid Hcore.out hcf.out
      have hit2 : iterR rs N ms = if (stepF rs cur).2 = 0 then iterR rs (N - (k + 1)) (stepF rs cur).1 else ([], (stepF rs cur).2) := by
        rw [hit.out, show N - k = (N - (k + 1)) + 1 from by omega, iterR_step]
      obtain ⟨⟨v, ee⟩, hr1⟩ : ∃ r1, stepF rs cur = r1 := ⟨_, rfl⟩
      rw [hr1] at hval hit2
      simp only at hval hit2
      have Hst := Lib.hid hst; clear hst
      have Hr1 := Lib.hid hr1; clear hr1
      have Hcf := Lib.hid hcf; clear hcf
      clear hit hsl
      go_wp2_with fail
      refine Hst.out.mono ?_
      rintro e w3 ⟨A3, c3, rfl, ho3, hb3⟩
      rw [Hr1.out] at ho3 ⊢
      have hz3 := hb3.size
      have hbw3 := hb.out.trans (hb3.mono hsz)
      have hz3' := hbw3.size
      have ho3' := ho3.mono (base' := w.heap.size) (G' := (w.heap.size ≤ ·)) hsz (fun k hk => Nat.le_trans hsz hk)
      by_cases hee : ee = 0
      · subst hee
        rw [if_pos rfl] at hit2
        have hv0 := hval rfl
        have Hbw3 := Lib.hid hbw3; clear hbw3
        have Ho3' := Lib.hid ho3'; clear ho3'
        have Hit2 := Lib.hid hit2; clear hit2
        have Hv0 := Lib.hid hv0; clear hv0
        clear hb3 ho3 hval
        go_wp2
        go_roundw
        case rel => exact ⟨k + 1, v, A3, c3, hlt, by go_num, rfl, Hbw3, hz3', Hv0, Hit2, Ho3'⟩
        case measure => simp [intOf]; omega
      · rw [if_neg hee] at hit2
        have e5 : (ee != 0) = true := by simp [hee]
        have hff2 := Hff.out.trans hit2
        have Hbw3 := Lib.hid hbw3; clear hbw3
        have Hff2 := Lib.hid hff2; clear hff2
        clear hb3 ho3 ho3' hval hit2 hee
        go_wp2
        go_ret2
        exact ⟨none, 0, by rw [Hff2.out]; rfl, by rw [Hff2.out]; exact Own.nil, Hbw3.out⟩
    · obtain rfl : k = N := by omega
      have hff2 : rRunF rs ms (k : Int) = (cur, 0) := by rw [Hff.out, hit.out, Nat.sub_self]; rfl
      have Hff2 := Lib.hid hff2; clear hff2
      go_wp2
      go_ret2
      exact ⟨Ac, cc, by rw [Hff2.out]; rfl, by rw [Hff2.out]; exact hown.out, hb.out⟩

def RefRunPost (rs : List Rul) (ms : List Mod) (n : Int) (w : World) (e : Ending) (w' : World) : Prop :=
  ∃ A c, e = .returned (.tuple #[.slice A (rRunF rs ms n).1.length c, .int .i64 (rRunF rs ms n).2]) ∧ Own pMod 50 w.heap.size (w.heap.size ≤ ·) w' (.slice A (rRunF rs ms n).1.length c) (rRunF rs ms n).1 ∧ Below w.heap.size w w'
end Go.Proofs.YtckffdaomjbglaaDoor

/-! Pa -/
namespace Go.Proofs.YtckffdaomjbglaaDoor
open Go.RowKit

/-! ### digits -/
theorem digB {n : Nat} (h : n < 10) : (UInt8.ofNat (48 + n)).toNat = 48 + n := by
  rw [UInt8.toNat_ofNat']; omega
theorem dec_big {u : Nat} (h : ¬ u < 10) : Lib.decDigits u = Lib.decDigits (u / 10) ++ [UInt8.ofNat (48 + u % 10)] := by rw [Lib.decDigits, dif_neg h]
theorem dec_dig : ∀ (u : Nat), ∀ b ∈ Lib.decDigits u, 48 ≤ b.toNat ∧ b.toNat ≤ 57 := by
  intro u
  induction u using Nat.strongRecOn with
  | _ u ih =>
    intro b hb
    by_cases h : u < 10
    · rw [Lib.decDigits_one h] at hb
      obtain rfl := List.mem_singleton.1 hb
      rw [digB h]; omega
    · rw [dec_big h] at hb
      rcases List.mem_append.1 hb with hb | hb
      · exact ih (u / 10) (by omega) b hb
      · obtain rfl := List.mem_singleton.1 hb
        rw [digB (by omega)]; omega
theorem dec_ne (u : Nat) : Lib.decDigits u ≠ [] := by
  by_cases h : u < 10
  · rw [Lib.decDigits_one h]; simp
  · rw [dec_big h]; simp
theorem decFrom_snoc : ∀ (l : List UInt8) (acc : Nat) (b : UInt8), Lib.decFrom acc (l ++ [b]) = (Lib.decFrom acc l).bind fun n => (Lib.digitVal b).map fun d => n * 10 + d
  | [], acc, b => by
    show Lib.decFrom acc [b] = (Lib.digitVal b).map _
    unfold Lib.decFrom
    cases Lib.digitVal b <;> rfl
  | a :: l, acc, b => by
    rw [List.cons_append]
    unfold Lib.decFrom
    cases h : Lib.digitVal a with
    | none => rfl
    | some d => exact decFrom_snoc l _ b
theorem digitVal_of {n : Nat} (h : n < 10) : Lib.digitVal (UInt8.ofNat (48 + n)) = some n := by
  unfold Lib.digitVal
  rw [digB h, if_pos ⟨by omega, by omega⟩]; congr 1; omega
theorem dec_from (u : Nat) : Lib.decFrom 0 (Lib.decDigits u) = some u := by
  induction u using Nat.strongRecOn with
  | _ u ih =>
    by_cases h : u < 10
    · rw [Lib.decDigits_one h, show [UInt8.ofNat (48 + u)] = [] ++ [UInt8.ofNat (48 + u)] from rfl, decFrom_snoc, digitVal_of h]
      show some (0 * 10 + u) = some u
      congr 1; omega
    · rw [dec_big h, decFrom_snoc, ih (u / 10) (by omega), digitVal_of (by omega)]
      show some (u / 10 * 10 + u % 10) = some u
      congr 1; omega
theorem dec_head (u : Nat) : ∀ r, Lib.decDigits u = 48 :: r → u = 0 ∧ r = [] := by
  induction u using Nat.strongRecOn with
  | _ u ih =>
    intro r hr
    by_cases h : u < 10
    · rw [Lib.decDigits_one h] at hr
      injection hr with h1 h2
      have := congrArg UInt8.toNat h1
      rw [digB h] at this
      exact ⟨by have e : (48 : UInt8).toNat = 48 := rfl
                omega, h2.symm⟩
    · rw [dec_big h] at hr
      cases hd : Lib.decDigits (u / 10) with
      | nil => exact absurd hd (dec_ne _)
      | cons a t =>
        rw [hd] at hr
        injection hr with h1 h2
        subst h1
        have := (ih (u / 10) (by omega) t hd).1
        omega
theorem dec_unique : ∀ (k : Nat) (l : List UInt8) (u : Nat), l.length = k → l ≠ [] → Lib.decFrom 0 l = some u → (∀ r, l = 48 :: r → r = []) → Lib.decDigits u = l
  | 0, l, u, hk, hne, _, _ => absurd (List.eq_nil_of_length_eq_zero hk) hne
  | k + 1, l, u, hk, hne, hd, hz => by
    rcases List.eq_nil_or_concat l with h | ⟨l', b, h⟩
    · exact absurd h hne
    · rw [List.concat_eq_append] at h
      subst h
      rw [decFrom_snoc] at hd
      cases hn : Lib.decFrom 0 l' with
      | none => rw [hn] at hd; cases hd
      | some n =>
        rw [hn] at hd
        cases hb : Lib.digitVal b with
        | none => rw [hb] at hd; cases hd
        | some d =>
          rw [hb] at hd
          have hu : n * 10 + d = u := Option.some.inj hd
          obtain ⟨b1, b2, b3⟩ := Lib.digitVal_eq hb
          have hbe : UInt8.ofNat (48 + d) = b := UInt8.toNat_inj.1 (by rw [digB (by omega)]; omega)
          cases l' with
          | nil =>
            have : n = 0 := by cases hn; rfl
            subst this
            obtain rfl : d = u := by omega
            rw [Lib.decDigits_one (by omega), hbe]; rfl
          | cons a t =>
            have hz' : ∀ r, a :: t = 48 :: r → r = [] := fun r hr => by
              have := hz (r ++ [b]) (by rw [hr]; rfl)
              simp at this
            have ih := dec_unique k (a :: t) n (by simp at hk ⊢; omega) (by simp) hn hz'
            have hn0 : n ≠ 0 := by
              rintro rfl
              rw [Lib.decDigits_one (by decide)] at ih
              injection ih with i1 i2
              have := hz (t ++ [b]) (by rw [← i1]; rfl)
              simp at this
            rw [dec_big (by omega), show u / 10 = n from by omega, show u % 10 = d from by omega, ih, hbe]
theorem dec_len : ∀ (k u : Nat), u < 10 ^ (k + 1) → (Lib.decDigits u).length ≤ k + 1
  | 0, u, h => by rw [Lib.decDigits_one (by simpa using h)]; simp
  | k + 1, u, h => by
    by_cases h1 : u < 10
    · rw [Lib.decDigits_one h1]; simp
    · rw [dec_big h1, List.length_append, List.length_singleton]
      have := dec_len k (u / 10) (by rw [Nat.pow_succ] at h; omega)
      omega

/-! ### whole numbers -/
theorem itoa_bytes (n : Int) : ∀ b ∈ Lib.itoa n, b = 45 ∨ (48 ≤ b.toNat ∧ b.toNat ≤ 57) := by
  intro b hb
  unfold Lib.itoa at hb
  split at hb
  · rcases List.mem_cons.1 hb with h | h
    · exact .inl h
    · exact .inr (dec_dig _ b h)
  · exact .inr (dec_dig _ b hb)
theorem itoa_not {n : Int} {c : UInt8} (h : c ≠ 45) (h' : ¬ (48 ≤ c.toNat ∧ c.toNat ≤ 57)) : c ∉ Lib.itoa n := fun hc => (itoa_bytes n c hc).elim h h'
theorem itoa_pos (u : Nat) : Lib.itoa (u : Int) = Lib.decDigits u := Lib.itoa_nonneg u
theorem itoa_len {n : Int} (h0 : -1000000000 ≤ n) (h1 : n ≤ 1000000000) : (Lib.itoa n).length ≤ 11 := by
  unfold Lib.itoa
  split
  · rw [List.length_cons]
    have := dec_len 9 n.natAbs (by omega)
    omega
  · have := dec_len 9 n.toNat (by omega)
    omega
theorem atoi_cons (b : UInt8) (r : List UInt8) : Lib.atoi (b :: r) = if b == 45 then (Lib.decNat r).map fun (m : Nat) => -(m : Int) else if b == 43 then (Lib.decNat r).map fun (m : Nat) => (m : Int) else (Lib.decNat (b :: r)).map fun (m : Nat) => (m : Int) := rfl
theorem itoa_atoi {n : Int} : Lib.atoi (Lib.itoa n) = some n := by
  unfold Lib.itoa
  by_cases h : n < 0
  · rw [if_pos h, atoi_cons, if_pos (by decide : ((45 : UInt8) == 45) = true)]
    unfold Lib.decNat
    rw [show (Lib.decDigits n.natAbs).isEmpty = false from by
      cases hd : Lib.decDigits n.natAbs with
      | nil => exact absurd hd (dec_ne _)
      | cons => rfl]
    rw [if_neg (by decide), dec_from]
    show some (-(n.natAbs : Int)) = some n
    congr 1; omega
  · rw [if_neg h]
    cases hd : Lib.decDigits n.toNat with
    | nil => exact absurd hd (dec_ne _)
    | cons b r =>
      have hb := dec_dig n.toNat b (by rw [hd]; simp)
      rw [atoi_cons]
      have e1 : (b == 45) = false := by rw [beq_eq_false_iff_ne]; rintro rfl; revert hb; decide
      have e2 : (b == 43) = false := by rw [beq_eq_false_iff_ne]; rintro rfl; revert hb; decide
      simp only [e1, e2, Bool.false_eq_true, if_false]
      unfold Lib.decNat
      rw [List.isEmpty_cons, if_neg (by decide), ← hd, dec_from]
      show some (n.toNat : Int) = some n
      congr 1; omega
theorem argOk_le {x : Int} (h : argOk x = true) : -1000000000 ≤ x ∧ x ≤ 1000000000 := by
  unfold argOk at h; simp at h; omega

/-! ### the program's reading of a number -/
def numP (t : List UInt8) : Option Int := match Lib.atoiAll t with
  | .ok n => if Lib.itoa n = t then some n else none
  | _ => none
theorem numP_text {t : List UInt8} {n : Int} (h : numP t = some n) : Lib.itoa n = t := by
  unfold numP at h
  split at h
  · split at h
    · cases h; assumption
    · cases h
  · cases h
theorem numP_of {n : Int} (h : argOk n = true) : numP (Lib.itoa n) = some n := by
  obtain ⟨h0, h1⟩ := argOk_le h
  unfold numP
  rw [Lib.atoiAll_short _ (by have := itoa_len h0 h1; omega), itoa_atoi]
  show (if Lib.itoa n = Lib.itoa n then some n else none) = _
  rw [if_pos rfl]

/-! ### the reference's reading of a number -/
def digsR : Nat → Int → List UInt8 → Int × List UInt8
  | 0, n, l => (n, l)
  | _ + 1, n, [] => (n, [])
  | k + 1, n, b :: r => if 48 ≤ b.toNat ∧ b.toNat ≤ 57 then digsR k (10 * n + ((b.toNat : Int) - 48)) r else (n, b :: r)
def tailR (neg : Bool) (l : List UInt8) : Option (Int × List UInt8) :=
  if (digsR 10 0 l).2.length = l.length ∨ (l.head? = some 48 ∧ (digsR 10 0 l).2.length + 1 < l.length) ∨ ((digsR 10 0 l).1 = 0 ∧ neg = true) then none
  else some ((if neg = true then -(digsR 10 0 l).1 else (digsR 10 0 l).1), (digsR 10 0 l).2)
def numR : List UInt8 → Option (Int × List UInt8)
  | [] => tailR false []
  | b :: r => if b = 45 then tailR true r else tailR false (b :: r)
theorem numR_cons (b : UInt8) (r : List UInt8) : numR (b :: r) = if b = 45 then tailR true r else tailR false (b :: r) := rfl
theorem digsR_spec : ∀ (k : Nat) (n : Nat) (l : List UInt8), ∃ (ds r : List UInt8) (m : Nat), digsR k (n : Int) l = ((m : Int), r) ∧ l = ds ++ r ∧ Lib.decFrom n ds = some m
  | 0, n, l => ⟨[], l, n, by unfold digsR; rfl, rfl, rfl⟩
  | k + 1, n, [] => ⟨[], [], n, by unfold digsR; rfl, rfl, rfl⟩
  | k + 1, n, b :: r => by
    unfold digsR
    by_cases h : 48 ≤ b.toNat ∧ b.toNat ≤ 57
    · rw [if_pos h]
      obtain ⟨ds, r', m, h1, h2, h3⟩ := digsR_spec k (n * 10 + (b.toNat - 48)) r
      refine ⟨b :: ds, r', m, ?_, by rw [h2]; rfl, ?_⟩
      · rw [← h1]; congr 1; omega
      · unfold Lib.decFrom Lib.digitVal
        rw [if_pos h]; exact h3
    · rw [if_neg h]; exact ⟨[], b :: r, n, rfl, rfl, rfl⟩
theorem tailR_text {neg : Bool} {l : List UInt8} {n : Int} {r : List UInt8} (h : tailR neg l = some (n, r)) : (if neg = true then [45] else []) ++ l = Lib.itoa n ++ r ∧ r.length < l.length := by
  obtain ⟨ds, r', m, h1, h2, h3⟩ := digsR_spec 10 0 l
  have h1' : digsR 10 0 l = ((m : Int), r') := h1
  unfold tailR at h
  rw [h1'] at h
  split at h
  · cases h
  · rename_i hc
    simp only [not_or, not_and] at hc
    obtain ⟨c1, c2, c3⟩ := hc
    cases h
    have c1' : ¬ r'.length = l.length := c1
    have c2' : l.head? = some 48 → ¬ r'.length + 1 < l.length := c2
    have hlen : l.length = ds.length + r'.length := by rw [h2, List.length_append]
    have hds : ds ≠ [] := by rintro rfl; simp at hlen; omega
    have hu := dec_unique _ ds m rfl hds h3 (fun q hq => by
      have hh : l.head? = some 48 := by rw [h2, hq]; rfl
      have := c2' hh
      rw [hq] at hlen
      simp at hlen
      exact List.eq_nil_of_length_eq_zero (by omega))
    refine ⟨?_, show r'.length < l.length by have : 0 < ds.length := List.length_pos_iff.2 hds
                                             omega⟩
    cases neg
    · simp only [Bool.false_eq_true, if_false, List.nil_append]
      rw [itoa_pos, hu, h2]
    · simp only [if_true]
      have hm : m ≠ 0 := by
        rintro rfl
        exact c3 rfl rfl
      rw [Lib.itoa_neg m (by omega), hu, h2]; rfl
theorem numR_text {l : List UInt8} {n : Int} {r : List UInt8} (h : numR l = some (n, r)) : l = Lib.itoa n ++ r ∧ r.length < l.length := by
  cases l with
  | nil =>
    have := tailR_text (show tailR false [] = some (n, r) from h)
    exact ⟨by simpa using this.1, this.2⟩
  | cons b t =>
    rw [numR_cons] at h
    by_cases hb : b = 45
    · rw [if_pos hb] at h
      obtain ⟨h1, h2⟩ := tailR_text h
      exact ⟨by rw [hb, ← h1]; rfl, by rw [List.length_cons]; omega⟩
    · rw [if_neg hb] at h
      obtain ⟨h1, h2⟩ := tailR_text h
      exact ⟨by simpa using h1, h2⟩
/-- what comes next is no digit -/
def NoDig (r : List UInt8) : Prop := ∀ b t, r = b :: t → ¬ (48 ≤ b.toNat ∧ b.toNat ≤ 57)
theorem digsR_of : ∀ (k : Nat) (ds : List UInt8) (n m : Nat) (r : List UInt8), Lib.decFrom n ds = some m → ds.length ≤ k → NoDig r → digsR k (n : Int) (ds ++ r) = ((m : Int), r)
  | 0, ds, n, m, r, h, hl, _ => by
    obtain rfl := List.eq_nil_of_length_eq_zero (Nat.le_zero.1 hl)
    cases h; unfold digsR; rfl
  | k + 1, [], n, m, r, h, _, hn => by
    cases h
    cases r with
    | nil => unfold digsR; rfl
    | cons b t => rw [List.nil_append]; unfold digsR; rw [if_neg (hn b t rfl)]
  | k + 1, b :: ds, n, m, r, h, hl, hn => by
    rw [List.cons_append]
    unfold digsR
    unfold Lib.decFrom at h
    cases hb : Lib.digitVal b with
    | none => rw [hb] at h; cases h
    | some d =>
      rw [hb] at h
      obtain ⟨b1, b2, b3⟩ := Lib.digitVal_eq hb
      rw [if_pos ⟨b1, b2⟩]
      have := digsR_of k ds (n * 10 + d) m r h (by simpa using hl) hn
      rw [← this]; congr 1; omega
theorem numR_of {n : Int} {r : List UInt8} (h : argOk n = true) (hr : NoDig r) : numR (Lib.itoa n ++ r) = some (n, r) := by
  obtain ⟨h0, h1⟩ := argOk_le h
  have key : ∀ (u : Nat), u ≤ 1000000000 → ∀ neg, (neg = true → u ≠ 0) → tailR neg (Lib.decDigits u ++ r) = some ((if neg = true then -(u : Int) else (u : Int)), r) := fun u hu neg hneg => by
    have hd : digsR 10 0 (Lib.decDigits u ++ r) = ((u : Int), r) := digsR_of 10 _ 0 u r (dec_from u) (dec_len 9 u (by omega)) hr
    have hpos : 0 < (Lib.decDigits u).length := List.length_pos_iff.2 (dec_ne u)
    unfold tailR
    rw [hd, if_neg]
    rw [List.length_append]
    simp only [not_or, not_and]
    refine ⟨by omega, fun hh => ?_, fun hu0 hn => hneg hn (by omega)⟩
    cases he : Lib.decDigits u with
    | nil => exact absurd he (dec_ne u)
    | cons a t =>
      rw [he] at hh
      have : a = 48 := by simpa using hh
      rw [this] at he
      have := (dec_head u t he).2
      subst this
      simp; omega
  by_cases hn : n < 0
  · have e : Lib.itoa n = 45 :: Lib.decDigits n.natAbs := by unfold Lib.itoa; rw [if_pos hn]
    rw [e, List.cons_append]
    rw [numR_cons, if_pos rfl, key n.natAbs (by omega) true (fun _ => by omega)]
    simp only [if_true]
    congr 2; omega
  · have e : Lib.itoa n = Lib.decDigits n.toNat := by unfold Lib.itoa; rw [if_neg hn]
    rw [e]
    have hk := key n.toNat (by omega) false (fun h => by cases h)
    cases hd : Lib.decDigits n.toNat with
    | nil => exact absurd hd (dec_ne _)
    | cons b t =>
      have hb := dec_dig n.toNat b (by rw [hd]; simp)
      rw [hd] at hk
      rw [List.cons_append] at hk ⊢
      rw [numR_cons, if_neg (by rintro rfl; revert hb; decide), hk]
      simp only [Bool.false_eq_true, if_false]
      congr 2; omega
end Go.Proofs.YtckffdaomjbglaaDoor

/-! Pb -/
namespace Go.Proofs.YtckffdaomjbglaaDoor
open Go.RowKit

theorem letter_fine {m : Mod} (h : fineF m = true) : letterB m.name = true := by
  unfold fineF at h; simp only [Bool.and_eq_true] at h; exact h.1.1
theorem check_all {w : List Mod} (h : checkF w = 0) : w.all fineF = true := by
  unfold checkF at h
  by_cases h1 : 2000 < w.length
  · rw [if_pos h1] at h; cases h
  · rw [if_neg h1] at h
    cases h2 : w.all fineF
    · rw [h2] at h; cases h
    · rfl
/-! ### the text of a word -/
def bodyA (ns : List Int) : List UInt8 := ns.flatMap fun k => 44 :: Lib.itoa k
def argL : List Int → List UInt8
  | [] => []
  | n :: ns => 40 :: (Lib.itoa n ++ bodyA ns ++ [41])
def modL (m : Mod) : List UInt8 := m.name.toNat.toUInt8 :: argL m.args
def textL (ms : List Mod) : List UInt8 := ms.flatMap modL
def textF (ms : List Mod) : List UInt8 × Int := if checkF ms = 0 then (if 50000 < (textL ms).length then ([], 4) else (textL ms, 0)) else ([], checkF ms)
theorem bodyA_cons (n : Int) (ns : List Int) : bodyA (n :: ns) = 44 :: (Lib.itoa n ++ bodyA ns) := rfl
theorem textL_cons (m : Mod) (ms : List Mod) : textL (m :: ms) = modL m ++ textL ms := rfl
theorem letter_small {c : Int} (h : letterB c = true) : 0 ≤ c ∧ c ≤ 255 := by
  unfold letterB upB loB symB symL at h
  simp at h
  omega
theorem name_byte {c : Int} (h : letterB c = true) : ((c.toNat.toUInt8).toNat : Int) = c := by
  have := letter_small h
  rw [show (c.toNat.toUInt8).toNat = c.toNat % 256 from rfl]; omega

/-! ### cut and split at a byte -/
def cutC (c : UInt8) : List UInt8 → Option (List UInt8 × List UInt8)
  | [] => none
  | b :: r => if b = c then some ([], r) else (cutC c r).map fun p => (b :: p.1, p.2)
theorem cutC_text {c : UInt8} : ∀ {l p q : List UInt8}, cutC c l = some (p, q) → l = p ++ c :: q
  | [], _, _, h => by cases h
  | b :: r, p, q, h => by
    unfold cutC at h
    by_cases hb : b = c
    · rw [if_pos hb] at h; cases h; rw [hb]; rfl
    · rw [if_neg hb] at h
      cases hc : cutC c r with
      | none => rw [hc] at h; cases h
      | some x =>
        rw [hc] at h; cases h
        rw [cutC_text hc]; rfl
theorem cutC_of {c : UInt8} : ∀ {p q : List UInt8}, c ∉ p → cutC c (p ++ c :: q) = some (p, q)
  | [], q, _ => by rw [List.nil_append]; unfold cutC; rw [if_pos rfl]
  | b :: p, q, h => by
    rw [List.cons_append]; unfold cutC
    rw [if_neg (fun e => h (by simp [e])), cutC_of (fun e => h (by simp [e]))]; rfl
def splitC (c : UInt8) : List UInt8 → List (List UInt8)
  | [] => [[]]
  | b :: r => if b = c then [] :: splitC c r else match splitC c r with
    | [] => [[b]]
    | p :: ps => (b :: p) :: ps
def joinC (c : UInt8) : List (List UInt8) → List UInt8
  | [] => []
  | p :: ps => p ++ ps.flatMap (c :: ·)
theorem splitC_ne (c : UInt8) : ∀ l, splitC c l ≠ []
  | [] => by unfold splitC; simp
  | b :: r => by
    unfold splitC
    split
    · simp
    · split <;> simp
theorem join_split (c : UInt8) : ∀ l, joinC c (splitC c l) = l
  | [] => rfl
  | b :: r => by
    have ih := join_split c r
    unfold splitC
    by_cases h : b = c
    · rw [if_pos h]
      cases hs : splitC c r with
      | nil => exact absurd hs (splitC_ne c r)
      | cons p ps =>
        rw [hs] at ih
        show [] ++ (c :: p ++ ps.flatMap (c :: ·)) = b :: r
        rw [List.nil_append, List.cons_append, h]
        exact congrArg (c :: ·) ih
    · rw [if_neg h]
      cases hs : splitC c r with
      | nil => exact absurd hs (splitC_ne c r)
      | cons p ps =>
        rw [hs] at ih
        exact congrArg (b :: ·) ih
theorem split_front {c : UInt8} : ∀ {p : List UInt8} (r : List UInt8), c ∉ p → ∃ q qs, splitC c r = q :: qs ∧ splitC c (p ++ r) = (p ++ q) :: qs
  | [], r, _ => by
    cases hs : splitC c r with
    | nil => exact absurd hs (splitC_ne c r)
    | cons q qs => exact ⟨q, qs, rfl, by rw [List.nil_append, List.nil_append]; exact hs⟩
  | b :: p, r, h => by
    obtain ⟨q, qs, h1, h2⟩ := split_front r (p := p) (fun e => h (List.mem_cons_of_mem _ e))
    refine ⟨q, qs, h1, ?_⟩
    rw [List.cons_append]
    conv => lhs; unfold splitC
    rw [if_neg (fun e => h (by rw [e]; exact List.mem_cons_self)), h2]; rfl
theorem split_join {c : UInt8} : ∀ {ps : List (List UInt8)} {p : List UInt8}, (∀ q ∈ p :: ps, c ∉ q) → splitC c (joinC c (p :: ps)) = p :: ps
  | [], p, h => by
    obtain ⟨q, qs, h1, h2⟩ := split_front (c := c) (p := p) [] (h p (by simp))
    show splitC c (p ++ []) = [p]
    rw [h2]
    cases h1; simp
  | q :: ps, p, h => by
    have ih := split_join (ps := ps) (p := q) fun x hx => h x (List.mem_cons_of_mem _ hx)
    obtain ⟨x, xs, h1, h2⟩ := split_front (c := c) (p := p) (c :: joinC c (q :: ps)) (h p (by simp))
    have h3 : splitC c (c :: joinC c (q :: ps)) = [] :: splitC c (joinC c (q :: ps)) := by
      conv => lhs; unfold splitC
      rw [if_pos rfl]
    rw [h3, ih] at h1
    cases h1
    have e : joinC c (p :: q :: ps) = p ++ c :: joinC c (q :: ps) := rfl
    rw [e, h2]; simp

/-! ### the program's reading -/
def allP : List (List UInt8) → Option (List Int)
  | [] => some []
  | t :: ts => match numP t with
    | none => none
    | some n => (allP ts).map (n :: ·)
def modP (c : UInt8) : List UInt8 → Option (Mod × List UInt8)
  | [] => some (⟨c.toNat, []⟩, [])
  | b :: r => if b = 40 then (match cutC 41 r with
    | none => none
    | some (l, rest) => (allP (splitC 44 l)).map fun ag => (⟨c.toNat, ag⟩, rest)) else some (⟨c.toNat, []⟩, b :: r)
theorem modP_cons (c b : UInt8) (r : List UInt8) : modP c (b :: r) = if b = 40 then (match cutC 41 r with
    | none => none
    | some (l, rest) => (allP (splitC 44 l)).map fun ag => (⟨c.toNat, ag⟩, rest)) else some (⟨c.toNat, []⟩, b :: r) := rfl
theorem allP_text : ∀ {ts : List (List UInt8)} {ag : List Int}, allP ts = some ag → ts = ag.map Lib.itoa
  | [], ag, h => by cases h; rfl
  | t :: ts, ag, h => by
    unfold allP at h
    cases hn : numP t with
    | none => rw [hn] at h; cases h
    | some n =>
      rw [hn] at h
      cases ha : allP ts with
      | none => rw [ha] at h; cases h
      | some ag' =>
        rw [ha] at h; cases h
        rw [allP_text ha, List.map_cons, numP_text hn]
theorem allP_of : ∀ {ag : List Int}, ag.all argOk = true → allP (ag.map Lib.itoa) = some ag
  | [], _ => rfl
  | a :: ag, h => by
    rw [List.all_cons, Bool.and_eq_true] at h
    rw [List.map_cons]
    unfold allP
    rw [numP_of h.1, allP_of h.2]; rfl
theorem join_args (n : Int) (ns : List Int) : joinC 44 ((n :: ns).map Lib.itoa) = Lib.itoa n ++ bodyA ns := by
  show Lib.itoa n ++ (ns.map Lib.itoa).flatMap (44 :: ·) = _
  unfold bodyA
  rw [List.flatMap_map]
theorem modL_byte (c : UInt8) (ag : List Int) : modL ⟨c.toNat, ag⟩ = c :: argL ag := by
  unfold modL
  congr 1
  apply UInt8.toNat_inj.1
  show (((c.toNat : Int).toNat).toUInt8).toNat = c.toNat
  rw [Int.toNat_natCast, show (c.toNat.toUInt8).toNat = c.toNat % 256 from rfl]
  have := c.toNat_lt; omega
theorem modP_text {c : UInt8} {s : List UInt8} {m : Mod} {r : List UInt8} (h : modP c s = some (m, r)) : c :: s = modL m ++ r := by
  cases s with
  | nil => cases h; rw [modL_byte]; rfl
  | cons b t =>
    rw [modP_cons] at h
    by_cases hb : b = 40
    · rw [if_pos hb] at h
      cases hc : cutC 41 t with
      | none => rw [hc] at h; cases h
      | some x =>
        obtain ⟨l, rest⟩ := x
        rw [hc] at h
        dsimp only at h
        cases ha : allP (splitC 44 l) with
        | none => rw [ha] at h; cases h
        | some ag =>
          rw [ha] at h; cases h
          have hs := allP_text ha
          have hl := join_split 44 l
          rw [hs] at hl
          cases ag with
          | nil => exact absurd hs (splitC_ne 44 l)
          | cons n ns =>
            rw [join_args] at hl
            rw [modL_byte, cutC_text hc, ← hl, hb]
            show _ = c :: (40 :: (Lib.itoa n ++ bodyA ns ++ [41])) ++ r
            simp
    · rw [if_neg hb] at h; cases h; rw [modL_byte]; rfl
/-- what follows a module -/
def Sep (r : List UInt8) : Prop := ∀ b t, r = b :: t → b ≠ 40 ∧ b ≠ 44
theorem itoa_no {n : Int} {c : UInt8} (h : c = 40 ∨ c = 41 ∨ c = 44) : c ∉ Lib.itoa n := by
  refine itoa_not ?_ ?_
  · rcases h with rfl | rfl | rfl <;> decide
  · rcases h with rfl | rfl | rfl <;> decide
theorem body_no {ns : List Int} : (41 : UInt8) ∉ bodyA ns := by
  unfold bodyA
  intro h
  obtain ⟨k, _, hk⟩ := List.mem_flatMap.1 h
  rcases List.mem_cons.1 hk with e | e
  · revert e; decide
  · exact itoa_no (.inr (.inl rfl)) e
theorem modP_of {m : Mod} (h : fineF m = true) {r : List UInt8} (hr : Sep r) : modP m.name.toNat.toUInt8 (argL m.args ++ r) = some (m, r) := by
  have hl : letterB m.name = true ∧ m.args.all argOk = true := by unfold fineF at h; simp only [Bool.and_eq_true] at h; exact h.1
  have hm : ∀ ag, m.args = ag → (⟨((m.name.toNat.toUInt8).toNat : Int), ag⟩ : Mod) = m := fun ag e => by
    rw [name_byte hl.1, ← e]
  cases ha : m.args with
  | nil =>
    show modP _ ([] ++ r) = _
    rw [List.nil_append]
    cases r with
    | nil => show some ((⟨_, []⟩ : Mod), _) = _; rw [hm [] ha]
    | cons b t => rw [modP_cons, if_neg (hr b t rfl).1, hm [] ha]
  | cons n ns =>
    show modP _ (40 :: (Lib.itoa n ++ bodyA ns ++ [41]) ++ r) = _
    rw [List.cons_append, modP_cons, if_pos rfl]
    have e1 : Lib.itoa n ++ bodyA ns ++ [41] ++ r = (Lib.itoa n ++ bodyA ns) ++ 41 :: r := by simp
    rw [e1, cutC_of (fun hx => by
      rcases List.mem_append.1 hx with e | e
      · exact itoa_no (.inr (.inl rfl)) e
      · exact body_no e)]
    dsimp only
    rw [← join_args, List.map_cons, split_join (fun q hq => by
      rw [← List.map_cons] at hq
      obtain ⟨k, _, rfl⟩ := List.mem_map.1 hq
      exact itoa_no (.inr (.inr rfl))), ← List.map_cons, allP_of (by rw [← ha]; exact hl.2)]
    show some ((⟨_, n :: ns⟩ : Mod), r) = _
    rw [hm _ ha]

/-! ### the reference's reading -/
def argsR : Nat → List Int → List UInt8 → Option (List Int × List UInt8)
  | _, ag, [] => some (ag, [])
  | 0, ag, b :: r => some (ag, b :: r)
  | f + 1, ag, b :: r => if (b = 40 ∧ ag = []) ∨ (b = 44 ∧ ag ≠ []) then (match numR r with
    | none => none
    | some (n, r') => argsR f (ag ++ [n]) r') else some (ag, b :: r)
theorem argsR_nil (f : Nat) (ag : List Int) : argsR f ag [] = some (ag, []) := by cases f <;> rfl
theorem argsR_cons (f : Nat) (ag : List Int) (b : UInt8) (r : List UInt8) : argsR (f + 1) ag (b :: r) = if (b = 40 ∧ ag = []) ∨ (b = 44 ∧ ag ≠ []) then (match numR r with
    | none => none
    | some (n, r') => argsR f (ag ++ [n]) r') else some (ag, b :: r) := rfl
def closeR (c : UInt8) (ag : List Int) (l : List UInt8) : Option (Mod × List UInt8) :=
  if ag = [] then some (⟨c.toNat, []⟩, l) else if l.head? = some 41 then some (⟨c.toNat, ag⟩, l.tail) else none
def modR (c : UInt8) (s : List UInt8) : Option (Mod × List UInt8) := match argsR s.length [] s with
  | none => none
  | some (ag, l) => closeR c ag l
theorem argsR_more : ∀ (f : Nat) {ag ag' : List Int} {l r : List UInt8}, ag ≠ [] → argsR f ag l = some (ag', r) → ∃ ns, ag' = ag ++ ns ∧ l = bodyA ns ++ r
  | f, ag, ag', [], r, _, h => by
    rw [argsR_nil] at h; cases h
    exact ⟨[], by simp, rfl⟩
  | 0, ag, ag', b :: t, r, _, h => by cases h; exact ⟨[], by simp, rfl⟩
  | f + 1, ag, ag', b :: t, r, hne, h => by
    rw [argsR_cons] at h
    split at h
    · rename_i hc
      have hb : b = 44 := by rcases hc with ⟨_, e⟩ | ⟨e, _⟩; exact absurd e hne; exact e
      cases hn : numR t with
      | none => rw [hn] at h; cases h
      | some x =>
        obtain ⟨n, r'⟩ := x
        rw [hn] at h
        obtain ⟨ns, h1, h2⟩ := argsR_more f (by simp) h
        refine ⟨n :: ns, by rw [h1]; simp, ?_⟩
        rw [hb, (numR_text hn).1, h2, bodyA_cons]; simp
    · cases h; exact ⟨[], by simp, rfl⟩
theorem modR_text {c : UInt8} {s : List UInt8} {m : Mod} {r : List UInt8} (h : modR c s = some (m, r)) : c :: s = modL m ++ r := by
  unfold modR at h
  cases s with
  | nil => cases h; rw [modL_byte]; rfl
  | cons b t =>
    rw [show (b :: t).length = t.length + 1 from rfl, argsR_cons] at h
    by_cases hb : b = 40
    · rw [if_pos (.inl ⟨hb, rfl⟩)] at h
      cases hn : numR t with
      | none => rw [hn] at h; cases h
      | some x =>
        obtain ⟨n, r'⟩ := x
        rw [hn] at h
        dsimp only at h
        cases ha : argsR t.length ([] ++ [n]) r' with
        | none => rw [ha] at h; cases h
        | some y =>
          obtain ⟨ag, l⟩ := y
          rw [ha] at h
          obtain ⟨ns, h1, h2⟩ := argsR_more _ (by simp) ha
          dsimp only at h
          unfold closeR at h
          rw [if_neg (by rw [h1]; simp)] at h
          split at h
          · rename_i hh
            cases h
            cases l with
            | nil => cases hh
            | cons d l =>
              have hd : d = 41 := by simpa using hh
              rw [modL_byte, (numR_text hn).1, h2, hb, hd, h1]
              show _ = c :: (40 :: (Lib.itoa n ++ bodyA ns ++ [41])) ++ l
              simp
          · cases h
    · rw [if_neg (by rintro (⟨e, _⟩ | ⟨_, e⟩); exact hb e; exact e rfl)] at h
      have h' : some ((⟨c.toNat, []⟩ : Mod), b :: t) = some (m, r) := h
      cases h'; rw [modL_byte]; rfl
theorem argsR_of : ∀ (f : Nat) {ag : List Int} (ns : List Int) {r : List UInt8}, ag ≠ [] → ns.all argOk = true → (bodyA ns ++ 41 :: r).length ≤ f → argsR f ag (bodyA ns ++ 41 :: r) = some (ag ++ ns, 41 :: r)
  | 0, ag, ns, r, _, _, hl => by simp at hl
  | f + 1, ag, [], r, hne, _, _ => by
    show argsR (f + 1) ag (41 :: r) = _
    rw [argsR_cons, if_neg (by rintro (⟨e, _⟩ | ⟨e, _⟩) <;> revert e <;> decide)]; simp
  | f + 1, ag, n :: ns, r, hne, ha, hl => by
    rw [List.all_cons, Bool.and_eq_true] at ha
    rw [bodyA_cons] at hl ⊢
    rw [List.cons_append, argsR_cons, if_pos (.inr ⟨rfl, hne⟩), List.append_assoc, numR_of ha.1 (by
      intro b t e
      cases ns with
      | nil => cases e; decide
      | cons k ks => rw [bodyA_cons] at e; cases e; decide)]
    show argsR f (ag ++ [n]) (bodyA ns ++ 41 :: r) = _
    rw [argsR_of f ns (by simp) ha.2 (by simp at hl ⊢; omega)]; simp
theorem modR_of {m : Mod} (h : fineF m = true) {r : List UInt8} (hr : Sep r) : modR m.name.toNat.toUInt8 (argL m.args ++ r) = some (m, r) := by
  have hl : letterB m.name = true ∧ m.args.all argOk = true := by unfold fineF at h; simp only [Bool.and_eq_true] at h; exact h.1
  have hm : ∀ ag, m.args = ag → (⟨((m.name.toNat.toUInt8).toNat : Int), ag⟩ : Mod) = m := fun ag e => by
    rw [name_byte hl.1, ← e]
  unfold modR
  cases ha : m.args with
  | nil =>
    show (match argsR ([] ++ r).length [] ([] ++ r) with | none => none | some (ag, l) => closeR _ ag l) = _
    rw [List.nil_append]
    have : argsR r.length [] r = some ([], r) := by
      cases r with
      | nil => rfl
      | cons b t => rw [show (b :: t).length = t.length + 1 from rfl, argsR_cons, if_neg (by rintro (⟨e, _⟩ | ⟨_, e⟩); exact (hr b t rfl).1 e; exact e rfl)]
    rw [this]
    show closeR _ [] r = _
    unfold closeR
    rw [if_pos rfl, hm [] ha]
  | cons n ns =>
    have hok := hl.2
    rw [ha, List.all_cons, Bool.and_eq_true] at hok
    have e1 : argL (n :: ns) ++ r = 40 :: (Lib.itoa n ++ (bodyA ns ++ 41 :: r)) := by
      show 40 :: (Lib.itoa n ++ bodyA ns ++ [41]) ++ r = _
      simp
    rw [e1, List.length_cons, argsR_cons, if_pos (.inl ⟨rfl, rfl⟩), numR_of hok.1 (by
      intro b t e
      cases ns with
      | nil => cases e; decide
      | cons k ks => rw [bodyA_cons] at e; cases e; decide)]
    dsimp only
    rw [argsR_of _ ns (by simp) hok.2 (by simp)]
    show closeR _ ([n] ++ ns) (41 :: r) = _
    unfold closeR
    rw [if_neg (by simp), if_pos (by rfl)]
    show some ((⟨_, [n] ++ ns⟩ : Mod), r) = _
    rw [show [n] ++ ns = n :: ns from rfl, hm _ ha]

/-! ### the modules of a text -/
def modsG (g : UInt8 → List UInt8 → Option (Mod × List UInt8)) : Nat → List UInt8 → Option (List Mod)
  | _, [] => some []
  | 0, _ :: _ => none
  | f + 1, c :: s => match g c s with
    | none => none
    | some (m, r) => (modsG g f r).map (m :: ·)
theorem modsG_nil (g : UInt8 → List UInt8 → Option (Mod × List UInt8)) (f : Nat) : modsG g f [] = some [] := by cases f <;> rfl
theorem modsG_cons (g : UInt8 → List UInt8 → Option (Mod × List UInt8)) (f : Nat) (c : UInt8) (s : List UInt8) : modsG g (f + 1) (c :: s) = match g c s with
    | none => none
    | some (m, r) => (modsG g f r).map (m :: ·) := rfl
def parseG (g : UInt8 → List UInt8 → Option (Mod × List UInt8)) (s : List UInt8) : List Mod × Int :=
  if 50000 < s.length then ([], 12) else match modsG g s.length s with
    | none => ([], 12)
    | some ws => if checkF ws = 0 then (ws, 0) else ([], 12)
def parseF (s : List UInt8) : List Mod × Int := parseG modP s
theorem modsG_text {g : UInt8 → List UInt8 → Option (Mod × List UInt8)} (hg : ∀ c s m r, g c s = some (m, r) → c :: s = modL m ++ r) : ∀ (f : Nat) {s : List UInt8} {ws : List Mod}, modsG g f s = some ws → textL ws = s
  | f, [], ws, h => by rw [modsG_nil] at h; cases h; rfl
  | 0, _ :: _, ws, h => by cases h
  | f + 1, c :: s, ws, h => by
    rw [modsG_cons] at h
    cases hm : g c s with
    | none => rw [hm] at h; cases h
    | some x =>
      obtain ⟨m, r⟩ := x
      rw [hm] at h
      dsimp only at h
      cases hr : modsG g f r with
      | none => rw [hr] at h; cases h
      | some ws' =>
        rw [hr] at h; cases h
        rw [textL_cons, modsG_text hg f hr, hg _ _ _ _ hm]
theorem text_sep {ms : List Mod} (h : ms.all fineF = true) : Sep (textL ms) := by
  intro b t e
  cases ms with
  | nil => cases e
  | cons m ms =>
    rw [List.all_cons, Bool.and_eq_true] at h
    have hl : letterB m.name = true := letter_fine h.1
    rw [textL_cons] at e
    have hb : b = m.name.toNat.toUInt8 := by
      unfold modL at e; cases e; rfl
    have hn := name_byte hl
    rw [← hb] at hn
    constructor
    · rintro rfl
      rw [← hn] at hl; revert hl; decide
    · rintro rfl
      rw [← hn] at hl; revert hl; decide
theorem modsG_of {g : UInt8 → List UInt8 → Option (Mod × List UInt8)} (hg : ∀ m, fineF m = true → ∀ r, Sep r → g m.name.toNat.toUInt8 (argL m.args ++ r) = some (m, r)) : ∀ (f : Nat) {ws : List Mod}, ws.all fineF = true → (textL ws).length ≤ f → modsG g f (textL ws) = some ws
  | f, [], _, _ => modsG_nil g f
  | 0, m :: ws, _, hl => by rw [textL_cons] at hl; unfold modL at hl; simp at hl
  | f + 1, m :: ws, h, hl => by
    rw [List.all_cons, Bool.and_eq_true] at h
    rw [textL_cons] at hl ⊢
    unfold modL at hl ⊢
    rw [List.cons_append, modsG_cons, hg m h.1 _ (text_sep h.2)]
    dsimp only
    rw [modsG_of hg f h.2 (by simp at hl; omega)]; rfl
theorem parseG_iff {g : UInt8 → List UInt8 → Option (Mod × List UInt8)} (h1 : ∀ c s m r, g c s = some (m, r) → c :: s = modL m ++ r) (h2 : ∀ m, fineF m = true → ∀ r, Sep r → g m.name.toNat.toUInt8 (argL m.args ++ r) = some (m, r)) (s : List UInt8) :
    (∃ ws, parseG g s = (ws, 0) ∧ textL ws = s ∧ checkF ws = 0 ∧ s.length ≤ 50000) ∨ (parseG g s = ([], 12) ∧ ∀ ws, textL ws = s → checkF ws = 0 → 50000 < s.length) := by
  unfold parseG
  by_cases hl : 50000 < s.length
  · rw [if_pos hl]; exact .inr ⟨rfl, fun _ _ _ => hl⟩
  · rw [if_neg hl]
    have hno : ∀ ws, textL ws = s → checkF ws = 0 → modsG g s.length s = some ws := fun ws e hc => by
      subst e
      exact modsG_of h2 _ (check_all hc) (Nat.le_refl _)
    cases hm : modsG g s.length s with
    | none =>
      refine .inr ⟨rfl, fun ws e hc => ?_⟩
      have := hno ws e hc
      rw [hm] at this; cases this
    | some ws =>
      by_cases hc : checkF ws = 0
      · exact .inl ⟨ws, by show (if checkF ws = 0 then (ws, 0) else ([], 12)) = _; rw [if_pos hc], modsG_text h1 _ hm, hc, by omega⟩
      · refine .inr ⟨by show (if checkF ws = 0 then (ws, 0) else ([], 12)) = _; rw [if_neg hc], fun ws' e hc' => ?_⟩
        have := hno ws' e hc'
        rw [hm] at this; cases this
        exact absurd hc' hc
theorem text_inj {a b : List Mod} (ha : checkF a = 0) (hb : checkF b = 0) (h : textL a = textL b) : a = b := by
  have h1 := modsG_of (g := modP) (fun m hm r hr => modP_of hm hr) _ (check_all ha) (Nat.le_refl (textL a).length)
  have h2 := modsG_of (g := modP) (fun m hm r hr => modP_of hm hr) _ (check_all hb) (Nat.le_refl (textL b).length)
  rw [h, h2] at h1
  exact (Option.some.inj h1).symm
theorem parse_alike (s : List UInt8) : parseG modR s = parseF s := by
  rcases parseG_iff (g := modR) (fun c s m r h => modR_text h) (fun m hm r hr => modR_of hm hr) s with ⟨ws, h1, h2, h3, h4⟩ | ⟨h1, h2⟩
  · rcases parseG_iff (g := modP) (fun c s m r h => modP_text h) (fun m hm r hr => modP_of hm hr) s with ⟨vs, k1, k2, k3, k4⟩ | ⟨k1, k2⟩
    · have := text_inj h3 k3 (h2.trans k2.symm)
      subst this
      exact h1.trans k1.symm
    · have := k2 ws h2 h3; omega
  · rcases parseG_iff (g := modP) (fun c s m r h => modP_text h) (fun m hm r hr => modP_of hm hr) s with ⟨vs, k1, k2, k3, k4⟩ | ⟨k1, k2⟩
    · have := h2 vs k2 k3; omega
    · exact h1.trans k1.symm
/-- the stage's theorem: the reading of a word's text is the word -/
theorem parse_back {ms : List Mod} (hc : checkF ms = 0) (hl : ¬ 50000 < (textL ms).length) : parseF (textL ms) = (ms, 0) := by
  rcases parseG_iff (g := modP) (fun c s m r h => modP_text h) (fun m hm r hr => modP_of hm hr) (textL ms) with ⟨vs, k1, k2, k3, k4⟩ | ⟨k1, k2⟩
  · have := text_inj k3 hc k2
    subst this
    exact k1
  · have := k2 ms rfl hc; omega
theorem parse_ok {s : List UInt8} (h : (parseF s).2 = 0) : textL (parseF s).1 = s ∧ checkF (parseF s).1 = 0 ∧ s.length ≤ 50000 := by
  rcases parseG_iff (g := modP) (fun c s m r h => modP_text h) (fun m hm r hr => modP_of hm hr) s with ⟨vs, k1, k2, k3, k4⟩ | ⟨k1, k2⟩
  · have e : parseF s = (vs, 0) := k1
    rw [e]; exact ⟨k2, k3, k4⟩
  · have e : parseF s = ([], 12) := k1
    rw [e] at h; cases h
end Go.Proofs.YtckffdaomjbglaaDoor

/-! Pc -/
namespace Go.Proofs.YtckffdaomjbglaaDoor
open Go.RowKit

set_option maxHeartbeats 1000000 in
set_option maxRecDepth 100000 in
theorem copyUsed_calls (b : Nat) (w : World) (h0 : w.cell? ⟨b, 0, none⟩ = some (.pointer (some ⟨b, 0, none⟩))) :
    Calls Tryd.prog 54 #[.pointer (some ⟨b, 0, none⟩)] w fun e w' => e = .returned (.tuple #[]) ∧ w' = w := by
  obtain ⟨j, hj, _⟩ := Option.map_eq_some_iff.1 (show (Tryd.prog.info? 81).map (·.size) = some 2 by kernel_rfl)
  go_enter Tryd.func54, Tryd.ntmps54
  go_wp2
  rw [Lib.run_neq_ptr_same w _ Tryd.underlying79 hj]
  go_wp2
  go_end0
  exact ⟨rfl, rfl⟩

set_option maxHeartbeats 1000000 in
set_option maxRecDepth 100000 in
theorem copyFresh_calls (b : Nat) (w : World) (h0 : w.cell? ⟨b, 0, none⟩ = some (.pointer none)) (hsh : w.shape? b = some (81, 2)) (hfz : w.frozen? ⟨b, 0, none⟩ = false) :
    Calls Tryd.prog 54 #[.pointer (some ⟨b, 0, none⟩)] w fun e w' => e = .returned (.tuple #[]) ∧ w' = w.setCell ⟨b, 0, none⟩ (.pointer (some ⟨b, 0, none⟩)) := by
  obtain ⟨j, hj, hjs⟩ := Option.map_eq_some_iff.1 (show (Tryd.prog.info? 81).map (·.size) = some 2 by kernel_rfl)
  go_enter Tryd.func54, Tryd.ntmps54
  go_wp2
  rw [Lib.run_to_unsafe w ⟨b, 0, none⟩ Tryd.underlying79 Tryd.underlying106 hj (by rw [hjs]; decide) hsh (Nat.zero_lt_succ 1)]
  simp only [Result.andThen]
  rw [Oper.upon_value]
  go_wp2
  rw [run_callFunc_extern Tryd.func66 (by kernel_rfl) (by kernel_rfl) (by kernel_rfl) (e := Extern.AbiNoEscape.same) (by kernel_rfl)]
  rw [Lib.run_noEscape]
  simp only [Result.andThen]
  rw [Oper.upon_value]
  go_wp2
  rw [Lib.run_from_unsafe w ⟨b, 0, none⟩ Tryd.underlying106 Tryd.underlying79 hj hsh (by kernel_rfl)]
  simp only [Result.andThen]
  rw [Oper.upon_value]
  go_wp2
  go_end0
  exact ⟨rfl, rfl⟩

theorem copyCheck_calls (B b : Nat) (bs : List Value) (w : World) (h : Lib.IsBuilderF 81 5 B b bs w) :
    Calls Tryd.prog 54 #[.pointer (some ⟨b, 0, none⟩)] w fun e w' => e = .returned (.tuple #[]) ∧ (Lib.BuilderAtF 81 5 B b (.pointer (some ⟨b, 0, none⟩)) bs w' ∧ Below B w w' ∧ Lib.OthersKept 5 (some b) w w') := by
  rcases h with h | h
  · refine (copyFresh_calls b w h.cell0 h.shape h.frozen0).mono ?_
    rintro e w' ⟨rfl, rfl⟩
    exact ⟨rfl, h.used _, (Below.refl B w).setCell (p := ⟨b, 0, none⟩) h.1 _, (Lib.OthersKept.refl _ _ w).setCell ⟨b, 0, none⟩ rfl _⟩
  · refine (copyUsed_calls b w h.cell0).mono ?_
    rintro e w' ⟨rfl, rfl⟩
    exact ⟨rfl, h, Below.refl B _, Lib.OthersKept.refl _ _ _⟩

def WrotePost (e : Ending) (v : Value) (B b : Nat) (bs : List Value) (w w' : World) : Prop := e = .returned v ∧ Lib.IsBuilderF 81 5 B b bs w' ∧ Below B w w' ∧ Lib.OthersKept 5 (some b) w w'

set_option maxHeartbeats 2000000 in
set_option maxRecDepth 100000 in
theorem writeByte_calls (B b : Nat) (bs : List Value) (c : Int) (w : World) (h : Lib.IsBuilderF 81 5 B b bs w) (hlen : bs.length + 1 ≤ 140737488355328) (hBw : B ≤ w.heap.size) :
    Calls Tryd.prog 41 #[.pointer (some ⟨b, 0, none⟩), .int .u8 c] w fun e w' => WrotePost e .nilIface B b (bs ++ [.int .u8 c]) w w' := by
  obtain ⟨i0, hi, hz0, hz1, hz2⟩ := info_parts (show (Tryd.prog.info? 5).map (fun i => (i.zero, i.size, i.bytes)) = some (some (.int .u8 0), 1, 1) by kernel_rfl)
  have hcc := copyCheck_calls B b bs w h
  have Hcc := Lib.hid hcc; clear hcc
  clear h
  go_enter Tryd.func41, Tryd.ntmps41
  go_wp2_with fail
  refine Hcc.out.mono ?_
  rintro e w1 ⟨rfl, h1, hb1, hk1⟩
  obtain ⟨hB, v, hbk, hown, hne⟩ := h1
  have c0 : w1.cell? ⟨b, 0, none⟩ = some (.pointer (some ⟨b, 0, none⟩)) := by rw [Lib.cell_of_heap hbk]; rfl
  have c1 : w1.cell? ⟨b, 1, none⟩ = some v := by rw [Lib.cell_of_heap hbk]; rfl
  go_wp2_with (at_builtin; refine wpList_append_ownF _ rfl _ _ 55 rfl B 5 i0 (.int .u8 0) 1 1 Tryd.underlying55 hi hz0 hz1 hz2 rfl (by decide) _ _ _ rfl (hown.alloc _) ⟨w1.heap.size, 0, none⟩ 1 1 [.int .u8 c] rfl rfl ?c1 ?c2 ?c3 ?c4 ?c5 ?_)
  case c1 =>
    intro j u hj
    match j, hj with
    | 0, hj => simp at hj; subst hj; simp [Addr.add]
  case c2 => intro u hu; simp at hu; subst hu; rfl
  case c3 => unfold maxLen; omega
  case c4 => omega
  case c5 => have := hb1.size; simp; omega
  intro v' w2 hown' hgrow _
  have hlt : b < w1.heap.size := by
    rcases Nat.lt_or_ge b w1.heap.size with h' | h'
    · exact h'
    · simp [Array.getElem?_eq_none h'] at hbk
  have hb2 : w2.heap[b]? = some (.cells #[.pointer (some ⟨b, 0, none⟩), v] 81 (0, 0)) := by
    rw [hgrow.block b (by simp; omega) (fun e => hne e.symm), Lib.alloc_old w1 _ b hlt]
    exact hbk
  have d0 : w2.cell? ⟨b, 0, none⟩ = some (.pointer (some ⟨b, 0, none⟩)) := by rw [Lib.cell_of_heap hb2]; rfl
  have d1 : w2.cell? ⟨b, 1, none⟩ = some v := by rw [Lib.cell_of_heap hb2]; rfl
  have f1 : w2.frozen? ⟨b, 1, none⟩ = false := Lib.frozen_of_heap hb2 1
  obtain ⟨g, cap, rfl⟩ : ∃ g cap, v' = .slice (some ⟨g, 0, none⟩) (bs.length + 1) cap := by
    rcases hown'.2 with ⟨_, h0⟩ | ⟨g, cap, cur, fz, hv, _⟩
    · omega
    · exact ⟨g, cap, hv⟩
  go_wp2
  go_ret
  refine ⟨rfl, .inr ?_, ?_, ((hk1.alloc _).grown hgrow (Lib.ownsRowF_kind (hown.alloc _))).setCell ⟨b, 1, none⟩ rfl _⟩
  · exact Lib.BuilderAtF.put (T := 81) (e := 5) hB hb2 (bs' := bs ++ [.int .u8 c]) (by simpa using hown') (by decide)
  · exact ((hb1.alloc (by have := hb1.size; omega) _).grown hgrow (by have := hb1.size; simp; omega) (fun k hk => (hown.lt k hk).1)).setCell (p := ⟨b, 1, none⟩) hB _

set_option maxHeartbeats 2000000 in
set_option maxRecDepth 100000 in
theorem writeString_calls (B b : Nat) (bs : List Value) (s : ByteArray) (w : World) (h : Lib.IsBuilderF 81 5 B b bs w) (hlen : bs.length + s.size ≤ 140737488355328) (hBw : B ≤ w.heap.size) :
    Calls Tryd.prog 42 #[.pointer (some ⟨b, 0, none⟩), .string s] w fun e w' => WrotePost e (.tuple #[.int .i64 s.size, .nilIface]) B b (bs ++ Lib.strCells s) w w' := by
  obtain ⟨i0, hi, hz0, hz1, hz2⟩ := info_parts (show (Tryd.prog.info? 5).map (fun i => (i.zero, i.size, i.bytes)) = some (some (.int .u8 0), 1, 1) by kernel_rfl)
  have hcc := copyCheck_calls B b bs w h
  have Hcc := Lib.hid hcc; clear hcc
  clear h
  go_enter Tryd.func42, Tryd.ntmps42
  go_wp2_with fail
  refine Hcc.out.mono ?_
  rintro e w1 ⟨rfl, h1, hb1, hk1⟩
  obtain ⟨hB, v, hbk, hown, hne⟩ := h1
  have c0 : w1.cell? ⟨b, 0, none⟩ = some (.pointer (some ⟨b, 0, none⟩)) := by rw [Lib.cell_of_heap hbk]; rfl
  have c1 : w1.cell? ⟨b, 1, none⟩ = some v := by rw [Lib.cell_of_heap hbk]; rfl
  go_wp2_with (at_builtin; refine Lib.wpList_append_own_stringF _ rfl _ _ 55 9 rfl B 5 i0 Tryd.underlying55 Tryd.underlying9 hi hz0 hz1 hz2 _ _ _ rfl hown s rfl ?c3 ?c4 ?c5 ?_)
  case c3 => unfold maxLen; omega
  case c4 => omega
  case c5 => have := hb1.size; omega
  intro v' w2 hown' hgrow _
  have hlt : b < w1.heap.size := by
    rcases Nat.lt_or_ge b w1.heap.size with h' | h'
    · exact h'
    · simp [Array.getElem?_eq_none h'] at hbk
  have hb2 : w2.heap[b]? = some (.cells #[.pointer (some ⟨b, 0, none⟩), v] 81 (0, 0)) := by
    rw [hgrow.block b hlt (fun e => hne e.symm)]
    exact hbk
  have d0 : w2.cell? ⟨b, 0, none⟩ = some (.pointer (some ⟨b, 0, none⟩)) := by rw [Lib.cell_of_heap hb2]; rfl
  have d1 : w2.cell? ⟨b, 1, none⟩ = some v := by rw [Lib.cell_of_heap hb2]; rfl
  have f1 : w2.frozen? ⟨b, 1, none⟩ = false := Lib.frozen_of_heap hb2 1
  obtain ⟨ao, n', cap, rfl⟩ : ∃ ao n' cap, v' = .slice ao n' cap := by
    rcases hown'.2 with ⟨hv, _⟩ | ⟨g, cap, cur, fz, hv, _⟩
    · exact ⟨_, _, _, hv⟩
    · exact ⟨_, _, _, hv⟩
  go_wp2
  go_ret2
  refine ⟨rfl, .inr ?_, ?_, (hk1.grown hgrow (Lib.ownsRowF_kind hown)).setCell ⟨b, 1, none⟩ rfl _⟩
  · exact Lib.BuilderAtF.put (T := 81) (e := 5) hB hb2 (bs' := bs ++ Lib.strCells s) (by simpa [Lib.strCells_length] using hown') (by decide)
  · exact (hb1.grown hgrow (by have := hb1.size; omega) (fun k hk => (hown.lt k hk).1)).setCell (p := ⟨b, 1, none⟩) hB _
end Go.Proofs.YtckffdaomjbglaaDoor

/-! Pd -/
namespace Go.Proofs.YtckffdaomjbglaaDoor
open Go.RowKit Go.Sort
set_option linter.unusedVariables false

theorem below_grow' (w : World) (k : Nat) (os : Array Obj) : Below w.heap.size w (grow (w.drewN k) os) :=
  ⟨rfl, rfl, rfl, by show w.heap.size ≤ (w.heap ++ os).size; simp, fun i hi => by show (w.heap ++ os)[i]? = _; rw [Array.getElem?_append_left hi]⟩
theorem var_later {w w' : World} {n : String} {cs : Array Value} (h : w.var? Tryd.prog n = some cs) (hb : Below w.heap.size w w') : w'.var? Tryd.prog n = some cs := by
  unfold World.var? at h ⊢
  cases hg : Tryd.prog.globalNamed n with
  | none => rw [hg] at h; cases h
  | some g =>
    rw [hg] at h
    simp only [Option.bind_some] at h ⊢
    have hlt : g < w.heap.size := by
      rcases Nat.lt_or_ge g w.heap.size with hl | hl
      · exact hl
      · rw [Array.getElem?_eq_none hl] at h; cases h
    rw [hb.block g hlt]; exact h
/-- what the walks of texts read of the library's variables -/
structure LibAt (w : World) : Prop where
  tab : Lib.TabIs Tryd.prog w "internal/strconv.uint64pow10" .u64 Lib.pow10Tab
  syn : ∃ tp p, w.var? Tryd.prog "strconv.ErrSyntax" = some #[.iface tp p]
  rng : ∃ tp p, w.var? Tryd.prog "strconv.ErrRange" = some #[.iface tp p]
  mx : ∃ m, w.cell? ⟨0, 0, none⟩ = some (.int .i64 m)
theorem LibAt.later {w w' : World} (h : LibAt w) (hb : Below w.heap.size w w') : LibAt w' := by
  obtain ⟨h1, ⟨t2, p2, h2⟩, ⟨t3, p3, h3⟩, ⟨m, h4⟩⟩ := h
  refine ⟨var_later h1 hb, ⟨t2, p2, var_later h2 hb⟩, ⟨t3, p3, var_later h3 hb⟩, ⟨m, ?_⟩⟩
  rw [cell_keep (hb.block _ (World.block_lt_of_cell? _ _ h4))]; exact h4

theorem builder_later {T e : TypeId} {B b : Nat} {bs : List Value} {w w' : World} (h : Lib.IsBuilderF T e B b bs w) (hb : Below w.heap.size w w') : Lib.IsBuilderF T e B b bs w' := by
  have one : ∀ p, Lib.BuilderAtF T e B b p bs w → Lib.BuilderAtF T e B b p bs w' := fun p hp => by
    have hlt := hp.lt
    obtain ⟨hB, v, hbk, hown, hne⟩ := hp
    refine ⟨hB, v, (hb.block b hlt).trans hbk, ?_, hne⟩
    obtain ⟨h1, h2⟩ := hown
    refine ⟨h1, ?_⟩
    rcases h2 with h2 | ⟨g, cap, cur, fz, k1, k2, k3, k4⟩
    · exact .inl h2
    · exact .inr ⟨g, cap, cur, fz, k1, k2, (hb.block g (by
        rcases Nat.lt_or_ge g w.heap.size with hl | hl
        · exact hl
        · rw [Array.getElem?_eq_none hl] at k3; cases k3)).trans k3, k4⟩
  exact h.elim (fun h => .inl (one _ h)) (fun h => .inr (one _ h))
theorem blk_kept {e T : TypeId} {b g : Nat} {cs : Array Value} {w w' : World} (h : Blk w g T cs) (hk : Lib.OthersKept e (some b) w w') (hb : g ≠ b) (hT : T ≠ e) : Blk w' g T cs :=
  hk g _ h (by simpa using hb) (fun c fz he => by cases he; exact hT rfl)

/-! ### the text so far -/
def argP : List Int → List UInt8
  | [] => []
  | n :: ns => 40 :: (Lib.itoa n ++ bodyA ns)
theorem argP_snoc (n : Int) : ∀ ns : List Int, argP (ns ++ [n]) = argP ns ++ (if ns.length = 0 then 40 else 44) :: Lib.itoa n
  | [] => by show 40 :: (Lib.itoa n ++ bodyA []) = _; unfold bodyA; simp; rfl
  | k :: ns => by
    show 40 :: (Lib.itoa k ++ bodyA (ns ++ [n])) = 40 :: (Lib.itoa k ++ bodyA ns) ++ 44 :: Lib.itoa n
    unfold bodyA
    rw [List.flatMap_append]; simp
theorem argL_argP (ns : List Int) : argL ns = argP ns ++ (if 0 < ns.length then [41] else []) := by
  cases ns with
  | nil => rfl
  | cons n ns => show 40 :: (Lib.itoa n ++ bodyA ns ++ [41]) = 40 :: (Lib.itoa n ++ bodyA ns) ++ [41]; simp
theorem argP_len : ∀ {ns : List Int}, ns.all argOk = true → (argP ns).length ≤ 12 * ns.length := by
  have hb : ∀ ns : List Int, ns.all argOk = true → (bodyA ns).length ≤ 12 * ns.length := by
    intro ns
    induction ns with
    | nil => intro _; exact Nat.le_refl _
    | cons n ns ih =>
      intro h
      rw [List.all_cons, Bool.and_eq_true] at h
      have := ih h.2
      have h2 := argOk_le h.1
      have h3 := itoa_len h2.1 h2.2
      rw [bodyA_cons]; simp; omega
  intro ns h
  cases ns with
  | nil => exact Nat.le_refl _
  | cons n ns =>
    rw [List.all_cons, Bool.and_eq_true] at h
    have := hb ns h.2
    have h2 := argOk_le h.1
    have h3 := itoa_len h2.1 h2.2
    show (40 :: (Lib.itoa n ++ bodyA ns)).length ≤ _
    simp; omega
theorem fineP_args {m : Mod} (h : fineF m = true) : m.args.all argOk = true ∧ m.args.length ≤ 4 := by
  unfold fineF shapeOk at h
  simp only [Bool.and_eq_true, Bool.or_eq_true, beq_iff_eq, decide_eq_true_eq] at h
  refine ⟨h.1.2, ?_⟩
  rcases h.2 with h | h
  · omega
  · exact h.1.1
theorem modL_len {m : Mod} (h : fineF m = true) : (modL m).length ≤ 50 := by
  obtain ⟨h1, h2⟩ := fineP_args h
  unfold modL
  rw [argL_argP]
  have := argP_len h1
  split <;> simp <;> omega
theorem textL_len : ∀ {ms : List Mod}, ms.all fineF = true → (textL ms).length ≤ 50 * ms.length
  | [], _ => Nat.le_refl _
  | m :: ms, h => by
    rw [List.all_cons, Bool.and_eq_true] at h
    have := textL_len h.2
    have := modL_len h.1
    rw [textL_cons]; simp; omega
theorem textL_take {ms : List Mod} {k : Nat} {m : Mod} {rest : List Mod} (h : ms.drop k = m :: rest) : textL (ms.take (k + 1)) = textL (ms.take k) ++ modL m := by
  rw [take_of_drop h]; unfold textL; rw [List.flatMap_append]; simp
theorem check_len {w : List Mod} (h : checkF w = 0) : w.length ≤ 2000 := by
  unfold checkF at h
  by_cases h1 : 2000 < w.length
  · rw [if_pos h1] at h; cases h
  · omega
theorem cells_name {c : Int} (l : List UInt8) (h : letterB c = true) : Lib.byteCells l ++ [.int .u8 c] = Lib.byteCells (l ++ [c.toNat.toUInt8]) := by
  rw [Lib.byteCells_append]
  unfold Lib.byteCells
  rw [List.map_cons, List.map_nil, name_byte h]
theorem cells_lit (l : List UInt8) (c : UInt8) : Lib.byteCells l ++ [.int .u8 (c.toNat : Int)] = Lib.byteCells (l ++ [c]) := by
  rw [Lib.byteCells_append]; rfl

def TextPost (ms : List Mod) (w : World) (e : Ending) (w' : World) : Prop := e = .returned (.tuple #[.string ⟨(textF ms).1.toArray⟩, .int .i64 (textF ms).2]) ∧ Below w.heap.size w w'
set_option maxRecDepth 100000 in
set_option maxHeartbeats 4000000 in
theorem text_calls (A : Option Addr) (c : Nat) (ms : List Mod) (w : World) (h : SlAt pMod (Old w) w A c ms) (hL : LibAt w) :
    Calls Tryd.prog 31 #[.slice A ms.length c] w (TextPost ms w) := by
  have hmx := h.lenle
  have H := Lib.hid h; clear h
  have HL := Lib.hid hL; clear hL
  by_cases hck : checkF ms = 0
  · have e0 : (checkF ms != 0) = false := by simp [hck]
    have hall := check_all hck
    have hlen := check_len hck
    have htl := textL_len hall
    have hres : textF ms = if 50000 < (textL ms).length then ([], 4) else (textL ms, 0) := by unfold textF; rw [if_pos hck]
    have Hall := Lib.hid hall; clear hall
    have Hres := Lib.hid hres; clear hres
    have Hck := Lib.hid hck; clear hck
    go_enter Tryd.func31, Tryd.ntmps31
    go_wp2_with fail
    refine (wordCheck_calls A c ms w H.out).mono ?_
    rintro e w1 ⟨rfl, hb1⟩
    have z1 := hb1.size
    have Hb1 := Lib.hid hb1; clear hb1
    have hbld := Lib.IsBuilderF.of (Lib.fresh_isBuilder 81 5 w1)
    have hbb := Hb1.out.trans ((Below.refl w1.heap.size w1).alloc (Nat.le_refl _) (.cells #[.pointer none, .slice none 0 0] 81) |>.mono z1)
    have Hbld := Lib.hid hbld; clear hbld
    have Hbb := Lib.hid hbb; clear hbb
    go_wp2
    clear e0
    go_loopw [17] (fun i wr => ∃ k : Nat, k ≤ ms.length ∧ i = .int .i64 k ∧ Hid (Below w.heap.size w wr) ∧ w1.heap.size < wr.heap.size ∧ Hid (Lib.IsBuilderF 81 5 w1.heap.size w1.heap.size (Lib.byteCells (textL (ms.take k))) wr)) (fun i _ => ms.length - (intOf i).toNat)
    case atStart => exact ⟨0, Nat.zero_le _, rfl, Hbb, by simp, Hbld⟩
    case round =>
      obtain ⟨k, hk, rfl, hb, hsz, hbl⟩ := hrel
      obtain ⟨wo, rfl⟩ : ∃ wo : World, wo = wr := ⟨_, rfl⟩
      by_cases hlt : k < ms.length
      · obtain ⟨b, o, A1, c1, m, hd, rfl, hob, hc0, hc1, hm8, hargs, hal⟩ := (H.out.below hb.out).getMod hlt
        have hfm : fineF m = true := List.all_eq_true.1 Hall.out m (mem_of_drop hd.out)
        have hlet := letter_fine hfm
        obtain ⟨hao, hal4⟩ := fineP_args hfm
        have hpl : (textL (ms.take k)).length ≤ 100000 := by
          have := textL_len (ms := ms.take k) (by
            rw [List.all_eq_true]
            exact fun x hx => List.all_eq_true.1 Hall.out x (List.mem_of_mem_take hx))
          rw [List.length_take] at this; omega
        have htk := textL_take hd.out
        obtain ⟨T, hT⟩ : ∃ T, textL (ms.take k) = T := ⟨_, rfl⟩
        rw [hT] at htk hpl hbl
        obtain ⟨W1, hW1⟩ : ∃ W : World, W = wo.alloc (.cells #[.int .u8 m.name, .slice A1 m.args.length c1] 50) := ⟨_, rfl⟩
        have hblk : Blk W1 wo.heap.size 50 #[.int .u8 m.name, .slice A1 m.args.length c1] := by rw [hW1]; exact Blk.new _ _ _
        have hbw1 : Below wo.heap.size wo W1 := by rw [hW1]; exact (Below.refl _ _).alloc (Nat.le_refl _) _
        have hbld1 : Lib.IsBuilderF 81 5 w1.heap.size w1.heap.size (Lib.byteCells T) W1 := builder_later hbl.out hbw1
        have hz1 : wo.heap.size < W1.heap.size := by rw [hW1]; simp
        have hwb := writeByte_calls w1.heap.size w1.heap.size (Lib.byteCells T) m.name W1 hbld1 (by rw [Lib.byteCells_length]; omega) (by omega)
        rw [cells_name T hlet] at hwb
        have hsep : wo.heap.size ≠ w1.heap.size := by omega
        have x0 := (hblk.cell 0).trans rfl
        have kz := hb.out.size
        have Hblk := Lib.hid hblk; clear hblk
        have Hbw1 := Lib.hid hbw1; clear hbw1
        have Hbld1 := Lib.hid hbld1; clear hbld1
        have Hwb := Lib.hid hwb; clear hwb
        have Htk := Lib.hid htk; clear htk
        have HT := Lib.hid hT; clear hT
        have HW1 := Lib.hid hW1; clear hW1
        have Hpl := Lib.hid hpl; clear hpl
        clear hbl
        go_wp2_with fail
        rw [← HW1.out]
        refine Hwb.out.mono ?_
        rintro e w2 ⟨rfl, hbd2, hb2, hk2⟩
        have hblk2 := blk_kept Hblk.out hk2 hsep (by decide)
        have hargs2 : SlAt (pI .i64) (Old w) w2 A1 c1 m.args := hargs.out.keep fun q hq => by
          have hq1 : q < w.heap.size := hq
          exact (hb2.block q (by omega)).trans (Hbw1.out.block q (by omega))
        have hbw2 : Below w.heap.size w w2 := (hb.out.trans (Hbw1.out.mono kz)).trans (hb2.mono z1)
        have hz2 : wo.heap.size < w2.heap.size := by have := hb2.size; omega
        have y1 := (hblk2.cell 1).trans rfl
        obtain ⟨P0, hP0⟩ : ∃ P0, T ++ [m.name.toNat.toUInt8] = P0 := ⟨_, rfl⟩
        rw [hP0] at hbd2
        have hP0l : P0.length ≤ 100001 := by rw [← hP0, List.length_append]; have := Hpl.out; simp; omega
        have Hblk2 := Lib.hid hblk2; clear hblk2
        have Hargs2 := Lib.hid hargs2; clear hargs2
        have Hbw2 := Lib.hid hbw2; clear hbw2
        have Hbd2 := Lib.hid hbd2; clear hbd2
        have HP0 := Lib.hid hP0; clear hP0
        clear hargs x0 hk2 hb2
        go_wp2
        go_loopw [27] (fun i wr => ∃ j : Nat, j ≤ m.args.length ∧ i = .int .i64 j ∧ Hid (Below w2.heap.size w2 w2) ∧ Hid (Below w.heap.size w wr) ∧ wo.heap.size < wr.heap.size ∧ Hid (Blk wr wo.heap.size 50 #[.int .u8 m.name, .slice A1 m.args.length c1]) ∧ Hid (SlAt (pI .i64) (Old w) wr A1 c1 m.args) ∧ Hid (Lib.IsBuilderF 81 5 w1.heap.size w1.heap.size (Lib.byteCells (P0 ++ argP (m.args.take j))) wr)) (fun i _ => m.args.length - (intOf i).toNat)
        case atStart => exact ⟨0, Nat.zero_le _, rfl, Below.refl _ _, Hbw2, hz2, Hblk2, Hargs2, by unfold Hid; simp only [List.take_zero]; show Lib.IsBuilderF _ _ _ _ (Lib.byteCells (P0 ++ [])) _; rw [List.append_nil]; exact Hbd2.out⟩
        case round =>
          obtain ⟨j, hj, rfl, _, hb3, hsz3, hblk3, hargs3, hbd3⟩ := hrel
          obtain ⟨wp, rfl⟩ : ∃ wp : World, wp = wr := ⟨_, rfl⟩
          have hjl : (argP (m.args.take j)).length ≤ 48 := by
            have := argP_len (ns := m.args.take j) (by
              rw [List.all_eq_true]
              exact fun x hx => List.all_eq_true.1 hao x (List.mem_of_mem_take hx))
            rw [List.length_take] at this; omega
          by_cases hlt3 : j < m.args.length
          · obtain ⟨b4, o4, x, hdx, rfl, hob4, hcx, hfx⟩ := hargs3.out.getI hlt3
            have hxo : argOk x = true := List.all_eq_true.1 hao x (mem_of_drop hdx.out)
            obtain ⟨hx0, hx1⟩ := argOk_le hxo
            have hsn := argP_snoc x (m.args.take j)
            rw [← take_of_drop hdx.out, List.length_take, Nat.min_eq_left (Nat.le_of_lt hlt3)] at hsn
            have hil := itoa_len hx0 hx1
            obtain ⟨Q, hQ⟩ : ∃ Q, P0 ++ argP (m.args.take j) = Q := ⟨_, rfl⟩
            have hQl : Q.length ≤ 100100 := by rw [← hQ, List.length_append]; omega
            rw [hQ] at hbd3
            obtain ⟨sp, hsp⟩ : ∃ sp : UInt8, (if j = 0 then (40 : UInt8) else 44) = sp := ⟨_, rfl⟩
            rw [hsp] at hsn
            have hw4 := writeByte_calls w1.heap.size w1.heap.size (Lib.byteCells Q) (sp.toNat : Int) wp hbd3.out (by rw [Lib.byteCells_length]; omega) (by omega)
            rw [cells_lit] at hw4
            have y1 := (hblk3.out.cell 1).trans rfl
            have hnx : P0 ++ argP (m.args.take (j + 1)) = Q ++ [sp] ++ Lib.itoa x := by rw [hsn, ← hQ]; simp
            have Hw4 := Lib.hid hw4; clear hw4
            have Hnx := Lib.hid hnx; clear hnx
            have HQ := Lib.hid hQ; clear hQ
            have Hsn := Lib.hid hsn; clear hsn
            have Hao := Lib.hid hao; clear hao
            clear hjl hbd3
            by_cases hj0 : j = 0
            · subst hj0
              obtain rfl : sp = 40 := by rw [← hsp]; rfl
              rw [Nat.add_zero] at hcx
              go_wp2_with fail
              refine Hw4.out.mono ?_
              rintro e w5 ⟨rfl, hbd5, hb5, hk5⟩
              have hblk5 := blk_kept hblk3.out hk5 hsep (by decide)
              have hz5 := hb5.size
              have hb05 : Below w.heap.size w w5 := hb3.out.trans (hb5.mono z1)
              have hL5 := HL.out.later hb05
              have hit := Tryd.strconv_Itoa x (by omega) (by omega) w5 hL5.tab
              have hargs5 : SlAt (pI .i64) (Old w) w5 (some ⟨b4, o4, none⟩) c1 m.args := hargs3.out.keep fun q hq => hb5.block q (by have : q < w.heap.size := hq; omega)
              have Hit := Lib.hid hit; clear hit
              have Hblk5 := Lib.hid hblk5; clear hblk5
              have Hbd5 := Lib.hid hbd5; clear hbd5
              have Hb05 := Lib.hid hb05; clear hb05
              have Hargs5 := Lib.hid hargs5; clear hargs5
              clear hk5 hb5 hL5
              go_wp2_with fail
              refine Hit.out.mono ?_
              rintro e w6 ⟨rfl, kk, oss, hw6⟩
              have hb6 : Below w5.heap.size w5 w6 := by rw [hw6]; exact below_grow' _ _ _
              clear hw6
              have hz6 := hb6.size
              have hblk6 : Blk w6 wo.heap.size 50 #[.int .u8 m.name, .slice (some ⟨b4, o4, none⟩) m.args.length c1] := by
                have := Hblk5.out
                unfold Blk at this ⊢
                rw [hb6.block _ (by omega)]; exact this
              have hbd6 := builder_later Hbd5.out hb6
              have hb06 : Below w.heap.size w w6 := Hb05.out.trans (hb6.mono (by omega))
              have hargs6 : SlAt (pI .i64) (Old w) w6 (some ⟨b4, o4, none⟩) c1 m.args := Hargs5.out.keep fun q hq => hb6.block q (by have : q < w.heap.size := hq; omega)
              have hsz6 : (⟨(Lib.itoa x).toArray⟩ : ByteArray).size = (Lib.itoa x).length := by show (Lib.itoa x).toArray.size = _; simp
              have hw7 := writeString_calls w1.heap.size w1.heap.size _ ⟨(Lib.itoa x).toArray⟩ w6 hbd6 (by rw [Lib.byteCells_length, hsz6]; simp; omega) (by omega)
              rw [Lib.strCells_toArray, ← Lib.byteCells_append, ← Hnx.out] at hw7
              have Hw7 := Lib.hid hw7; clear hw7
              have Hblk6 := Lib.hid hblk6; clear hblk6
              have Hb06 := Lib.hid hb06; clear hb06
              have Hargs6 := Lib.hid hargs6; clear hargs6
              clear hb6 hbd6
              go_wp2_with fail
              refine Hw7.out.mono ?_
              rintro e w7 ⟨rfl, hbd7, hb7, hk7⟩
              have hblk7 := blk_kept Hblk6.out hk7 hsep (by decide)
              have hz7 := hb7.size
              have hb07 : Below w.heap.size w w7 := Hb06.out.trans (hb7.mono z1)
              have hargs7 : SlAt (pI .i64) (Old w) w7 (some ⟨b4, o4, none⟩) c1 m.args := Hargs6.out.keep fun q hq => hb7.block q (by have : q < w.heap.size := hq; omega)
              have Hbd7 := Lib.hid hbd7; clear hbd7
              have Hblk7 := Lib.hid hblk7; clear hblk7
              have Hb07 := Lib.hid hb07; clear hb07
              have Hargs7 := Lib.hid hargs7; clear hargs7
              clear hk7 hb7
              go_wp2
              go_roundw
              case rel => exact ⟨0 + 1, by omega, by go_num, Below.refl _ _, Hb07, by omega, Hblk7, Hargs7, Hbd7⟩
              case measure => simp [intOf]; omega
            · obtain rfl : sp = 44 := by rw [← hsp, if_neg hj0]
              have hmin : min (j : Int) 1 = 1 := by omega
              go_wp2_with fail
              refine Hw4.out.mono ?_
              rintro e w5 ⟨rfl, hbd5, hb5, hk5⟩
              have hblk5 := blk_kept hblk3.out hk5 hsep (by decide)
              have hz5 := hb5.size
              have hb05 : Below w.heap.size w w5 := hb3.out.trans (hb5.mono z1)
              have hL5 := HL.out.later hb05
              have hit := Tryd.strconv_Itoa x (by omega) (by omega) w5 hL5.tab
              have hargs5 : SlAt (pI .i64) (Old w) w5 (some ⟨b4, o4, none⟩) c1 m.args := hargs3.out.keep fun q hq => hb5.block q (by have : q < w.heap.size := hq; omega)
              have Hit := Lib.hid hit; clear hit
              have Hblk5 := Lib.hid hblk5; clear hblk5
              have Hbd5 := Lib.hid hbd5; clear hbd5
              have Hb05 := Lib.hid hb05; clear hb05
              have Hargs5 := Lib.hid hargs5; clear hargs5
              clear hk5 hb5 hL5
              go_wp2_with fail
              refine Hit.out.mono ?_
              rintro e w6 ⟨rfl, kk, oss, hw6⟩
              have hb6 : Below w5.heap.size w5 w6 := by rw [hw6]; exact below_grow' _ _ _
              clear hw6
              have hz6 := hb6.size
              have hblk6 : Blk w6 wo.heap.size 50 #[.int .u8 m.name, .slice (some ⟨b4, o4, none⟩) m.args.length c1] := by
                have := Hblk5.out
                unfold Blk at this ⊢
                rw [hb6.block _ (by omega)]; exact this
              have hbd6 := builder_later Hbd5.out hb6
              have hb06 : Below w.heap.size w w6 := Hb05.out.trans (hb6.mono (by omega))
              have hargs6 : SlAt (pI .i64) (Old w) w6 (some ⟨b4, o4, none⟩) c1 m.args := Hargs5.out.keep fun q hq => hb6.block q (by have : q < w.heap.size := hq; omega)
              have hsz6 : (⟨(Lib.itoa x).toArray⟩ : ByteArray).size = (Lib.itoa x).length := by show (Lib.itoa x).toArray.size = _; simp
              have hw7 := writeString_calls w1.heap.size w1.heap.size _ ⟨(Lib.itoa x).toArray⟩ w6 hbd6 (by rw [Lib.byteCells_length, hsz6]; simp; omega) (by omega)
              rw [Lib.strCells_toArray, ← Lib.byteCells_append, ← Hnx.out] at hw7
              have Hw7 := Lib.hid hw7; clear hw7
              have Hblk6 := Lib.hid hblk6; clear hblk6
              have Hb06 := Lib.hid hb06; clear hb06
              have Hargs6 := Lib.hid hargs6; clear hargs6
              clear hb6 hbd6
              go_wp2_with fail
              refine Hw7.out.mono ?_
              rintro e w7 ⟨rfl, hbd7, hb7, hk7⟩
              have hblk7 := blk_kept Hblk6.out hk7 hsep (by decide)
              have hz7 := hb7.size
              have hb07 : Below w.heap.size w w7 := Hb06.out.trans (hb7.mono z1)
              have hargs7 : SlAt (pI .i64) (Old w) w7 (some ⟨b4, o4, none⟩) c1 m.args := Hargs6.out.keep fun q hq => hb7.block q (by have : q < w.heap.size := hq; omega)
              have Hbd7 := Lib.hid hbd7; clear hbd7
              have Hblk7 := Lib.hid hblk7; clear hblk7
              have Hb07 := Lib.hid hb07; clear hb07
              have Hargs7 := Lib.hid hargs7; clear hargs7
              clear hk7 hb7
              go_wp2
              go_roundw
              case rel => exact ⟨j + 1, by omega, by go_num, Below.refl _ _, Hb07, by omega, Hblk7, Hargs7, Hbd7⟩
              case measure => simp [intOf]; omega
          · have hjt : m.args.take j = m.args := List.take_of_length_le (by omega)
            rw [hjt] at hbd3 hjl
            have hml : T ++ modL m = P0 ++ argL m.args := by rw [← HP0.out]; unfold modL; simp
            rw [argL_argP] at hml
            have y1 := (hblk3.out.cell 1).trans rfl
            by_cases hl0 : 0 < m.args.length
            · rw [if_pos hl0] at hml
              have hw8 := writeByte_calls w1.heap.size w1.heap.size (Lib.byteCells (P0 ++ argP m.args)) ((41 : UInt8).toNat : Int) wp hbd3.out (by rw [Lib.byteCells_length, List.length_append]; omega) (by omega)
              rw [cells_lit, List.append_assoc, ← hml, ← Htk.out] at hw8
              have Hw8 := Lib.hid hw8; clear hw8
              clear hml
              go_wp2_with fail
              refine Hw8.out.mono ?_
              rintro e w8 ⟨rfl, hbd8, hb8, hk8⟩
              have hb08 : Below w.heap.size w w8 := hb3.out.trans (hb8.mono z1)
              have hz8 := hb8.size
              have Hbd8 := Lib.hid hbd8; clear hbd8
              have Hb08 := Lib.hid hb08; clear hb08
              clear hk8 hb8
              go_wp2
              go_roundw
              case rel => exact ⟨k + 1, by omega, by go_num, Hb08, by omega, Hbd8⟩
              case measure => simp [intOf]; omega
            · rw [if_neg hl0, List.append_nil] at hml
              have hbd8 : Lib.IsBuilderF 81 5 w1.heap.size w1.heap.size (Lib.byteCells (textL (ms.take (k + 1)))) wp := by rw [Htk.out, hml]; exact hbd3.out
              have Hbd8 := Lib.hid hbd8; clear hbd8
              clear hml
              go_wp2
              go_roundw
              case rel => exact ⟨k + 1, by omega, by go_num, hb3, by omega, Hbd8⟩
              case measure => simp [intOf]; omega
      · have hkt : ms.take k = ms := List.take_of_length_le (by omega)
        rw [hkt] at hbl
        have hln := Tryd.Builder_Len_f w1.heap.size w1.heap.size _ wo hbl.out
        rw [Lib.byteCells_length] at hln
        have hst := Tryd.Builder_String_any_k w1.heap.size w1.heap.size _ wo hbl.out (by omega)
        have hr := Hres.out
        have Hln := Lib.hid hln; clear hln
        have Hst := Lib.hid hst; clear hst
        by_cases hbig : 50000 < (textL ms).length
        · rw [if_pos hbig] at hr
          have hbig' : (50000 : Int) < ((textL ms).length : Int) := by omega
          have Hr := Lib.hid hr; clear hr
          go_wp2_with fail
          refine Hln.out.mono ?_
          rintro e w9 ⟨rfl, rfl⟩
          go_wp2
          go_ret2
          exact ⟨by rw [Hr.out]; rfl, hb.out⟩
        · rw [if_neg hbig] at hr
          have hbig' : ¬ (50000 : Int) < ((textL ms).length : Int) := by omega
          have Hr := Lib.hid hr; clear hr
          go_wp2_with fail
          refine Hln.out.mono ?_
          rintro e w9 ⟨rfl, rfl⟩
          go_wp2_with fail
          refine Hst.out.mono ?_
          rintro e w10 ⟨rfl, _, hb10, _⟩
          have hb11 := hb.out.trans (hb10.mono z1)
          have Hb11 := Lib.hid hb11; clear hb11
          clear hb10
          go_wp2
          go_ret2
          exact ⟨by rw [Hr.out]; rfl, Hb11.out⟩
  · have e0 : (checkF ms != 0) = true := by simp [hck]
    have hres : textF ms = ([], checkF ms) := by unfold textF; rw [if_neg hck]
    have Hres := Lib.hid hres; clear hres
    have Hck := Lib.hid hck; clear hck
    go_enter Tryd.func31, Tryd.ntmps31
    go_wp2_with fail
    refine (wordCheck_calls A c ms w H.out).mono ?_
    rintro e w1 ⟨rfl, hb1⟩
    have z1 := hb1.size
    have Hb1 := Lib.hid hb1; clear hb1
    go_wp2
    go_ret2
    exact ⟨by rw [Hres.out]; rfl, Hb1.out⟩
end Go.Proofs.YtckffdaomjbglaaDoor

/-! Pf -/
namespace Go.Proofs.YtckffdaomjbglaaDoor
open Go.RowKit Go.Sort

theorem index_cut (c : UInt8) : ∀ l : List UInt8, Lib.index l [c] = match cutC c l with
    | none => -1
    | some (p, _) => (p.length : Int)
  | [] => rfl
  | b :: r => by
    have ih := index_cut c r
    unfold Lib.index cutC
    by_cases h : b = c
    · subst h
      simp [List.isPrefixOf]
    · have h1 : ([c] : List UInt8).isPrefixOf (b :: r) = false := by simp [List.isPrefixOf, Ne.symm h]
      rw [h1, if_neg (by decide), if_neg h, ih]
      cases cutC c r with
      | none => rfl
      | some x => obtain ⟨p, q⟩ := x; simp
theorem lib_cut (c : UInt8) (l : List UInt8) : Lib.cut l [c] = match cutC c l with
    | none => (l, [], false)
    | some (p, q) => (p, q, true) := by
  have h := index_cut c l
  unfold Lib.cut
  cases hc : cutC c l with
  | none =>
    rw [hc] at h
    dsimp only at h ⊢
    rw [h, if_neg (by decide)]
  | some x =>
    obtain ⟨p, q⟩ := x
    rw [hc] at h
    dsimp only at h ⊢
    have hl := cutC_text hc
    rw [h, if_pos (Int.natCast_nonneg _), Int.toNat_natCast, hl]
    simp
theorem splitC_none {c : UInt8} : ∀ {l : List UInt8}, cutC c l = none → splitC c l = [l]
  | [], _ => rfl
  | b :: r, h => by
    unfold cutC at h
    unfold splitC
    by_cases hb : b = c
    · rw [if_pos hb] at h; cases h
    · rw [if_neg hb] at h ⊢
      have : cutC c r = none := by
        cases hc : cutC c r with
        | none => rfl
        | some x => rw [hc] at h; cases h
      rw [splitC_none this]
theorem splitC_some {c : UInt8} : ∀ {l p q : List UInt8}, cutC c l = some (p, q) → splitC c l = p :: splitC c q
  | [], _, _, h => by cases h
  | b :: r, p, q, h => by
    unfold cutC at h
    conv => lhs; unfold splitC
    by_cases hb : b = c
    · rw [if_pos hb] at h ⊢; cases h; rfl
    · rw [if_neg hb] at h ⊢
      cases hc : cutC c r with
      | none => rw [hc] at h; cases h
      | some x =>
        rw [hc] at h; cases h
        rw [splitC_some hc]
theorem lib_split (c : UInt8) : ∀ (n : Nat) (l : List UInt8), l.length ≤ n → Lib.splitK [c] 0 (Lib.count l [c]) l = splitC c l
  | n, l, hn => by
    have h := index_cut c l
    cases hc : cutC c l with
    | none =>
      rw [hc] at h
      rw [Lib.count_miss h, splitC_none hc]; rfl
    | some x =>
      obtain ⟨p, q⟩ := x
      rw [hc] at h
      have hl := cutC_text hc
      rw [Lib.count_hit (by simp) h, Nat.add_comm]
      unfold Lib.splitK
      rw [if_neg (by rw [h]; simp), h, Int.toNat_natCast, splitC_some hc]
      have e1 : l.take (p.length + 0) = p := by rw [hl]; simp
      have e2 : l.drop (p.length + [c].length) = q := by rw [hl]; simp
      rw [e1, e2]
      cases n with
      | zero => rw [hl] at hn; simp at hn
      | succ n => rw [lib_split c n q (by rw [hl] at hn; simp at hn; omega)]
theorem pieces_data (l : List UInt8) : (Lib.splitB ⟨#[44]⟩ 0 (Lib.countB ⟨l.toArray⟩ ⟨#[44]⟩) ⟨l.toArray⟩).map (·.data.toList) = splitC 44 l := by
  rw [Lib.splitB_data]
  exact lib_split 44 _ l (Nat.le_refl _)
theorem pieces_len (l : List UInt8) : (Lib.splitB ⟨#[44]⟩ 0 (Lib.countB ⟨l.toArray⟩ ⟨#[44]⟩) ⟨l.toArray⟩).length = Lib.countB ⟨l.toArray⟩ ⟨#[44]⟩ + 1 := Lib.splitB_all _ (by decide) 0 _ _ rfl
theorem splitC_len (c : UInt8) : ∀ l : List UInt8, (splitC c l).length ≤ l.length + 1
  | [] => Nat.le_refl _
  | b :: r => by
    have ih := splitC_len c r
    unfold splitC
    split
    · simp; omega
    · split
      · simp
      · rename_i h; rw [h] at ih; simp at ih ⊢; omega
theorem splitC_piece (c : UInt8) : ∀ l : List UInt8, ∀ p ∈ splitC c l, p.length ≤ l.length
  | [], p, h => by
    have := List.mem_singleton.1 (show p ∈ [[]] from h)
    rw [this]; simp
  | b :: r, p, h => by
    have ih := splitC_piece c r
    unfold splitC at h
    split at h
    · rcases List.mem_cons.1 h with h | h
      · rw [h]; simp
      · have := ih p h; simp; omega
    · split at h
      · have := List.mem_singleton.1 h
        rw [this]; simp
      · rename_i q qs hs
        rcases List.mem_cons.1 h with h | h
        · have := ih q (by rw [hs]; simp)
          rw [h]; simp; omega
        · have := ih p (by rw [hs]; simp [h])
          simp; omega

/-! ### the library's functions, as Parse calls them -/
theorem cut_calls (s : ByteArray) (w : World) (hL : LibAt w) (hs : s.size ≤ 60000) : Calls Tryd.prog 47 #[.string s, .string ⟨#[41]⟩] w fun e w' => (∃ p q : ByteArray, ∃ ok, e = .returned (.tuple #[.string p, .string q, .bool ok]) ∧ Hid (match cutC 41 s.data.toList with
    | none => ok = false
    | some (a, b) => p.data.toList = a ∧ q.data.toList = b ∧ ok = true)) ∧ Below w.heap.size w w' := by
  obtain ⟨m, hm⟩ := hL.mx
  refine (Tryd.strings_Cut s ⟨#[41]⟩ m w (by omega) hm).mono ?_
  rintro e w' ⟨rfl, n, rfl⟩
  refine ⟨⟨_, _, _, rfl, ?_⟩, below_drewN (Below.refl _ _) n⟩
  unfold Hid
  have h : Lib.cut s.data.toList (ByteArray.mk #[41]).data.toList = _ := lib_cut 41 s.data.toList
  rw [h]
  cases cutC 41 s.data.toList with
  | none => rfl
  | some x => obtain ⟨a, b⟩ := x; exact ⟨rfl, rfl, rfl⟩
def PiecesPost (s : ByteArray) (w : World) (e : Ending) (w' : World) : Prop :=
  ∃ ps : List ByteArray, e = .returned (.slice (some ⟨w.heap.size, 0, none⟩) ps.length ps.length) ∧ w' = w.alloc (.cells (ps.map Value.string).toArray 9) ∧ Hid (ps.map (·.data.toList) = splitC 44 s.data.toList) ∧ ps.length ≤ s.size + 1
theorem split_calls (s : ByteArray) (w : World) (hL : LibAt w) (hs : s.size ≤ 60000) : Calls Tryd.prog 48 #[.string s, .string ⟨#[44]⟩] w (PiecesPost s w) := by
  obtain ⟨m, hm⟩ := hL.mx
  obtain ⟨l, rfl⟩ : ∃ l : List UInt8, s = ⟨l.toArray⟩ := ⟨s.data.toList, rfl⟩
  refine (Tryd.strings_Split ⟨l.toArray⟩ ⟨#[44]⟩ m w (by omega) hm (by decide)).mono ?_
  rintro e w' ⟨rfl, rfl⟩
  have h1 := pieces_len l
  refine ⟨_, ?_, rfl, pieces_data l, ?_⟩
  · rw [h1]
  · have h2 := congrArg List.length (pieces_data l)
    rw [List.length_map] at h2
    rw [h2]
    have h3 := splitC_len 44 l
    have h4 : (⟨l.toArray⟩ : ByteArray).size = l.length := by show l.toArray.size = _; simp
    omega
def AtoiPost (t : ByteArray) (w : World) (e : Ending) (w' : World) : Prop :=
  ((∃ v, e = .returned (.tuple #[.int .i64 v, .nilIface]) ∧ Hid (Lib.atoiAll t.data.toList = .ok v) ∧ -9223372036854775808 ≤ v ∧ v ≤ 9223372036854775807) ∨
   (∃ v T p, e = .returned (.tuple #[.int .i64 v, .iface T (.pointer p)]) ∧ Hid (numP t.data.toList = none))) ∧ Below w.heap.size w w'
theorem atoi_calls (t : ByteArray) (w : World) (hL : LibAt w) (hs : t.size ≤ 60000) : Calls Tryd.prog 49 #[.string t] w (AtoiPost t w) := by
  rcases h : Lib.atoiAll t.data.toList with v | _ | _
  · have hb := Lib.atoiAll_bounds h
    refine (Tryd.strconv_Atoi_ok t (by omega) v h w).mono ?_
    rintro e w' ⟨rfl, hw⟩
    refine ⟨.inl ⟨v, rfl, h, hb.1, hb.2⟩, ?_⟩
    rcases hw with rfl | ⟨u, rfl⟩
    · exact Below.refl _ _
    · exact Lib.bytesWorld_below _ _ _
  · obtain ⟨tp, p, hv⟩ := hL.syn
    refine (Tryd.strconv_Atoi_syntax_var t (by omega) h tp p w hv).mono ?_
    rintro e w' ⟨N, rfl, _, _, hb⟩
    exact ⟨.inr ⟨_, _, _, rfl, by unfold Hid numP; rw [h]⟩, hb⟩
  · obtain ⟨tp, p, hv⟩ := hL.rng
    refine (Tryd.strconv_Atoi_range_var t (by omega) h tp p w hv).mono ?_
    rintro e w' ⟨N, rfl, _, _, hb⟩
    exact ⟨.inr ⟨_, _, _, rfl, by unfold Hid numP; rw [h]⟩, hb⟩
theorem itoaB_calls (n : Int) (w : World) (hL : LibAt w) (h0 : -9223372036854775808 ≤ n) (h1 : n ≤ 9223372036854775807) : Calls Tryd.prog 43 #[.int .i64 n] w fun e w' => e = .returned (.string ⟨(Lib.itoa n).toArray⟩) ∧ Below w.heap.size w w' := by
  refine (Tryd.strconv_Itoa n h0 h1 w hL.tab).mono ?_
  rintro e w' ⟨rfl, k, os, rfl⟩
  exact ⟨rfl, below_grow' _ _ _⟩
end Go.Proofs.YtckffdaomjbglaaDoor

/-! Pg -/
namespace Go.Proofs.YtckffdaomjbglaaDoor
open Go.RowKit Go.Sort
set_option linter.unusedVariables false

def ParsePost (s : List UInt8) (w : World) (e : Ending) (w' : World) : Prop :=
  ∃ A c, e = .returned (.tuple #[.slice A (parseF s).1.length c, .int .i64 (parseF s).2]) ∧ Own pMod 50 w.heap.size (w.heap.size ≤ ·) w' (.slice A (parseF s).1.length c) (parseF s).1 ∧ Below w.heap.size w w'
theorem parse_err {s : List UInt8} {w w' : World} (h : parseF s = ([], 12)) (hb : Below w.heap.size w w') : ParsePost s w (.returned (.tuple #[.slice none 0 0, .int .i64 12])) w' := by
  unfold ParsePost
  rw [h]
  exact ⟨none, 0, rfl, Own.nil, hb⟩
theorem parse_none {s : List UInt8} (h : modsG modP s.length s = none) : parseF s = ([], 12) := by
  unfold parseF parseG
  rw [h]; split <;> rfl
theorem map_more (done : List Mod) (m : Mod) (x : Option (List Mod)) : (x.map (m :: ·)).map (done ++ ·) = x.map ((done ++ [m]) ++ ·) := by cases x <;> simp
theorem map_moreI (vals : List Int) (m : Int) (x : Option (List Int)) : (x.map (m :: ·)).map (vals ++ ·) = x.map ((vals ++ [m]) ++ ·) := by cases x <;> simp
theorem str_cell {W : World} {g : Nat} {T : TypeId} {ps : List ByteArray} (h : Blk W g T (ps.map Value.string).toArray) {j : Nat} {x : ByteArray} {rest : List ByteArray} (hd : ps.drop j = x :: rest) : W.cell? ⟨g, j, none⟩ = some (.string x) := by
  rw [h.cell j]
  have := get_of_drop hd
  simp [this]
theorem map_none {α β : Type} {f : α → β} {x : Option α} (h : x = none) : x.map f = none := by rw [h]; rfl

set_option maxRecDepth 100000 in
set_option maxHeartbeats 4000000 in
theorem parse_calls (s : ByteArray) (w : World) (hs : s.size ≤ 60000) (hL : LibAt w) :
    Calls Tryd.prog 32 #[.string s] w (ParsePost s.data.toList w) := by
  have hsl : s.size = s.data.toList.length := Lib.size_eq s
  have HL := Lib.hid hL; clear hL
  by_cases hbig : 50000 < s.size
  · have hr : parseF s.data.toList = ([], 12) := by unfold parseF parseG; rw [if_pos (by omega)]
    have hbig' : (50000 : Int) < (s.size : Int) := by omega
    have Hr := Lib.hid hr; clear hr
    have Hsl := Lib.hid hsl; clear hsl
    go_enter Tryd.func32, Tryd.ntmps32
    go_wp2
    go_ret2
    exact parse_err Hr.out (Below.refl _ _)
  · have hbig' : ¬ (50000 : Int) < (s.size : Int) := by omega
    have hgo : parseF s.data.toList = match modsG modP s.data.toList.length s.data.toList with
      | none => ([], 12)
      | some ws => if checkF ws = 0 then (ws, 0) else ([], 12) := by
        unfold parseF parseG; rw [if_neg (by omega)]; try rfl
    have hst : modsG modP s.data.toList.length s.data.toList = (modsG modP s.data.toList.length s.data.toList).map ([] ++ ·) := by cases modsG modP s.data.toList.length s.data.toList <;> rfl
    obtain ⟨L0, hL0⟩ : ∃ L0, s.data.toList = L0 := ⟨_, rfl⟩
    rw [hL0] at hgo hst hsl ⊢
    have Hgo := Lib.hid hgo; clear hgo
    have Hst := Lib.hid hst; clear hst
    have HL0 := Lib.hid hL0; clear hL0
    go_enter Tryd.func32, Tryd.ntmps32
    go_wp2
    go_loopw [0, 4] (fun sv v wr => ∃ (t : ByteArray) (done : List Mod) (Ao : Option Addr) (co f : Nat), sv = .string t ∧ v = .slice Ao done.length co ∧ t.size ≤ 50000 ∧ t.size ≤ f ∧ done.length + t.size ≤ 50000 ∧ Hid (modsG modP L0.length L0 = (modsG modP f t.data.toList).map (done ++ ·)) ∧ Hid (Below w.heap.size w wr) ∧ w.heap.size ≤ wr.heap.size ∧ Hid (Own pMod 50 w.heap.size (w.heap.size ≤ ·) wr (.slice Ao done.length co) done)) (fun sv _ _ => match sv with | .string t => t.size | _ => 0)
    case atStart => exact ⟨s, [], none, 0, L0.length, rfl, rfl, by omega, by omega, by simp; omega, by rw [HL0.out]; exact Hst, Below.refl _ _, Nat.le_refl _, Own.nil⟩
    case round =>
      obtain ⟨t, done, Ao, co, f, rfl, rfl, ht, htf, hdt, hmod, hb, hsz, hown⟩ := hrel
      obtain ⟨wo, rfl⟩ : ∃ wo : World, wo = wr := ⟨_, rfl⟩
      have hlo := HL.out.later hb.out
      cases htl : t.data.toList with
      | nil =>
        have hne0 : t.toList.isEmpty = true := by rw [ByteArray.toList_eq, htl]; rfl
        rw [htl, modsG_nil] at hmod
        have hm2 : modsG modP L0.length L0 = some done := by rw [hmod.out]; simp
        have hgo2 : parseF L0 = if checkF done = 0 then (done, 0) else ([], 12) := by rw [Hgo.out, hm2]
        have hsd : SlAt pMod (Old wo) wo Ao co done := (hown.out.sl'.2).wide fun q hq => hq.2
        have hdl : done.length ≤ 50000 := by omega
        have hck := wordCheck_calls Ao co done wo hsd
        have Hgo2 := Lib.hid hgo2; clear hgo2
        have Hm2 := Lib.hid hm2; clear hm2
        have Hck := Lib.hid hck; clear hck
        have Hmod := Lib.hid hmod; clear hmod
        by_cases hc : checkF done = 0
        · have e0 : (checkF done != 0) = false := by simp [hc]
          have hr : parseF L0 = (done, 0) := by rw [Hgo2.out, if_pos hc]
          have Hr := Lib.hid hr; clear hr
          have Hc := Lib.hid hc; clear hc
          go_wp2_with fail
          refine Hck.out.mono ?_
          rintro e w2 ⟨rfl, hb2⟩
          have hb3 := hb.out.trans (hb2.mono hsz)
          have hown3 := hown.out.later hb2
          have Hb3 := Lib.hid hb3; clear hb3
          have Hown3 := Lib.hid hown3; clear hown3
          clear hb2
          go_wp2
          go_ret2
          exact ⟨Ao, co, by rw [Hr.out]; rfl, by rw [Hr.out]; exact Hown3.out, Hb3.out⟩
        · have e0 : (checkF done != 0) = true := by simp [hc]
          have hr : parseF L0 = ([], 12) := by rw [Hgo2.out, if_neg hc]
          have Hr := Lib.hid hr; clear hr
          have Hc := Lib.hid hc; clear hc
          go_wp2_with fail
          refine Hck.out.mono ?_
          rintro e w2 ⟨rfl, hb2⟩
          have hb3 := hb.out.trans (hb2.mono hsz)
          have Hb3 := Lib.hid hb3; clear hb3
          clear hb2
          go_wp2
          go_ret2
          exact parse_err Hr.out Hb3.out
      | cons c r =>
        obtain ⟨f, rfl⟩ : ∃ f', f = f' + 1 := by
          have := Lib.size_eq t
          rw [htl] at this
          simp at this
          exact ⟨f - 1, by omega⟩
        rw [htl, modsG_cons] at hmod
        have hne0 : t.toList.isEmpty = false := by rw [ByteArray.toList_eq, htl]; rfl
        have htz : t.size = r.length + 1 := by rw [Lib.size_eq t, htl]; rfl
        have hpos : 0 < t.size := by omega
        have hc0 : (t[0]'hpos) = c := by
          have : t.data.toList[0]? = some c := by rw [htl]; rfl
          rw [List.getElem?_eq_getElem (by rw [← Lib.size_eq]; exact hpos)] at this
          exact Option.some.inj this
        obtain ⟨t1, ht1⟩ : ∃ t1 : ByteArray, t.extract 1 t.size = t1 := ⟨_, rfl⟩
        have hd1 : t1.data.toList = r := by rw [← ht1, Lib.extract_to_end, htl]; rfl
        have hz1 : t1.size = r.length := by rw [Lib.size_eq, hd1]
        obtain ⟨W1, hW1⟩ : ∃ W : World, W = wo.alloc (.cells #[.int .u8 (c.toNat : Int), .slice none 0 0] 50) := ⟨_, rfl⟩
        have hblk1 : Blk W1 wo.heap.size 50 #[.int .u8 (c.toNat : Int), .slice none 0 0] := by rw [hW1]; exact Blk.new _ _ _
        have hbw1 : Below wo.heap.size wo W1 := by rw [hW1]; exact (Below.refl _ _).alloc (Nat.le_refl _) _
        have hzw1 : wo.heap.size < W1.heap.size := by rw [hW1]; simp
        have hc8 : Fits .u8 (c.toNat : Int) := fits_u8 (by have := c.toNat_lt; omega)
        have hrm : Room done.length := room_of (by omega)
        have hpf := Tryd.strings_HasPrefix t1 ⟨#[40]⟩ W1
        rw [hd1] at hpf
        have hln : ∀ m : Mod, (done ++ [m]).length = done.length + 1 := fun m => by simp
        have Htz := Lib.hid htz; clear htz
        have Hblk1 := Lib.hid hblk1; clear hblk1
        have Hbw1 := Lib.hid hbw1; clear hbw1
        have HW1 := Lib.hid hW1; clear hW1
        have Hrm := Lib.hid hrm; clear hrm
        have Hln := Lib.hid hln; clear hln
        have Hlo := Lib.hid hlo; clear hlo
        by_cases hp40 : ∃ r', r = 40 :: r'
        · obtain ⟨r', rfl⟩ := hp40
          have hpe : Lib.hasPrefix (40 :: r') (ByteArray.mk #[40]).data.toList = true := by unfold Lib.hasPrefix; rfl
          rw [hpe] at hpf
          obtain ⟨t2, ht2⟩ : ∃ t2 : ByteArray, t1.extract 1 t1.size = t2 := ⟨_, rfl⟩
          have hd2 : t2.data.toList = r' := by rw [← ht2, Lib.extract_to_end, hd1]; rfl
          have hz2 : t2.size = r'.length := by rw [Lib.size_eq, hd2]
          have hpos1 : 0 < t1.size := by rw [hz1]; simp
          have hcut := cut_calls t2 W1 (HL.out.later (hb.out.trans (Hbw1.out.mono hsz))) (by have := Htz.out; rw [List.length_cons] at this; omega)
          rw [hd2] at hcut
          have ht2z : t2.size + 1 = t1.size := by rw [hz2, hz1]; simp
          have ht1z : t1.size + 1 = t.size := by rw [hz1]; exact Htz.out.symm
          have Hmod := Lib.hid hmod; clear hmod
          have Hpf := Lib.hid hpf; clear hpf
          have Hcut := Lib.hid hcut; clear hcut
          have Hz1 := Lib.hid hz1; clear hz1
          have Hz2 := Lib.hid hz2; clear hz2
          have Hd1 := Lib.hid hd1; clear hd1
          have Hd2 := Lib.hid hd2; clear hd2
          have Htl := Lib.hid htl; clear htl
          go_wp2_with fail
          rw [← HW1.out]
          refine Hpf.out.mono ?_
          rintro e w' ⟨rfl, rfl⟩
          go_wp2_with fail
          refine Hcut.out.mono ?_
          rintro e w2 ⟨⟨p, q, ok, rfl, hcase⟩, hb2⟩
          have hzb2 := hb2.size
          have hbw2 := (hb.out.trans (Hbw1.out.mono hsz)).trans (hb2.mono (by omega))
          have hbl2 := Hblk1.out.same (hb2.block _ hzw1)
          cases hcc : cutC 41 r' with
          | none =>
            rw [hcc] at hcase
            obtain rfl : ok = false := hcase.out
            have hr : parseF L0 = ([], 12) := parse_none (by rw [Hmod.out.out, modP_cons, if_pos rfl, hcc]; rfl)
            have Hr := Lib.hid hr; clear hr
            have Hbw2 := Lib.hid hbw2; clear hbw2
            clear hb2 hbl2 hcc
            go_wp2
            go_ret2
            exact parse_err Hr.out Hbw2.out
          | some lr =>
            obtain ⟨l, rest⟩ := lr
            rw [hcc] at hcase
            obtain ⟨hpl, hql, rfl⟩ := hcase.out
            have hmq : modP c (40 :: r') = (allP (splitC 44 l)).map fun ag => (⟨c.toNat, ag⟩, rest) := by rw [modP_cons, if_pos rfl, hcc]
            have hrl := cutC_text hcc
            have hrz : r'.length = l.length + rest.length + 1 := by rw [hrl]; simp; omega
            have hpz : p.size = l.length := by rw [Lib.size_eq, hpl]
            have hqz : q.size = rest.length := by rw [Lib.size_eq, hql]
            have hqt : q.size + 1 + l.length + 1 + 1 = t.size := by have := Htz.out; rw [List.length_cons] at this; omega
            have hsp := split_calls p w2 (HL.out.later hbw2) (by omega)
            unfold PiecesPost at hsp
            rw [hpl] at hsp
            have Hmq := Lib.hid hmq; clear hmq
            have Hsp := Lib.hid hsp; clear hsp
            have Hb2 := Lib.hid hb2; clear hb2
            have Hbl2 := Lib.hid hbl2; clear hbl2
            have Hbw2 := Lib.hid hbw2; clear hbw2
            have Hpl := Lib.hid hpl; clear hpl
            have Hql := Lib.hid hql; clear hql
            have Hpz := Lib.hid hpz; clear hpz
            have Hqz := Lib.hid hqz; clear hqz
            have Hrz := Lib.hid hrz; clear hrz
            clear hcc hcase hrl
            go_wp2_with fail
            refine Hsp.out.mono ?_
            rintro e w3 ⟨ps, rfl, hw3, hps, hpsl⟩
            have hb3 : Below w2.heap.size w2 w3 := by rw [hw3]; exact (Below.refl _ _).alloc (Nat.le_refl _) _
            have hz3 : w2.heap.size < w3.heap.size := by rw [hw3]; simp
            have hpb3 : Blk w3 w2.heap.size 9 (ps.map Value.string).toArray := by rw [hw3]; exact Blk.new _ _ _
            have hbl3 := Hbl2.out.same (hb3.block _ (by omega))
            have hbo3 : Below wo.heap.size wo w3 := (Hbw1.out.trans (Hb2.out.mono (by omega))).trans (hb3.mono (by omega))
            have hpn : ps.length ≤ 60000 := by have := Hpz.out; have := Hrz.out; omega
            have hst0 : allP (splitC 44 l) = (allP ((ps.drop 0).map (·.data.toList))).map ([] ++ ·) := by
              rw [List.drop_zero, hps.out]; cases allP (splitC 44 l) <;> rfl
            have how0 : Own (pI .i64) 3 (w2.heap.size + 1) (fun _ => False) w3 (.slice none 0 0) ([] : List Int) := Own.nil
            have Hpb3 := Lib.hid hpb3; clear hpb3
            have Hbl3 := Lib.hid hbl3; clear hbl3
            have Hbo3 := Lib.hid hbo3; clear hbo3
            have Hst0 := Lib.hid hst0; clear hst0
            have How0 := Lib.hid how0; clear how0
            have Hb3 := Lib.hid hb3; clear hb3
            clear hw3
            go_wp2
            go_loopw [37] (fun i wr => ∃ (j : Nat) (vals : List Int) (Dv : Option Addr) (dv : Nat), j ≤ ps.length ∧ i = .int .i64 j ∧ vals.length = j ∧ Hid (allP (splitC 44 l) = (allP ((ps.drop j).map (·.data.toList))).map (vals ++ ·)) ∧ Hid (Below wo.heap.size wo wr) ∧ w2.heap.size < wr.heap.size ∧ Hid (Blk wr wo.heap.size 50 #[.int .u8 (c.toNat : Int), .slice Dv j dv]) ∧ Hid (Blk wr w2.heap.size 9 (ps.map Value.string).toArray) ∧ Hid (Own (pI .i64) 3 (w2.heap.size + 1) (fun _ => False) wr (.slice Dv j dv) vals)) (fun i _ => ps.length - (intOf i).toNat)
            case atStart => exact ⟨0, [], none, 0, Nat.zero_le _, rfl, rfl, Hst0, Hbo3, hz3, Hbl3, Hpb3, How0⟩
            case round =>
              obtain ⟨j, vals, Dv, dv, hj, rfl, hvl, hall, hb4, hz4, hbl4, hpb4, how4⟩ := hrel
              obtain ⟨wq, rfl⟩ : ∃ wq : World, wq = wr := ⟨_, rfl⟩
              have hbw4 : Below w.heap.size w wq := hb.out.trans (hb4.out.mono hsz)
              by_cases hlt : j < ps.length
              · have hdx : ps.drop j = ps[j] :: ps.drop (j + 1) := List.drop_eq_getElem_cons hlt
                obtain ⟨x, hx⟩ : ∃ x, ps[j] = x := ⟨_, rfl⟩
                rw [hx] at hdx
                have hcx := str_cell hpb4.out hdx
                have hxz : x.size ≤ 60000 := by
                  have hm : x.data.toList ∈ splitC 44 l := by
                    show x.data.toList ∈ splitC 44 l
                    rw [← (show ps.map (fun b : ByteArray => b.data.toList) = splitC 44 l from hps.out)]
                    exact List.mem_map_of_mem (mem_of_drop hdx)
                  have := splitC_piece 44 l _ hm
                  rw [Lib.size_eq]
                  have := Hrz.out; have := Hpz.out; omega
                have hL4 := HL.out.later hbw4
                have hat := atoi_calls x wq hL4 hxz
                rw [hdx, List.map_cons] at hall
                have hall2 : allP (splitC 44 l) = (match numP x.data.toList with
                  | none => none
                  | some n => (allP ((ps.drop (j + 1)).map fun b : ByteArray => b.data.toList)).map (n :: ·)).map (vals ++ ·) := hall.out
                have Hat := Lib.hid hat; clear hat
                have Hall2 := Lib.hid hall2; clear hall2
                have Hdx := Lib.hid hdx; clear hdx
                have Hbw4 := Lib.hid hbw4; clear hbw4
                have HL4 := Lib.hid hL4; clear hL4
                clear hall hx
                go_wp2_with fail
                refine Hat.out.mono ?_
                rintro e w5 ⟨hcase5, hb5⟩
                have hz5 := hb5.size
                have hbw5 : Below w.heap.size w w5 := Hbw4.out.trans (hb5.mono (by omega))
                rcases hcase5 with ⟨v, rfl, hv, hv0, hv1⟩ | ⟨v, T5, p5, rfl, hno⟩
                · have hit := itoaB_calls v w5 (HL.out.later hbw5) hv0 hv1
                  obtain ⟨y, hy⟩ : ∃ y : ByteArray, y = ⟨(Lib.itoa v).toArray⟩ := ⟨_, rfl⟩
                  have hyl : y.data.toList = Lib.itoa v := by rw [hy]
                  rw [← hy] at hit
                  have Hit := Lib.hid hit; clear hit
                  have Hy := Lib.hid hy; clear hy
                  have Hyl := Lib.hid hyl; clear hyl
                  have Hbw5 := Lib.hid hbw5; clear hbw5
                  by_cases hyx : y = x
                  · subst hyx
                    have hnum : numP y.data.toList = some v := by
                      unfold numP
                      rw [hv.out]
                      show (if Lib.itoa v = y.data.toList then some v else none) = _
                      rw [if_pos Hyl.out.symm]
                    have hall3 : allP (splitC 44 l) = (allP ((ps.drop (j + 1)).map (·.data.toList))).map ((vals ++ [v]) ++ ·) := by
                      rw [Hall2.out, hnum]; exact map_moreI _ _ _
                    have ebb : (y.toList != y.toList) = false := bne_self_eq_false _
                    have Hall3 := Lib.hid hall3; clear hall3
                    have Hnum := Lib.hid hnum; clear hnum
                    have Hb5 := Lib.hid hb5; clear hb5
                    go_wp2_with fail
                    refine Hit.out.mono ?_
                    rintro e w6 ⟨rfl, hb6⟩
                    have hz6 := hb6.size
                    have hb46 : Below wq.heap.size wq w6 := Hb5.out.trans (hb6.mono hz5)
                    have hbl6 := hbl4.out.same (hb46.block _ (by omega))
                    have hpb6 := hpb4.out.same (hb46.block _ hz4)
                    have how6 := how4.out.later hb46
                    have hbo6 : Below wo.heap.size wo w6 := hb4.out.trans (hb46.mono (by omega))
                    have hrm6 : Room vals.length := room_of (by omega)
                    have hne6 : some wo.heap.size ≠ (Value.slice Dv j dv).ownBlock := fun he => by have := how4.out.lt _ he.symm; omega
                    have hne7 : some w2.heap.size ≠ (Value.slice Dv j dv).ownBlock := fun he => by have := how4.out.lt _ he.symm; omega
                    have hRv : (pI .i64).R (fun _ => False) w6 (Value.int .i64 v).cells.toList v := ⟨rfl, fits_i64 (by omega)⟩
                    have hln6 : vals.length + 1 = j + 1 := by omega
                    have m1 := hbl6.cell 1
                    simp only [List.getElem?_toArray, List.getElem?_cons_succ, List.getElem?_cons_zero] at m1
                    have hlt6 : wo.heap.size < w6.heap.size := by omega
                    have hlt7 : w2.heap.size < w6.heap.size := by omega
                    have hba6 : w2.heap.size + 1 ≤ w6.heap.size := by omega
                    have Hb46 := Lib.hid hb46; clear hb46
                    have Hbl6 := Lib.hid hbl6; clear hbl6
                    have Hpb6 := Lib.hid hpb6; clear hpb6
                    have How6 := Lib.hid how6; clear how6
                    have Hbo6 := Lib.hid hbo6; clear hbo6
                    have Hrm6 := Lib.hid hrm6; clear hrm6
                    have Hne6 := Lib.hid hne6; clear hne6
                    have Hne7 := Lib.hid hne7; clear hne7
                    have HRv := Lib.hid hRv; clear hRv
                    have Hln6 := Lib.hid hln6; clear hln6
                    clear hb6
                    go_wp2_with ((with_reducible show wpList _ _ _ (Oper.mk (some 57) _ _ _ _ _ :: _) _ _); refine wpList_pushG (E := pI .i64) (xs := vals) (v := .slice Dv j dv) (base := w2.heap.size + 1) (G := fun _ => False) 48 3 (.int .i64 0) 8 57 (.tmp 55) (.tmp 56) rfl rfl rfl rfl rfl Tryd.underlying48 (by kernel_rfl) rfl (by decide) (fun _ => rfl) (fun _ => rfl) How6.out (.int .i64 v) rfl v (fun _ => False) HRv.out (fun _ h => h.elim) (j + 1) Hln6.out Hrm6.out ⟨by decide, by decide⟩ hba6 ?_; intro A7 c7 w7 hown7 hg7; have hbm7 := Hbl6.out.same (hg7.out.oth _ hlt6 Hne6.out); have x7 := hbm7.cell 1; have f7 := hbm7.free 1; have Hbm7 := Lib.hid hbm7; clear hbm7)
                    go_roundw
                    case rel =>
                      have hz7 := hg7.out.bel.size
                      have hs7 : (w7.setCell ⟨wo.heap.size, 1, none⟩ (.slice A7 (j + 1) c7)).heap.size = w7.heap.size := by simp [World.setCell]
                      refine ⟨j + 1, vals ++ [v], A7, c7, hlt, by go_num, by simp; omega, Hall3, ?_, by omega, ?_, ?_, ?_⟩
                      · exact (Hbo6.out.trans (hg7.out.bel.mono (by omega))).setCell (by show wo.heap.size ≤ wo.heap.size; omega) _
                      · have := Hbm7.out.set 1 (.slice A7 (j + 1) c7)
                        unfold Hid
                        simpa using this
                      · have hk7 := Hpb6.out.same (hg7.out.oth _ hlt7 Hne7.out)
                        unfold Hid
                        exact hk7.same (Below.heap_setCell _ _ _ _ (by show w2.heap.size ≠ wo.heap.size; omega))
                      · unfold Hid
                        refine hown7.out.keepG (fun q hq hG => Below.heap_setCell _ _ _ _ ?_) (by omega)
                        rcases hG with hG | hG
                        · exact hG.elim
                        · have := hown7.out.lt q hG
                          show q ≠ wo.heap.size
                          omega
                    case measure => simp [intOf]; omega
                  · have hnum : numP x.data.toList = none := by
                      unfold numP
                      rw [hv.out]
                      show (if Lib.itoa v = x.data.toList then some v else none) = _
                      rw [if_neg fun e => hyx (by rw [Hy.out, e, Lib.mk_data])]
                    have hr : parseF L0 = ([], 12) := parse_none (by
                      have e2 : allP (splitC 44 l) = none := by rw [Hall2.out, hnum]; rfl
                      rw [Hmod.out.out, Hmq.out, e2]; rfl)
                    have ebb : (y.toList == x.toList) = false := by
                      rw [beq_eq_false_iff_ne, ByteArray.toList_eq, ByteArray.toList_eq]
                      intro e
                      exact hyx (by rw [← Lib.mk_data y, e, Lib.mk_data])
                    have Hnum := Lib.hid hnum; clear hnum
                    have Hb5 := Lib.hid hb5; clear hb5
                    have Hr := Lib.hid hr; clear hr
                    go_wp2_with fail
                    refine Hit.out.mono ?_
                    rintro e w6 ⟨rfl, hb6⟩
                    have hbw6 : Below w.heap.size w w6 := Hbw5.out.trans (hb6.mono (by omega))
                    have Hbw6 := Lib.hid hbw6; clear hbw6
                    clear hb6
                    go_wp2
                    go_ret2
                    exact parse_err Hr.out Hbw6.out
                · have hr : parseF L0 = ([], 12) := parse_none (by
                    have e2 : allP (splitC 44 l) = none := by rw [Hall2.out, hno.out]; rfl
                    rw [Hmod.out.out, Hmq.out, e2]; rfl)
                  have Hr := Lib.hid hr; clear hr
                  have Hb5 := Lib.hid hb5; clear hb5
                  have Hbw5 := Lib.hid hbw5; clear hbw5
                  go_wp2
                  go_ret2
                  exact parse_err Hr.out Hbw5.out
              · obtain rfl : j = ps.length := by omega
                have hvals : allP (splitC 44 l) = some vals := by
                  rw [hall.out, List.drop_length]
                  show some (vals ++ []) = _
                  rw [List.append_nil]
                have hmod2 : modsG modP L0.length L0 = (modsG modP f q.data.toList).map ((done ++ [⟨c.toNat, vals⟩]) ++ ·) := by
                  rw [Hmod.out.out, Hmq.out, hvals, Hql.out]; exact map_more _ _ _
                obtain ⟨A3, c3, e3, hsl3⟩ := (how4.out.flat (pI_flat _) (G' := (w2.heap.size + 1 ≤ ·))).fresh
                rw [hvl] at e3
                injection e3 with e31 e32 e33
                subst e31 e33
                have hR : pMod.R (fun q => w2.heap.size + 1 ≤ q ∧ q < wq.heap.size) wq [.int .u8 (c.toNat : Int), .slice Dv ps.length dv] (⟨c.toNat, vals⟩ : Mod) := ⟨Dv, dv, by rw [hvl], hc8, hsl3⟩
                have howq := hown.out.later hb4.out
                have hF : ∀ q, (w2.heap.size + 1 ≤ q ∧ q < wq.heap.size) → w.heap.size ≤ q ∧ q < wq.heap.size ∧ some q ≠ (Value.slice Ao done.length co).ownBlock := fun q hq => ⟨by omega, hq.2, fun he => by have := (hown.out.lt q he.symm).2; omega⟩
                have m0 := (hbl4.out.cell 0).trans rfl
                have m1 := (hbl4.out.cell 1).trans rfl
                have hbaq : w.heap.size ≤ wq.heap.size := by omega
                have Hvals := Lib.hid hvals; clear hvals
                have Hmod2 := Lib.hid hmod2; clear hmod2
                have HR := Lib.hid hR; clear hR
                have Howq := Lib.hid howq; clear howq
                have HF := Lib.hid hF; clear hF
                have Hbw4 := Lib.hid hbw4; clear hbw4
                clear hsl3
                go_wp2_with ((with_reducible show wpList _ _ _ (Oper.mk (some 64) _ _ _ _ _ :: _) _ _); refine wpList_pushG (E := pMod) (xs := done) (v := .slice Ao done.length co) (base := w.heap.size) (G := (w.heap.size ≤ ·)) 22 50 (.agg #[.int .u8 0, .slice none 0 0]) 32 64 (.tmp 62) (.tmp 63) rfl rfl rfl rfl rfl Tryd.underlying22 (by kernel_rfl) rfl (by decide) (fun _ => rfl) (fun _ => rfl) Howq.out (.agg #[.int .u8 (c.toNat : Int), .slice Dv ps.length dv]) rfl ⟨c.toNat, vals⟩ (fun q => w2.heap.size + 1 ≤ q ∧ q < wq.heap.size) HR.out HF.out (done.length + 1) rfl Hrm.out ⟨by decide, by decide⟩ hbaq ?_; intro A6 c6 w6 hown6 hg6)
                go_roundw
                case rel =>
                  have hz6 := hg6.out.bel.size
                  refine ⟨q, done ++ [⟨c.toNat, vals⟩], A6, c6, f, rfl, by rw [Hln.out], by omega, by omega, by rw [Hln.out]; omega, Hmod2, Hbw4.out.trans hg6.out.bel, by omega, ?_⟩
                  unfold Hid; rw [Hln.out]; exact hown6.out
                case measure => simp; omega
        · have hpe : Lib.hasPrefix r (ByteArray.mk #[40]).data.toList = false := by
            unfold Lib.hasPrefix
            cases r with
            | nil => rfl
            | cons b r' =>
              have hb : b ≠ 40 := fun e => hp40 ⟨r', by rw [e]⟩
              simp [List.isPrefixOf, Ne.symm hb]
          rw [hpe] at hpf
          have hmp : modP c r = some (⟨c.toNat, []⟩, r) := by
            cases r with
            | nil => rfl
            | cons b r' => rw [modP_cons, if_neg fun e => hp40 ⟨r', by rw [e]⟩]
          rw [hmp] at hmod
          have hmod2 : modsG modP L0.length L0 = (modsG modP f t1.data.toList).map ((done ++ [⟨c.toNat, []⟩]) ++ ·) := by
            rw [hmod.out, hd1]; exact map_more _ _ _
          have hR : pMod.R (fun _ => False) W1 [.int .u8 (c.toNat : Int), .slice none 0 0] (⟨c.toNat, []⟩ : Mod) := ⟨none, 0, by simp, hc8, ⟨Nat.le_refl _, by simp, fun _ => rfl, fun i x hx => by simp at hx⟩⟩
          have hown1 := hown.out.later Hbw1.out
          have hbw2 := hb.out.trans (Hbw1.out.mono hsz)
          have m0 := (Hblk1.out.cell 0).trans rfl
          have m1 := (Hblk1.out.cell 1).trans rfl
          have ht1z : t1.size + 1 = t.size := by rw [hz1]; exact Htz.out.symm
          have Hmod2 := Lib.hid hmod2; clear hmod2
          have Hpf := Lib.hid hpf; clear hpf
          have HR := Lib.hid hR; clear hR
          have Hown1 := Lib.hid hown1; clear hown1
          have Hbw2 := Lib.hid hbw2; clear hbw2
          have Hz1 := Lib.hid hz1; clear hz1
          have Hd1 := Lib.hid hd1; clear hd1
          have Htl := Lib.hid htl; clear htl
          clear hmp hmod
          go_wp2_with fail
          rw [← HW1.out]
          refine Hpf.out.mono ?_
          rintro e w' ⟨rfl, rfl⟩
          go_wp2_with ((with_reducible show wpList _ _ _ (Oper.mk (some 64) _ _ _ _ _ :: _) _ _); refine wpList_pushG (E := pMod) (xs := done) (v := .slice Ao done.length co) (base := w.heap.size) (G := (w.heap.size ≤ ·)) 22 50 (.agg #[.int .u8 0, .slice none 0 0]) 32 64 (.tmp 62) (.tmp 63) rfl rfl rfl rfl rfl Tryd.underlying22 (by kernel_rfl) rfl (by decide) (fun _ => rfl) (fun _ => rfl) Hown1.out (.agg #[.int .u8 (c.toNat : Int), .slice none 0 0]) rfl ⟨c.toNat, []⟩ (fun _ => False) HR.out (fun _ h => h.elim) (done.length + 1) rfl Hrm.out ⟨by decide, by decide⟩ (by omega) ?_; intro A6 c6 w6 hown6 hg6)
          go_roundw
          case rel =>
            have hz6 := hg6.out.bel.size
            refine ⟨t1, done ++ [⟨c.toNat, []⟩], A6, c6, f, rfl, by rw [Hln.out], by omega, by omega, by rw [Hln.out]; omega, Hmod2, Hbw2.out.trans hg6.out.bel, by omega, ?_⟩
            unfold Hid; rw [Hln.out]; exact hown6.out
          case measure => simp; omega
end Go.Proofs.YtckffdaomjbglaaDoor

/-! Ph -/
namespace Go.Proofs.YtckffdaomjbglaaDoor
open Go.RowKit Go.Sort
set_option linter.unusedVariables false

theorem mod_R {F : Nat → Prop} {w : World} {c : Int} {A : Option Addr} {k cap : Nat} {xs : List Int} (hc : Fits .u8 c) (h : SlAt (pI .i64) F w A cap xs) (hk : xs.length = k) : pMod.R F w [.int .u8 c, .slice A k cap] ⟨c, xs⟩ := by
  subst hk; exact ⟨A, cap, rfl, hc, h⟩
theorem mod0_R {F : Nat → Prop} {w : World} {c : Int} (hc : Fits .u8 c) : pMod.R F w [.int .u8 c, .slice none 0 0] ⟨c, []⟩ := mod_R hc sl_none rfl
def bareW (cs : List Int) : List Mod := cs.map fun c => ⟨c, []⟩
def bareC (cs : List Int) : List Value := cs.flatMap fun c => [.int .u8 c, .slice none 0 0]
theorem bare_cells {F : Nat → Prop} {w : World} : ∀ {cs : List Int}, (∀ c ∈ cs, Fits .u8 c) → CellsAre pMod F w (bareC cs) (bareW cs)
  | [], _ => rfl
  | c :: cs, h => ⟨[.int .u8 c, .slice none 0 0], bareC cs, rfl, mod0_R (h c (by simp)), bare_cells fun x hx => h x (by simp [hx])⟩
theorem fits_bytes {cs : List Int} (h : (cs.all fun c => decide (0 ≤ c) && decide (c ≤ 255)) = true) : ∀ c ∈ cs, Fits .u8 c := by
  intro c hc
  have := List.all_eq_true.1 h c hc
  simp only [Bool.and_eq_true, decide_eq_true_eq] at this
  exact fits_u8 (by omega)
theorem own_sl {w : World} {e : TypeId} {B : Nat} {A : Option Addr} {n c : Nat} {xs : List Mod} (h : Own pMod e B (B ≤ ·) w (.slice A n c) xs) : SlAt pMod (Old w) w A c xs := (h.sl'.2).wide fun q hq => hq.2
theorem ownF_sl {w : World} {e : TypeId} {B : Nat} {A : Option Addr} {n c : Nat} {xs : List Mod} (h : Own pModF e B (B ≤ ·) w (.slice A n c) xs) : SlAt pMod (Old w) w A c xs := slAt_modF ((h.sl'.2).wide fun q hq => hq.2)

end Go.Proofs.YtckffdaomjbglaaDoor

/-! Pr -/
namespace Go.Proofs.YtckffdaomjbglaaDoor
open Go.RowKit

theorem scan_cons (n : Nat) (m : Mod) (ms : List Mod) : scan n (m :: ms) = if m.name = 91 then scan (n + 1) ms else if m.name = 93 then (if n = 0 then none else scan (n - 1) ms) else scan n ms := rfl
theorem scan_more : ∀ (a b : List Mod) (n : Nat), scan n (a ++ b) = (scan n a).bind (fun k => scan k b)
  | [], b, n => rfl
  | m :: a, b, n => by
    rw [List.cons_append, scan_cons, scan_cons]
    split
    · exact scan_more a b _
    · split
      · split
        · rfl
        · exact scan_more a b _
      · exact scan_more a b _
theorem check_parts {w : List Mod} : checkF w = 0 ↔ w.length ≤ 2000 ∧ w.all fineF = true ∧ scan 0 w = some 0 := by
  unfold checkF
  by_cases h1 : 2000 < w.length
  · rw [if_pos h1]; constructor
    · intro h; cases h
    · rintro ⟨h, _⟩; omega
  · rw [if_neg h1]
    cases h2 : w.all fineF
    · simp
    · rw [if_neg (by decide)]
      cases h3 : scan 0 w with
      | none => simp
      | some n =>
        cases n with
        | zero => simp; omega
        | succ n => simp
theorem check_join {a b : List Mod} (ha : checkF a = 0) (hb : checkF b = 0) (hl : ¬ 2000 < a.length + b.length) : checkF (a ++ b) = 0 := by
  obtain ⟨_, a2, a3⟩ := check_parts.1 ha
  obtain ⟨_, b2, b3⟩ := check_parts.1 hb
  refine check_parts.2 ⟨by rw [List.length_append]; omega, by rw [List.all_append, a2, b2]; rfl, by rw [scan_more, a3]; exact b3⟩
end Go.Proofs.YtckffdaomjbglaaDoor

/-! Qa -/
namespace Go.Proofs.YtckffdaomjbglaaDoor
open Go.RowKit

theorem checkR_core {rs : List Rul} (h : checkR rs = 0) : rs.all coreR = true := by
  unfold checkR at h
  split at h
  · cases h
  · split at h
    · rename_i hf
      rw [List.all_eq_true] at hf ⊢
      intro r hr
      have := hf r hr
      unfold fineR at this
      exact (Bool.and_eq_true_iff.1 this).1
    · cases h
theorem openR_of {rs : List Rul} {ms : List Mod} (h : checkR rs = 0) (h' : checkF ms = 0) : openR rs ms = 0 := by unfold openR; rw [if_pos h, h']
theorem rRunF_of {rs : List Rul} {ms : List Mod} (h : openR rs ms = 0) {n : Nat} (hn : n ≤ 30) : rRunF rs ms (n : Int) = iterR rs n ms := by
  unfold rRunF
  rw [if_pos h, if_neg (by omega), Int.toNat_natCast]
theorem iter_valid {rs : List Rul} (hr : rs.all coreR = true) : ∀ (n : Nat) {ms : List Mod}, checkF ms = 0 → (iterR rs n ms).2 = 0 → checkF (iterR rs n ms).1 = 0
  | 0, ms, h, _ => h
  | n + 1, ms, h, h2 => by
    rw [iterR_step] at h2 ⊢
    by_cases h3 : (stepF rs ms).2 = 0
    · rw [if_pos h3] at h2 ⊢
      exact iter_valid hr n (step_valid hr h h3) h2
    · rw [if_neg h3] at h2; exact absurd h2 h3
theorem iter_add {rs : List Rul} : ∀ (m n : Nat) (ms : List Mod), iterR rs (m + n) ms = if (iterR rs m ms).2 = 0 then iterR rs n (iterR rs m ms).1 else ([], (iterR rs m ms).2)
  | 0, n, ms => by rw [Nat.zero_add]; rfl
  | m + 1, n, ms => by
    rw [show m + 1 + n = (m + n) + 1 from by omega, iterR_step, iterR_step]
    by_cases h : (stepF rs ms).2 = 0
    · rw [if_pos h, if_pos h, iter_add m n]
    · rw [if_neg h, if_neg h, if_neg h]
structure RunsOk (rs : List Rul) (ms : List Mod) (m n : Nat) : Prop where
  zero : rRunF rs ms ((0 : Nat) : Int) = (ms, 0)
  bad : ¬ (rRunF rs ms (m : Int)).2 = 0 → (rRunF rs ms ((m + n : Nat) : Int)).2 = (rRunF rs ms (m : Int)).2
  good : (rRunF rs ms (m : Int)).2 = 0 → rRunF rs (rRunF rs ms (m : Int)).1 (n : Int) = rRunF rs ms ((m + n : Nat) : Int) ∧ ((rRunF rs ms ((m + n : Nat) : Int)).2 = 0 → checkF (rRunF rs ms ((m + n : Nat) : Int)).1 = 0)
theorem runs_law {rs : List Rul} {ms : List Mod} {m n : Nat} (hr : checkR rs = 0) (hw : checkF ms = 0) (hm : m ≤ 3) (hn : n ≤ 3) : RunsOk rs ms m n := by
  have ho := openR_of hr hw
  have hc := checkR_core hr
  have e0 := rRunF_of ho (n := 0) (by omega)
  have e1 := rRunF_of ho (n := m) (by omega)
  have e2 := rRunF_of ho (n := m + n) (by omega)
  refine ⟨by rw [e0]; rfl, fun h => ?_, fun h => ?_⟩
  · rw [e1] at h ⊢
    rw [e2, iter_add, if_neg h]
  · rw [e1] at h ⊢
    have hv := iter_valid hc m hw h
    rw [rRunF_of (openR_of hr hv) (by omega), e2, iter_add, if_pos h]
    exact ⟨rfl, fun h2 => iter_valid hc n hv h2⟩

theorem succ_more (rs : List Rul) (a b : List Mod) : succF rs (a ++ b) = succF rs a ++ succF rs b := by unfold succF; rw [List.flatMap_append]
theorem rStepF_of {rs : List Rul} {ms : List Mod} (h : openR rs ms = 0) : rStepF rs ms = stepF rs ms := by unfold rStepF; rw [if_pos h]
theorem stepF_bad {rs : List Rul} {ms : List Mod} (h : ¬ (stepF rs ms).2 = 0) : stepF rs ms = ([], (stepF rs ms).2) ∧ (¬ (succF rs ms).all (·.2) = true ∨ 2000 < (succF rs ms).length) := by
  unfold stepF at h ⊢
  by_cases h1 : (succF rs ms).all (·.2) = true
  · rw [if_pos h1] at h ⊢
    by_cases h2 : 2000 < (succF rs ms).length
    · rw [if_pos h2]; exact ⟨rfl, .inr h2⟩
    · rw [if_neg h2] at h; exact absurd rfl h
  · rw [if_neg h1]; exact ⟨rfl, .inl h1⟩
structure JoinsOk (rs : List Rul) (a b : List Mod) : Prop where
  bad : (¬ (rStepF rs a).2 = 0 ∨ ¬ (rStepF rs b).2 = 0) → ¬ (rStepF rs (a ++ b)).2 = 0
  good : (rStepF rs a).2 = 0 → (rStepF rs b).2 = 0 → rStepF rs (a ++ b) = joinRes (rStepF rs a).1 (rStepF rs b).1
theorem joins_law {rs : List Rul} {a b : List Mod} (hr : checkR rs = 0) (ha : checkF a = 0) (hb : checkF b = 0) (hl : ¬ 2000 < a.length + b.length) : JoinsOk rs a b := by
  have hw := check_join ha hb hl
  have hc := checkR_core hr
  rw [show JoinsOk rs a b ↔ JoinsOk rs a b from Iff.rfl]
  have e1 := rStepF_of (openR_of hr ha)
  have e2 := rStepF_of (openR_of hr hb)
  have e3 := rStepF_of (openR_of hr hw)
  refine ⟨fun h hz => ?_, fun h1 h2 => ?_⟩
  · rw [e3] at hz
    obtain ⟨z1, z2, _⟩ := stepF_ok hz
    rw [succ_more, List.all_append, Bool.and_eq_true] at z1
    rw [succ_more, List.length_append] at z2
    rcases h with h | h
    · rw [e1] at h
      rcases (stepF_bad h).2 with h | h
      · exact h z1.1
      · omega
    · rw [e2] at h
      rcases (stepF_bad h).2 with h | h
      · exact h z1.2
      · omega
  · rw [e1] at h1
    rw [e2] at h2
    obtain ⟨a1, a2, a3⟩ := stepF_ok h1
    obtain ⟨b1, b2, b3⟩ := stepF_ok h2
    have ca := step_valid hc ha h1
    have cb := step_valid hc hb h2
    rw [e1, e2, e3]
    have la : (stepF rs a).1.length = (succF rs a).length := by rw [a3, List.length_map]
    have lb : (stepF rs b).1.length = (succF rs b).length := by rw [b3, List.length_map]
    have hall : (succF rs (a ++ b)).all (·.2) = true := by rw [succ_more, List.all_append, a1, b1]; rfl
    conv => lhs; unfold stepF
    rw [if_pos hall]
    by_cases hbig : 2000 < (succF rs (a ++ b)).length
    · rw [if_pos hbig, joinRes_many ca cb (by rw [succ_more, List.length_append] at hbig; omega)]
    · rw [if_neg hbig, joinRes_ok ca cb (by rw [succ_more, List.length_append] at hbig; omega), a3, b3, succ_more, List.map_append]

/-! ### rules that no module has the name of -/
theorem first_shift {m : Mod} : ∀ {rs : List Rul} {k : Nat}, firstFrom m rs (k + 1) = if firstFrom m rs k = -1 then -1 else firstFrom m rs k + 1
  | [], k => rfl
  | r :: rs, k => by
    unfold firstFrom
    by_cases h : fitsF r m = true
    · rw [if_pos h, if_pos h, if_neg (by omega)]; omega
    · rw [if_neg h, if_neg h]; exact first_shift
theorem fits_other {r : Rul} {m : Mod} (h : m.name ≠ r.name) : fitsF r m = false := by
  cases hf : fitsF r m with
  | false => rfl
  | true => exact absurd (fits_name hf).symm h
theorem outs_other {r : Rul} {rs : List Rul} {m : Mod} (h : m.name ≠ r.name) : outsF (r :: rs) m = outsF rs m := by
  have h1 : firstF (r :: rs) m = if firstF rs m = -1 then -1 else firstF rs m + 1 := by
    show firstFrom m (r :: rs) 0 = _
    unfold firstFrom
    rw [if_neg (by rw [fits_other h]; decide)]
    exact first_shift
  have hge : -1 ≤ firstF rs m := by
    rcases firstFrom_none (m := m) (rs := rs) (k := 0) with e | ⟨j, e, _, _⟩
    · have : firstF rs m = -1 := e
      omega
    · have : firstF rs m = (j : Int) := e
      omega
  unfold outsF
  rw [h1]
  by_cases h2 : firstF rs m = -1
  · rw [if_pos h2, h2]
    cases (r :: rs)[(-1 : Int).toNat]? <;> cases rs[(-1 : Int).toNat]? <;> rfl
  · rw [if_neg h2, show (firstF rs m + 1).toNat = (firstF rs m).toNat + 1 from by omega, List.getElem?_cons_succ]
    cases rs[(firstF rs m).toNat]? with
    | none => rfl
    | some x =>
      show (if firstF rs m + 1 < 0 then [(m, true)] else x.out.map (outF m.args)) = (if firstF rs m < 0 then [(m, true)] else x.out.map (outF m.args))
      rw [if_neg (by omega), if_neg (by omega)]
theorem succ_other {r : Rul} {rs : List Rul} : ∀ {ms : List Mod}, (∀ m ∈ ms, m.name ≠ r.name) → succF (r :: rs) ms = succF rs ms
  | [], _ => rfl
  | m :: ms, h => by
    show outsF (r :: rs) m ++ succF (r :: rs) ms = outsF rs m ++ succF rs ms
    rw [outs_other (h m (by simp)), succ_other fun x hx => h x (List.mem_cons_of_mem _ hx)]
theorem succ_nil : ∀ (ms : List Mod), succF [] ms = ms.map fun m => (m, true)
  | [] => rfl
  | m :: ms => by
    show outsF [] m ++ succF [] ms = _
    rw [succ_nil ms]; rfl
theorem manyR_cons {r : Rul} {rs : List Rul} (h : manyR (r :: rs) = false) : manyR rs = false ∧ manyR [r] = false := by
  unfold manyR at h ⊢
  simp only [List.length_cons, List.any_cons, Bool.or_eq_false_iff, decide_eq_false_iff_not, List.length_nil, List.any_nil] at h ⊢
  refine ⟨⟨by omega, h.2.2⟩, ⟨by omega, h.2.1, trivial⟩⟩
theorem checkR_iff {rs : List Rul} : checkR rs = 0 ↔ manyR rs = false ∧ rs.all fineR = true := by
  unfold checkR
  cases manyR rs
  · cases rs.all fineR <;> simp
  · simp
structure StillOk (r : Rul) (rs : List Rul) (ms : List Mod) : Prop where
  alike : rStepF (r :: rs) ms = rStepF rs ms
  still : rStepF [r] ms = (ms, 0)
theorem still_law {r : Rul} {rs : List Rul} {ms : List Mod} (hr : checkR (r :: rs) = 0) (hw : checkF ms = 0) (hn : countF r.name ms = 0) : StillOk r rs ms := by
  obtain ⟨h1, h2⟩ := checkR_iff.1 hr
  obtain ⟨h3, h4⟩ := manyR_cons h1
  rw [List.all_cons, Bool.and_eq_true] at h2
  have c1 : checkR rs = 0 := checkR_iff.2 ⟨h3, h2.2⟩
  have c2 : checkR [r] = 0 := checkR_iff.2 ⟨h4, by rw [List.all_cons, h2.1]; rfl⟩
  have hne : ∀ m ∈ ms, m.name ≠ r.name := by
    intro m hm e
    unfold countF at hn
    have := List.countP_eq_zero.1 hn m hm
    simp [e] at this
  refine ⟨?_, ?_⟩
  · rw [rStepF_of (openR_of hr hw), rStepF_of (openR_of c1 hw)]
    unfold stepF
    rw [succ_other hne]
  · rw [rStepF_of (openR_of c2 hw)]
    unfold stepF
    rw [succ_other hne, succ_nil]
    have e1 : (ms.map fun m => (m, true)).all (·.2) = true := by rw [List.all_map, List.all_eq_true]; intro _ _; rfl
    have e2 := (check_parts.1 hw).1
    rw [if_pos e1, List.length_map, if_neg (by omega), List.map_map]
    congr 1
    exact List.map_id _
end Go.Proofs.YtckffdaomjbglaaDoor

/-! Jb -/
namespace Go.Proofs.YtckffdaomjbglaaDoor
open Go.RowKit
set_option linter.unusedVariables false

theorem fits_rulO (r : Int × Int × Int) (x : Int) : fitsF (rulO r) (modOf x) = (r.1 == x) := by
  unfold fitsF rulO modOf
  simp
theorem first_rulO (x : Int) : ∀ (rl : List (Int × Int × Int)) (k : Nat), match rl.find? fun r => r.1 == x with
    | none => firstFrom (modOf x) (rl.map rulO) k = -1
    | some r => ∃ j, firstFrom (modOf x) (rl.map rulO) k = ((k + j : Nat) : Int) ∧ rl[j]? = some r
  | [], k => rfl
  | q :: rl, k => by
    rw [List.find?_cons]
    have e : firstFrom (modOf x) ((q :: rl).map rulO) k = if fitsF (rulO q) (modOf x) = true then (k : Int) else firstFrom (modOf x) (rl.map rulO) (k + 1) := rfl
    rw [e, fits_rulO]
    cases h : (q.1 == x)
    · simp only
      have ih := first_rulO x rl (k + 1)
      cases hf : rl.find? fun r => r.1 == x with
      | none => rw [hf] at ih; simp only at ih ⊢; rw [if_neg (by decide)]; exact ih
      | some r =>
        rw [hf] at ih
        simp only at ih ⊢
        obtain ⟨j, h1, h2⟩ := ih
        rw [if_neg (by decide)]
        exact ⟨j + 1, by rw [h1]; congr 1; omega, by simpa using h2⟩
    · simp only
      exact ⟨0, by simp, rfl⟩
theorem outs_rulO (rl : List (Int × Int × Int)) (x : Int) : outsF (rl.map rulO) (modOf x) = (subAll rl x).map fun y => (modOf y, true) := by
  have h := first_rulO x rl 0
  unfold outsF subAll
  cases hf : rl.find? fun r => r.1 == x with
  | none =>
    rw [hf] at h
    have h' : firstF (rl.map rulO) (modOf x) = -1 := h
    rw [h']
    cases (rl.map rulO)[(-1 : Int).toNat]? <;> rfl
  | some r =>
    rw [hf] at h
    obtain ⟨j, h1, h2⟩ := h
    rw [Nat.zero_add] at h1
    have h' : firstF (rl.map rulO) (modOf x) = (j : Int) := h1
    rw [h', Int.toNat_natCast, List.getElem?_map, h2]
    simp only [Option.map_some]
    rw [if_neg (by omega)]
    rfl
theorem succ_rulO (rl : List (Int × Int × Int)) (l : List Int) : succF (rl.map rulO) (l.map modOf) = (stepAll rl l).map fun y => (modOf y, true) := by
  unfold succF stepAll
  induction l with
  | nil => rfl
  | cons x l ih => rw [List.map_cons, List.flatMap_cons, List.flatMap_cons, List.map_append, ih, outs_rulO]
theorem step_rulO {rl : List (Int × Int × Int)} {l : List Int} (h : (stepAll rl l).length ≤ 2000) : stepF (rl.map rulO) (l.map modOf) = ((stepAll rl l).map modOf, 0) := by
  unfold stepF
  rw [succ_rulO]
  rw [if_pos (by rw [List.all_map]; exact List.all_eq_true.2 fun _ _ => rfl), if_neg (by rw [List.length_map]; omega), List.map_map]
  rfl
theorem iter_rulO {rl : List (Int × Int × Int)} : ∀ (n : Nat) (l : List Int), (∀ k, k ≤ n → (iterAll rl k l).length ≤ 2000) → iterR (rl.map rulO) n (l.map modOf) = ((iterAll rl n l).map modOf, 0)
  | 0, l, _ => rfl
  | n + 1, l, h => by
    have h1 := h 1 (by omega)
    have hs := step_rulO (rl := rl) (l := l) h1
    have ih := iter_rulO (rl := rl) n (stepAll rl l) (fun k hk => h (k + 1) (by omega))
    show (if (stepF (rl.map rulO) (l.map modOf)).2 = 0 then iterR (rl.map rulO) n (stepF (rl.map rulO) (l.map modOf)).1 else _) = _
    rw [hs, if_pos rfl]
    exact ih

theorem plainC_fine {c : Int} (h : plainC c = true) : fineF (modOf c) = true ∧ c ≠ 91 ∧ c ≠ 93 := by
  unfold plainC at h
  simp only [Bool.and_eq_true, bne_iff_ne] at h
  refine ⟨?_, h.1.2, h.2⟩
  unfold fineF shapeOk modOf
  simp [h.1.1]
theorem check_two {a b : Int} (ha : plainC a = true) (hb : plainC b = true) : checkF [⟨a, []⟩, ⟨b, []⟩] = 0 := by
  obtain ⟨h1, h2, h3⟩ := plainC_fine ha
  obtain ⟨k1, k2, k3⟩ := plainC_fine hb
  refine checkF_iff.2 ⟨by simp, ?_, ?_⟩
  · rw [List.all_cons, List.all_cons]
    show (fineF (modOf a) && (fineF (modOf b) && true)) = true
    rw [h1, k1]; rfl
  · unfold scan
    rw [if_neg h2, if_neg h3]
    unfold scan
    rw [if_neg k2, if_neg k3]
    rfl
theorem check_rulO {rl : List (Int × Int × Int)} (hl : rl.length ≤ 40) (h : ∀ r ∈ rl, plainC r.1 = true ∧ plainC r.2.1 = true ∧ plainC r.2.2 = true) : checkR (rl.map rulO) = 0 := by
  unfold checkR
  have h1 : manyR (rl.map rulO) = false := by
    unfold manyR
    rw [Bool.or_eq_false_iff]
    refine ⟨decide_eq_false (by rw [List.length_map]; omega), ?_⟩
    rw [List.any_eq_false]
    intro x hx
    obtain ⟨r, _, rfl⟩ := List.mem_map.1 hx
    simp [rulO]
  have h2 : (rl.map rulO).all fineR = true := by
    rw [List.all_eq_true]
    intro x hx
    obtain ⟨r, hr, rfl⟩ := List.mem_map.1 hx
    obtain ⟨p1, p2, p3⟩ := h r hr
    have p1' := p1
    unfold plainC at p1'
    simp only [Bool.and_eq_true] at p1'
    have hc := check_two p2 p3
    unfold fineR coreR bareR rulO
    simp only [List.map_cons, List.map_nil, List.length_nil, List.replicate_zero, hc]
    simp [p1'.1.1, p1'.1.2, p1'.2]
  rw [h1, if_neg (by decide), if_pos h2]

theorem scan_plain {d : Nat} {c : Int} {l : List Mod} (h1 : c ≠ 91) (h2 : c ≠ 93) : scan d (modOf c :: l) = scan d l := by
  conv => lhs; unfold scan
  rw [if_neg (show (modOf c).name ≠ 91 from h1), if_neg (show (modOf c).name ≠ 93 from h2)]
theorem scan_put {a b c : Int} (ha : a ≠ 91 ∧ a ≠ 93) (hb : b ≠ 91 ∧ b ≠ 93) (hc : c ≠ 91 ∧ c ≠ 93) : ∀ n (l : List Int), l.length ≤ n → ∀ d, scan d ((putF a b c l).map modOf) = scan d (l.map modOf)
  | 0, l, h, d => by
    have : l = [] := List.length_eq_zero_iff.1 (by omega)
    subst this; simp [putF]
  | n + 1, [], _, d => by simp [putF]
  | n + 1, [y], _, d => by rw [putF_short (by simp)]
  | n + 1, u :: v :: r, h, d => by
    simp only [List.length_cons] at h
    rw [putF_two]
    by_cases hm : u = a ∧ v = b
    · rw [if_pos hm, List.map_cons, scan_plain hc.1 hc.2, scan_put ha hb hc n r (by omega) d, List.map_cons, List.map_cons, hm.1, hm.2, scan_plain ha.1 ha.2, scan_plain hb.1 hb.2]
    · rw [if_neg hm, List.map_cons, List.map_cons]
      have ih := fun d => scan_put ha hb hc n (v :: r) (by simp; omega) d
      conv => lhs; unfold scan
      conv => rhs; unfold scan
      rw [ih, ih, ih]
theorem plainC_ne {c : Int} (h : plainC c = true) : c ≠ 91 ∧ c ≠ 93 := (plainC_fine h).2
theorem infer_scan : ∀ (n : Nat) (free rest : List Int), (∀ c ∈ free, plainC c = true) → ∀ d, scan d ((inferG n free rest).1.map modOf) = scan d (rest.map modOf) :=
  inferG_ind (P := fun n free rest q => (∀ c ∈ free, plainC c = true) → ∀ d, scan d (q.1.map modOf) = scan d (rest.map modOf))
    (fun n free rest _ _ d => rfl)
    (fun n c free rest r rl h2 h hf d => by
      obtain ⟨⟨i, hi, _, _, p3, p4⟩, _⟩ := bestF_pair (l := rest) (by omega)
      rw [h (fun x hx => hf x (by simp [hx])) d, scan_put (plainC_ne p3) (plainC_ne p4) (plainC_ne (hf c (by simp))) rest.length rest (Nat.le_refl _) d])
theorem letters_plain : ∀ c ∈ lettersL, plainC c = true := by decide
theorem free_sub {l : List Int} : ∀ c ∈ freeL l, c ∈ lettersL ∧ c ∉ l := by
  intro c hc
  unfold freeL at hc
  rw [List.mem_filter] at hc
  exact ⟨hc.1, by simpa using hc.2⟩
theorem free_nodup (l : List Int) : (freeL l).Nodup := List.Nodup.sublist List.filter_sublist (by decide)
theorem infer_rules {ms : List Mod} (hp : plainF ms = 0) (n : Nat) : ∀ r ∈ (inferL (ms.map Mod.name) n).2, plainC r.1 = true ∧ plainC r.2.1 = true ∧ plainC r.2.2 = true := by
  intro r hr
  obtain ⟨i, hi⟩ := List.mem_iff_getElem?.1 hr
  obtain ⟨_, h1⟩ := infer_known n (freeL (ms.map Mod.name)) (ms.map Mod.name)
  obtain ⟨_, _, h2, h3⟩ := h1 i r hi
  refine ⟨?_, h2, h3⟩
  obtain ⟨h4, _, _⟩ := infer_names n (freeL (ms.map Mod.name)) (ms.map Mod.name)
  have : r.1 ∈ (inferL (ms.map Mod.name) n).2.map (·.1) := List.mem_map_of_mem hr
  unfold inferL at this
  rw [h4] at this
  exact letters_plain _ (free_sub _ (List.mem_of_mem_take this)).1
theorem infer_axiom {ms : List Mod} (hp : plainF ms = 0) (n : Nat) : checkF ((inferL (ms.map Mod.name) n).1.map modOf) = 0 := by
  obtain ⟨h1, h2, h3⟩ := plain_parts hp
  obtain ⟨k1, k2, k3⟩ := checkF_iff.1 h1
  have hsz := infer_size n (freeL (ms.map Mod.name)) (ms.map Mod.name)
  rw [List.length_map] at hsz
  refine checkF_iff.2 ⟨?_, ?_, ?_⟩
  · rw [List.length_map]; unfold inferL; omega
  · rw [List.all_eq_true]
    intro m hm
    obtain ⟨c, hc, rfl⟩ := List.mem_map.1 hm
    obtain ⟨h4, _⟩ := infer_known n (freeL (ms.map Mod.name)) (ms.map Mod.name)
    rcases h4 c hc with h5 | h5
    · rcases h3 c h5 with h6 | h6 | h6
      · exact (plainC_fine h6).1
      · subst h6; decide
      · subst h6; decide
    · obtain ⟨r, hr, rfl⟩ := List.mem_map.1 h5
      exact (plainC_fine (infer_rules hp n r hr).1).1
  · unfold inferL
    rw [infer_scan n _ _ (fun c hc => letters_plain _ (free_sub _ hc).1) 0, ← h2]
    exact k3
/-- expanding the axiom gives the word -/
theorem expand_law {ms : List Mod} (hp : plainF ms = 0) {n : Nat} (hn : n ≤ 30) :
    checkR ((inferL (ms.map Mod.name) n).2.map rulO) = 0 ∧ rRunF ((inferL (ms.map Mod.name) n).2.map rulO) ((inferL (ms.map Mod.name) n).1.map modOf) ((inferL (ms.map Mod.name) n).2.length : Int) = (ms, 0) := by
  obtain ⟨h1, h2, h3⟩ := plain_parts hp
  obtain ⟨k1, _, _⟩ := checkF_iff.1 h1
  obtain ⟨_, hle, _⟩ := infer_names n (freeL (ms.map Mod.name)) (ms.map Mod.name)
  have hle' : (inferL (ms.map Mod.name) n).2.length ≤ 30 := by unfold inferL; omega
  have hr := check_rulO (rl := (inferL (ms.map Mod.name) n).2) (by omega) (infer_rules hp n)
  have hx := infer_axiom hp n
  have hg := infer_good n (freeL (ms.map Mod.name)) (ms.map Mod.name) (free_nodup _) (fun x hx => (free_sub x hx).2)
  have hb := infer_back n (freeL (ms.map Mod.name)) (ms.map Mod.name) (free_nodup _) (fun x hx => (free_sub x hx).2)
  refine ⟨hr, ?_⟩
  unfold rRunF openR
  rw [if_pos hr, if_pos hx, if_neg (by omega), Int.toNat_natCast, iter_rulO]
  · show ((iterAll (inferG n (freeL (ms.map Mod.name)) (ms.map Mod.name)).2 (inferG n (freeL (ms.map Mod.name)) (ms.map Mod.name)).2.length (inferG n (freeL (ms.map Mod.name)) (ms.map Mod.name)).1).map modOf, (0 : Int)) = (ms, 0)
    rw [iterAll_done hg, hb, ← h2]
  · intro k _
    have h4 := iterAll_len hg k (inferG n (freeL (ms.map Mod.name)) (ms.map Mod.name)).1
    rw [hb, List.length_map] at h4
    exact Nat.le_trans h4 k1
end Go.Proofs.YtckffdaomjbglaaDoor

/-! Ia -/
namespace Go.Proofs.YtckffdaomjbglaaDoor
open Go.RowKit Go.Sort

def outSum : List Rul → Int
  | [] => 0
  | r :: rs => (r.out.length : Int) + outSum rs
theorem outSum_cons (r : Rul) (rs : List Rul) : outSum (r :: rs) = (r.out.length : Int) + outSum rs := rfl
theorem outSum_le : ∀ {rs : List Rul}, (∀ r ∈ rs, r.out.length ≤ 30) → 0 ≤ outSum rs ∧ outSum rs ≤ (rs.length : Int) * 30
  | [], _ => by simp [outSum]
  | r :: rs, h => by
    have h1 := h r (by simp)
    have h2 := outSum_le (rs := rs) fun x hx => h x (by simp [hx])
    rw [outSum_cons, List.length_cons]; omega
def sizeF (ms : List Mod) (rs : List Rul) : Int × Int := if openR rs ms = 0 then ((ms.length : Int) + outSum rs, 0) else (0, openR rs ms)
theorem ret_pairI {x : Int × Int} {a b : Int} (h : x = (a, b)) : Ending.returned (.tuple #[.int .i64 a, .int .i64 b]) = .returned (.tuple #[.int .i64 x.1, .int .i64 x.2]) := by rw [h]

set_option maxRecDepth 100000 in
set_option maxHeartbeats 1000000 in
theorem size_calls (B : Option Addr) (cb : Nat) (ms : List Mod) (A : Option Addr) (c : Nat) (rs : List Rul) (w : World) (h : SlAt pRul (Old w) w A c rs) (h' : SlAt pMod (Old w) w B cb ms) (hs : Small rs) :
    Calls Tryd.prog 11 #[.slice B ms.length cb, .slice A rs.length c] w (PairPost (sizeF ms rs) w) := by
  have hmx := h.lenle
  have hmx' := h'.lenle
  have hck := rCheck_calls A c rs w h hs
  have H := Lib.hid h; clear h
  have H' := Lib.hid h'; clear h'
  have Hck := Lib.hid hck; clear hck
  go_enter Tryd.func11, Tryd.ntmps11
  go_wp2_with fail
  refine Hck.out.mono ?_
  rintro e w1 ⟨rfl, hb1⟩
  have hz1 := hb1.size
  by_cases hr : checkR rs = 0
  case neg =>
    have e0 : (checkR rs != 0) = true := by simp [hr]
    have hff : sizeF ms rs = (0, checkR rs) := by unfold sizeF openR; rw [if_neg hr, if_neg hr]
    have Hb1 := Lib.hid hb1; clear hb1
    have Hff := Lib.hid hff; clear hff
    have Hr := Lib.hid hr; clear hr
    go_wp2
    go_ret2
    exact ⟨ret_pairI Hff.out, Hb1.out⟩
  case pos =>
  have e0 : (checkR rs != 0) = false := by simp [hr]
  have hcw := wordCheck_calls B cb ms w1 (H'.out.later hb1)
  have Hb1 := Lib.hid hb1; clear hb1
  have Hcw := Lib.hid hcw; clear hcw
  have Hr := Lib.hid hr; clear hr
  go_wp2_with fail
  refine Hcw.out.mono ?_
  rintro e w2 ⟨rfl, hb2⟩
  have hbw2 := Hb1.out.trans (hb2.mono hz1)
  by_cases hf : checkF ms = 0
  case neg =>
    have e1 : (checkF ms != 0) = true := by simp [hf]
    have hff : sizeF ms rs = (0, checkF ms) := by unfold sizeF openR; rw [if_pos Hr.out, if_neg hf]
    have Hbw2 := Lib.hid hbw2; clear hbw2
    have Hff := Lib.hid hff; clear hff
    have Hf := Lib.hid hf; clear hf
    clear hb2
    go_wp2
    go_ret2
    exact ⟨ret_pairI Hff.out, Hbw2.out⟩
  case pos =>
  have e1 : (checkF ms != 0) = false := by simp [hf]
  have hff : sizeF ms rs = ((ms.length : Int) + outSum rs, 0) := by unfold sizeF openR; rw [if_pos Hr.out, if_pos hf]
  have hle := checkF_le hf
  have hz2 := hbw2.size
  have hsl := hs.l
  have hso := hs.o
  have Hbw2 := Lib.hid hbw2; clear hbw2
  have Hff := Lib.hid hff; clear hff
  have Hf := Lib.hid hf; clear hf
  have Hso := Lib.hid hso; clear hso
  clear hb2 e0
  go_wp2
  go_loopw [25, 8] (fun i nv wr => ∃ k : Nat, k ≤ rs.length ∧ i = .int .i64 k ∧ ∃ s : Int, nv = .int .i64 s ∧ 0 ≤ s ∧ s ≤ 2000 + k * 30 ∧ Hid (Below w.heap.size w wr) ∧ w.heap.size ≤ wr.heap.size ∧ Hid ((ms.length : Int) + outSum rs = s + outSum (rs.drop k))) (fun i _ _ => rs.length - (intOf i).toNat)
  case atStart => exact ⟨0, Nat.zero_le _, rfl, ms.length, rfl, by omega, by omega, Hbw2, hz2, rfl⟩
  case round =>
    obtain ⟨k, hk, rfl, s, rfl, hs0, hs1, hb, hsz, hsum⟩ := hrel
    obtain ⟨wo, rfl⟩ : ∃ wo : World, wo = wr := ⟨_, rfl⟩
    by_cases hlt : k < rs.length
    case neg =>
      have hy : sizeF ms rs = (s, 0) := by
        rw [Hff.out, hsum.out, drop_end hlt]
        have : outSum [] = 0 := rfl
        rw [this, Int.add_zero]
      have Hy := Lib.hid hy; clear hy
      go_wp2
      go_ret2
      exact ⟨ret_pairI Hy.out, hb.out⟩
    case pos =>
      obtain ⟨b, o, A1, c1, A2, c2, r, hd, rfl, hob, k0, k1, k2, k3, k4, k5, k6, hat, hl1, hl2⟩ := (H.out.below hb.out).getRulAt hlt
      have ho := Hso.out r (mem_of_drop hd.out)
      have hob' : b < wo.heap.size := by have : b < w.heap.size := hob; omega
      have hb1 : Below w.heap.size w (wo.alloc (.cells #[.int .u8 r.name, .int .i64 r.arity, .int .u8 r.left, .int .u8 r.right, .slice A1 r.guards.length c1, .int .i64 r.weight, .slice A2 r.out.length c2] 43)) := hb.out.alloc hsz _
      have Hb1 := Lib.hid hb1; clear hb1
      go_wp2
      go_roundw
      case rel =>
        refine ⟨k + 1, hlt, by go_num, s + (r.out.length : Int), by go_num, by omega, by omega, Hb1, by simp; omega, ?_⟩
        unfold Hid; rw [hsum.out, hd.out, outSum_cons]; omega
      case measure => simp [intOf]; omega

theorem own_old {w w' : World} {e : TypeId} {B : Nat} {A : Option Addr} {n c : Nat} {xs : List Mod} (h : Own pModF e B (B ≤ ·) w (.slice A n c) xs) (hb : Below w.heap.size w w') : xs.length = n ∧ SlAt pMod (Old w') w' A c xs := by
  obtain ⟨A', c', hv, hs⟩ := (h.later hb).fresh
  injection hv with h1 h2 h3
  subst h1 h2 h3
  exact ⟨rfl, (slAt_modF hs).wide fun q hq => hq.2⟩
theorem own_oldM {w w' : World} {e : TypeId} {B : Nat} {A : Option Addr} {n c : Nat} {xs : List Mod} (h : Own pMod e B (B ≤ ·) w (.slice A n c) xs) (hb : Below w.heap.size w w') : xs.length = n ∧ SlAt pMod (Old w') w' A c xs := by
  obtain ⟨A', c', hv, hs⟩ := (h.later hb).fresh
  injection hv with h1 h2 h3
  subst h1 h2 h3
  exact ⟨rfl, hs.wide fun q hq => hq.2⟩

set_option maxRecDepth 100000 in
theorem expand_calls (B : Option Addr) (cb : Nat) (ms : List Mod) (A : Option Addr) (c : Nat) (rs : List Rul) (w : World) (h : SlAt pRul (Old w) w A c rs) (h' : SlAt pMod (Old w) w B cb ms) (hs : Small rs) :
    Calls Tryd.prog 10 #[.slice B ms.length cb, .slice A rs.length c] w (RRunPost rs ms rs.length w) := by
  have hmx := h.lenle
  have hmx' := h'.lenle
  have hck := rRun_calls A c rs B cb ms rs.length w h h' hs (fits_i64 (by omega))
  unfold RRunPost at hck ⊢
  generalize rRunF rs ms rs.length = r at hck ⊢
  obtain ⟨v, ee⟩ := r
  simp only at hck ⊢
  have H := Lib.hid h; clear h
  have H' := Lib.hid h'; clear h'
  have Hck := Lib.hid hck; clear hck
  go_enter Tryd.func10, Tryd.ntmps10
  go_wp2_with fail
  refine Hck.out.mono ?_
  rintro e w1 ⟨A2, c2, rfl, ho, hb1⟩
  have Ho := Lib.hid ho; clear ho
  have Hb1 := Lib.hid hb1; clear hb1
  go_wp2
  go_ret2
  exact ⟨A2, c2, rfl, Ho.out, Hb1.out⟩
end Go.Proofs.YtckffdaomjbglaaDoor

/-! Qb -/
namespace Go.Proofs.YtckffdaomjbglaaDoor
open Go.RowKit Go.Sort
set_option linter.unusedVariables false

theorem lit_new {α : Type} {E : Rp α} {w : World} {t : TypeId} {cells : Array Value} {xs : List α} (h : CellsAre E (Old w) w cells.toList xs) (hm : xs.length ≤ maxLen) {n : Nat} (hn : xs.length = n) :
    SlAt E (Old (w.alloc (.cells cells t))) (w.alloc (.cells cells t)) (some ⟨w.heap.size, 0, none⟩) n xs :=
  sl_lit (Blk.new w t cells) ((CellsAre.keep (fun k hk => Below.heap_alloc _ _ _ hk) h).wide fun k hk => by unfold Old at *; simp; omega) (by show w.heap.size < _; simp) hm hn
theorem frm_R {F : Nat → Prop} {w : World} {c : Int} {A : Option Addr} {k cap : Nat} {xs : List Int} (hc : Fits .i64 c) (h : SlAt (pI .i64) F w A cap xs) (hk : xs.length = k) : pFrm.R F w [.int .i64 c, .slice A k cap] ⟨c, xs⟩ := by
  subst hk; exact ⟨A, cap, rfl, hc, h⟩
theorem shp_R {F : Nat → Prop} {w : World} {c : Int} {A : Option Addr} {k cap : Nat} {xs : List Frm} (hc : Fits .u8 c) (h : SlAt pFrm F w A cap xs) (hk : xs.length = k) : pShp.R F w [.int .u8 c, .slice A k cap] ⟨c, xs⟩ := by
  subst hk; exact ⟨A, cap, rfl, hc, h⟩
theorem rul_R {F : Nat → Prop} {w : World} {c ar : Int} {A B : Option Addr} {k k2 cap cap2 : Nat} {g : List Frm} {o : List Shp} (hc : Fits .u8 c) (ha : Fits .i64 ar) (h : SlAt pFrm F w A cap g) (h2 : SlAt pShp F w B cap2 o) (hk : g.length = k) (hk2 : o.length = k2) :
    pRul.R F w [.int .u8 c, .int .i64 ar, .int .u8 0, .int .u8 0, .slice A k cap, .int .i64 0, .slice B k2 cap2] ⟨c, ar, 0, 0, g, 0, o⟩ := by
  subst hk hk2
  exact ⟨A, cap, B, cap2, rfl, ⟨hc, ha, fits_u8 (n := 0) (by decide), fits_u8 (n := 0) (by decide), fits_i64 (n := 0) (by decide)⟩, h, h2⟩
theorem bl {w : World} (o : Obj) : Below w.heap.size w (w.alloc o) := (Below.refl _ _).alloc (Nat.le_refl _) _

def validQ (rs : List Rul) (ms : List Mod) : Bool := !greatR rs && checkR rs == 0 && (!greatF ms && checkF ms == 0)
theorem validQ_yes {rs : List Rul} {ms : List Mod} (h : validQ rs ms = true) : Small rs ∧ checkR rs = 0 ∧ checkF ms = 0 := by
  unfold validQ at h
  simp only [Bool.and_eq_true, beq_iff_eq, Bool.not_eq_true'] at h
  exact ⟨small_of h.1.1, h.1.2, h.2.2⟩

end Go.Proofs.YtckffdaomjbglaaDoor
