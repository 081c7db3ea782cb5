/-
  Layer 7: the walks of worth, Worth, Form.
-/
import Derived.Test.YtlipmagkplbkdaaDoorFa
import Derived.IntWalk
namespace Go.Proofs.YtlipmagkplbkdaaDoor
open Go.RowKit

/-- what a valid form and arguments in range give to a sum's loop -/
structure SumOk (f : Frm) (args : List Int) : Prop where
  c : -1000000 ≤ f.const ∧ f.const ≤ 1000000
  k : ∀ x ∈ f.coefs, inC x = true
  n : f.coefs.length = args.length
  a : ∀ x ∈ args, argOk x = true
  l : args.length ≤ 4
theorem sumOk {f : Frm} {args : List Int} (h1 : formF f args.length = true) (h2 : args.all argOk = true) (h3 : args.length ≤ 4) : SumOk f args := by
  unfold formF at h1
  simp only [Bool.and_eq_true, List.all_eq_true, beq_iff_eq] at h1
  exact ⟨inC_iff.1 h1.1.1, h1.1.2, h1.2, List.all_eq_true.1 h2, h3⟩
theorem fdot_cons {cs xs : List Int} {c x : Int} {k : Nat} (h1 : cs.drop k = c :: cs.drop (k + 1)) (h2 : xs.drop k = x :: xs.drop (k + 1)) : fdot (cs.drop k) (xs.drop k) = c * x + fdot (cs.drop (k + 1)) (xs.drop (k + 1)) := by
  rw [h1, h2]; rfl
theorem fdot_bd : ∀ {cs xs : List Int}, (∀ x ∈ cs, inC x = true) → (∀ x ∈ xs, argOk x = true) → -(xs.length : Int) * 1000000000000000 ≤ fdot cs xs ∧ fdot cs xs ≤ (xs.length : Int) * 1000000000000000
  | [], xs, _, _ => by have : fdot [] xs = 0 := rfl
                       rw [this]; omega
  | c :: cs, [], _, _ => by have : fdot (c :: cs) [] = 0 := rfl
                            rw [this]; simp
  | c :: cs, x :: xs, h1, h2 => by
    have h3 := mul_bd (h1 c (by simp)) (h2 x (by simp))
    have h4 := fdot_bd (cs := cs) (xs := xs) (fun y hy => h1 y (by simp [hy])) (fun y hy => h2 y (by simp [hy]))
    unfold fdot; simp only [List.length_cons]; omega
theorem worth_bd {f : Frm} {args : List Int} (h : SumOk f args) : -4000000001000000 ≤ worthF f args ∧ worthF f args ≤ 4000000001000000 := by
  have := fdot_bd h.k h.a
  have := h.l; have := h.c
  unfold worthF; omega

set_option maxRecDepth 100000 in
set_option maxHeartbeats 1000000 in
theorem worth_calls {F : Nat → Prop} (A : Option Addr) (c : Nat) (f : Frm) (A' : Option Addr) (c' : Nat) (args : List Int) (w : World) (h : SlAt (pI .i64) F w A c f.coefs) (h' : SlAt (pI .i64) F w A' c' args) (hF : ∀ k, F k → k < w.heap.size) (hok : SumOk f args) :
    Calls Tryd.prog 86 #[.agg #[.int .i64 f.const, .slice A f.coefs.length c], .slice A' args.length c'] w (IntPost (worthF f args) w) := by
  obtain ⟨co, xs⟩ := f
  have hmx := h.lenle
  have hmx' := h'.lenle
  have hl := hok.n
  have hl4 := hok.l
  have hc := hok.c
  simp only at h hl hc hmx ⊢
  have hb0 : Below w.heap.size w (w.alloc (.cells #[.int .i64 co, .slice A xs.length c] 70)) := (Below.refl _ _).alloc (Nat.le_refl _) _
  have h2 := h.keep (w' := w.alloc (.cells #[.int .i64 co, .slice A xs.length c] 70)) fun k hk => Below.heap_alloc _ _ _ (hF k hk)
  have h3 := h'.keep (w' := w.alloc (.cells #[.int .i64 co, .slice A xs.length c] 70)) fun k hk => Below.heap_alloc _ _ _ (hF k hk)
  have hkk := hok.k
  have haa := hok.a
  have H2 := Lib.hid h2; clear h2
  have H3 := Lib.hid h3; clear h3
  have Hb0 := Lib.hid hb0; clear hb0
  have Hkk := Lib.hid hkk; clear hkk
  have Haa := Lib.hid haa; clear haa
  clear h h' hF
  have hl' : xs.length ≤ args.length := by omega
  have hl'' : args.length ≤ xs.length := by omega
  have Hl := Lib.hid hl; clear hl
  go_enter Tryd.func86, Tryd.ntmps86
  go_wp2
  go_loop [12, 5] (fun i n => ∃ k : Nat, k ≤ args.length ∧ i = .int .i64 k ∧ ∃ s : Int, n = .int .i64 s ∧ -(1000000 + k * 1000000000000000 : Int) ≤ s ∧ s ≤ 1000000 + k * 1000000000000000 ∧ Hid (worthF ⟨co, xs⟩ args = s + fdot (xs.drop k) (args.drop k))) (fun i _ => args.length - (intOf i).toNat)
  case atStart => exact ⟨0, Nat.zero_le _, rfl, co, rfl, by omega, by omega, rfl⟩
  case round =>
    obtain ⟨k, hk, rfl, s, rfl, hs0, hs1, hd⟩ := hrel
    by_cases hlt : k < args.length
    · have hltx : k < xs.length := by omega
      obtain ⟨b, o, x, hdx, rfl, _, hcx, hfx⟩ := H3.out.getI hlt
      obtain ⟨b', o', y, hdy, rfl, _, hcy, hfy⟩ := H2.out.getI hltx
      have hm := mul_bd (Hkk.out y (mem_of_drop hdy.out)) (Haa.out x (mem_of_drop hdx.out))
      obtain ⟨hm0, hm1⟩ := hm
      have hw1 : -9223372036854775808 ≤ s + y * x ∧ s + y * x ≤ 9223372036854775807 := by omega
      go_wp2
      go_round
      case rel =>
        refine ⟨k + 1, by omega, by go_num, s + y * x, by go_num, by omega, by omega, ?_⟩
        unfold Hid; rw [hd.out, fdot_cons hdy.out hdx.out]; omega
      case measure => simp [intOf]; omega
    · have he : worthF ⟨co, xs⟩ args = s := by rw [hd.out, drop_end hlt, drop_end (xs := xs) (by omega)]; unfold fdot; omega
      have He := Lib.hid he; clear he
      go_wp2
      go_ret
      exact ⟨ret_int He.out.symm, Hb0.out⟩

set_option maxRecDepth 100000 in
set_option maxHeartbeats 1000000 in
theorem refWorth_calls {F : Nat → Prop} (A : Option Addr) (c : Nat) (f : Frm) (A' : Option Addr) (c' : Nat) (args : List Int) (w : World) (h : SlAt (pI .i64) F w A c f.coefs) (h' : SlAt (pI .i64) F w A' c' args) (hF : ∀ k, F k → k < w.heap.size) (hok : SumOk f args) :
    Calls Tryd.prog 56 #[.agg #[.int .i64 f.const, .slice A f.coefs.length c], .slice A' args.length c'] w (IntPost (worthF f args) w) := by
  obtain ⟨co, xs⟩ := f
  have hmx := h.lenle
  have hmx' := h'.lenle
  have hl := hok.n
  have hl4 := hok.l
  have hc := hok.c
  simp only at h hl hc hmx ⊢
  have hb0 : Below w.heap.size w (w.alloc (.cells #[.int .i64 co, .slice A xs.length c] 70)) := (Below.refl _ _).alloc (Nat.le_refl _) _
  have h2 := h.keep (w' := w.alloc (.cells #[.int .i64 co, .slice A xs.length c] 70)) fun k hk => Below.heap_alloc _ _ _ (hF k hk)
  have h3 := h'.keep (w' := w.alloc (.cells #[.int .i64 co, .slice A xs.length c] 70)) fun k hk => Below.heap_alloc _ _ _ (hF k hk)
  have hkk := hok.k
  have haa := hok.a
  have hblk := Blk.new w 70 #[.int .i64 co, .slice A xs.length c]
  have H2 := Lib.hid h2; clear h2
  have H3 := Lib.hid h3; clear h3
  have Hb0 := Lib.hid hb0; clear hb0
  have Hkk := Lib.hid hkk; clear hkk
  have Haa := Lib.hid haa; clear haa
  have Hblk := Lib.hid hblk; clear hblk
  clear h h' hF
  have hl' : xs.length ≤ args.length := by omega
  have hl'' : args.length ≤ xs.length := by omega
  have Hl := Lib.hid hl; clear hl
  go_enter Tryd.func56, Tryd.ntmps56
  go_wp2
  go_loopw [6, 5] (fun i n wr => ∃ k : Nat, k ≤ args.length ∧ i = .int .i64 k ∧ ∃ s : Int, n = .int .i64 s ∧ -(1000000 + k * 1000000000000000 : Int) ≤ s ∧ s ≤ 1000000 + k * 1000000000000000 ∧ Hid (worthF ⟨co, xs⟩ args = s + fdot (xs.drop k) (args.drop k)) ∧ Hid (∃ d, wr = (w.alloc (.cells #[.int .i64 co, .slice A xs.length c] 70)).drewN d)) (fun i _ _ => args.length - (intOf i).toNat)
  case atStart => exact ⟨0, Nat.zero_le _, rfl, co, rfl, by omega, by omega, rfl, 0, rfl⟩
  case round =>
    obtain ⟨k, hk, rfl, s, rfl, hs0, hs1, hd, hw⟩ := hrel
    have hkp : ∀ b : Nat, wr.heap[b]? = (w.alloc (.cells #[.int .i64 co, .slice A xs.length c] 70)).heap[b]? := by obtain ⟨d, rfl⟩ := hw.out; intro b; rfl
    by_cases hlt : k < args.length
    · have hltx : k < xs.length := by omega
      obtain ⟨b, o, x, hdx, rfl, _, hcx, hfx⟩ := (H3.out.keep fun q _ => hkp q).getI hlt
      obtain ⟨b', o', y, hdy, rfl, _, hcy, hfy⟩ := (H2.out.keep fun q _ => hkp q).getI hltx
      have hcl := ((Hblk.out.same (hkp _)).cell 1)
      simp only [List.getElem?_toArray, List.getElem?_cons_succ, List.getElem?_cons_zero] at hcl
      have hm := mul_bd (Hkk.out y (mem_of_drop hdy.out)) (Haa.out x (mem_of_drop hdx.out))
      obtain ⟨hm0, hm1⟩ := hm
      clear hkp
      have e1 : IntKind.i64.wrap (y * x) = y * x := IntWalk.i64_in _ (by omega)
      have e2 : IntKind.i64.wrap (s + y * x) = s + y * x := IntWalk.i64_in _ (by omega)
      go_wp2
      go_quiet (fail)
      clear e1 e2
      go_wp2
      go_roundw
      case rel =>
        refine ⟨k + 1, by omega, by go_num, s + y * x, by go_num, by omega, by omega, ?_, ?_⟩
        · unfold Hid; rw [hd.out, fdot_cons hdy.out hdx.out]; omega
        · obtain ⟨d, rfl⟩ := hw.out
          exact ⟨_, World.drewN_drewN _ _ _⟩
      case measure => simp [intOf]; omega
    · have he : worthF ⟨co, xs⟩ args = s := by rw [hd.out, drop_end hlt, drop_end (xs := xs) (by omega)]; unfold fdot; omega
      have hbw : Below w.heap.size w wr := by obtain ⟨d, rfl⟩ := hw.out; exact below_drewN Hb0.out d
      have He := Lib.hid he; clear he
      have Hbw := Lib.hid hbw; clear hbw
      clear hkp
      go_wp2
      go_ret
      exact ⟨ret_int He.out.symm, Hbw.out⟩

set_option maxRecDepth 100000 in
set_option maxHeartbeats 1000000 in
theorem refForm_calls {F : Nat → Prop} (A : Option Addr) (c : Nat) (f : Frm) (n : Nat) (w : World) (h : SlAt (pI .i64) F w A c f.coefs) (hF : ∀ k, F k → k < w.heap.size) (hc : Fits .i64 f.const) (hn : n ≤ 9223372036854775807) :
    Calls Tryd.prog 66 #[.agg #[.int .i64 f.const, .slice A f.coefs.length c], .int .i64 n] w (BoolPost (formF f n) w) := by
  obtain ⟨co, xs⟩ := f
  simp only at h hc ⊢
  have hmx := h.lenle
  have hc' := hc.i64
  have hb0 : Below w.heap.size w (w.alloc (.cells #[.int .i64 co, .slice A xs.length c] 70)) := (Below.refl _ _).alloc (Nat.le_refl _) _
  have h2 := h.keep (w' := w.alloc (.cells #[.int .i64 co, .slice A xs.length c] 70)) fun k hk => Below.heap_alloc _ _ _ (hF k hk)
  have H2 := Lib.hid h2; clear h2
  have Hb0 := Lib.hid hb0; clear hb0
  clear h hF
  have no : formF ⟨co, xs⟩ n = false → BoolPost (formF ⟨co, xs⟩ n) w (.returned (.bool false)) (w.alloc (.cells #[.int .i64 co, .slice A xs.length c] 70)) := fun hn => ⟨by rw [hn], Hb0.out⟩
  have No := Lib.hid no; clear no
  by_cases h0 : co < -1000000
  · go_enter Tryd.func66, Tryd.ntmps66
    go_wp2
    go_ret
    exact No.out (by unfold formF; rw [inC_no (.inl h0)]; rfl)
  by_cases h1 : 1000000 < co
  · go_enter Tryd.func66, Tryd.ntmps66
    go_wp2
    go_ret
    exact No.out (by unfold formF; rw [inC_no (.inr h1)]; rfl)
  by_cases hl : xs.length = n
  · subst hl
    have e0 : ((xs.length : Int) != (xs.length : Int)) = false := by simp
    go_enter Tryd.func66, Tryd.ntmps66
    go_wp2
    go_loop [5] (fun i => ∃ k : Nat, k ≤ xs.length ∧ i = .int .i64 k ∧ Hid (xs.all inC = (xs.drop k).all inC)) (fun i => xs.length - (intOf i).toNat)
    case atStart => exact ⟨0, Nat.zero_le _, rfl, rfl⟩
    case round =>
      obtain ⟨k, hk, rfl, hall⟩ := hrel
      by_cases hlt : k < xs.length
      · obtain ⟨b, o, x, hd, rfl, _, hcx, hfx⟩ := H2.out.getI hlt
        by_cases hx0 : x < -1000000
        · go_wp2
          go_ret
          exact No.out (by unfold formF; rw [hall.out, hd.out, List.all_cons, inC_no (.inl hx0)]; simp)
        · by_cases hx1 : 1000000 < x
          · go_wp2
            go_ret
            exact No.out (by unfold formF; rw [hall.out, hd.out, List.all_cons, inC_no (.inr hx1)]; simp)
          · go_wp2
            go_round
            case rel =>
              refine ⟨k + 1, by omega, by go_num, ?_⟩
              unfold Hid; rw [hall.out, hd.out, List.all_cons, inC_yes hx0 hx1]; rfl
            case measure => simp [intOf]; omega
      · have ha : formF ⟨co, xs⟩ xs.length = true := by unfold formF; rw [inC_yes (x := co) (by omega) (by omega), hall.out, drop_end hlt]; simp
        have Ha := Lib.hid ha; clear ha
        go_wp2
        go_ret
        exact ⟨by rw [Ha.out]; rfl, Hb0.out⟩
  · have e0 : ((xs.length : Int) != (n : Int)) = true := by simp; omega
    have e1 : (xs.length == n) = false := by simpa using hl
    have E1 := Lib.hid e1; clear e1
    clear hl
    go_enter Tryd.func66, Tryd.ntmps66
    go_wp2
    go_ret
    exact No.out (by unfold formF; simp only [E1.out, Bool.and_false])

theorem form_int {F : Nat → Prop} (A : Option Addr) (c : Nat) (f : Frm) (n : Int) (w : World) (h : SlAt (pI .i64) F w A c f.coefs) (hF : ∀ k, F k → k < w.heap.size) (hc : Fits .i64 f.const) (hn : 0 ≤ n ∧ n ≤ 4) :
    Calls Tryd.prog 76 #[.agg #[.int .i64 f.const, .slice A f.coefs.length c], .int .i64 n] w (BoolPost (formF f n.toNat) w) := by
  have := form_calls A c f n.toNat w h hF hc (by omega)
  rwa [Int.toNat_of_nonneg hn.1] at this
theorem refForm_int {F : Nat → Prop} (A : Option Addr) (c : Nat) (f : Frm) (n : Int) (w : World) (h : SlAt (pI .i64) F w A c f.coefs) (hF : ∀ k, F k → k < w.heap.size) (hc : Fits .i64 f.const) (hn : 0 ≤ n ∧ n ≤ 4) :
    Calls Tryd.prog 66 #[.agg #[.int .i64 f.const, .slice A f.coefs.length c], .int .i64 n] w (BoolPost (formF f n.toNat) w) := by
  have := refForm_calls A c f n.toNat w h hF hc (by omega)
  rwa [Int.toNat_of_nonneg hn.1] at this
end Go.Proofs.YtlipmagkplbkdaaDoor
