/-
  Layer 6: the walk of the reference's number.
-/
import Derived.Test.YtfakcccfadeknaaDoorPs
import Derived.OwnWalk
namespace Go.Proofs.YtfakcccfadeknaaDoor
open Go.RowKit Go.Sort
set_option linter.unusedVariables false

def NumV (z : Nat) : Option (Int × List UInt8) → Value
  | none => .tuple #[.int .i64 0, .int .i64 0, .bool false]
  | some (n, r) => .tuple #[.int .i64 n, .int .i64 ((z - r.length : Nat) : Int), .bool true]
theorem dropB {p : ByteArray} {k : Nat} (h : k < p.size) : p.data.toList.drop k = p[k] :: p.data.toList.drop (k + 1) := by
  have hk : k < p.data.toList.length := by simpa using h
  rw [List.drop_eq_getElem_cons hk]
  rfl
theorem dropB_len (p : ByteArray) (k : Nat) : (p.data.toList.drop k).length = p.size - k := by rw [List.length_drop]; simp
theorem numV_ok {s : ByteArray} {q : Nat} {N : Int} (h : q ≤ s.size) : NumV s.size (some (N, s.data.toList.drop q)) = .tuple #[.int .i64 N, .int .i64 (q : Int), .bool true] := by
  unfold NumV
  simp only [dropB_len]
  rw [show s.size - (s.size - q) = q from by omega]
theorem digsR_yes {m : Nat} {n : Int} {b : UInt8} {r : List UInt8} (h : 48 ≤ (b.toNat : Int)) (h' : (b.toNat : Int) ≤ 57) : digsR (m + 1) n (b :: r) = digsR m (10 * n + ((b.toNat : Int) - 48)) r := by
  conv => lhs; unfold digsR
  rw [if_pos ⟨by omega, by omega⟩]
theorem digsR_no {m : Nat} {n : Int} {b : UInt8} {r : List UInt8} (h : ¬ (48 ≤ (b.toNat : Int) ∧ (b.toNat : Int) ≤ 57)) : digsR m n (b :: r) = (n, b :: r) := by
  cases m with
  | zero => rfl
  | succ m => unfold digsR; rw [if_neg (fun e => h ⟨by omega, by omega⟩)]
theorem digsR_end (m : Nat) (n : Int) : digsR m n [] = (n, []) := by cases m <;> rfl
theorem pow_ten {v d q f : Nat} (h : v < 10 ^ (q - f)) (hf : f ≤ q) (hq : q < f + 10) (hd : d ≤ 9) : 10 * v + d < 10 ^ (q + 1 - f) ∧ 10 * v + d ≤ 9999999999 := by
  have e : 10 ^ (q + 1 - f) = 10 ^ (q - f) * 10 := by rw [show q + 1 - f = (q - f) + 1 from by omega, Nat.pow_succ]
  have h1 : 10 ^ (q + 1 - f) ≤ 10 ^ 10 := Nat.pow_le_pow_right (by omega) (by omega)
  have h2 : (10 : Nat) ^ 10 = 10000000000 := by decide
  omega
theorem tail_same {neg : Bool} {s : ByteArray} {f : Nat} {v : Nat} (h : digsR 10 0 (s.data.toList.drop f) = ((v : Int), s.data.toList.drop f)) : tailR neg (s.data.toList.drop f) = none := by
  unfold tailR; rw [h, if_pos (.inl rfl)]
theorem tail_zero {neg : Bool} {s : ByteArray} {f q : Nat} {v : Nat} (h : digsR 10 0 (s.data.toList.drop f) = ((v : Int), s.data.toList.drop q)) (hf : f < s.size) (h48 : (s[f].toNat : Int) = 48) (hq : f + 1 < q) (hqs : q ≤ s.size) : tailR neg (s.data.toList.drop f) = none := by
  have h8 : s[f] = 48 := by
    apply UInt8.toNat_inj.1
    have : s[f].toNat = 48 := by omega
    rw [this]; rfl
  have hA : (s.data.toList.drop f).head? = some 48 := by rw [dropB hf, h8]; rfl
  have hB : (s.data.toList.drop q).length + 1 < (s.data.toList.drop f).length := by rw [dropB_len, dropB_len]; omega
  unfold tailR
  rw [h]
  exact if_pos (.inr (.inl ⟨hA, hB⟩))
theorem tail_neg0 {s : ByteArray} {f q : Nat} (h : digsR 10 0 (s.data.toList.drop f) = (((0 : Nat) : Int), s.data.toList.drop q)) : tailR true (s.data.toList.drop f) = none := by
  unfold tailR
  rw [h, if_pos (.inr (.inr ⟨rfl, rfl⟩))]
theorem tail_ok {neg : Bool} {s : ByteArray} {f q : Nat} {v : Nat} (h : digsR 10 0 (s.data.toList.drop f) = ((v : Int), s.data.toList.drop q)) (hf : f < s.size) (hfq : f < q) (hqs : q ≤ s.size) (h1 : ¬ ((s[f].toNat : Int) = 48 ∧ f + 1 < q)) (h2 : ¬ (v = 0 ∧ neg = true)) :
    tailR neg (s.data.toList.drop f) = some ((if neg = true then -(v : Int) else (v : Int)), s.data.toList.drop q) := by
  unfold tailR
  rw [h, if_neg]
  rw [dropB_len, dropB_len]
  rintro (e | ⟨e, e2⟩ | ⟨e, e2⟩)
  · omega
  · rw [dropB hf] at e
    have : s[f] = 48 := Option.some.inj e
    exact h1 ⟨by rw [this]; rfl, by omega⟩
  · exact h2 ⟨by have : (v : Int) = 0 := e; omega, e2⟩
set_option maxRecDepth 100000 in
set_option maxHeartbeats 8000000 in
theorem refNumber_calls (s : ByteArray) (k : Nat) (w : World) (hs : s.size ≤ 60000) (hk : k ≤ s.size) : Calls Tryd.prog 22 #[.string s, .int .i64 k] w fun e w' => e = .returned (NumV s.size (numR (s.data.toList.drop k))) ∧ w = w' := by
  by_cases hm : ∃ h : k < s.size, (s[k].toNat : Int) = 45
  · obtain ⟨hks, h45⟩ := hm
    have hnm : numR (s.data.toList.drop k) = tailR true (s.data.toList.drop (k + 1)) := by
      rw [dropB hks, numR_cons, if_pos (by apply UInt8.toNat_inj.1; have : s[k].toNat = 45 := by omega
                                           rw [this]; rfl)]
    have Hnm := Lib.hid hnm; clear hnm
    go_enter Tryd.func22, Tryd.ntmps22
    go_wp2
    go_loop [1, 8] (fun p n => ∃ (q v : Nat), k + 1 ≤ q ∧ q ≤ k + 1 + 10 ∧ q ≤ s.size ∧ p = .int .i64 q ∧ n = .int .i64 v ∧ Hid (v < 10 ^ (q - (k + 1))) ∧ v ≤ 9999999999 ∧ Hid (digsR 10 0 (s.data.toList.drop (k + 1)) = digsR (k + 1 + 10 - q) v (s.data.toList.drop q))) (fun p _ => s.size - (intOf p).toNat)
    case atStart => exact ⟨k + 1, 0, by omega, by omega, by omega, by go_num, rfl, by unfold Hid; simp, by omega, by unfold Hid; rw [show k + 1 + 10 - (k + 1) = 10 from by omega]; rfl⟩
    case round =>
      obtain ⟨q, v, hq0, hq1, hq2, rfl, rfl, hv, hv9, hdg⟩ := hrel
      by_cases hlt : q < s.size
      · by_cases h10 : q < k + 1 + 10
        · obtain ⟨x, hx⟩ : ∃ x, (s[q].toNat : Int) = x := ⟨_, rfl⟩
          by_cases hdig : 48 ≤ x ∧ x ≤ 57
          · obtain ⟨hd0, hd1⟩ := hdig
            have hst : digsR 10 0 (s.data.toList.drop (k + 1)) = digsR (k + 1 + 10 - (q + 1)) (10 * (v : Int) + (x - 48)) (s.data.toList.drop (q + 1)) := by
              rw [hdg.out, dropB hlt, show k + 1 + 10 - q = (k + 1 + 10 - (q + 1)) + 1 from by omega, digsR_yes (by rw [hx]; exact hd0) (by rw [hx]; exact hd1), hx]
            obtain ⟨d, hd⟩ : ∃ d : Nat, x - 48 = d := ⟨(x - 48).toNat, by omega⟩
            obtain ⟨hp0, hp1⟩ := pow_ten (d := d) hv.out (by omega) h10 (by omega)
            rw [hd, show 10 * (v : Int) + (d : Int) = ((10 * v + d : Nat) : Int) from by omega] at hst
            have eu : IntKind.u8.wrap (x - 48) = x - 48 := by rw [IntKind.wrap_u8]; omega
            have Hst := Lib.hid hst; clear hst
            have Hp0 := Lib.hid hp0; clear hp0
            clear hv hdg
            go_wp2
            go_round
            case rel => exact ⟨q + 1, 10 * v + d, by omega, by omega, by omega, by go_num, by (first | (congr 1; omega) | go_num), Hp0, hp1, Hst⟩
            case measure => simp [intOf]; omega
          · have hD : digsR 10 0 (s.data.toList.drop (k + 1)) = ((v : Int), s.data.toList.drop q) := by
              rw [hdg.out, dropB hlt, digsR_no (by rw [hx]; exact hdig)]
            by_cases hd0 : 48 ≤ x
            · have hd1 : ¬ x ≤ 57 := fun e => hdig ⟨hd0, e⟩
              clear hdig hdg hv
              by_cases hqf : q = k + 1
              · subst hqf
                have hr := tail_same (neg := true) hD
                rw [← Hnm.out] at hr
                have Hr := Lib.hid hr; clear hr
                clear hD
                go_wp2
                all_goals
                  go_ret3
                  exact ⟨by rw [Hr.out]; rfl, rfl⟩
              · have hfq : k + 1 < q := by omega
                have hfs : k + 1 < s.size := by omega
                have eqf : ((q : Int) == ((k + 1 : Nat) : Int)) = false := by simp; omega
                obtain ⟨y, hy⟩ : ∃ y, (s[k + 1].toNat : Int) = y := ⟨_, rfl⟩
                by_cases h48 : y = 48 ∧ k + 1 + 1 < q
                · have hr := tail_zero (neg := true) hD hfs (by rw [hy]; exact h48.1) h48.2 (by omega)
                  rw [← Hnm.out] at hr
                  obtain ⟨rfl, h48b⟩ := h48
                  have Hr := Lib.hid hr; clear hr
                  clear hD
                  go_wp2
                  all_goals
                    go_ret3
                    exact ⟨by rw [Hr.out]; rfl, rfl⟩
                · by_cases hv0 : v = 0
                  · subst hv0
                    have hr := tail_neg0 hD
                    rw [← Hnm.out] at hr
                    have Hr := Lib.hid hr; clear hr
                    clear hD
                    by_cases h48a : y = 48
                    · subst h48a
                      have h48b : ¬ ((k : Int) + 1 + 1 < (q : Int)) := by omega
                      go_wp2
                      all_goals
                        go_ret3
                        exact ⟨by rw [Hr.out]; rfl, rfl⟩
                    · have e48 : (y == 48) = false := by simp [h48a]
                      go_wp2
                      all_goals
                        go_ret3
                        exact ⟨by rw [Hr.out]; rfl, rfl⟩
                  · have hr := tail_ok (neg := true) hD hfs hfq (by omega) (by rw [hy]; omega) (by omega)
                    rw [← Hnm.out, if_pos rfl] at hr
                    have ev : ((v : Int) == 0) = false := by simp; omega
                    have Hr := Lib.hid hr; clear hr
                    clear hD
                    by_cases h48a : y = 48
                    · subst h48a
                      have h48b : ¬ ((k : Int) + 1 + 1 < (q : Int)) := by omega
                      go_wp2
                      all_goals
                        go_ret3
                        exact ⟨by rw [Hr.out]; rw [numV_ok (by omega)]; rfl, rfl⟩
                    · have e48 : (y == 48) = false := by simp [h48a]
                      go_wp2
                      all_goals
                        go_ret3
                        exact ⟨by rw [Hr.out]; rw [numV_ok (by omega)]; rfl, rfl⟩
            · clear hdig hdg hv
              by_cases hqf : q = k + 1
              · subst hqf
                have hr := tail_same (neg := true) hD
                rw [← Hnm.out] at hr
                have Hr := Lib.hid hr; clear hr
                clear hD
                go_wp2
                all_goals
                  go_ret3
                  exact ⟨by rw [Hr.out]; rfl, rfl⟩
              · have hfq : k + 1 < q := by omega
                have hfs : k + 1 < s.size := by omega
                have eqf : ((q : Int) == ((k + 1 : Nat) : Int)) = false := by simp; omega
                obtain ⟨y, hy⟩ : ∃ y, (s[k + 1].toNat : Int) = y := ⟨_, rfl⟩
                by_cases h48 : y = 48 ∧ k + 1 + 1 < q
                · have hr := tail_zero (neg := true) hD hfs (by rw [hy]; exact h48.1) h48.2 (by omega)
                  rw [← Hnm.out] at hr
                  obtain ⟨rfl, h48b⟩ := h48
                  have Hr := Lib.hid hr; clear hr
                  clear hD
                  go_wp2
                  all_goals
                    go_ret3
                    exact ⟨by rw [Hr.out]; rfl, rfl⟩
                · by_cases hv0 : v = 0
                  · subst hv0
                    have hr := tail_neg0 hD
                    rw [← Hnm.out] at hr
                    have Hr := Lib.hid hr; clear hr
                    clear hD
                    by_cases h48a : y = 48
                    · subst h48a
                      have h48b : ¬ ((k : Int) + 1 + 1 < (q : Int)) := by omega
                      go_wp2
                      all_goals
                        go_ret3
                        exact ⟨by rw [Hr.out]; rfl, rfl⟩
                    · have e48 : (y == 48) = false := by simp [h48a]
                      go_wp2
                      all_goals
                        go_ret3
                        exact ⟨by rw [Hr.out]; rfl, rfl⟩
                  · have hr := tail_ok (neg := true) hD hfs hfq (by omega) (by rw [hy]; omega) (by omega)
                    rw [← Hnm.out, if_pos rfl] at hr
                    have ev : ((v : Int) == 0) = false := by simp; omega
                    have Hr := Lib.hid hr; clear hr
                    clear hD
                    by_cases h48a : y = 48
                    · subst h48a
                      have h48b : ¬ ((k : Int) + 1 + 1 < (q : Int)) := by omega
                      go_wp2
                      all_goals
                        go_ret3
                        exact ⟨by rw [Hr.out]; rw [numV_ok (by omega)]; rfl, rfl⟩
                    · have e48 : (y == 48) = false := by simp [h48a]
                      go_wp2
                      all_goals
                        go_ret3
                        exact ⟨by rw [Hr.out]; rw [numV_ok (by omega)]; rfl, rfl⟩
        · have hD : digsR 10 0 (s.data.toList.drop (k + 1)) = ((v : Int), s.data.toList.drop q) := by
            rw [hdg.out, show k + 1 + 10 - q = 0 from by omega]; rfl
          clear hdg hv
          by_cases hqf : q = k + 1
          · subst hqf
            have hr := tail_same (neg := true) hD
            rw [← Hnm.out] at hr
            have Hr := Lib.hid hr; clear hr
            clear hD
            go_wp2
            all_goals
              go_ret3
              exact ⟨by rw [Hr.out]; rfl, rfl⟩
          · have hfq : k + 1 < q := by omega
            have hfs : k + 1 < s.size := by omega
            have eqf : ((q : Int) == ((k + 1 : Nat) : Int)) = false := by simp; omega
            obtain ⟨y, hy⟩ : ∃ y, (s[k + 1].toNat : Int) = y := ⟨_, rfl⟩
            by_cases h48 : y = 48 ∧ k + 1 + 1 < q
            · have hr := tail_zero (neg := true) hD hfs (by rw [hy]; exact h48.1) h48.2 (by omega)
              rw [← Hnm.out] at hr
              obtain ⟨rfl, h48b⟩ := h48
              have Hr := Lib.hid hr; clear hr
              clear hD
              go_wp2
              all_goals
                go_ret3
                exact ⟨by rw [Hr.out]; rfl, rfl⟩
            · by_cases hv0 : v = 0
              · subst hv0
                have hr := tail_neg0 hD
                rw [← Hnm.out] at hr
                have Hr := Lib.hid hr; clear hr
                clear hD
                by_cases h48a : y = 48
                · subst h48a
                  have h48b : ¬ ((k : Int) + 1 + 1 < (q : Int)) := by omega
                  go_wp2
                  all_goals
                    go_ret3
                    exact ⟨by rw [Hr.out]; rfl, rfl⟩
                · have e48 : (y == 48) = false := by simp [h48a]
                  go_wp2
                  all_goals
                    go_ret3
                    exact ⟨by rw [Hr.out]; rfl, rfl⟩
              · have hr := tail_ok (neg := true) hD hfs hfq (by omega) (by rw [hy]; omega) (by omega)
                rw [← Hnm.out, if_pos rfl] at hr
                have ev : ((v : Int) == 0) = false := by simp; omega
                have Hr := Lib.hid hr; clear hr
                clear hD
                by_cases h48a : y = 48
                · subst h48a
                  have h48b : ¬ ((k : Int) + 1 + 1 < (q : Int)) := by omega
                  go_wp2
                  all_goals
                    go_ret3
                    exact ⟨by rw [Hr.out]; rw [numV_ok (by omega)]; rfl, rfl⟩
                · have e48 : (y == 48) = false := by simp [h48a]
                  go_wp2
                  all_goals
                    go_ret3
                    exact ⟨by rw [Hr.out]; rw [numV_ok (by omega)]; rfl, rfl⟩
      · have hD : digsR 10 0 (s.data.toList.drop (k + 1)) = ((v : Int), s.data.toList.drop q) := by
          rw [hdg.out, List.drop_eq_nil_of_le (by simp; omega), digsR_end]
        clear hdg hv
        by_cases hqf : q = k + 1
        · subst hqf
          have hr := tail_same (neg := true) hD
          rw [← Hnm.out] at hr
          have Hr := Lib.hid hr; clear hr
          clear hD
          go_wp2
          all_goals
            go_ret3
            exact ⟨by rw [Hr.out]; rfl, rfl⟩
        · have hfq : k + 1 < q := by omega
          have hfs : k + 1 < s.size := by omega
          have eqf : ((q : Int) == ((k + 1 : Nat) : Int)) = false := by simp; omega
          obtain ⟨y, hy⟩ : ∃ y, (s[k + 1].toNat : Int) = y := ⟨_, rfl⟩
          by_cases h48 : y = 48 ∧ k + 1 + 1 < q
          · have hr := tail_zero (neg := true) hD hfs (by rw [hy]; exact h48.1) h48.2 (by omega)
            rw [← Hnm.out] at hr
            obtain ⟨rfl, h48b⟩ := h48
            have Hr := Lib.hid hr; clear hr
            clear hD
            go_wp2
            all_goals
              go_ret3
              exact ⟨by rw [Hr.out]; rfl, rfl⟩
          · by_cases hv0 : v = 0
            · subst hv0
              have hr := tail_neg0 hD
              rw [← Hnm.out] at hr
              have Hr := Lib.hid hr; clear hr
              clear hD
              by_cases h48a : y = 48
              · subst h48a
                have h48b : ¬ ((k : Int) + 1 + 1 < (q : Int)) := by omega
                go_wp2
                all_goals
                  go_ret3
                  exact ⟨by rw [Hr.out]; rfl, rfl⟩
              · have e48 : (y == 48) = false := by simp [h48a]
                go_wp2
                all_goals
                  go_ret3
                  exact ⟨by rw [Hr.out]; rfl, rfl⟩
            · have hr := tail_ok (neg := true) hD hfs hfq (by omega) (by rw [hy]; omega) (by omega)
              rw [← Hnm.out, if_pos rfl] at hr
              have ev : ((v : Int) == 0) = false := by simp; omega
              have Hr := Lib.hid hr; clear hr
              clear hD
              by_cases h48a : y = 48
              · subst h48a
                have h48b : ¬ ((k : Int) + 1 + 1 < (q : Int)) := by omega
                go_wp2
                all_goals
                  go_ret3
                  exact ⟨by rw [Hr.out]; rw [numV_ok (by omega)]; rfl, rfl⟩
              · have e48 : (y == 48) = false := by simp [h48a]
                go_wp2
                all_goals
                  go_ret3
                  exact ⟨by rw [Hr.out]; rw [numV_ok (by omega)]; rfl, rfl⟩
  · have hnm : numR (s.data.toList.drop k) = tailR false (s.data.toList.drop k) := by
      by_cases hks : k < s.size
      · rw [dropB hks, numR_cons, if_neg (fun e => hm ⟨hks, by rw [e]; rfl⟩)]
      · rw [List.drop_eq_nil_of_le (by simp; omega)]; rfl
    have Hnm := Lib.hid hnm; clear hnm
    by_cases hks : k < s.size
    · obtain ⟨u, hu⟩ : ∃ u, (s[k].toNat : Int) = u := ⟨_, rfl⟩
      have e45 : (u == 45) = false := by
        simp only [beq_eq_false_iff_ne]
        exact fun e => hm ⟨hks, by rw [hu]; exact e⟩
      clear hm
      go_enter Tryd.func22, Tryd.ntmps22
      go_wp2
      go_loop [1, 8] (fun p n => ∃ (q v : Nat), k ≤ q ∧ q ≤ k + 10 ∧ q ≤ s.size ∧ p = .int .i64 q ∧ n = .int .i64 v ∧ Hid (v < 10 ^ (q - (k))) ∧ v ≤ 9999999999 ∧ Hid (digsR 10 0 (s.data.toList.drop (k)) = digsR (k + 10 - q) v (s.data.toList.drop q))) (fun p _ => s.size - (intOf p).toNat)
      case atStart => exact ⟨k, 0, by omega, by omega, by omega, by go_num, rfl, by unfold Hid; simp, by omega, by unfold Hid; rw [show k + 10 - (k) = 10 from by omega]; rfl⟩
      case round =>
        obtain ⟨q, v, hq0, hq1, hq2, rfl, rfl, hv, hv9, hdg⟩ := hrel
        by_cases hlt : q < s.size
        · by_cases h10 : q < k + 10
          · obtain ⟨x, hx⟩ : ∃ x, (s[q].toNat : Int) = x := ⟨_, rfl⟩
            by_cases hdig : 48 ≤ x ∧ x ≤ 57
            · obtain ⟨hd0, hd1⟩ := hdig
              have hst : digsR 10 0 (s.data.toList.drop (k)) = digsR (k + 10 - (q + 1)) (10 * (v : Int) + (x - 48)) (s.data.toList.drop (q + 1)) := by
                rw [hdg.out, dropB hlt, show k + 10 - q = (k + 10 - (q + 1)) + 1 from by omega, digsR_yes (by rw [hx]; exact hd0) (by rw [hx]; exact hd1), hx]
              obtain ⟨d, hd⟩ : ∃ d : Nat, x - 48 = d := ⟨(x - 48).toNat, by omega⟩
              obtain ⟨hp0, hp1⟩ := pow_ten (d := d) hv.out (by omega) h10 (by omega)
              rw [hd, show 10 * (v : Int) + (d : Int) = ((10 * v + d : Nat) : Int) from by omega] at hst
              have eu : IntKind.u8.wrap (x - 48) = x - 48 := by rw [IntKind.wrap_u8]; omega
              have Hst := Lib.hid hst; clear hst
              have Hp0 := Lib.hid hp0; clear hp0
              clear hv hdg
              go_wp2
              go_round
              case rel => exact ⟨q + 1, 10 * v + d, by omega, by omega, by omega, by go_num, by (first | (congr 1; omega) | go_num), Hp0, hp1, Hst⟩
              case measure => simp [intOf]; omega
            · have hD : digsR 10 0 (s.data.toList.drop (k)) = ((v : Int), s.data.toList.drop q) := by
                rw [hdg.out, dropB hlt, digsR_no (by rw [hx]; exact hdig)]
              by_cases hd0 : 48 ≤ x
              · have hd1 : ¬ x ≤ 57 := fun e => hdig ⟨hd0, e⟩
                clear hdig hdg hv
                by_cases hqf : q = k
                · subst hqf
                  have hr := tail_same (neg := false) hD
                  rw [← Hnm.out] at hr
                  have Hr := Lib.hid hr; clear hr
                  clear hD
                  go_wp2
                  all_goals
                    go_ret3
                    exact ⟨by rw [Hr.out]; rfl, rfl⟩
                · have hfq : k < q := by omega
                  have hfs : k < s.size := by omega
                  have eqf : ((q : Int) == (k : Int)) = false := by simp; omega
                  obtain ⟨y, hy⟩ : ∃ y, (s[k].toNat : Int) = y := ⟨_, rfl⟩
                  by_cases h48 : y = 48 ∧ k + 1 < q
                  · have hr := tail_zero (neg := false) hD hfs (by rw [hy]; exact h48.1) h48.2 (by omega)
                    rw [← Hnm.out] at hr
                    obtain ⟨rfl, h48b⟩ := h48
                    have Hr := Lib.hid hr; clear hr
                    clear hD
                    go_wp2
                    all_goals
                      go_ret3
                      exact ⟨by rw [Hr.out]; rfl, rfl⟩
                  · have hr := tail_ok (neg := false) hD hfs hfq (by omega) (by rw [hy]; omega) (by simp)
                    rw [← Hnm.out, if_neg (by decide)] at hr
                    have Hr := Lib.hid hr; clear hr
                    clear hD
                    by_cases hv0 : v = 0
                    · subst hv0
                      by_cases h48a : y = 48
                      · subst h48a
                        have h48b : ¬ ((k : Int) + 1 < (q : Int)) := by omega
                        go_wp2
                        all_goals
                          go_ret3
                          exact ⟨by rw [Hr.out]; rw [numV_ok (by omega)]; rfl, rfl⟩
                      · have e48 : (y == 48) = false := by simp [h48a]
                        go_wp2
                        all_goals
                          go_ret3
                          exact ⟨by rw [Hr.out]; rw [numV_ok (by omega)]; rfl, rfl⟩
                    · have ev : ((v : Int) == 0) = false := by simp; omega
                      by_cases h48a : y = 48
                      · subst h48a
                        have h48b : ¬ ((k : Int) + 1 < (q : Int)) := by omega
                        go_wp2
                        all_goals
                          go_ret3
                          exact ⟨by rw [Hr.out]; rw [numV_ok (by omega)]; rfl, rfl⟩
                      · have e48 : (y == 48) = false := by simp [h48a]
                        go_wp2
                        all_goals
                          go_ret3
                          exact ⟨by rw [Hr.out]; rw [numV_ok (by omega)]; rfl, rfl⟩
              · clear hdig hdg hv
                by_cases hqf : q = k
                · subst hqf
                  have hr := tail_same (neg := false) hD
                  rw [← Hnm.out] at hr
                  have Hr := Lib.hid hr; clear hr
                  clear hD
                  go_wp2
                  all_goals
                    go_ret3
                    exact ⟨by rw [Hr.out]; rfl, rfl⟩
                · have hfq : k < q := by omega
                  have hfs : k < s.size := by omega
                  have eqf : ((q : Int) == (k : Int)) = false := by simp; omega
                  obtain ⟨y, hy⟩ : ∃ y, (s[k].toNat : Int) = y := ⟨_, rfl⟩
                  by_cases h48 : y = 48 ∧ k + 1 < q
                  · have hr := tail_zero (neg := false) hD hfs (by rw [hy]; exact h48.1) h48.2 (by omega)
                    rw [← Hnm.out] at hr
                    obtain ⟨rfl, h48b⟩ := h48
                    have Hr := Lib.hid hr; clear hr
                    clear hD
                    go_wp2
                    all_goals
                      go_ret3
                      exact ⟨by rw [Hr.out]; rfl, rfl⟩
                  · have hr := tail_ok (neg := false) hD hfs hfq (by omega) (by rw [hy]; omega) (by simp)
                    rw [← Hnm.out, if_neg (by decide)] at hr
                    have Hr := Lib.hid hr; clear hr
                    clear hD
                    by_cases hv0 : v = 0
                    · subst hv0
                      by_cases h48a : y = 48
                      · subst h48a
                        have h48b : ¬ ((k : Int) + 1 < (q : Int)) := by omega
                        go_wp2
                        all_goals
                          go_ret3
                          exact ⟨by rw [Hr.out]; rw [numV_ok (by omega)]; rfl, rfl⟩
                      · have e48 : (y == 48) = false := by simp [h48a]
                        go_wp2
                        all_goals
                          go_ret3
                          exact ⟨by rw [Hr.out]; rw [numV_ok (by omega)]; rfl, rfl⟩
                    · have ev : ((v : Int) == 0) = false := by simp; omega
                      by_cases h48a : y = 48
                      · subst h48a
                        have h48b : ¬ ((k : Int) + 1 < (q : Int)) := by omega
                        go_wp2
                        all_goals
                          go_ret3
                          exact ⟨by rw [Hr.out]; rw [numV_ok (by omega)]; rfl, rfl⟩
                      · have e48 : (y == 48) = false := by simp [h48a]
                        go_wp2
                        all_goals
                          go_ret3
                          exact ⟨by rw [Hr.out]; rw [numV_ok (by omega)]; rfl, rfl⟩
          · have hD : digsR 10 0 (s.data.toList.drop (k)) = ((v : Int), s.data.toList.drop q) := by
              rw [hdg.out, show k + 10 - q = 0 from by omega]; rfl
            clear hdg hv
            by_cases hqf : q = k
            · subst hqf
              have hr := tail_same (neg := false) hD
              rw [← Hnm.out] at hr
              have Hr := Lib.hid hr; clear hr
              clear hD
              go_wp2
              all_goals
                go_ret3
                exact ⟨by rw [Hr.out]; rfl, rfl⟩
            · have hfq : k < q := by omega
              have hfs : k < s.size := by omega
              have eqf : ((q : Int) == (k : Int)) = false := by simp; omega
              obtain ⟨y, hy⟩ : ∃ y, (s[k].toNat : Int) = y := ⟨_, rfl⟩
              by_cases h48 : y = 48 ∧ k + 1 < q
              · have hr := tail_zero (neg := false) hD hfs (by rw [hy]; exact h48.1) h48.2 (by omega)
                rw [← Hnm.out] at hr
                obtain ⟨rfl, h48b⟩ := h48
                have Hr := Lib.hid hr; clear hr
                clear hD
                go_wp2
                all_goals
                  go_ret3
                  exact ⟨by rw [Hr.out]; rfl, rfl⟩
              · have hr := tail_ok (neg := false) hD hfs hfq (by omega) (by rw [hy]; omega) (by simp)
                rw [← Hnm.out, if_neg (by decide)] at hr
                have Hr := Lib.hid hr; clear hr
                clear hD
                by_cases hv0 : v = 0
                · subst hv0
                  by_cases h48a : y = 48
                  · subst h48a
                    have h48b : ¬ ((k : Int) + 1 < (q : Int)) := by omega
                    go_wp2
                    all_goals
                      go_ret3
                      exact ⟨by rw [Hr.out]; rw [numV_ok (by omega)]; rfl, rfl⟩
                  · have e48 : (y == 48) = false := by simp [h48a]
                    go_wp2
                    all_goals
                      go_ret3
                      exact ⟨by rw [Hr.out]; rw [numV_ok (by omega)]; rfl, rfl⟩
                · have ev : ((v : Int) == 0) = false := by simp; omega
                  by_cases h48a : y = 48
                  · subst h48a
                    have h48b : ¬ ((k : Int) + 1 < (q : Int)) := by omega
                    go_wp2
                    all_goals
                      go_ret3
                      exact ⟨by rw [Hr.out]; rw [numV_ok (by omega)]; rfl, rfl⟩
                  · have e48 : (y == 48) = false := by simp [h48a]
                    go_wp2
                    all_goals
                      go_ret3
                      exact ⟨by rw [Hr.out]; rw [numV_ok (by omega)]; rfl, rfl⟩
        · have hD : digsR 10 0 (s.data.toList.drop (k)) = ((v : Int), s.data.toList.drop q) := by
            rw [hdg.out, List.drop_eq_nil_of_le (by simp; omega), digsR_end]
          clear hdg hv
          by_cases hqf : q = k
          · subst hqf
            have hr := tail_same (neg := false) hD
            rw [← Hnm.out] at hr
            have Hr := Lib.hid hr; clear hr
            clear hD
            go_wp2
            all_goals
              go_ret3
              exact ⟨by rw [Hr.out]; rfl, rfl⟩
          · have hfq : k < q := by omega
            have hfs : k < s.size := by omega
            have eqf : ((q : Int) == (k : Int)) = false := by simp; omega
            obtain ⟨y, hy⟩ : ∃ y, (s[k].toNat : Int) = y := ⟨_, rfl⟩
            by_cases h48 : y = 48 ∧ k + 1 < q
            · have hr := tail_zero (neg := false) hD hfs (by rw [hy]; exact h48.1) h48.2 (by omega)
              rw [← Hnm.out] at hr
              obtain ⟨rfl, h48b⟩ := h48
              have Hr := Lib.hid hr; clear hr
              clear hD
              go_wp2
              all_goals
                go_ret3
                exact ⟨by rw [Hr.out]; rfl, rfl⟩
            · have hr := tail_ok (neg := false) hD hfs hfq (by omega) (by rw [hy]; omega) (by simp)
              rw [← Hnm.out, if_neg (by decide)] at hr
              have Hr := Lib.hid hr; clear hr
              clear hD
              by_cases hv0 : v = 0
              · subst hv0
                by_cases h48a : y = 48
                · subst h48a
                  have h48b : ¬ ((k : Int) + 1 < (q : Int)) := by omega
                  go_wp2
                  all_goals
                    go_ret3
                    exact ⟨by rw [Hr.out]; rw [numV_ok (by omega)]; rfl, rfl⟩
                · have e48 : (y == 48) = false := by simp [h48a]
                  go_wp2
                  all_goals
                    go_ret3
                    exact ⟨by rw [Hr.out]; rw [numV_ok (by omega)]; rfl, rfl⟩
              · have ev : ((v : Int) == 0) = false := by simp; omega
                by_cases h48a : y = 48
                · subst h48a
                  have h48b : ¬ ((k : Int) + 1 < (q : Int)) := by omega
                  go_wp2
                  all_goals
                    go_ret3
                    exact ⟨by rw [Hr.out]; rw [numV_ok (by omega)]; rfl, rfl⟩
                · have e48 : (y == 48) = false := by simp [h48a]
                  go_wp2
                  all_goals
                    go_ret3
                    exact ⟨by rw [Hr.out]; rw [numV_ok (by omega)]; rfl, rfl⟩
    · clear hm
      obtain rfl : k = s.size := by omega
      go_enter Tryd.func22, Tryd.ntmps22
      go_wp2
      go_loop [1, 8] (fun p n => p = .int .i64 (s.size : Nat) ∧ n = .int .i64 0) (fun p _ => s.size - (intOf p).toNat)
      case atStart => exact ⟨rfl, rfl⟩
      case round =>
        obtain ⟨rfl, rfl⟩ := hrel
        have hD : digsR 10 0 (s.data.toList.drop s.size) = (((0 : Nat) : Int), s.data.toList.drop s.size) := by
          rw [List.drop_eq_nil_of_le (by simp), digsR_end]; rfl
        have hr := tail_same (neg := false) hD
        rw [← Hnm.out] at hr
        have Hr := Lib.hid hr; clear hr
        clear hD
        go_wp2
        all_goals
          go_ret3
          exact ⟨by rw [Hr.out]; rfl, rfl⟩
end Go.Proofs.YtfakcccfadeknaaDoor
