/-
  Layer 5: the walk of SeedApart.
-/
import Derived.Test.YtcdmmejicmbagaaDoorTg
import Derived.Test.YtcdmmejicmbagaaDoorTc
import Derived.Lib.QuietBelow
import Derived.BigRegion
import Derived.Lib.Strings
import Derived.Laws.IdiomStrings
namespace Go.Proofs.YtcdmmejicmbagaaDoor
open Go.RowKit Go.Sort
set_option linter.unusedVariables false

theorem below_drew' {B : Nat} {a w : World} (h : Below B a w) : Below B a w.drew := ⟨h.os, h.tape, h.output, h.size, h.block⟩
theorem cut_path (p : ByteArray) (b8 : UInt8) {k : Nat} (hk : k < p.size) :
    p.data.toList = p.data.toList.take k ++ p[k] :: p.data.toList.drop (k + 1) ∧ (p.extract 0 k ++ ⟨#[b8]⟩ ++ p.extract (k + 1) p.size).data.toList = p.data.toList.take k ++ b8 :: p.data.toList.drop (k + 1) ∧ (p.extract 0 k ++ ⟨#[b8]⟩ ++ p.extract (k + 1) p.size).size = p.size := by
  have h1 : p.data.toList = p.data.toList.take k ++ p[k] :: p.data.toList.drop (k + 1) := by rw [← drop_bytes hk, List.take_append_drop]
  have h2 : (p.extract 0 k ++ ⟨#[b8]⟩ ++ p.extract (k + 1) p.size).data.toList = p.data.toList.take k ++ b8 :: p.data.toList.drop (k + 1) := by
    have e1 : (p.extract 0 k).data.toList = p.data.toList.take k := by rw [Lib.extract_data]; simp
    have e2 : (p.extract (k + 1) p.size).data.toList = p.data.toList.drop (k + 1) := by
      rw [Lib.extract_data]
      rw [List.take_of_length_le (by simp)]
    rw [ByteArray.data_append, ByteArray.data_append, Array.toList_append, Array.toList_append, e1, e2]
    simp
  refine ⟨h1, h2, ?_⟩
  have h3 := congrArg List.length h2
  have h4 := congrArg List.length h1
  simp only [List.length_append, List.length_cons] at h3 h4
  show (p.extract 0 k ++ ⟨#[b8]⟩ ++ p.extract (k + 1) p.size).data.size = p.data.size
  rw [← Array.length_toList, ← Array.length_toList, h2]
  simp only [List.length_append, List.length_cons]
  omega
set_option maxRecDepth 100000 in
set_option maxHeartbeats 4000000 in
theorem seedApart_walk (s t : Int) (p : ByteArray) (at' b : Int) (w : World) (hs : Fits .i64 s) (ht : Fits .i64 t) (hp : p.size ≤ 9223372036854775807) (ha : Fits .i64 at') (hb : Fits .u8 b) :
    Calls Tryd.prog 5 #[.int .i64 s, .int .i64 t, .string p, .int .i64 at', .int .u8 b] w (BoolPost true w) := by
  have ha' := ha.i64
  have hb' := hb.u8
  have hst : ofF s p = ofF t p ↔ s = t := of_seed p hs.i64 ht.i64
  by_cases h5 : 500 < p.size
  · have Hb0 := Lib.hid (Below.refl w.heap.size w)
    have Hst := Lib.hid hst; clear hst
    go_enter Tryd.func5, Tryd.ntmps5
    go_wp2_with fail
    refine (alive_calls w).mono ?_
    rintro e w1 ⟨rfl, hb1⟩
    have z1 := hb1.size
    have Hb1 := Lib.hid hb1; clear hb1
    go_wp2
    go_ret
    exact ⟨rfl, Hb1.out⟩
  have h50 : p.size ≤ 500 := by omega
  have hd : (ofF s p == ofF t p) = (s == t) := by rw [Bool.eq_iff_iff]; simpa using hst
  obtain ⟨x, hx⟩ : ∃ x, ofF s p = x := ⟨_, rfl⟩
  obtain ⟨y, hy⟩ : ∃ y, ofF t p = y := ⟨_, rfl⟩
  have c1 := of_calls s p w hs h50
  rw [hx] at c1 hd
  have C1 := Lib.hid c1
  rw [hy] at hd
  have Hs := Lib.hid hs; clear hs
  have Ht := Lib.hid ht; clear ht
  have Hst := Lib.hid hst; clear hst
  have Hx := Lib.hid hx; clear hx
  have Hy := Lib.hid hy; clear hy
  clear c1 ha hb
  go_enter Tryd.func5, Tryd.ntmps5
  go_wp2_with fail
  refine C1.out.mono ?_
  rintro e w1 ⟨rfl, hb1⟩
  have z1 := hb1.size
  have Hb1 := Lib.hid hb1
  have c2 := of_calls t p w1 Ht.out h50
  rw [Hy.out] at c2
  have C2 := Lib.hid c2
  clear hb1 c2
  go_wp2_with fail
  refine C2.out.mono ?_
  rintro e w2 ⟨rfl, hb2⟩
  have Hb2 := Lib.hid (Hb1.out.trans (hb2.mono z1))
  have z2 := Hb2.out.size
  clear hb2 C1 C2
  have hnn : ((x == y) == (s == t)) = true := by rw [hd]; simp
  by_cases a0 : at' < 0
  · go_wp2_with fail
    refine (alive_calls w2).mono ?_
    rintro e w3 ⟨rfl, hb3⟩
    have Hb3 := Lib.hid (Hb2.out.trans (hb3.mono z2))
    clear hb3
    go_wp2
    go_ret
    exact ⟨rfl, Hb3.out⟩
  by_cases a1 : (p.size : Int) ≤ at'
  · go_wp2_with fail
    refine (alive_calls w2).mono ?_
    rintro e w3 ⟨rfl, hb3⟩
    have Hb3 := Lib.hid (Hb2.out.trans (hb3.mono z2))
    clear hb3
    go_wp2
    go_ret
    exact ⟨rfl, Hb3.out⟩
  obtain ⟨k, rfl⟩ : ∃ k : Nat, at' = (k : Int) := ⟨at'.toNat, by omega⟩
  have hk : k < p.size := by omega
  have hk' : k ≤ p.size := by omega
  have hwr : IntKind.i64.wrap ((k : Int) + 1) = (k : Int) + 1 := IntWalk.i64_in _ (by omega)
  have hw0 : (0 : Int) ≤ (k : Int) + 1 := by omega
  have hw1 : (k : Int) + 1 ≤ (p.size : Int) := by omega
  have hw2 : ((k : Int) + 1).toNat = k + 1 := by omega
  obtain ⟨b8, hb8⟩ : ∃ b8 : UInt8, (b8.toNat : Int) = b := ⟨UInt8.ofNat b.toNat, by rw [UInt8.toNat_ofNat']; omega⟩
  have hcv : (convert 38 9 (.slice (some ⟨w2.heap.size, 0, none⟩) 1 1)).run Tryd.prog (w2.alloc (.cells #[.int .u8 b] 5)).drew = .ok (.string ⟨#[b8]⟩) (w2.alloc (.cells #[.int .u8 b] 5)).drew :=
    run_convert_bytes_back (P := Tryd.prog) (w2.alloc (.cells #[.int .u8 b] 5)).drew 38 9 5 ⟨w2.heap.size, 0, none⟩ 1 [b8] Tryd.underlying38 Tryd.underlying5 Tryd.underlying9 fun j hj => by
      have hj0 : j = 0 := by simpa using hj
      subst hj0
      show (w2.alloc (.cells #[.int .u8 b] 5)).cell? ⟨w2.heap.size, 0 + 0, none⟩ = _
      rw [(Blk.new w2 5 #[.int .u8 b]).cell]
      simp [hb8]
  have Hb8 := Lib.hid hb8; clear hb8
  clear a0
  go_wp2
  go_region
  obtain ⟨w3, hw3⟩ : ∃ W, W = (w2.alloc (.cells #[.int .u8 b] 5)).drew := ⟨_, rfl⟩
  rw [← hw3]
  have hb23 : Below w2.heap.size w2 w3 := by rw [hw3]; exact below_drew' (al _)
  have Hb3 := Lib.hid (Hb2.out.trans (hb23.mono z2))
  have z3 := Hb3.out.size
  obtain ⟨r, hr⟩ : ∃ r, r = p.extract 0 k ++ ⟨#[b8]⟩ ++ p.extract (k + 1) p.size := ⟨_, rfl⟩
  rw [← hr]
  obtain ⟨hpl, hrl, hrs⟩ := cut_path p b8 hk
  rw [← hr] at hrl hrs
  have hof : ofF s p = ofF s r ↔ p[k] = b8 := of_path hpl hrl
  rw [Hx.out] at hof
  obtain ⟨z, hz⟩ : ∃ z, ofF s r = z := ⟨_, rfl⟩
  rw [hz] at hof
  have hd2 : (x == z) = ((p[k].toNat : Int) == b) := by
    rw [Bool.eq_iff_iff]
    simp only [beq_iff_eq]
    rw [hof, ← Hb8.out]
    exact ⟨fun h => by rw [h], fun h => UInt8.toNat_inj.1 (by omega)⟩
  have hO1 : ∀ (q : Nat) (os : Array Obj), Calls Tryd.prog 15 #[.int .i64 s, .string p] (grow (redrawn w3 q) os) fun e w'' => e = .returned (.int .u64 x) ∧ ∃ rg : Regrown, w'' = grow (redrawn w3 rg.d) rg.os := fun q os => by
    have hc := of_calls s p (grow (redrawn w3 q) os) Hs.out h50
    rw [Hx.out] at hc
    exact Calls.regrown_of hc
  have hO2 : ∀ (q : Nat) (os : Array Obj), Calls Tryd.prog 15 #[.int .i64 s, .string r] (grow (redrawn w3 q) os) fun e w'' => e = .returned (.int .u64 z) ∧ ∃ rg : Regrown, w'' = grow (redrawn w3 rg.d) rg.os := fun q os => by
    have hc := of_calls s r (grow (redrawn w3 q) os) Hs.out (by rw [hrs]; exact h50)
    rw [hz] at hc
    exact Calls.regrown_of hc
  have hal : ∀ (q : Nat) (os : Array Obj), Calls Tryd.prog 14 #[] (grow (redrawn w3 q) os) fun e w'' => e = .returned (.bool true) ∧ ∃ rg : Regrown, w'' = grow (redrawn w3 rg.d) rg.os := fun q os => Calls.regrown_of (alive_calls _)
  have Hw3 := Lib.hid hw3; clear hw3
  have Hr := Lib.hid hr; clear hr
  have Hpl := Lib.hid hpl; clear hpl
  have Hrl := Lib.hid hrl; clear hrl
  have Hrs := Lib.hid hrs; clear hrs
  have Hof := Lib.hid hof; clear hof
  have Hz := Lib.hid hz; clear hz
  have HO1 := Lib.hid hO1; clear hO1
  have HO2 := Lib.hid hO2; clear hO2
  have Hal := Lib.hid hal; clear hal
  clear hcv hd hnn hb23
  go_wp2
  refine wp_region_quiet_below (by kernel_rfl) (by kernel_rfl) ?_
  iterate 2 (quiet_step (fail))
  quiet_step (exact (HO1.out _ _).mono fun e w'' h => h)
  iterate 2 (quiet_step (fail))
  quiet_step (exact (HO2.out _ _).mono fun e w'' h => h)
  iterate 8 (quiet_step (fail))
  quiet_step (exact (Hal.out _ _).mono fun e w'' h => h)
  iterate 2 (quiet_step (fail))
  refine wpQuiet_nil ?_
  intro _ hw'
  obtain ⟨⟨dq, osq⟩, hw''⟩ := hw'
  subst hw''
  have hbr := below_regrown w3 dq osq
  have hbw := Hb3.out.trans (hbr.mono z3)
  have Hbw := Lib.hid hbw; clear hbw
  clear hbr
  go_wp2
  go_ret
  exact ⟨rfl, Hbw.out⟩
end Go.Proofs.YtcdmmejicmbagaaDoor
