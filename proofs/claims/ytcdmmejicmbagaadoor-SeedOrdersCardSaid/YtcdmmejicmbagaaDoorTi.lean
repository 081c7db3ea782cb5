/-
  Layer 5: the walks of Decimal, of a place, and Of at longer paths.
-/
import Derived.Test.YtcdmmejicmbagaaDoorTc
import Derived.Test.YtcdmmejicmbagaaDoorShelf
import Derived.Lib.Strings
import Derived.Lib.QuietBelow
namespace Go.Proofs.YtcdmmejicmbagaaDoor
open Go.RowKit Go.Sort
set_option linter.unusedVariables false

set_option maxHeartbeats 1000000 in
theorem refOf6_calls (s : Int) (p : ByteArray) (w : World) (hs : Fits .i64 s) (hp : p.size ≤ 600) :
    Calls Tryd.prog 20 #[.int .i64 s, .string p] w (U64Post (ofF s p) w) := by
  have hs' := hs.i64
  go_enter Tryd.func20, Tryd.ntmps20
  go_wp2
  go_loop [6, 5] (fun i h => ∃ k : Nat, k ≤ p.size ∧ i = .int .i64 k ∧ ∃ x : Int, h = .int .u64 x ∧ Hid (ofFold s p = (p.data.toList.drop k).foldl ofStep x)) (fun i _ => p.size - (intOf i).toNat)
  case atStart => exact ⟨0, Nat.zero_le _, rfl, _, rfl, rfl⟩
  case round =>
    obtain ⟨k, hk, rfl, x, rfl, hf⟩ := hrel
    by_cases hlt : k < p.size
    · go_wp2
      go_round
      case rel =>
        refine ⟨k + 1, by omega, by go_num, _, rfl, ?_⟩
        unfold Hid; rw [hf.out, drop_bytes hlt]; rfl
      case measure => simp [intOf]; omega
    · have hx : ofFold s p = x := by rw [hf.out, List.drop_eq_nil_of_le (by simpa using hlt)]; rfl
      have Hx := Lib.hid hx; clear hx
      go_wp2
      go_ret
      exact ⟨ret_u64 (by unfold ofF; rw [Hx.out]; rfl), Below.refl _ _⟩

set_option maxHeartbeats 1000000 in
theorem of6_calls (s : Int) (p : ByteArray) (w : World) (hs : Fits .i64 s) (hp : p.size ≤ 600) :
    Calls Tryd.prog 15 #[.int .i64 s, .string p] w (U64Post (ofF s p) w) := by
  have hs' := hs.i64
  obtain ⟨wb, cap, hcv, hb, hcells⟩ := bytes_conv w p
  have Hcells := Lib.hid hcells; clear hcells
  have Hb := Lib.hid hb; clear hb
  go_enter Tryd.func15, Tryd.ntmps15
  go_wp2
  go_loop [14, 5] (fun i h => ∃ k : Nat, k ≤ p.size ∧ i = .int .i64 k ∧ ∃ x : Int, h = .int .u64 x ∧ Hid (ofFold s p = (p.data.toList.drop k).foldl ofStep x)) (fun i _ => p.size - (intOf i).toNat)
  case atStart => exact ⟨0, Nat.zero_le _, rfl, _, rfl, rfl⟩
  case round =>
    obtain ⟨k, hk, rfl, x, rfl, hf⟩ := hrel
    by_cases hlt : k < p.size
    · have hc := Hcells.out k hlt
      go_wp2
      go_round
      case rel =>
        refine ⟨k + 1, by omega, by go_num, _, rfl, ?_⟩
        unfold Hid; rw [hf.out, drop_bytes hlt]; rfl
      case measure => simp [intOf]; omega
    · have hx : ofFold s p = x := by rw [hf.out, List.drop_eq_nil_of_le (by simpa using hlt)]; rfl
      have Hx := Lib.hid hx; clear hx
      go_wp2
      go_ret
      exact ⟨ret_u64 (by unfold ofF; rw [Hx.out]; rfl), Hb.out⟩

def dgS : ByteArray := ⟨#[48, 49, 50, 51, 52, 53, 54, 55, 56, 57]⟩
def dg (d : Nat) : ByteArray := dgS.extract d (d + 1)
def decGo : Nat → Nat → ByteArray → ByteArray
  | 0, _, t => t
  | f + 1, m, t => if m = 0 then t else decGo f (m / 10) (dg (m % 10) ++ t)
theorem dec_all : ∀ n : Fin 200, (decGo 3 (n.val / 10) (dg (n.val % 10))).data.toList = Lib.itoa (n.val : Int) := by decide +kernel
theorem decGo_zero (f : Nat) (t : ByteArray) : decGo f 0 t = t := by cases f <;> simp [decGo]
theorem dg_size (d : Nat) : (dg d).size ≤ 1 := by
  unfold dg
  rw [ByteArray.size_extract]
  omega
set_option maxHeartbeats 2000000 in
theorem decimal_calls (n : Nat) (hn : n < 200) (w : World) : Calls Tryd.prog 21 #[.int .i64 n] w fun e w' => e = .returned (.string ⟨(Lib.itoa (n : Int)).toArray⟩) ∧ w = w' := by
  have hd := dec_all ⟨n, hn⟩
  have hres : decGo 3 (n / 10) (dg (n % 10)) = ⟨(Lib.itoa (n : Int)).toArray⟩ := by
    rw [← hd]
  have e1 : (n : Int) % 10 = ((n % 10 : Nat) : Int) := by omega
  have e2 : (n : Int) / 10 = ((n / 10 : Nat) : Int) := by omega
  obtain ⟨d0, hd0⟩ : ∃ d0, n % 10 = d0 := ⟨_, rfl⟩
  obtain ⟨m0, hm0⟩ : ∃ m0, n / 10 = m0 := ⟨_, rfl⟩
  have hdl : d0 < 10 := by omega
  have hml : m0 < 20 := by omega
  rw [hd0] at e1
  rw [hm0] at e2
  rw [hd0, hm0] at hres
  have hx : dgS.extract d0 (d0 + 1) = dg d0 := rfl
  have hz := dg_size d0
  have w1 : IntKind.i64.wrap ((d0 : Int) + 1) = (d0 : Int) + 1 := IntWalk.i64_in _ (by omega)
  have w2 : ((d0 : Int) + 1).toNat = d0 + 1 := by omega
  have Hres := Lib.hid hres; clear hres
  have Hd0 := Lib.hid hd0; clear hd0
  have Hm0 := Lib.hid hm0; clear hm0
  have Hz := Lib.hid hz; clear hz
  clear hd
  go_enter Tryd.func21, Tryd.ntmps21
  go_wp2
  go_loop [0, 4] (fun s0 s4 => ∃ (f m : Nat) (t : ByteArray), s0 = .int .i64 m ∧ s4 = .string t ∧ m < 10 ^ f ∧ m ≤ 20 ∧ t.size + f ≤ 4 ∧ Hid (decGo 3 m0 (dg d0) = decGo f m t)) (fun s0 _ => (intOf s0).toNat)
  case atStart => exact ⟨3, m0, dg d0, rfl, rfl, by omega, by omega, by have := Hz.out; omega, rfl⟩
  case round =>
    obtain ⟨f, m, t, rfl, rfl, hmf, hm20, hts, hgo⟩ := hrel
    by_cases hm : m = 0
    · subst hm
      have hr : t = ⟨(Lib.itoa (n : Int)).toArray⟩ := by rw [← Hres.out, hgo.out, decGo_zero]
      have Hr := Lib.hid hr; clear hr
      clear hmf hm20 hts
      go_wp2
      go_ret
      exact ⟨by rw [Hr.out]; rfl, rfl⟩
    · obtain ⟨f', rfl⟩ : ∃ f', f = f' + 1 := by
        cases f with
        | zero => simp at hmf; exact absurd hmf hm
        | succ f => exact ⟨f, rfl⟩
      have u1 : (m : Int) % 10 = ((m % 10 : Nat) : Int) := by omega
      have u2 : (m : Int) / 10 = ((m / 10 : Nat) : Int) := by omega
      have hstep : decGo (f' + 1) m t = decGo f' (m / 10) (dg (m % 10) ++ t) := by
        conv => lhs; unfold decGo
        rw [if_neg hm]
      obtain ⟨d, hd⟩ : ∃ d, m % 10 = d := ⟨_, rfl⟩
      obtain ⟨q, hq⟩ : ∃ q, m / 10 = q := ⟨_, rfl⟩
      have hdl' : d < 10 := by omega
      have hql : q < 10 ^ f' := by rw [Nat.pow_succ] at hmf; omega
      have hqm : q < m := by omega
      rw [hd] at u1 hstep
      rw [hq] at u2 hstep
      have v1 : IntKind.i64.wrap ((d : Int) + 1) = (d : Int) + 1 := IntWalk.i64_in _ (by omega)
      have v2 : ((d : Int) + 1).toNat = d + 1 := by omega
      have hpos : 0 < m := by omega
      have hsz : (dg d ++ t).size + f' ≤ 4 := by
        rw [ByteArray.size_append]
        have := dg_size d
        omega
      have hdz := dg_size d
      have ht5 : t.size ≤ 5 := by omega
      have Hd := Lib.hid hd; clear hd
      have Hq := Lib.hid hq; clear hq
      have Hstep := Lib.hid hstep; clear hstep
      have Hql := Lib.hid hql; clear hql
      have Hsz := Lib.hid hsz; clear hsz
      have Hdz := Lib.hid hdz; clear hdz
      clear hmf hts
      go_wp2
      go_round
      case rel => exact ⟨f', q, dg d ++ t, rfl, rfl, Hql.out, by omega, Hsz.out, by unfold Hid; rw [hgo.out, Hstep.out]⟩
      case measure => simp [intOf]; omega

theorem below_grow' (w : World) (k : Nat) (os : Array Obj) : Below w.heap.size w (grow (w.drewN k) os) :=
  ⟨rfl, rfl, rfl, by show w.heap.size ≤ (w.heap ++ os).size; simp, fun i hi => by show (w.heap ++ os)[i]? = _; rw [Array.getElem?_append_left hi]⟩
def TabAt (w : World) : Prop := Lib.TabIs Tryd.prog w "internal/strconv.uint64pow10" .u64 Lib.pow10Tab
theorem TabAt.later {w w' : World} (h : TabAt w) (hb : Below w.heap.size w w') (hg : ∃ g, Tryd.prog.globalNamed "internal/strconv.uint64pow10" = some g ∧ g < w.heap.size) : TabAt w' := by
  obtain ⟨g, h1, h2⟩ := hg
  exact var?_below hb h1 h2 h
def pathI (p : ByteArray) (i : Nat) : ByteArray := p ++ ⟨#[47]⟩ ++ ⟨(Lib.itoa (i : Int)).toArray⟩
def placeF (s : Int) (p : ByteArray) (i : Nat) : Int := ofF s (pathI p i) % ((i : Int) + 1)
theorem itoa_len : ∀ n : Fin 200, (Lib.itoa (n.val : Int)).length ≤ 4 := by decide +kernel
theorem pathI_size (p : ByteArray) {i : Nat} (hi : i < 200) (hp : p.size ≤ 500) : (pathI p i).size ≤ 600 := by
  unfold pathI
  rw [ByteArray.size_append, ByteArray.size_append]
  have h1 := itoa_len ⟨i, hi⟩
  have h2 : (⟨(Lib.itoa (i : Int)).toArray⟩ : ByteArray).size = (Lib.itoa (i : Int)).length := by show (Lib.itoa (i : Int)).toArray.size = _; simp
  have h3 : (⟨#[47]⟩ : ByteArray).size = 1 := rfl
  simp only at h1
  omega
set_option maxRecDepth 100000 in
set_option maxHeartbeats 4000000 in
theorem place_calls (s : Int) (p : ByteArray) (i : Nat) (w : World) (hs : Fits .i64 s) (hp : p.size ≤ 500) (hi : i < 200) (ht : TabAt w) (hg : ∃ g, Tryd.prog.globalNamed "internal/strconv.uint64pow10" = some g ∧ g < w.heap.size) :
    Calls Tryd.prog 19 #[.agg #[.int .i64 s, .string p], .int .i64 i] w (IntPost (placeF s p i) w) := by
  obtain ⟨W0, hW0⟩ : ∃ W, W = w.alloc (.cells #[.int .i64 s, .string p] 48) := ⟨_, rfl⟩
  have hb0 : Below w.heap.size w W0 := by rw [hW0]; exact al _
  have hz0 := hb0.size
  have hblk : Blk W0 w.heap.size 48 #[.int .i64 s, .string p] := by rw [hW0]; exact Blk.new _ _ _
  have htab0 := ht.later hb0 hg
  have hg0 : ∃ g, Tryd.prog.globalNamed "internal/strconv.uint64pow10" = some g ∧ g < W0.heap.size := by
    obtain ⟨g, h1, h2⟩ := hg
    exact ⟨g, h1, by omega⟩
  have x0 : W0.cell? ⟨w.heap.size, 0, none⟩ = some (.int .i64 s) := (hblk.cell 0).trans rfl
  have x1 : W0.cell? ⟨w.heap.size, 1, none⟩ = some (.string p) := (hblk.cell 1).trans rfl
  have y0 := cell_regrown x0
  have y1 := cell_regrown x1
  have hps := pathI_size p hi hp
  obtain ⟨it, hit⟩ : ∃ it : ByteArray, (⟨(Lib.itoa (i : Int)).toArray⟩ : ByteArray) = it := ⟨_, rfl⟩
  have hits : it.size ≤ 4 := by
    rw [← hit]
    have h2 : (⟨(Lib.itoa (i : Int)).toArray⟩ : ByteArray).size = (Lib.itoa (i : Int)).length := by show (Lib.itoa (i : Int)).toArray.size = _; simp
    rw [h2]; exact itoa_len ⟨i, hi⟩
  have hpath : pathI p i = p ++ ⟨#[47]⟩ ++ it := by unfold pathI; rw [hit]
  have hO1 : ∀ (q : Nat) (os : Array Obj), Calls Tryd.prog 22 #[.int .i64 i] (grow (redrawn W0 q) os) fun e w'' => e = .returned (.string it) ∧ ∃ rg : Regrown, w'' = grow (redrawn W0 rg.d) rg.os := fun q os => by
    have hbq := below_regrown W0 q os
    have hc := Tryd.strconv_Itoa (i : Int) (by omega) (by omega) (grow (redrawn W0 q) os) (htab0.later hbq hg0)
    rw [hit] at hc
    exact Calls.regrown_of (hc.mono fun e w'' ⟨he, k, o2, hw⟩ => ⟨he, by rw [hw]; exact below_grow' _ _ _⟩)
  obtain ⟨x, hx⟩ : ∃ x, ofF s (p ++ ⟨#[47]⟩ ++ it) = x := ⟨_, rfl⟩
  have hxr := ofF_range s (p ++ ⟨#[47]⟩ ++ it)
  rw [hx] at hxr
  have hO2 : ∀ (q : Nat) (os : Array Obj), Calls Tryd.prog 15 #[.int .i64 s, .string (p ++ ⟨#[47]⟩ ++ it)] (grow (redrawn W0 q) os) fun e w'' => e = .returned (.int .u64 x) ∧ ∃ rg : Regrown, w'' = grow (redrawn W0 rg.d) rg.os := fun q os => by
    have hc := of6_calls s (p ++ ⟨#[47]⟩ ++ it) (grow (redrawn W0 q) os) hs (by rw [← hpath]; exact hps)
    rw [hx] at hc
    exact Calls.regrown_of hc
  have hw1 : IntKind.i64.wrap ((i : Int) + 1) = (i : Int) + 1 := IntWalk.i64_in _ (by omega)
  have hw2 : IntKind.u64.wrap ((i : Int) + 1) = (i : Int) + 1 := IntWalk.u64_in _ (by omega)
  have hres : placeF s p i = x % ((i : Int) + 1) := by unfold placeF; rw [hpath, hx]
  have hi0 : (0 : Int) < (i : Int) + 1 := by omega
  have k0 : ¬ (i : Int) + 1 = 0 := by omega
  obtain ⟨md, hmd⟩ : ∃ md, x % ((i : Int) + 1) = md := ⟨_, rfl⟩
  have k9 : x.tmod ((i : Int) + 1) = md := by rw [Int.tmod_eq_emod_of_nonneg hxr.1]; exact hmd
  have k8 := Int.emod_nonneg x k0
  have k7 := Int.emod_lt_of_pos x hi0
  rw [hmd] at k7 k8 hres
  have k6 : IntKind.i64.wrap md = md := IntWalk.i64_in _ (by omega)
  have k5 : wrap64 md = md := IntWalk.wrap64_in _ (by omega)
  have Hmd := Lib.hid hmd; clear hmd
  have k1 : p.size + 1 ≤ 9223372036854775807 := by omega
  have k2 : ¬ 9223372036854775807 < p.size + 1 := by omega
  have k3 : p.size + 1 + it.size ≤ 9223372036854775807 := by omega
  have k4 : ¬ 9223372036854775807 < p.size + 1 + it.size := by omega
  have HW0 := Lib.hid hW0; clear hW0
  have Hb0 := Lib.hid hb0; clear hb0
  have Hblk := Lib.hid hblk; clear hblk
  have Htab0 := Lib.hid htab0; clear htab0
  have Hg0 := Lib.hid hg0; clear hg0
  have Hps := Lib.hid hps; clear hps
  have Hit := Lib.hid hit; clear hit
  have Hpath := Lib.hid hpath; clear hpath
  have HO1 := Lib.hid hO1; clear hO1
  have HO2 := Lib.hid hO2; clear hO2
  have Hx := Lib.hid hx; clear hx
  have Hres := Lib.hid hres; clear hres
  clear ht hg hs
  go_enter Tryd.func19, Tryd.ntmps19
  go_wp2
  rw [← HW0.out]
  refine wp_region_quiet_below (by kernel_rfl) (by kernel_rfl) ?_
  iterate 6 (quiet_step (fail))
  quiet_step (exact (HO1.out _ _).mono fun e w'' h => h)
  quiet_step (fail)
  quiet_step (exact (HO2.out _ _).mono fun e w'' h => h)
  iterate 5 (quiet_step (fail))
  iterate 1 (quiet_step (fail))
  refine wpQuiet_nil ?_
  intro _ hw'
  obtain ⟨⟨dq, osq⟩, hw''⟩ := hw'
  subst hw''
  have hbr := below_regrown W0 dq osq
  have hbw := Hb0.out.trans (hbr.mono hz0)
  have Hbw := Lib.hid hbw; clear hbw
  clear hbr
  go_wp2
  go_ret
  exact ⟨by rw [Hres.out]; rfl, Hbw.out⟩
end Go.Proofs.YtcdmmejicmbagaaDoor
