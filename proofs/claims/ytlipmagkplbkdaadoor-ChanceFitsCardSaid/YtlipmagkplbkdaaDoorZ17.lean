/-
  Several texts in one.
-/
import Derived.Test.YtlipmagkplbkdaaDoorZ14
import Derived.Test.YtlipmagkplbkdaaDoorZ15
import Derived.ProofKit
import Derived.SizedLaws
/-! Nf9 -/
namespace Go.Proofs.YtlipmagkplbkdaaDoor
open Go.RowKit
set_option linter.unusedVariables false
set_option linter.unusedSimpArgs false
theorem fitP_fst (m : Mod) : ∀ (rs : List Rul) (k : Nat), (((rs.zipIdx k).filter fun p => fitsF p.1 m).map (·.1)) = rs.filter fun r => fitsF r m
  | [], _ => rfl
  | r :: rs, k => by
    have ih := fitP_fst m rs (k + 1)
    rw [List.zipIdx_cons, List.filter_cons, List.filter_cons]
    by_cases h : fitsF r m = true
    · rw [if_pos h, if_pos h, List.map_cons, ih]
    · rw [if_neg h, if_neg h, ih]
theorem pickR_eq (rs : List Rul) (s : Int) (c : Cel) : pickR rs s c = (rs.filter fun r => fitsF r c.mod)[(chooseF s c.path ((rs.filter fun r => fitsF r c.mod).map (·.weight))).1.toNat]? := by
  have h1 := fitP_fst c.mod rs 0
  have h2 : fitW c.mod rs = (rs.filter fun r => fitsF r c.mod).map (·.weight) := by
    rw [← h1, List.map_map]; rfl
  unfold pickR choF
  rw [h2, ← List.getElem?_map]
  show (List.map (·.1) (fitP c.mod rs))[_]? = _
  unfold fitP
  rw [h1]
theorem pickR_cons_no {r : Rul} {rs : List Rul} {s : Int} {c : Cel} (h : fitsF r c.mod = false) : pickR (r :: rs) s c = pickR rs s c := by
  rw [pickR_eq, pickR_eq, List.filter_cons, if_neg (by rw [h]; decide)]
theorem succR_cons_no {r : Rul} {rs : List Rul} {s : Int} {c : Cel} (h : fitsF r c.mod = false) : succR (r :: rs) s c = succR rs s c := by
  unfold succR; rw [pickR_cons_no h]
theorem fitP_nil_iff {m : Mod} {rs : List Rul} : fitP m rs = [] ↔ ∀ r ∈ rs, fitsF r m = false := by
  have h1 := fitP_fst m rs 0
  constructor
  · intro h r hr
    cases hf : fitsF r m
    · rfl
    · have : r ∈ rs.filter fun r => fitsF r m := List.mem_filter.2 ⟨hr, hf⟩
      rw [← h1] at this
      unfold fitP at h
      rw [h] at this
      cases this
  · intro h
    have : (fitP m rs).map (·.1) = [] := by
      unfold fitP
      rw [h1, List.filter_eq_nil_iff]
      intro r hr
      rw [h r hr]; decide
    exact List.map_eq_nil_iff.1 this
theorem succR_one {r : Rul} (hv : RVal [r]) (s : Int) {c : Cel} (h : fitsF r c.mod = true) : succR [r] s c = sucR r c := by
  rcases pick_cases hv s c with ⟨hn, _, _⟩ | ⟨i, j, r', _, _, _, hj, _, hp⟩
  · have := fitP_nil_iff.1 hn r (by simp)
    rw [h] at this; cases this
  · have hr : r' = r := by have := List.mem_of_getElem? hj; simpa using this
    rw [succR_some hp, hr]
theorem succR_pick {rs : List Rul} (hv : RVal rs) (s : Int) (c : Cel) : ((∀ r ∈ rs, fitsF r c.mod = false) ∧ succR rs s c = ([c], 0)) ∨ ∃ r ∈ rs, fitsF r c.mod = true ∧ succR rs s c = sucR r c := by
  rcases pick_cases hv s c with ⟨hn, _, hp⟩ | ⟨i, j, r, _, _, _, hj, hf, hp⟩
  · exact .inl ⟨fitP_nil_iff.1 hn, succR_none hp⟩
  · exact .inr ⟨r, List.mem_of_getElem? hj, hf, succR_some hp⟩
theorem checkC_mk {rs : List Rul} (h1 : manyR rs = false) (h2 : rs.all fineC = true) : checkC rs = 0 := by rw [checkC_all h1, if_pos h2]
theorem checkC_one9 {rs : List Rul} {r : Rul} (h : checkC rs = 0) (hr : r ∈ rs) : checkC [r] = 0 := by
  obtain ⟨h1, h2⟩ := checkC_zero9 h
  refine checkC_mk ?_ (by simp [List.all_eq_true.1 h2 r hr])
  unfold manyR at h1 ⊢
  rw [Bool.or_eq_false_iff, List.any_eq_false] at h1 ⊢
  exact ⟨by simp, fun x hx => by rw [List.mem_singleton.1 hx]; exact h1.2 r hr⟩
theorem checkC_tail9 {rs : List Rul} {r : Rul} (h : checkC (r :: rs) = 0) : checkC rs = 0 := by
  obtain ⟨h1, h2⟩ := checkC_zero9 h
  rw [List.all_cons, Bool.and_eq_true] at h2
  refine checkC_mk ?_ h2.2
  unfold manyR at h1 ⊢
  rw [Bool.or_eq_false_iff, List.any_eq_false] at h1 ⊢
  refine ⟨?_, fun x hx => h1.2 x (by simp [hx])⟩
  have := h1.1
  simp at this ⊢
  omega
theorem small_tail9 {r : Rul} {rs : List Rul} (h : Small (r :: rs)) : Small rs := ⟨by have := h.l; simp at this; omega, fun x hx => h.g x (by simp [hx]), fun x hx => h.o x (by simp [hx]), fun x hx => h.a x (by simp [hx])⟩
theorem small_one9 {r : Rul} {rs : List Rul} (h : Small rs) (hr : r ∈ rs) : Small [r] := ⟨by simp, fun x hx => h.g x (by rw [List.mem_singleton.1 hx]; exact hr), fun x hx => h.o x (by rw [List.mem_singleton.1 hx]; exact hr), fun x hx => h.a x (by rw [List.mem_singleton.1 hx]; exact hr)⟩
def fitN (m : Mod) (rs : List Rul) : Nat := (rs.filter fun r => fitsF r m).length
def sameN (s : Int) (c : Cel) (e : Int) (x : List Cel) (rs : List Rul) : Bool := rs.any fun r => fitsF r c.mod && (decide ((succR [r] s c).2 = e) && (x == (succR [r] s c).1))
theorem fitN_snoc {m : Mod} {rs : List Rul} {k : Nat} {r : Rul} (h : rs[k]? = some r) : fitN m (rs.take (k + 1)) = fitN m (rs.take k) + if fitsF r m = true then 1 else 0 := by
  unfold fitN
  rw [List.take_add_one, h, List.filter_append, List.length_append]
  congr 1
  by_cases hf : fitsF r m = true <;> simp [hf]
theorem sameN_snoc {s : Int} {c : Cel} {e : Int} {x : List Cel} {rs : List Rul} {k : Nat} {r : Rul} (h : rs[k]? = some r) : sameN s c e x (rs.take (k + 1)) = (sameN s c e x (rs.take k) || (fitsF r c.mod && (decide ((succR [r] s c).2 = e) && (x == (succR [r] s c).1)))) := by
  unfold sameN
  rw [List.take_add_one, h, List.any_append]
  simp
theorem fitN_zero {m : Mod} {rs : List Rul} (h : fitN m rs = 0) : ∀ r ∈ rs, fitsF r m = false := fun r hr => by
  unfold fitN at h
  have := List.filter_eq_nil_iff.1 (List.eq_nil_of_length_eq_zero h) r hr
  simpa using this
theorem fits_law {rs : List Rul} (hc : checkC rs = 0) (s : Int) (c : Cel) : (fitN c.mod rs = 0 → succR rs s c = ([c], 0)) ∧ (fitN c.mod rs ≠ 0 → sameN s c (succR rs s c).2 (succR rs s c).1 rs = true) := by
  rcases succR_pick (rval_of hc) s c with ⟨h1, h2⟩ | ⟨r, hr, hf, h⟩
  · refine ⟨fun _ => h2, fun h => absurd ?_ h⟩
    unfold fitN
    rw [List.length_eq_zero_iff, List.filter_eq_nil_iff]
    intro r hr
    rw [h1 r hr]; decide
  · refine ⟨fun h0 => absurd (fitN_zero h0 r hr) (by rw [hf]; decide), fun _ => ?_⟩
    unfold sameN
    rw [List.any_eq_true]
    refine ⟨r, hr, ?_⟩
    rw [succR_one (rval_of (checkC_one9 hc hr)) s hf, h, hf]
    simp
theorem oneR_of {rs : List Rul} (hc : checkC rs = 0) {c : Cel} (hp : pathF c.path = true) (hf : fineF c.mod = true) (s : Int) : oneR rs s c = succR rs s c := by
  unfold oneR
  rw [if_pos hc, if_pos (by rw [hp, hf]; rfl)]
end Go.Proofs.YtlipmagkplbkdaaDoor

/-! Ng9 -/
namespace Go.Proofs.YtlipmagkplbkdaaDoor
open Go Go.Conc Go.RowKit
set_option linter.unusedVariables false
set_option linter.unusedSimpArgs false
set_option maxRecDepth 100000 in
theorem act_lit131 {a : Act} (hd : a.defers = []) (hz : a.tmps.size = 131) : a = { tmps := #[a.tmps.getD 0 undef, a.tmps.getD 1 undef, a.tmps.getD 2 undef, a.tmps.getD 3 undef, a.tmps.getD 4 undef, a.tmps.getD 5 undef, a.tmps.getD 6 undef, a.tmps.getD 7 undef, a.tmps.getD 8 undef, a.tmps.getD 9 undef, a.tmps.getD 10 undef, a.tmps.getD 11 undef, a.tmps.getD 12 undef, a.tmps.getD 13 undef, a.tmps.getD 14 undef, a.tmps.getD 15 undef, a.tmps.getD 16 undef, a.tmps.getD 17 undef, a.tmps.getD 18 undef, a.tmps.getD 19 undef, a.tmps.getD 20 undef, a.tmps.getD 21 undef, a.tmps.getD 22 undef, a.tmps.getD 23 undef, a.tmps.getD 24 undef, a.tmps.getD 25 undef, a.tmps.getD 26 undef, a.tmps.getD 27 undef, a.tmps.getD 28 undef, a.tmps.getD 29 undef, a.tmps.getD 30 undef, a.tmps.getD 31 undef, a.tmps.getD 32 undef, a.tmps.getD 33 undef, a.tmps.getD 34 undef, a.tmps.getD 35 undef, a.tmps.getD 36 undef, a.tmps.getD 37 undef, a.tmps.getD 38 undef, a.tmps.getD 39 undef, a.tmps.getD 40 undef, a.tmps.getD 41 undef, a.tmps.getD 42 undef, a.tmps.getD 43 undef, a.tmps.getD 44 undef, a.tmps.getD 45 undef, a.tmps.getD 46 undef, a.tmps.getD 47 undef, a.tmps.getD 48 undef, a.tmps.getD 49 undef, a.tmps.getD 50 undef, a.tmps.getD 51 undef, a.tmps.getD 52 undef, a.tmps.getD 53 undef, a.tmps.getD 54 undef, a.tmps.getD 55 undef, a.tmps.getD 56 undef, a.tmps.getD 57 undef, a.tmps.getD 58 undef, a.tmps.getD 59 undef, a.tmps.getD 60 undef, a.tmps.getD 61 undef, a.tmps.getD 62 undef, a.tmps.getD 63 undef, a.tmps.getD 64 undef, a.tmps.getD 65 undef, a.tmps.getD 66 undef, a.tmps.getD 67 undef, a.tmps.getD 68 undef, a.tmps.getD 69 undef, a.tmps.getD 70 undef, a.tmps.getD 71 undef, a.tmps.getD 72 undef, a.tmps.getD 73 undef, a.tmps.getD 74 undef, a.tmps.getD 75 undef, a.tmps.getD 76 undef, a.tmps.getD 77 undef, a.tmps.getD 78 undef, a.tmps.getD 79 undef, a.tmps.getD 80 undef, a.tmps.getD 81 undef, a.tmps.getD 82 undef, a.tmps.getD 83 undef, a.tmps.getD 84 undef, a.tmps.getD 85 undef, a.tmps.getD 86 undef, a.tmps.getD 87 undef, a.tmps.getD 88 undef, a.tmps.getD 89 undef, a.tmps.getD 90 undef, a.tmps.getD 91 undef, a.tmps.getD 92 undef, a.tmps.getD 93 undef, a.tmps.getD 94 undef, a.tmps.getD 95 undef, a.tmps.getD 96 undef, a.tmps.getD 97 undef, a.tmps.getD 98 undef, a.tmps.getD 99 undef, a.tmps.getD 100 undef, a.tmps.getD 101 undef, a.tmps.getD 102 undef, a.tmps.getD 103 undef, a.tmps.getD 104 undef, a.tmps.getD 105 undef, a.tmps.getD 106 undef, a.tmps.getD 107 undef, a.tmps.getD 108 undef, a.tmps.getD 109 undef, a.tmps.getD 110 undef, a.tmps.getD 111 undef, a.tmps.getD 112 undef, a.tmps.getD 113 undef, a.tmps.getD 114 undef, a.tmps.getD 115 undef, a.tmps.getD 116 undef, a.tmps.getD 117 undef, a.tmps.getD 118 undef, a.tmps.getD 119 undef, a.tmps.getD 120 undef, a.tmps.getD 121 undef, a.tmps.getD 122 undef, a.tmps.getD 123 undef, a.tmps.getD 124 undef, a.tmps.getD 125 undef, a.tmps.getD 126 undef, a.tmps.getD 127 undef, a.tmps.getD 128 undef, a.tmps.getD 129 undef, a.tmps.getD 130 undef], defers := [] } := by
  obtain ⟨tm, df⟩ := a
  obtain rfl : df = [] := hd
  have hz : tm.size = 131 := hz
  refine congrArg (fun t => ({ tmps := t, defers := [] } : Act)) ?_
  apply Array.ext
  · rw [hz]; rfl
  · intro i h1 h2
    rw [hz] at h1
    rw [show tm[i] = tm.getD i undef by rw [Array.getD_eq_getD_getElem?, Array.getElem?_eq_getElem (by omega)]; rfl]
    match i, h1 with
    | 0, _ => rfl
    | 1, _ => rfl
    | 2, _ => rfl
    | 3, _ => rfl
    | 4, _ => rfl
    | 5, _ => rfl
    | 6, _ => rfl
    | 7, _ => rfl
    | 8, _ => rfl
    | 9, _ => rfl
    | 10, _ => rfl
    | 11, _ => rfl
    | 12, _ => rfl
    | 13, _ => rfl
    | 14, _ => rfl
    | 15, _ => rfl
    | 16, _ => rfl
    | 17, _ => rfl
    | 18, _ => rfl
    | 19, _ => rfl
    | 20, _ => rfl
    | 21, _ => rfl
    | 22, _ => rfl
    | 23, _ => rfl
    | 24, _ => rfl
    | 25, _ => rfl
    | 26, _ => rfl
    | 27, _ => rfl
    | 28, _ => rfl
    | 29, _ => rfl
    | 30, _ => rfl
    | 31, _ => rfl
    | 32, _ => rfl
    | 33, _ => rfl
    | 34, _ => rfl
    | 35, _ => rfl
    | 36, _ => rfl
    | 37, _ => rfl
    | 38, _ => rfl
    | 39, _ => rfl
    | 40, _ => rfl
    | 41, _ => rfl
    | 42, _ => rfl
    | 43, _ => rfl
    | 44, _ => rfl
    | 45, _ => rfl
    | 46, _ => rfl
    | 47, _ => rfl
    | 48, _ => rfl
    | 49, _ => rfl
    | 50, _ => rfl
    | 51, _ => rfl
    | 52, _ => rfl
    | 53, _ => rfl
    | 54, _ => rfl
    | 55, _ => rfl
    | 56, _ => rfl
    | 57, _ => rfl
    | 58, _ => rfl
    | 59, _ => rfl
    | 60, _ => rfl
    | 61, _ => rfl
    | 62, _ => rfl
    | 63, _ => rfl
    | 64, _ => rfl
    | 65, _ => rfl
    | 66, _ => rfl
    | 67, _ => rfl
    | 68, _ => rfl
    | 69, _ => rfl
    | 70, _ => rfl
    | 71, _ => rfl
    | 72, _ => rfl
    | 73, _ => rfl
    | 74, _ => rfl
    | 75, _ => rfl
    | 76, _ => rfl
    | 77, _ => rfl
    | 78, _ => rfl
    | 79, _ => rfl
    | 80, _ => rfl
    | 81, _ => rfl
    | 82, _ => rfl
    | 83, _ => rfl
    | 84, _ => rfl
    | 85, _ => rfl
    | 86, _ => rfl
    | 87, _ => rfl
    | 88, _ => rfl
    | 89, _ => rfl
    | 90, _ => rfl
    | 91, _ => rfl
    | 92, _ => rfl
    | 93, _ => rfl
    | 94, _ => rfl
    | 95, _ => rfl
    | 96, _ => rfl
    | 97, _ => rfl
    | 98, _ => rfl
    | 99, _ => rfl
    | 100, _ => rfl
    | 101, _ => rfl
    | 102, _ => rfl
    | 103, _ => rfl
    | 104, _ => rfl
    | 105, _ => rfl
    | 106, _ => rfl
    | 107, _ => rfl
    | 108, _ => rfl
    | 109, _ => rfl
    | 110, _ => rfl
    | 111, _ => rfl
    | 112, _ => rfl
    | 113, _ => rfl
    | 114, _ => rfl
    | 115, _ => rfl
    | 116, _ => rfl
    | 117, _ => rfl
    | 118, _ => rfl
    | 119, _ => rfl
    | 120, _ => rfl
    | 121, _ => rfl
    | 122, _ => rfl
    | 123, _ => rfl
    | 124, _ => rfl
    | 125, _ => rfl
    | 126, _ => rfl
    | 127, _ => rfl
    | 128, _ => rfl
    | 129, _ => rfl
    | 130, _ => rfl
    | j + 131, h => exact absurd h (by omega)
noncomputable def fiB : Code := match Tryd.f6.body with | some c => c | none => .skip
theorem fiBody : Tryd.f6.body = some fiB := by kernel_rfl
noncomputable def fiR0 : Code := match fiB with | .seq a _ => a | _ => .skip
noncomputable def fiR1 : Code := match fiB with | .seq _ (.seq a _) => a | _ => .skip
noncomputable def fiR2 : Code := match fiB with | .seq _ (.seq _ (.seq (.seq a _) _)) => a | _ => .skip
noncomputable def fiO3 : Array Oper := match fiB with | .seq _ (.seq _ (.seq (.seq _ (.cond _ (.seq (.region _ a _) _) _)) _)) => a | _ => #[]
noncomputable def fiR4 : Code := match fiB with | .seq _ (.seq _ (.seq _ (.seq a _))) => a | _ => .skip
noncomputable def fiR5 : Code := match fiB with | .seq _ (.seq _ (.seq _ (.seq _ (.seq a _)))) => a | _ => .skip
noncomputable def fiR6 : Code := match fiB with | .seq _ (.seq _ (.seq _ (.seq _ (.seq _ (.seq (.seq a _) _))))) => a | _ => .skip
noncomputable def fiC7 : Code := match fiB with | .seq _ (.seq _ (.seq _ (.seq _ (.seq _ (.seq (.seq _ (.cond _ a _)) _))))) => a | _ => .skip
noncomputable def fiR8 : Code := match fiB with | .seq _ (.seq _ (.seq _ (.seq _ (.seq _ (.seq _ (.seq a _)))))) => a | _ => .skip
noncomputable def fiL : Code := match fiB with | .seq _ (.seq _ (.seq _ (.seq _ (.seq _ (.seq _ (.seq _ (.seq a _))))))) => a | _ => .skip
noncomputable def fiR16 : Code := match fiB with | .seq _ (.seq _ (.seq _ (.seq _ (.seq _ (.seq _ (.seq _ (.seq _ (.seq (.seq a _) _)))))))) => a | _ => .skip
noncomputable def fiO17 : Array Oper := match fiB with | .seq _ (.seq _ (.seq _ (.seq _ (.seq _ (.seq _ (.seq _ (.seq _ (.seq (.seq _ (.cond _ (.seq (.region _ a _) _) _)) _)))))))) => a | _ => #[]
noncomputable def fiO18 : Array Oper := match fiB with | .seq _ (.seq _ (.seq _ (.seq _ (.seq _ (.seq _ (.seq _ (.seq _ (.seq _ (.seq (.region _ a _) _))))))))) => a | _ => #[]
noncomputable def fiT : Code := .seq (.seq fiR16 (.cond (.tmp 115) (.seq (.region 17 fiO17 false) .ret) .skip)) (.seq (.region 18 fiO18 false) .ret)
noncomputable def fiM : Code := .seq fiR4 (.seq fiR5 (.seq (.seq fiR6 (.cond (.tmp 75) fiC7 .skip)) (.seq fiR8 (.seq fiL fiT))))
theorem fiB_eq : fiB = .seq fiR0 (.seq fiR1 (.seq (.seq fiR2 (.cond (.tmp 44) (.seq (.region 3 fiO3 false) .ret) .skip)) fiM)) := by kernel_rfl
theorem fiTm (RA : Option Addr) (rc m1 : Nat) (s : Int) (u u2 : Value) : (#[.slice RA m1 rc, .int .i64 s, u, u2] ++ Array.replicate (Tryd.f6.ntmps - (#[.slice RA m1 rc, .int .i64 s, u, u2] : Array Value).size) undef : Array Value) = #[.slice RA m1 rc, .int .i64 s, u, u2, undef, undef, undef, undef, undef, undef, undef, undef, undef, undef, undef, undef, undef, undef, undef, undef, undef, undef, undef, undef, undef, undef, undef, undef, undef, undef, undef, undef, undef, undef, undef, undef, undef, undef, undef, undef, undef, undef, undef, undef, undef, undef, undef, undef, undef, undef, undef, undef, undef, undef, undef, undef, undef, undef, undef, undef, undef, undef, undef, undef, undef, undef, undef, undef, undef, undef, undef, undef, undef, undef, undef, undef, undef, undef, undef, undef, undef, undef, undef, undef, undef, undef, undef, undef, undef, undef, undef, undef, undef, undef, undef, undef, undef, undef, undef, undef, undef, undef, undef, undef, undef, undef, undef, undef, undef, undef, undef, undef, undef, undef, undef, undef, undef, undef, undef, undef, undef, undef, undef, undef, undef, undef, undef, undef, undef, undef, undef] := by kernel_rfl
theorem fokR0 : okC Tryd.prog gR sR fiR0 = true := by kernel_rfl
theorem fokR1 : okC Tryd.prog gR sR fiR1 = true := by kernel_rfl
theorem fokR2 : okC Tryd.prog gR sR fiR2 = true := by kernel_rfl
theorem fokR4 : okC Tryd.prog gR sR fiR4 = true := by kernel_rfl
theorem fokR5 : okC Tryd.prog gR sR fiR5 = true := by kernel_rfl
theorem fokR6 : okC Tryd.prog gR sR fiR6 = true := by kernel_rfl
theorem fokR8 : okC Tryd.prog gR sR fiR8 = true := by kernel_rfl
theorem fokL : okC Tryd.prog gR sR fiL = true := by kernel_rfl
theorem fiz3 : List.range fiO3.size = [0, 1] := by kernel_rfl
theorem fiz17 : List.range fiO17.size = [0, 1, 2, 3, 4, 5, 6, 7, 8, 9, 10, 11] := by kernel_rfl
theorem fiz18 : List.range fiO18.size = [0, 1, 2, 3, 4] := by kernel_rfl
def bFi : Frame := { (default : Frame) with fn := 6, kind := .normal }
theorem bFi_fn : ∃ fn, Tryd.prog.funcs[bFi.fn]? = some fn := ⟨Tryd.f6, Tryd.func6⟩
theorem fi_fin {ch : Option Nat} {a : Act} {v : World} {todo : List Item} (hd : a.defers = []) (h8 : slot a 8 (.bool true)) : MS Tryd.prog SR gR sR (· = .bool true) [] ch { bFi.at a todo with mode := .returning } [] v := by
  refine MS.fin (x := .bool true) rfl hd rfl Tryd.func6 (fun τ d => ?_) (by kernel_rfl) rfl
  refine (results_one (p := 8) rfl _).trans ?_
  show Result.ok (a.tmps.getD 8 undef) _ = _
  rw [show (a.tmps.getD 8 undef) = _ from h8]
theorem info_rulF : (Tryd.prog.info? 60).map (fun i => (i.zero, i.size, i.bytes)) = some (some (.agg #[.int .u8 0, .int .i64 0, .int .u8 0, .int .u8 0, .slice none 0 0, .int .i64 0, .slice none 0 0]), 7, 80) := by kernel_rfl
theorem wpList_catB9 {P : Program} {α : Type} {E : Rp α} {ops : Array Oper} {rest : List Oper} {o : Oper} {a : Act} {Q : Exit → Act → World → Prop} {w : World} {base : Nat} {G : Nat → Prop} {v : Value} {xs : List α} (t e : TypeId) (z : Value) (bytes : Nat) (s x : Operand) (hgd : o.guard = none)
    (ho : o.op = .call { callee := .builtin .append, args := #[s, x], argTypes := #[t, t] })
    (ht : P.underlying t = some (.slice e)) (hinfo : (P.info? e).map (fun i => (i.zero, i.size, i.bytes)) = some (some z, E.n, bytes)) (hzs : z.cells.size = E.n) (hsz : 0 < E.n)
    (hs : a.eval s = v) (hown : Own E e base G w v xs) (A : Option Addr) (c : Nat) (ys : List α) (hx : a.eval x = .slice A ys.length c) (F : Nat → Prop) (hsl : SlAt E F w A c ys)
    (hF : ∀ k, F k → G k ∧ k < w.heap.size ∧ some k ≠ v.ownBlock) (n : Nat) (hn : (xs ++ ys).length = n) (hml : n ≤ maxLen) (hby : n * bytes ≤ 140737488355328) (hbase : base ≤ w.heap.size)
    (h : ∀ A' c' w', Hid (Own E e base G w' (.slice A' n c') (xs ++ ys)) → Hid (Grew base w w' v (.slice A' n c')) → wpList P ops Q rest (a.put o.dst (.slice A' n c')) w') : wpList P ops Q (o :: rest) a w := by
  have fin : ∀ v' w', Own E e base G w' v' (xs ++ ys) → w.grownBy w' v.ownBlock → (v'.ownBlock = v.ownBlock ∨ v'.ownBlock = some w.heap.size) → wpList P ops Q rest (a.put o.dst v') w' := fun v' w' h1 h2 h3 => by
    obtain ⟨cells, ⟨hl, hv⟩, hc⟩ := h1
    have hform : ∃ A' c', v' = .slice A' n c' := by
      rcases hv with ⟨hv, h0⟩ | ⟨g, cap, cur, hv, _⟩
      · rw [hn] at h0; subst h0; exact ⟨_, _, hv⟩
      · rw [hn] at hv; exact ⟨_, _, hv⟩
    obtain ⟨A', c', rfl⟩ := hform
    exact h A' c' w' ⟨cells, ⟨hl, hv⟩, hc⟩ ⟨below_app (Below.refl base w) h2 hown (Nat.le_refl _) hbase, h2.block, h3.imp id fun he => ⟨_, he, Nat.le_refl _⟩⟩
  have hnl : xs.length + ys.length = n := by rw [← hn, List.length_append]
  obtain ⟨i, hi, hz, h1, h2⟩ := info_parts hinfo
  have hown' := hown
  obtain ⟨cells, h3, h4⟩ := hown
  cases A with
  | some ad =>
    obtain ⟨news, h5, h6⟩ := hsl.cells
    exact wpList_append_own_at (P := P) w hgd s x t ho base e i z E.n bytes ht hi hz h1 h2 hzs hsz v xs.length cells hs h3 ad ys.length c news hx h5.length h6 h5.oneCell (by omega) (by rw [hnl]; exact hby) hbase
      (fun v' w' k5 k6 _ k7 => fin v' w' (own_append h4 h5 hF k5 k6 k7) k6 k7)
  | none =>
    have hc := hsl.nil rfl
    have hl := hsl.le
    have hy : ys = [] := List.eq_nil_of_length_eq_zero (by omega)
    subst hy
    subst hc
    refine wpList_plain hgd fun K hK => ?_
    have hrun := run_append_owned_none (P := P) w base t o.type e i E.n ht hi v xs.length cells h3
    unfold Oper.wp
    simp [execOp, ho, resolve, invoke, builtin, hs, hx, hrun, Result.andThen]
    exact hK _ _ (fin v w (by simpa using hown') (World.grownBy.refl w _) (.inl rfl))
theorem reach_slice9 {H : Type} {P : Program} {enc : TypeId × Value → H} {w : World} {fuel : Nat} {t e : TypeId} {a : Option Addr} {len cap : Nat} {d : DataW H} {p : List MemPlace} (ht : P.underlying t = some (.slice e))
    (h : DataW.trod enc P w 0 (fun _ => true) true fuel t [.slice a len cap] = some (d, p)) {ts : List TypeId} {ds : List (DataW H)} (hsz : (DataW.weightsEach P ts ds).all (· ≤ reachBytes) = true) {j : Nat} (hts : ts[j]? = some t) (hds : ds[j]? = some d) :
    len * P.bytesOf e ≤ 140737488351232 := by
  rcases DataW.trod_slice ht h with ⟨h1, h2⟩ | ⟨a', len', cap', elems, rest, n, h1, h2, h3, _, _, _, h4, _⟩
  · cases h1; omega
  · cases h2
    cases h3
    have := sized_slice hsz hts hds ht
    rw [List.length_map, List.length_map, h4, Nat.add_mul] at this
    have e1 : reachBytes = 140737488351232 := by decide
    omega
theorem own_box9 {α : Type} {E : Rp α} {e : TypeId} {base : Nat} {G : Nat → Prop} {w : World} {cs : Array Value} {x : α} (hb : base ≤ w.heap.size) (hR : E.R (fun q => G q ∧ q < w.heap.size) w cs.toList x) : Own E e base G (w.alloc (.cells cs e)) (.slice (some ⟨w.heap.size, 0, none⟩) 1 1) [x] := by
  have hn := E.len hR
  refine ⟨cs.toList, ⟨by simpa using hn, .inr ⟨w.heap.size, 1, cs, rfl, hb, heap_alloc_new w _, by simp, by unfold maxLen; omega, by simpa using hn, by rw [List.take_of_length_le]; simp [hn]⟩⟩, CellsAre.one ?_⟩
  refine E.wide (E.keep hR fun q hq => Below.heap_alloc w _ q hq.2) fun q hq => ⟨hq.1, by simp; omega, fun he => ?_⟩
  injection he with he
  have := hq.2
  simp at he
  omega
theorem RulAt.kp {r : Rul} {v v' : World} {A A2 : Option Addr} {c c2 : Nat} (h : RulAt r (Old v) v A c A2 c2) (k : Kp v v') : RulAt r (Old v') v' A c A2 c2 := ⟨h.fn, h.fa, h.fl, h.fr, h.fw, h.sg.kp eqv_frm k, h.so.kp eqv_shp k⟩
theorem path_le {p : ByteArray} (h : pathF p = true) : p.size ≤ 300 := by
  unfold pathF at h
  simp only [Bool.and_eq_true, decide_eq_true_eq] at h
  have := h.1.2
  omega
structure FiW (v0 w : World) (gc gr : Nat) (c : Cel) (D : Option Addr) (d : Nat) (r : Rul) (A1 : Option Addr) (c1 : Nat) (A2 : Option Addr) (c2 : Nat) : Prop where
  gw : Gw v0 w
  bc : Blk w gc 51 #[.string c.path, .int .u8 c.mod.name, .slice D c.mod.args.length d]
  br : Blk w gr 60 #[.int .u8 r.name, .int .i64 r.arity, .int .u8 r.left, .int .u8 r.right, .slice A1 r.guards.length c1, .int .i64 r.weight, .slice A2 r.out.length c2]
section
variable {v0 w w' : World} {gc gr : Nat} {c : Cel} {D : Option Addr} {d : Nat} {r : Rul} {A1 : Option Addr} {c1 : Nat} {A2 : Option Addr} {c2 : Nat}
theorem FiW.kp (h : FiW v0 w gc gr c D d r A1 c1 A2 c2) : Kp v0 w := Kp.gw h.gw
theorem FiW.later (h : FiW v0 w gc gr c D d r A1 c1 A2 c2) (hb : Below w.heap.size w w') : FiW v0 w' gc gr c D d r A1 c1 A2 c2 :=
  ⟨⟨Nat.le_trans h.gw.1 hb.size, fun k hk => (hb.block k (Nat.lt_of_lt_of_le hk h.gw.1)).trans (h.gw.2 k hk)⟩, h.bc.same (hb.block _ h.bc.lt), h.br.same (hb.block _ h.br.lt)⟩
theorem FiW.at2 (h : FiW v0 w gc gr c D d r A1 c1 A2 c2) (τ : Nat → Question → Nat) (t : Nat) : FiW v0 (Go.Proofs.YtlipmagkplbkdaaDoor.at2 w τ t) gc gr c D d r A1 c1 A2 c2 := ⟨⟨h.gw.1, h.gw.2⟩, h.bc.same rfl, h.br.same rfl⟩
theorem FiW.cc (h : FiW v0 w gc gr c D d r A1 c1 A2 c2) : w.cell? ⟨gc, 0, none⟩ = some (.string c.path) ∧ w.cell? ⟨gc, 1, none⟩ = some (.int .u8 c.mod.name) ∧ w.cell? ⟨gc, 2, none⟩ = some (.slice D c.mod.args.length d) := ⟨(h.bc.cell 0).trans rfl, (h.bc.cell 1).trans rfl, (h.bc.cell 2).trans rfl⟩
end
set_option maxRecDepth 100000 in
set_option maxHeartbeats 4000000 in
theorem fi_three {ch : Option Nat} {v v0 : World} {a : Act} {k : List Item} (hz : a.tmps.size = 131) (hd : a.defers = []) (ht : TabAt v0) (hg : GAt v0) (k0 : Kp v0 v) :
    MS Tryd.prog SR gR sR (· = .bool true) [] ch (bFi.at a (.code (.seq (.region 3 fiO3 false) .ret) :: k)) [] v := by
  have hXX : ∀ ch, Walk Tryd.prog SR gR sR (MS Tryd.prog SR gR sR (· = .bool true) [] ch) := fun ch => MS.walk ctxR
  have hX := hXX ch
  refine hX.seq (hX.region ?_)
  rw [fiz3]
  refine MS.enter ctxR (show fiO3[0]? = some _ from rfl) rfl rfl (by kernel_rfl) ⟨_, _, Tryd.func33, alBody, by kernel_rfl⟩ ?_
  show MS Tryd.prog SR gR sR (· = .bool true) [] _ (Frame.enter Tryd.prog 33 ((#[] : Array Operand).map a.eval) .normal) _ v
  rw [map_none]
  refine alive_ms (ht.kp k0 hg) (hg.kp k0) ?_
  intro ch a' va1 todo hd' q0 kk
  have hX := hXX ch
  refine hX.back' (x := .bool true) rfl rfl Tryd.func33 (show fiO3[0]? = some _ from rfl) (fun τ d => (results_one (p := 0) rfl _).trans (congrArg (fun z => Result.ok z _) (show (a'.tmps.getD 0 undef) = _ from q0))) ?_
  show MS Tryd.prog SR gR sR (· = .bool true) [] ch (bFi.at (a.put (some 45) (.bool true)) _) [] va1
  have k0 := k0.trans kk
  clear kk
  have hd : (a.put (some 45) (.bool true)).defers = [] := hd
  have s45 := slot_same (a := a) (d := 45) (x := .bool true) (by rw [hz]; decide)
  have hz : (a.put (some 45) (.bool true)).tmps.size = 131 := size_put hz
  generalize (a.put (some 45) (.bool true)) = y2 at hz hd s45 ⊢
  refine hX.val (v' := va1) (some 8) (.bool true) (show fiO3[1]? = some _ from rfl) (by kernel_rfl) rfl rfl (fun τ d => run_moveX y2.eval (.tmp 45) (.inr rfl) s45) ?_
  have hd : (y2.put (some 8) (.bool true)).defers = [] := hd
  clear s45
  have s8 := slot_same (a := y2) (d := 8) (x := .bool true) (by rw [hz]; decide)
  have hz : (y2.put (some 8) (.bool true)).tmps.size = 131 := size_put hz
  generalize (y2.put (some 8) (.bool true)) = y3 at hz hd s8 ⊢
  exact hX.done (hX.ret (fi_fin hd s8))
section
variable {RA : Option Addr} {rc : Nat} {rs : List Rul} {s : Int} {c : Cel} {D : Option Addr} {d : Nat} {r : Rul} {A1 : Option Addr} {c1 : Nat} {A2 : Option Addr} {c2 : Nat} {v0 : World}
set_option maxRecDepth 100000 in
set_option maxHeartbeats 4000000 in
theorem fi_a (hr : SlAt pRul (Old v0) v0 RA rc rs) (hda : SlAt (pI .i64) (Old v0) v0 D d c.mod.args) (hra : RulAt r (Old v0) v0 A1 c1 A2 c2) (h8 : Fits .u8 c.mod.name) (hps : c.path.size ≤ 9223372036854775807) (hs : Fits .i64 s) (hrl : rs.length * 80 ≤ 140737488351232) (ht : TabAt v0) (hg : GAt v0)
    (hk : ∀ (mr : List Rul) (gc gr : Nat) a v MA mc, mr = r :: rs → Small mr → checkC mr = 0 → pathF c.path = true → fineF c.mod = true → a.tmps.size = 131 → a.defers = [] → slot a 0 (.slice RA rs.length rc) → slot a 1 (.int .i64 s) → slot a 6 (.pointer (some ⟨gc, 0, none⟩)) → slot a 7 (.pointer (some ⟨gr, 0, none⟩)) → slot a 9 (.slice MA mr.length mc) →
      FiW v0 v gc gr c D d r A1 c1 A2 c2 → SlAt pRul (Old v) v MA mc mr → MS Tryd.prog SR gR sR (· = .bool true) [] none (bFi.at a [.code fiM]) [] v) :
    MS Tryd.prog SR gR sR (· = .bool true) [] none (Frame.enter Tryd.prog 6 #[.slice RA rs.length rc, .int .i64 s, .agg #[.string c.path, .int .u8 c.mod.name, .slice D c.mod.args.length d], .agg #[.int .u8 r.name, .int .i64 r.arity, .int .u8 r.left, .int .u8 r.right, .slice A1 r.guards.length c1, .int .i64 r.weight, .slice A2 r.out.length c2]] .normal) [] v0 := by
  have hX : Walk Tryd.prog SR gR sR (MS Tryd.prog SR gR sR (· = .bool true) [] none) := MS.walk ctxR
  have hmx := hr.lenle
  have hmxg := hra.sg.lenle
  have hmxo := hra.so.lenle
  have hmxd := hda.lenle
  rw [enter_eq Tryd.func6 fiBody, fiB_eq, fiTm]
  show MS Tryd.prog SR gR sR (· = .bool true) [] none (bFi.at _ _) [] v0
  refine hX.seq (hX.wp ctxR rfl bFi_fn fokR0 fun τ t => ?_)
  have k1 : Gw v0 (Go.Proofs.YtlipmagkplbkdaaDoor.at2 v0 τ t) := ⟨Nat.le_refl _, fun _ _ => rfl⟩
  generalize Go.Proofs.YtlipmagkplbkdaaDoor.at2 v0 τ t = v1 at k1 ⊢
  obtain ⟨W1, hW1⟩ : ∃ W1, W1 = (v1.alloc (.cells #[.string c.path, .int .u8 c.mod.name, .slice D c.mod.args.length d] 51)).alloc (.cells #[.int .u8 r.name, .int .i64 r.arity, .int .u8 r.left, .int .u8 r.right, .slice A1 r.guards.length c1, .int .i64 r.weight, .slice A2 r.out.length c2] 60) := ⟨_, rfl⟩
  have hb1 : Below v1.heap.size v1 W1 := by rw [hW1]; exact ((Below.refl _ _).alloc (Nat.le_refl _) _).alloc (by simp) _
  have hw : FiW v0 W1 v1.heap.size (v1.heap.size + 1) c D d r A1 c1 A2 c2 := by
    refine ⟨⟨Nat.le_trans k1.1 hb1.size, fun k hk => (hb1.block k (Nat.lt_of_lt_of_le hk k1.1)).trans (k1.2 k hk)⟩, ?_, ?_⟩
    · rw [hW1]; exact (Blk.new _ _ _).alloc _
    · rw [hW1]
      have := Blk.new (v1.alloc (.cells #[.string c.path, .int .u8 c.mod.name, .slice D c.mod.args.length d] 51)) 60 #[.int .u8 r.name, .int .i64 r.arity, .int .u8 r.left, .int .u8 r.right, .slice A1 r.guards.length c1, .int .i64 r.weight, .slice A2 r.out.length c2]
      simpa using this
  have Hr := Lib.hid hr; clear hr
  have Hda := Lib.hid hda; clear hda
  have Hra := Lib.hid hra; clear hra
  have Hk := Lib.hid hk; clear hk
  have HX := Lib.hid hX; clear hX
  have Ht := Lib.hid ht; clear ht
  have Hg := Lib.hid hg; clear hg
  have Hw := Lib.hid hw; clear hw
  have Hb1 := Lib.hid hb1; clear hb1
  dsimp only [fiR0, fiB, Tryd.f6]
  go_wp2
  rw [← hW1]
  clear hW1 Hb1
  generalize v1.heap.size + 1 = gr at Hw ⊢
  generalize v1.heap.size = gc at Hw ⊢
  refine HX.out.seq (HX.out.wp ctxR rfl bFi_fn fokR1 fun τ t => ?_)
  have hw2 := Hw.out.at2 τ t
  generalize Go.Proofs.YtlipmagkplbkdaaDoor.at2 W1 τ t = v2 at hw2 ⊢
  clear Hw
  obtain ⟨x0, x1, x2, x3, x4, x5, x6⟩ := Blk.rul hw2.br
  obtain ⟨mr, hmr⟩ : ∃ mr, mr = r :: rs := ⟨_, rfl⟩
  have how : Own pRul 60 v2.heap.size (fun _ => True) (v2.alloc (.cells #[.int .u8 r.name, .int .i64 r.arity, .int .u8 r.left, .int .u8 r.right, .slice A1 r.guards.length c1, .int .i64 r.weight, .slice A2 r.out.length c2] 60)) (.slice (some ⟨v2.heap.size, 0, none⟩) 1 1) [r] := by
    have hr2 := Hra.out.kp hw2.kp
    exact own_box9 (Nat.le_refl _) ⟨A1, c1, A2, c2, rfl, ⟨hr2.fn, hr2.fa, hr2.fl, hr2.fr, hr2.fw⟩, hr2.sg.wide fun q hq => ⟨trivial, hq⟩, hr2.so.wide fun q hq => ⟨trivial, hq⟩⟩
  have hal : Below v2.heap.size v2 (v2.alloc (.cells #[.int .u8 r.name, .int .i64 r.arity, .int .u8 r.left, .int .u8 r.right, .slice A1 r.guards.length c1, .int .i64 r.weight, .slice A2 r.out.length c2] 60)) := (Below.refl _ _).alloc (Nat.le_refl _) _
  have hsl := (Hr.out.kp eqv_rul hw2.kp).keep (w' := v2.alloc (.cells #[.int .u8 r.name, .int .i64 r.arity, .int .u8 r.left, .int .u8 r.right, .slice A1 r.guards.length c1, .int .i64 r.weight, .slice A2 r.out.length c2] 60)) fun q hq => hal.block q hq
  have hF : ∀ q, Old v2 q → True ∧ q < (v2.alloc (.cells #[.int .u8 r.name, .int .i64 r.arity, .int .u8 r.left, .int .u8 r.right, .slice A1 r.guards.length c1, .int .i64 r.weight, .slice A2 r.out.length c2] 60)).heap.size ∧ some q ≠ (Value.slice (some ⟨v2.heap.size, 0, none⟩) 1 1).ownBlock := fun q hq => by
    have hq : q < v2.heap.size := hq
    refine ⟨trivial, by simp; omega, fun he => ?_⟩
    injection he with he
    simp at he
    omega
  have hlk : ([r] ++ rs).length = mr.length := by rw [hmr]; rfl
  have hl50 : mr.length = rs.length + 1 := by rw [hmr]; rfl
  have hba : v2.heap.size ≤ (v2.alloc (.cells #[.int .u8 r.name, .int .i64 r.arity, .int .u8 r.left, .int .u8 r.right, .slice A1 r.guards.length c1, .int .i64 r.weight, .slice A2 r.out.length c2] 60)).heap.size := by simp
  have hml : mr.length ≤ maxLen := by unfold maxLen; omega
  have hby : mr.length * 80 ≤ 140737488355328 := by omega
  have How := Lib.hid how; clear how
  have Hal := Lib.hid hal; clear hal
  have Hsl := Lib.hid hsl; clear hsl
  have HF := Lib.hid hF; clear hF
  have Hlk := Lib.hid hlk; clear hlk
  have Hml := Lib.hid hml; clear hml
  have Hby := Lib.hid hby; clear hby
  have Hw2 := Lib.hid hw2; clear hw2
  have Hmr := Lib.hid hmr; clear hmr
  clear hl50
  dsimp only [fiR1, fiB, Tryd.f6]
  go_wp2_with (at_builtin; (refine wpList_catB9 (E := pRul) (xs := [r]) (v := .slice (some ⟨v2.heap.size, 0, none⟩) 1 1) (base := v2.heap.size) (G := fun _ => True) 22 60 (.agg #[.int .u8 0, .int .i64 0, .int .u8 0, .int .u8 0, .slice none 0 0, .int .i64 0, .slice none 0 0]) 80 (.tmp 20) (.tmp 21) rfl rfl Tryd.underlying22 info_rulF rfl (by decide) rfl How.out RA rc rs rfl (Old v2) Hsl.out HF.out mr.length Hlk.out Hml.out Hby.out hba ?_); intro MA mc w3 hown3 hg3)
  have hb3 : Below v2.heap.size v2 w3 := Hal.out.trans hg3.out.bel
  have hw3 := Hw2.out.later hb3
  have hm3 : SlAt pRul (Old w3) w3 MA mc mr := by
    have := hown3.out.sl'.2.wide (F' := Old w3) fun q hq => hq.2
    rw [Hmr.out]
    exact this
  clear How Hal Hsl HF Hlk Hml Hby Hw2 hown3 hg3 hb3 x0 x1 x2 x3 x4 x5 x6 hba
  have Hw3 := Lib.hid hw3; clear hw3
  have Hm3 := Lib.hid hm3; clear hm3
  refine HX.out.seq (HX.out.seq (HX.out.wp ctxR rfl bFi_fn fokR2 fun τ t => ?_))
  have hw4 := Hw3.out.at2 τ t
  have hm4 := Hm3.out.kp eqv_rul (Kp.at2 w3 τ t)
  generalize Go.Proofs.YtlipmagkplbkdaaDoor.at2 w3 τ t = v4 at hw4 hm4 ⊢
  clear Hw3 Hm3
  have hva : Calls Tryd.prog 30 #[.slice MA mr.length mc, .slice none 0 0] v4 fun e w' => e = .returned (.bool (validB mr [])) ∧ Below v4.heap.size v4 w' := valid_calls MA none mc 0 mr [] v4 hm4 slat_nil
  obtain ⟨y0, y1, y2⟩ := hw4.cc
  have hyy : ∀ w, Below v4.heap.size v4 w → w.cell? ⟨gc, 0, none⟩ = some (.string c.path) ∧ w.cell? ⟨gc, 1, none⟩ = some (.int .u8 c.mod.name) ∧ w.cell? ⟨gc, 2, none⟩ = some (.slice D c.mod.args.length d) := fun w hb => (hw4.later hb).cc
  have hpa := fun w => refPath_calls c.path w hps
  have hfi := fun w (hb : Below v4.heap.size v4 w) => refFine_calls D d c.mod w (Hda.out.kp (eqv_i .i64) (hw4.later hb).kp) (fun k hk => hk)
  unfold FinePost at hfi
  dsimp only [fiR2, fiB, Tryd.f6]
  cases hv : validB mr []
  case false =>
    rw [hv] at hva
    have Hva := Lib.hid hva; clear hva
    have Hv := Lib.hid hv; clear hv
    have Hw4 := Lib.hid hw4; clear hw4
    have Hm4 := Lib.hid hm4; clear hm4
    have Hyy := Lib.hid hyy; clear hyy
    have Hpa := Lib.hid hpa; clear hpa
    have Hfi := Lib.hid hfi; clear hfi
    go_wp2_with (go_at_call 30; refine Hva.out.mono ?_; rintro e w5 ⟨rfl, hb5⟩)
    refine HX.out.cond (t := true) rfl rfl ?_
    exact fi_three rfl rfl Ht.out Hg.out (Hw4.out.later hb5).kp
  rw [hv] at hva
  cases hpf : pathF c.path
  case false =>
    rw [hpf] at hpa
    have Hva := Lib.hid hva; clear hva
    have Hv := Lib.hid hv; clear hv
    have Hw4 := Lib.hid hw4; clear hw4
    have Hm4 := Lib.hid hm4; clear hm4
    have Hyy := Lib.hid hyy; clear hyy
    have Hpa := Lib.hid hpa; clear hpa
    have Hfi := Lib.hid hfi; clear hfi
    have Hpf := Lib.hid hpf; clear hpf
    go_wp2_with (first
      | (go_at_call 30; refine Hva.out.mono ?_; rintro e w5 ⟨rfl, hb5⟩; obtain ⟨z0, z1, z2⟩ := Hyy.out _ hb5)
      | (go_at_call 31; refine (Hpa.out _).mono ?_; rintro e w6 ⟨rfl, rfl⟩))
    refine HX.out.cond (t := true) rfl rfl ?_
    exact fi_three rfl rfl Ht.out Hg.out (Hw4.out.later hb5).kp
  rw [hpf] at hpa
  by_cases h10 : 10 < c.mod.args.length
  · have h10' : (10 : Int) < (c.mod.args.length : Int) := by omega
    have Hva := Lib.hid hva; clear hva
    have Hv := Lib.hid hv; clear hv
    have Hw4 := Lib.hid hw4; clear hw4
    have Hm4 := Lib.hid hm4; clear hm4
    have Hyy := Lib.hid hyy; clear hyy
    have Hpa := Lib.hid hpa; clear hpa
    have Hfi := Lib.hid hfi; clear hfi
    have Hpf := Lib.hid hpf; clear hpf
    clear h10
    go_wp2_with (first
      | (go_at_call 30; refine Hva.out.mono ?_; rintro e w5 ⟨rfl, hb5⟩; obtain ⟨z0, z1, z2⟩ := Hyy.out _ hb5)
      | (go_at_call 31; refine (Hpa.out _).mono ?_; rintro e w6 ⟨rfl, rfl⟩))
    refine HX.out.cond (t := true) rfl rfl ?_
    exact fi_three rfl rfl Ht.out Hg.out (Hw4.out.later hb5).kp
  have h10' : ¬ (10 : Int) < (c.mod.args.length : Int) := by omega
  clear h10
  cases hff : fineF c.mod
  case false =>
    rw [hff] at hfi
    have Hva := Lib.hid hva; clear hva
    have Hv := Lib.hid hv; clear hv
    have Hw4 := Lib.hid hw4; clear hw4
    have Hm4 := Lib.hid hm4; clear hm4
    have Hyy := Lib.hid hyy; clear hyy
    have Hpa := Lib.hid hpa; clear hpa
    have Hfi := Lib.hid hfi; clear hfi
    have Hpf := Lib.hid hpf; clear hpf
    have Hff := Lib.hid hff; clear hff
    go_wp2_with (first
      | (go_at_call 30; refine Hva.out.mono ?_; rintro e w5 ⟨rfl, hb5⟩; obtain ⟨z0, z1, z2⟩ := Hyy.out _ hb5)
      | (go_at_call 31; refine (Hpa.out _).mono ?_; rintro e w6 ⟨rfl, rfl⟩)
      | (go_at_call 32; refine (Hfi.out _ hb5).mono ?_; rintro e w7 ⟨rfl, hb7⟩))
    refine HX.out.cond (t := true) rfl rfl ?_
    exact fi_three rfl rfl Ht.out Hg.out ((Hw4.out.later hb5).later hb7).kp
  rw [hff] at hfi
  obtain ⟨g1, q1, _, _⟩ := validB_true hv
  have hsm := small_of g1
  have Hva := Lib.hid hva; clear hva
  have Hv := Lib.hid hv; clear hv
  have Hw4 := Lib.hid hw4; clear hw4
  have Hm4 := Lib.hid hm4; clear hm4
  have Hyy := Lib.hid hyy; clear hyy
  have Hpa := Lib.hid hpa; clear hpa
  have Hfi := Lib.hid hfi; clear hfi
  have Hpf := Lib.hid hpf; clear hpf
  have Hff := Lib.hid hff; clear hff
  have G1 := Lib.hid g1; clear g1
  have Q1 := Lib.hid q1; clear q1
  have Hsm := Lib.hid hsm; clear hsm
  go_wp2_with (first
    | (go_at_call 30; refine Hva.out.mono ?_; rintro e w5 ⟨rfl, hb5⟩; obtain ⟨z0, z1, z2⟩ := Hyy.out _ hb5)
    | (go_at_call 31; refine (Hpa.out _).mono ?_; rintro e w6 ⟨rfl, rfl⟩)
    | (go_at_call 32; refine (Hfi.out _ hb5).mono ?_; rintro e w7 ⟨rfl, hb7⟩))
  refine HX.out.cond (t := false) rfl (congrArg Value.bool (decide_eq_false (by omega))) (HX.out.skip ?_)
  exact Hk.out mr gc gr _ _ MA mc Hmr.out Hsm.out Q1.out Hpf.out Hff.out rfl rfl rfl rfl rfl rfl rfl ((Hw4.out.later hb5).later hb7) ((Hm4.out.kp eqv_rul (Kp.below hb5)).kp eqv_rul (Kp.below hb7))
end
end Go.Proofs.YtlipmagkplbkdaaDoor

/-! Nh9 -/
namespace Go.Proofs.YtlipmagkplbkdaaDoor
open Go Go.Conc Go.RowKit Go.Sort Go.BigFrame
set_option linter.unusedVariables false
set_option linter.unusedSimpArgs false
section
variable {RA : Option Addr} {rc : Nat} {rs : List Rul} {s : Int} {c : Cel} {D : Option Addr} {d : Nat} {r : Rul} {A1 : Option Addr} {c1 : Nat} {A2 : Option Addr} {c2 : Nat} {v0 : World}
set_option maxRecDepth 100000 in
set_option maxHeartbeats 4000000 in
theorem fi_b {mr : List Rul} {gc gr : Nat} {MA : Option Addr} {mc : Nat} {a : Act} {v : World} {rest : Code} (hr : SlAt pRul (Old v0) v0 RA rc rs) (hda : SlAt (pI .i64) (Old v0) v0 D d c.mod.args) (hra : RulAt r (Old v0) v0 A1 c1 A2 c2) (h8 : Fits .u8 c.mod.name) (hs : Fits .i64 s) (ht : TabAt v0) (hg : GAt v0)
    (hmr : mr = r :: rs) (hsm : Small mr) (hcm : checkC mr = 0) (hpf : pathF c.path = true) (hff : fineF c.mod = true) (hz : a.tmps.size = 131) (hd : a.defers = []) (s0 : slot a 0 (.slice RA rs.length rc)) (s1 : slot a 1 (.int .i64 s)) (s6 : slot a 6 (.pointer (some ⟨gc, 0, none⟩))) (s7 : slot a 7 (.pointer (some ⟨gr, 0, none⟩))) (s9 : slot a 9 (.slice MA mr.length mc))
    (hw : FiW v0 v gc gr c D d r A1 c1 A2 c2) (hm : SlAt pRul (Old v) v MA mc mr)
    (hk : ∀ (x : List Cel) (e : Int) a v X xc, succR rs s c = (x, e) → a.tmps.size = 131 → a.defers = [] → slot a 0 (.slice RA rs.length rc) → slot a 1 (.int .i64 s) → slot a 6 (.pointer (some ⟨gc, 0, none⟩)) → slot a 10 (.slice X x.length xc) → slot a 11 (.int .i64 e) → slot a 14 (.int .i64 0) → slot a 15 (.bool false) →
      FiW v0 v gc gr c D d r A1 c1 A2 c2 → SlAt pCel (Old v) v X xc x → MS Tryd.prog SR gR sR (· = .bool true) [] none (bFi.at a [.code rest]) [] v) :
    MS Tryd.prog SR gR sR (· = .bool true) [] none (bFi.at a [.code (.seq fiR4 (.seq fiR5 (.seq (.seq fiR6 (.cond (.tmp 75) fiC7 .skip)) (.seq fiR8 rest))))]) [] v := by
  have hX : Walk Tryd.prog SR gR sR (MS Tryd.prog SR gR sR (· = .bool true) [] none) := MS.walk ctxR
  rw [act_lit131 hd hz]
  rw [show (a.tmps.getD 0 undef) = _ from s0, show (a.tmps.getD 1 undef) = _ from s1, show (a.tmps.getD 6 undef) = _ from s6, show (a.tmps.getD 7 undef) = _ from s7, show (a.tmps.getD 9 undef) = _ from s9]
  refine hX.seq (hX.wp ctxR rfl bFi_fn fokR4 fun τ t => ?_)
  have hw1 := hw.at2 τ t
  have hm1 := hm.kp eqv_rul (Kp.at2 v τ t)
  generalize Go.Proofs.YtlipmagkplbkdaaDoor.at2 v τ t = v1 at hw1 hm1 ⊢
  clear hw hm s0 s1 s6 s7 s9
  generalize (a.tmps.getD 2 undef) = j2
  generalize (a.tmps.getD 3 undef) = j3
  generalize (a.tmps.getD 4 undef) = j4
  generalize (a.tmps.getD 5 undef) = j5
  generalize (a.tmps.getD 8 undef) = j8
  generalize (a.tmps.getD 10 undef) = j10
  generalize (a.tmps.getD 11 undef) = j11
  generalize (a.tmps.getD 12 undef) = j12
  generalize (a.tmps.getD 13 undef) = j13
  generalize (a.tmps.getD 14 undef) = j14
  generalize (a.tmps.getD 15 undef) = j15
  generalize (a.tmps.getD 16 undef) = j16
  generalize (a.tmps.getD 17 undef) = j17
  generalize (a.tmps.getD 18 undef) = j18
  generalize (a.tmps.getD 19 undef) = j19
  generalize (a.tmps.getD 20 undef) = j20
  generalize (a.tmps.getD 21 undef) = j21
  generalize (a.tmps.getD 22 undef) = j22
  generalize (a.tmps.getD 23 undef) = j23
  generalize (a.tmps.getD 24 undef) = j24
  generalize (a.tmps.getD 25 undef) = j25
  generalize (a.tmps.getD 26 undef) = j26
  generalize (a.tmps.getD 27 undef) = j27
  generalize (a.tmps.getD 28 undef) = j28
  generalize (a.tmps.getD 29 undef) = j29
  generalize (a.tmps.getD 30 undef) = j30
  generalize (a.tmps.getD 31 undef) = j31
  generalize (a.tmps.getD 32 undef) = j32
  generalize (a.tmps.getD 33 undef) = j33
  generalize (a.tmps.getD 34 undef) = j34
  generalize (a.tmps.getD 35 undef) = j35
  generalize (a.tmps.getD 36 undef) = j36
  generalize (a.tmps.getD 37 undef) = j37
  generalize (a.tmps.getD 38 undef) = j38
  generalize (a.tmps.getD 39 undef) = j39
  generalize (a.tmps.getD 40 undef) = j40
  generalize (a.tmps.getD 41 undef) = j41
  generalize (a.tmps.getD 42 undef) = j42
  generalize (a.tmps.getD 43 undef) = j43
  generalize (a.tmps.getD 44 undef) = j44
  generalize (a.tmps.getD 45 undef) = j45
  generalize (a.tmps.getD 46 undef) = j46
  generalize (a.tmps.getD 47 undef) = j47
  generalize (a.tmps.getD 48 undef) = j48
  generalize (a.tmps.getD 49 undef) = j49
  generalize (a.tmps.getD 50 undef) = j50
  generalize (a.tmps.getD 51 undef) = j51
  generalize (a.tmps.getD 52 undef) = j52
  generalize (a.tmps.getD 53 undef) = j53
  generalize (a.tmps.getD 54 undef) = j54
  generalize (a.tmps.getD 55 undef) = j55
  generalize (a.tmps.getD 56 undef) = j56
  generalize (a.tmps.getD 57 undef) = j57
  generalize (a.tmps.getD 58 undef) = j58
  generalize (a.tmps.getD 59 undef) = j59
  generalize (a.tmps.getD 60 undef) = j60
  generalize (a.tmps.getD 61 undef) = j61
  generalize (a.tmps.getD 62 undef) = j62
  generalize (a.tmps.getD 63 undef) = j63
  generalize (a.tmps.getD 64 undef) = j64
  generalize (a.tmps.getD 65 undef) = j65
  generalize (a.tmps.getD 66 undef) = j66
  generalize (a.tmps.getD 67 undef) = j67
  generalize (a.tmps.getD 68 undef) = j68
  generalize (a.tmps.getD 69 undef) = j69
  generalize (a.tmps.getD 70 undef) = j70
  generalize (a.tmps.getD 71 undef) = j71
  generalize (a.tmps.getD 72 undef) = j72
  generalize (a.tmps.getD 73 undef) = j73
  generalize (a.tmps.getD 74 undef) = j74
  generalize (a.tmps.getD 75 undef) = j75
  generalize (a.tmps.getD 76 undef) = j76
  generalize (a.tmps.getD 77 undef) = j77
  generalize (a.tmps.getD 78 undef) = j78
  generalize (a.tmps.getD 79 undef) = j79
  generalize (a.tmps.getD 80 undef) = j80
  generalize (a.tmps.getD 81 undef) = j81
  generalize (a.tmps.getD 82 undef) = j82
  generalize (a.tmps.getD 83 undef) = j83
  generalize (a.tmps.getD 84 undef) = j84
  generalize (a.tmps.getD 85 undef) = j85
  generalize (a.tmps.getD 86 undef) = j86
  generalize (a.tmps.getD 87 undef) = j87
  generalize (a.tmps.getD 88 undef) = j88
  generalize (a.tmps.getD 89 undef) = j89
  generalize (a.tmps.getD 90 undef) = j90
  generalize (a.tmps.getD 91 undef) = j91
  generalize (a.tmps.getD 92 undef) = j92
  generalize (a.tmps.getD 93 undef) = j93
  generalize (a.tmps.getD 94 undef) = j94
  generalize (a.tmps.getD 95 undef) = j95
  generalize (a.tmps.getD 96 undef) = j96
  generalize (a.tmps.getD 97 undef) = j97
  generalize (a.tmps.getD 98 undef) = j98
  generalize (a.tmps.getD 99 undef) = j99
  generalize (a.tmps.getD 100 undef) = j100
  generalize (a.tmps.getD 101 undef) = j101
  generalize (a.tmps.getD 102 undef) = j102
  generalize (a.tmps.getD 103 undef) = j103
  generalize (a.tmps.getD 104 undef) = j104
  generalize (a.tmps.getD 105 undef) = j105
  generalize (a.tmps.getD 106 undef) = j106
  generalize (a.tmps.getD 107 undef) = j107
  generalize (a.tmps.getD 108 undef) = j108
  generalize (a.tmps.getD 109 undef) = j109
  generalize (a.tmps.getD 110 undef) = j110
  generalize (a.tmps.getD 111 undef) = j111
  generalize (a.tmps.getD 112 undef) = j112
  generalize (a.tmps.getD 113 undef) = j113
  generalize (a.tmps.getD 114 undef) = j114
  generalize (a.tmps.getD 115 undef) = j115
  generalize (a.tmps.getD 116 undef) = j116
  generalize (a.tmps.getD 117 undef) = j117
  generalize (a.tmps.getD 118 undef) = j118
  generalize (a.tmps.getD 119 undef) = j119
  generalize (a.tmps.getD 120 undef) = j120
  generalize (a.tmps.getD 121 undef) = j121
  generalize (a.tmps.getD 122 undef) = j122
  generalize (a.tmps.getD 123 undef) = j123
  generalize (a.tmps.getD 124 undef) = j124
  generalize (a.tmps.getD 125 undef) = j125
  generalize (a.tmps.getD 126 undef) = j126
  generalize (a.tmps.getD 127 undef) = j127
  generalize (a.tmps.getD 128 undef) = j128
  generalize (a.tmps.getD 129 undef) = j129
  generalize (a.tmps.getD 130 undef) = j130
  have hp3 := path_le hpf
  have hc0 : checkC rs = 0 := by rw [hmr] at hcm; exact checkC_tail9 hcm
  have hsm0 : Small rs := by rw [hmr] at hsm; exact small_tail9 hsm
  have hone := one_calls RA rc rs s c D d v1 (hr.kp eqv_rul hw1.kp) (hda.kp (eqv_i .i64) hw1.kp) h8 hs hsm0 hp3 (ht.kp hw1.kp hg) (hg.kp hw1.kp)
  have hone2 := fun w (k : FiW v0 w gc gr c D d r A1 c1 A2 c2) (hm : SlAt pRul (Old w) w MA mc mr) => one_calls MA mc mr s c D d w hm (hda.kp (eqv_i .i64) k.kp) h8 hs hsm hp3 (ht.kp k.kp hg) (hg.kp k.kp)
  rw [oneR_of hc0 hpf hff] at hone
  simp only [oneR_of hcm hpf hff] at hone2
  obtain ⟨⟨x, e⟩, hxe⟩ : ∃ p, succR rs s c = p := ⟨_, rfl⟩
  obtain ⟨⟨y, f⟩, hyf⟩ : ∃ p, succR mr s c = p := ⟨_, rfl⟩
  rw [hxe] at hone
  rw [hyf] at hone2
  unfold CelsPost at hone hone2
  simp only at hone hone2
  obtain ⟨y0, y1, y2⟩ := hw1.cc
  have Hr := Lib.hid hr; clear hr
  have Hda := Lib.hid hda; clear hda
  have Hra := Lib.hid hra; clear hra
  have Hs := Lib.hid hs; clear hs
  have Ht := Lib.hid ht; clear ht
  have Hg := Lib.hid hg; clear hg
  have Hmr := Lib.hid hmr; clear hmr
  have Hsm := Lib.hid hsm; clear hsm
  have Hcm := Lib.hid hcm; clear hcm
  have Hpf := Lib.hid hpf; clear hpf
  have Hff := Lib.hid hff; clear hff
  have Hk := Lib.hid hk; clear hk
  have HX := Lib.hid hX; clear hX
  have Hm1 := Lib.hid hm1; clear hm1
  have Hw1 := Lib.hid hw1; clear hw1
  have Hone := Lib.hid hone; clear hone
  have Hone2 := Lib.hid hone2; clear hone2
  have Hc0 := Lib.hid hc0; clear hc0
  have Hsm0 := Lib.hid hsm0; clear hsm0
  have Hxe := Lib.hid hxe; clear hxe
  have Hyf := Lib.hid hyf; clear hyf
  dsimp only [fiR4, fiB, Tryd.f6]
  go_wp2_with (go_at_call 27; refine Hone.out.mono ?_; rintro e1 w1 ⟨X, xc, rfl, hx, hb1⟩)
  have hx : SlAt pCel (Old w1) w1 X xc x := hx.wide fun q hq => hq.2
  have hw2 := Hw1.out.later hb1
  have hm2 := Hm1.out.kp eqv_rul (Kp.below hb1)
  clear Hw1 Hm1 y0 y1 y2 Hone hb1
  refine HX.out.seq (HX.out.wp ctxR rfl bFi_fn fokR5 fun τ t => ?_)
  have hw3 := hw2.at2 τ t
  have hm3 := hm2.kp eqv_rul (Kp.at2 w1 τ t)
  have hx3 := hx.kp eqv_cel (Kp.at2 w1 τ t)
  generalize Go.Proofs.YtlipmagkplbkdaaDoor.at2 w1 τ t = v3 at hw3 hm3 hx3 ⊢
  clear hw2 hm2 hx
  obtain ⟨y0, y1, y2⟩ := hw3.cc
  have hone3 := Hone2.out v3 hw3 hm3
  have Hw3 := Lib.hid hw3; clear hw3
  have Hm3 := Lib.hid hm3; clear hm3
  have Hx3 := Lib.hid hx3; clear hx3
  have Hone3 := Lib.hid hone3; clear hone3
  clear Hone2
  dsimp only [fiR5, fiB, Tryd.f6]
  go_wp2_with (go_at_call 27; refine Hone3.out.mono ?_; rintro e1 w4 ⟨Y, yc, rfl, hy, hb4⟩)
  have hy : SlAt pCel (Old w4) w4 Y yc y := hy.wide fun q hq => hq.2
  have hw4 := Hw3.out.later hb4
  have hx4 := Hx3.out.kp eqv_cel (Kp.below hb4)
  clear Hw3 Hm3 y0 y1 y2 Hone3 Hx3 hb4
  refine HX.out.seq (HX.out.seq (HX.out.wp ctxR rfl bFi_fn fokR6 fun τ t => ?_))
  have hw5 := hw4.at2 τ t
  have hx5 := hx4.kp eqv_cel (Kp.at2 w4 τ t)
  have hy5 := hy.kp eqv_cel (Kp.at2 w4 τ t)
  generalize Go.Proofs.YtlipmagkplbkdaaDoor.at2 w4 τ t = v5 at hw5 hx5 hy5 ⊢
  clear hw4 hx4 hy
  obtain ⟨y0, y1, y2⟩ := hw5.cc
  obtain ⟨x0, x1, x2, x3, x4, x5, x6⟩ := Blk.rul hw5.br
  have hco : coreR r = true := by
    have := Hcm.out
    rw [Hmr.out] at this
    exact (rval_of this).c r (by simp)
  have hft := fits_calls r A1 c1 A2 c2 D d c.mod v5 (Hra.out.kp hw5.kp) (Hda.out.kp (eqv_i .i64) hw5.kp) hco (fine_args Hff.out)
  unfold BoolPost at hft
  have hmxg := Hra.out.sg.lenle
  have hmxo := Hra.out.so.lenle
  have hmxd := Hda.out.lenle
  dsimp only [fiR6, fiB, Tryd.f6]
  have hfin : ∀ a v, a.tmps.size = 131 → a.defers = [] → slot a 0 (.slice RA rs.length rc) → slot a 1 (.int .i64 s) → slot a 6 (.pointer (some ⟨gc, 0, none⟩)) → slot a 10 (.slice X x.length xc) → slot a 11 (.int .i64 e) → FiW v0 v gc gr c D d r A1 c1 A2 c2 → SlAt pCel (Old v) v X xc x →
      MS Tryd.prog SR gR sR (· = .bool true) [] none (bFi.at a [.code (.seq fiR8 rest)]) [] v := by
    intro a v hz hd s0 s1 s6 s10 s11 hw hx
    rw [act_lit131 hd hz]
    rw [show (a.tmps.getD 0 undef) = _ from s0, show (a.tmps.getD 1 undef) = _ from s1, show (a.tmps.getD 6 undef) = _ from s6, show (a.tmps.getD 10 undef) = _ from s10, show (a.tmps.getD 11 undef) = _ from s11]
    refine HX.out.seq (HX.out.wp ctxR rfl bFi_fn fokR8 fun τ t => ?_)
    have hw6 := hw.at2 τ t
    have hx6 := hx.kp eqv_cel (Kp.at2 v τ t)
    generalize Go.Proofs.YtlipmagkplbkdaaDoor.at2 v τ t = v6 at hw6 hx6 ⊢
    clear hw hx s0 s1 s6 s10 s11 y0 y1 y2 x0 x1 x2 x3 x4 x5 x6 hft hw5 hx5 hy5
    generalize (a.tmps.getD 2 undef) = i2
    generalize (a.tmps.getD 3 undef) = i3
    generalize (a.tmps.getD 4 undef) = i4
    generalize (a.tmps.getD 5 undef) = i5
    generalize (a.tmps.getD 7 undef) = i7
    generalize (a.tmps.getD 8 undef) = i8
    generalize (a.tmps.getD 9 undef) = i9
    generalize (a.tmps.getD 12 undef) = i12
    generalize (a.tmps.getD 13 undef) = i13
    generalize (a.tmps.getD 14 undef) = i14
    generalize (a.tmps.getD 15 undef) = i15
    generalize (a.tmps.getD 16 undef) = i16
    generalize (a.tmps.getD 17 undef) = i17
    generalize (a.tmps.getD 18 undef) = i18
    generalize (a.tmps.getD 19 undef) = i19
    generalize (a.tmps.getD 20 undef) = i20
    generalize (a.tmps.getD 21 undef) = i21
    generalize (a.tmps.getD 22 undef) = i22
    generalize (a.tmps.getD 23 undef) = i23
    generalize (a.tmps.getD 24 undef) = i24
    generalize (a.tmps.getD 25 undef) = i25
    generalize (a.tmps.getD 26 undef) = i26
    generalize (a.tmps.getD 27 undef) = i27
    generalize (a.tmps.getD 28 undef) = i28
    generalize (a.tmps.getD 29 undef) = i29
    generalize (a.tmps.getD 30 undef) = i30
    generalize (a.tmps.getD 31 undef) = i31
    generalize (a.tmps.getD 32 undef) = i32
    generalize (a.tmps.getD 33 undef) = i33
    generalize (a.tmps.getD 34 undef) = i34
    generalize (a.tmps.getD 35 undef) = i35
    generalize (a.tmps.getD 36 undef) = i36
    generalize (a.tmps.getD 37 undef) = i37
    generalize (a.tmps.getD 38 undef) = i38
    generalize (a.tmps.getD 39 undef) = i39
    generalize (a.tmps.getD 40 undef) = i40
    generalize (a.tmps.getD 41 undef) = i41
    generalize (a.tmps.getD 42 undef) = i42
    generalize (a.tmps.getD 43 undef) = i43
    generalize (a.tmps.getD 44 undef) = i44
    generalize (a.tmps.getD 45 undef) = i45
    generalize (a.tmps.getD 46 undef) = i46
    generalize (a.tmps.getD 47 undef) = i47
    generalize (a.tmps.getD 48 undef) = i48
    generalize (a.tmps.getD 49 undef) = i49
    generalize (a.tmps.getD 50 undef) = i50
    generalize (a.tmps.getD 51 undef) = i51
    generalize (a.tmps.getD 52 undef) = i52
    generalize (a.tmps.getD 53 undef) = i53
    generalize (a.tmps.getD 54 undef) = i54
    generalize (a.tmps.getD 55 undef) = i55
    generalize (a.tmps.getD 56 undef) = i56
    generalize (a.tmps.getD 57 undef) = i57
    generalize (a.tmps.getD 58 undef) = i58
    generalize (a.tmps.getD 59 undef) = i59
    generalize (a.tmps.getD 60 undef) = i60
    generalize (a.tmps.getD 61 undef) = i61
    generalize (a.tmps.getD 62 undef) = i62
    generalize (a.tmps.getD 63 undef) = i63
    generalize (a.tmps.getD 64 undef) = i64
    generalize (a.tmps.getD 65 undef) = i65
    generalize (a.tmps.getD 66 undef) = i66
    generalize (a.tmps.getD 67 undef) = i67
    generalize (a.tmps.getD 68 undef) = i68
    generalize (a.tmps.getD 69 undef) = i69
    generalize (a.tmps.getD 70 undef) = i70
    generalize (a.tmps.getD 71 undef) = i71
    generalize (a.tmps.getD 72 undef) = i72
    generalize (a.tmps.getD 73 undef) = i73
    generalize (a.tmps.getD 74 undef) = i74
    generalize (a.tmps.getD 75 undef) = i75
    generalize (a.tmps.getD 76 undef) = i76
    generalize (a.tmps.getD 77 undef) = i77
    generalize (a.tmps.getD 78 undef) = i78
    generalize (a.tmps.getD 79 undef) = i79
    generalize (a.tmps.getD 80 undef) = i80
    generalize (a.tmps.getD 81 undef) = i81
    generalize (a.tmps.getD 82 undef) = i82
    generalize (a.tmps.getD 83 undef) = i83
    generalize (a.tmps.getD 84 undef) = i84
    generalize (a.tmps.getD 85 undef) = i85
    generalize (a.tmps.getD 86 undef) = i86
    generalize (a.tmps.getD 87 undef) = i87
    generalize (a.tmps.getD 88 undef) = i88
    generalize (a.tmps.getD 89 undef) = i89
    generalize (a.tmps.getD 90 undef) = i90
    generalize (a.tmps.getD 91 undef) = i91
    generalize (a.tmps.getD 92 undef) = i92
    generalize (a.tmps.getD 93 undef) = i93
    generalize (a.tmps.getD 94 undef) = i94
    generalize (a.tmps.getD 95 undef) = i95
    generalize (a.tmps.getD 96 undef) = i96
    generalize (a.tmps.getD 97 undef) = i97
    generalize (a.tmps.getD 98 undef) = i98
    generalize (a.tmps.getD 99 undef) = i99
    generalize (a.tmps.getD 100 undef) = i100
    generalize (a.tmps.getD 101 undef) = i101
    generalize (a.tmps.getD 102 undef) = i102
    generalize (a.tmps.getD 103 undef) = i103
    generalize (a.tmps.getD 104 undef) = i104
    generalize (a.tmps.getD 105 undef) = i105
    generalize (a.tmps.getD 106 undef) = i106
    generalize (a.tmps.getD 107 undef) = i107
    generalize (a.tmps.getD 108 undef) = i108
    generalize (a.tmps.getD 109 undef) = i109
    generalize (a.tmps.getD 110 undef) = i110
    generalize (a.tmps.getD 111 undef) = i111
    generalize (a.tmps.getD 112 undef) = i112
    generalize (a.tmps.getD 113 undef) = i113
    generalize (a.tmps.getD 114 undef) = i114
    generalize (a.tmps.getD 115 undef) = i115
    generalize (a.tmps.getD 116 undef) = i116
    generalize (a.tmps.getD 117 undef) = i117
    generalize (a.tmps.getD 118 undef) = i118
    generalize (a.tmps.getD 119 undef) = i119
    generalize (a.tmps.getD 120 undef) = i120
    generalize (a.tmps.getD 121 undef) = i121
    generalize (a.tmps.getD 122 undef) = i122
    generalize (a.tmps.getD 123 undef) = i123
    generalize (a.tmps.getD 124 undef) = i124
    generalize (a.tmps.getD 125 undef) = i125
    generalize (a.tmps.getD 126 undef) = i126
    generalize (a.tmps.getD 127 undef) = i127
    generalize (a.tmps.getD 128 undef) = i128
    generalize (a.tmps.getD 129 undef) = i129
    generalize (a.tmps.getD 130 undef) = i130
    have Hw6 := Lib.hid hw6; clear hw6
    have Hx6 := Lib.hid hx6; clear hx6
    dsimp only [fiR8, fiB, Tryd.f6]
    go_wp2
    exact Hk.out x e _ _ X xc Hxe.out rfl rfl rfl rfl rfl rfl rfl rfl rfl Hw6.out Hx6.out
  cases hfr : fitsF r c.mod
  case true =>
    rw [hfr] at hft
    have Hft := Lib.hid hft; clear hft
    have Hw5 := Lib.hid hw5; clear hw5
    have Hx5 := Lib.hid hx5; clear hx5
    have Hy5 := Lib.hid hy5; clear hy5
    have Hfr := Lib.hid hfr; clear hfr
    have Hco := Lib.hid hco; clear hco
    have Hfin := Lib.hid hfin; clear hfin
    go_wp2_with (go_at_call 34; refine Hft.out.mono ?_; rintro e1 w6 ⟨rfl, hb6⟩)
    refine HX.out.cond (t := false) rfl rfl (HX.out.skip ?_)
    exact Hfin.out _ _ rfl rfl rfl rfl rfl rfl rfl (Hw5.out.later hb6) (Hx5.out.kp eqv_cel (Kp.below hb6))
  case false =>
    rw [hfr] at hft
    have hsame : (y, f) = (x, e) := by rw [← Hyf.out, ← Hxe.out, Hmr.out]; exact succR_cons_no hfr
    injection hsame with h1 h2
    subst h1 h2
    have hsc := fun w (k : Kp v5 w) => sameC_calls X Y xc yc y y w (hx5.kp eqv_cel k) (hy5.kp eqv_cel k)
    simp only [beq_self_eq_true] at hsc
    unfold BoolPost at hsc
    have Hft := Lib.hid hft; clear hft
    have Hw5 := Lib.hid hw5; clear hw5
    have Hx5 := Lib.hid hx5; clear hx5
    have Hy5 := Lib.hid hy5; clear hy5
    have Hfr := Lib.hid hfr; clear hfr
    have Hco := Lib.hid hco; clear hco
    have Hfin := Lib.hid hfin; clear hfin
    have Hsc := Lib.hid hsc; clear hsc
    go_wp2_with (first
      | (go_at_call 34; refine Hft.out.mono ?_; rintro e1 w6 ⟨rfl, hb6⟩)
      | (go_at_call 15; refine (Hsc.out _ (Kp.below hb6)).mono ?_; rintro e1 w7 ⟨rfl, hb7⟩))
    refine HX.out.cond (t := false) rfl rfl (HX.out.skip ?_)
    exact Hfin.out _ _ rfl rfl rfl rfl rfl rfl rfl ((Hw5.out.later hb6).later hb7) ((Hx5.out.kp eqv_cel (Kp.below hb6)).kp eqv_cel (Kp.below hb7))
end
end Go.Proofs.YtlipmagkplbkdaaDoor

/-! Ni9 -/
namespace Go.Proofs.YtlipmagkplbkdaaDoor
open Go Go.Conc Go.RowKit Go.Sort Go.BigFrame
set_option linter.unusedVariables false
set_option linter.unusedSimpArgs false
theorem sl_one9 {F : Nat → Prop} {w : World} {b o cap : Nat} {xs : List Rul} {r : Rul} {k : Nat} (h : SlAt pRul F w (some ⟨b, o, none⟩) cap xs) (hk : xs[k]? = some r) : SlAt pRul F w (some ⟨b, o + k * 7, none⟩) (cap - k) [r] := by
  have hlt := (List.getElem?_eq_some_iff.1 hk).1
  have hle := h.le
  refine ⟨by simp; omega, by have := h.mx; omega, (fun e => by cases e), fun j x hx => ?_⟩
  have hj : j = 0 := by have := (List.getElem?_eq_some_iff.1 hx).1; simpa using this
  subst hj
  obtain rfl : x = r := by simpa using hx.symm
  obtain ⟨b', o', cs, h1, h2, h3, h4⟩ := h.el k x hk
  cases h1
  refine ⟨b, o + k * 7, cs, rfl, h2, h3, fun q c hq => ?_⟩
  have := h4 q c hq
  rwa [Nat.zero_mul, Nat.add_zero]
section
variable {RA : Option Addr} {rc : Nat} {rs : List Rul} {s : Int} {c : Cel} {D : Option Addr} {d : Nat} {r : Rul} {A1 : Option Addr} {c1 : Nat} {A2 : Option Addr} {c2 : Nat} {v0 : World}
set_option maxRecDepth 100000 in
set_option maxHeartbeats 4000000 in
theorem fi_loop {gc gr : Nat} {a : Act} {v : World} {rest : Code} {x : List Cel} {e : Int} {X : Option Addr} {xc : Nat} (hr : SlAt pRul (Old v0) v0 RA rc rs) (hda : SlAt (pI .i64) (Old v0) v0 D d c.mod.args) (h8 : Fits .u8 c.mod.name) (hs : Fits .i64 s) (ht : TabAt v0) (hg : GAt v0)
    (hsm : Small rs) (hcm : checkC rs = 0) (hpf : pathF c.path = true) (hff : fineF c.mod = true) (hz : a.tmps.size = 131) (hd : a.defers = []) (s0 : slot a 0 (.slice RA rs.length rc)) (s1 : slot a 1 (.int .i64 s)) (s6 : slot a 6 (.pointer (some ⟨gc, 0, none⟩))) (s10 : slot a 10 (.slice X x.length xc)) (s11 : slot a 11 (.int .i64 e)) (s14 : slot a 14 (.int .i64 0)) (s15 : slot a 15 (.bool false))
    (hw : FiW v0 v gc gr c D d r A1 c1 A2 c2) (hx : SlAt pCel (Old v) v X xc x)
    (hk : ∀ a v, a.tmps.size = 131 → a.defers = [] → slot a 6 (.pointer (some ⟨gc, 0, none⟩)) → slot a 10 (.slice X x.length xc) → slot a 11 (.int .i64 e) → slot a 14 (.int .i64 ((fitN c.mod rs : Nat) : Int)) → slot a 15 (.bool (sameN s c e x rs)) →
      FiW v0 v gc gr c D d r A1 c1 A2 c2 → SlAt pCel (Old v) v X xc x → MS Tryd.prog SR gR sR (· = .bool true) [] none (bFi.at a [.code rest]) [] v) :
    MS Tryd.prog SR gR sR (· = .bool true) [] none (bFi.at a [.code (.seq fiL rest)]) [] v := by
  have hX : Walk Tryd.prog SR gR sR (MS Tryd.prog SR gR sR (· = .bool true) [] none) := MS.walk ctxR
  rw [act_lit131 hd hz]
  rw [show (a.tmps.getD 0 undef) = _ from s0, show (a.tmps.getD 1 undef) = _ from s1, show (a.tmps.getD 6 undef) = _ from s6, show (a.tmps.getD 10 undef) = _ from s10, show (a.tmps.getD 11 undef) = _ from s11, show (a.tmps.getD 14 undef) = _ from s14, show (a.tmps.getD 15 undef) = _ from s15]
  refine hX.seq (hX.wp ctxR rfl bFi_fn fokL fun τ t => ?_)
  have hw1 := hw.at2 τ t
  have hx1 := hx.kp eqv_cel (Kp.at2 v τ t)
  generalize Go.Proofs.YtlipmagkplbkdaaDoor.at2 v τ t = v1 at hw1 hx1 ⊢
  clear hw hx s0 s1 s6 s10 s11 s14 s15
  generalize (a.tmps.getD 2 undef) = j2
  generalize (a.tmps.getD 3 undef) = j3
  generalize (a.tmps.getD 4 undef) = j4
  generalize (a.tmps.getD 5 undef) = j5
  generalize (a.tmps.getD 7 undef) = j7
  generalize (a.tmps.getD 8 undef) = j8
  generalize (a.tmps.getD 9 undef) = j9
  generalize (a.tmps.getD 12 undef) = j12
  generalize (a.tmps.getD 13 undef) = j13
  generalize (a.tmps.getD 16 undef) = j16
  generalize (a.tmps.getD 17 undef) = j17
  generalize (a.tmps.getD 18 undef) = j18
  generalize (a.tmps.getD 19 undef) = j19
  generalize (a.tmps.getD 20 undef) = j20
  generalize (a.tmps.getD 21 undef) = j21
  generalize (a.tmps.getD 22 undef) = j22
  generalize (a.tmps.getD 23 undef) = j23
  generalize (a.tmps.getD 24 undef) = j24
  generalize (a.tmps.getD 25 undef) = j25
  generalize (a.tmps.getD 26 undef) = j26
  generalize (a.tmps.getD 27 undef) = j27
  generalize (a.tmps.getD 28 undef) = j28
  generalize (a.tmps.getD 29 undef) = j29
  generalize (a.tmps.getD 30 undef) = j30
  generalize (a.tmps.getD 31 undef) = j31
  generalize (a.tmps.getD 32 undef) = j32
  generalize (a.tmps.getD 33 undef) = j33
  generalize (a.tmps.getD 34 undef) = j34
  generalize (a.tmps.getD 35 undef) = j35
  generalize (a.tmps.getD 36 undef) = j36
  generalize (a.tmps.getD 37 undef) = j37
  generalize (a.tmps.getD 38 undef) = j38
  generalize (a.tmps.getD 39 undef) = j39
  generalize (a.tmps.getD 40 undef) = j40
  generalize (a.tmps.getD 41 undef) = j41
  generalize (a.tmps.getD 42 undef) = j42
  generalize (a.tmps.getD 43 undef) = j43
  generalize (a.tmps.getD 44 undef) = j44
  generalize (a.tmps.getD 45 undef) = j45
  generalize (a.tmps.getD 46 undef) = j46
  generalize (a.tmps.getD 47 undef) = j47
  generalize (a.tmps.getD 48 undef) = j48
  generalize (a.tmps.getD 49 undef) = j49
  generalize (a.tmps.getD 50 undef) = j50
  generalize (a.tmps.getD 51 undef) = j51
  generalize (a.tmps.getD 52 undef) = j52
  generalize (a.tmps.getD 53 undef) = j53
  generalize (a.tmps.getD 54 undef) = j54
  generalize (a.tmps.getD 55 undef) = j55
  generalize (a.tmps.getD 56 undef) = j56
  generalize (a.tmps.getD 57 undef) = j57
  generalize (a.tmps.getD 58 undef) = j58
  generalize (a.tmps.getD 59 undef) = j59
  generalize (a.tmps.getD 60 undef) = j60
  generalize (a.tmps.getD 61 undef) = j61
  generalize (a.tmps.getD 62 undef) = j62
  generalize (a.tmps.getD 63 undef) = j63
  generalize (a.tmps.getD 64 undef) = j64
  generalize (a.tmps.getD 65 undef) = j65
  generalize (a.tmps.getD 66 undef) = j66
  generalize (a.tmps.getD 67 undef) = j67
  generalize (a.tmps.getD 68 undef) = j68
  generalize (a.tmps.getD 69 undef) = j69
  generalize (a.tmps.getD 70 undef) = j70
  generalize (a.tmps.getD 71 undef) = j71
  generalize (a.tmps.getD 72 undef) = j72
  generalize (a.tmps.getD 73 undef) = j73
  generalize (a.tmps.getD 74 undef) = j74
  generalize (a.tmps.getD 75 undef) = j75
  generalize (a.tmps.getD 76 undef) = j76
  generalize (a.tmps.getD 77 undef) = j77
  generalize (a.tmps.getD 78 undef) = j78
  generalize (a.tmps.getD 79 undef) = j79
  generalize (a.tmps.getD 80 undef) = j80
  generalize (a.tmps.getD 81 undef) = j81
  generalize (a.tmps.getD 82 undef) = j82
  generalize (a.tmps.getD 83 undef) = j83
  generalize (a.tmps.getD 84 undef) = j84
  generalize (a.tmps.getD 85 undef) = j85
  generalize (a.tmps.getD 86 undef) = j86
  generalize (a.tmps.getD 87 undef) = j87
  generalize (a.tmps.getD 88 undef) = j88
  generalize (a.tmps.getD 89 undef) = j89
  generalize (a.tmps.getD 90 undef) = j90
  generalize (a.tmps.getD 91 undef) = j91
  generalize (a.tmps.getD 92 undef) = j92
  generalize (a.tmps.getD 93 undef) = j93
  generalize (a.tmps.getD 94 undef) = j94
  generalize (a.tmps.getD 95 undef) = j95
  generalize (a.tmps.getD 96 undef) = j96
  generalize (a.tmps.getD 97 undef) = j97
  generalize (a.tmps.getD 98 undef) = j98
  generalize (a.tmps.getD 99 undef) = j99
  generalize (a.tmps.getD 100 undef) = j100
  generalize (a.tmps.getD 101 undef) = j101
  generalize (a.tmps.getD 102 undef) = j102
  generalize (a.tmps.getD 103 undef) = j103
  generalize (a.tmps.getD 104 undef) = j104
  generalize (a.tmps.getD 105 undef) = j105
  generalize (a.tmps.getD 106 undef) = j106
  generalize (a.tmps.getD 107 undef) = j107
  generalize (a.tmps.getD 108 undef) = j108
  generalize (a.tmps.getD 109 undef) = j109
  generalize (a.tmps.getD 110 undef) = j110
  generalize (a.tmps.getD 111 undef) = j111
  generalize (a.tmps.getD 112 undef) = j112
  generalize (a.tmps.getD 113 undef) = j113
  generalize (a.tmps.getD 114 undef) = j114
  generalize (a.tmps.getD 115 undef) = j115
  generalize (a.tmps.getD 116 undef) = j116
  generalize (a.tmps.getD 117 undef) = j117
  generalize (a.tmps.getD 118 undef) = j118
  generalize (a.tmps.getD 119 undef) = j119
  generalize (a.tmps.getD 120 undef) = j120
  generalize (a.tmps.getD 121 undef) = j121
  generalize (a.tmps.getD 122 undef) = j122
  generalize (a.tmps.getD 123 undef) = j123
  generalize (a.tmps.getD 124 undef) = j124
  generalize (a.tmps.getD 125 undef) = j125
  generalize (a.tmps.getD 126 undef) = j126
  generalize (a.tmps.getD 127 undef) = j127
  generalize (a.tmps.getD 128 undef) = j128
  generalize (a.tmps.getD 129 undef) = j129
  generalize (a.tmps.getD 130 undef) = j130
  have hp3 := path_le hpf
  have hv := rval_of hcm
  have hmx := hr.lenle
  have hmxd := hda.lenle
  have hargs := fine_args hff
  have hl40 := hv.l
  have hn0 : fitN c.mod (rs.take 0) = 0 := rfl
  have hs0 : sameN s c e x (rs.take 0) = false := rfl
  have Hr := Lib.hid hr; clear hr
  have Hda := Lib.hid hda; clear hda
  have Hs := Lib.hid hs; clear hs
  have Ht := Lib.hid ht; clear ht
  have Hg := Lib.hid hg; clear hg
  have Hsm := Lib.hid hsm; clear hsm
  have Hcm := Lib.hid hcm; clear hcm
  have Hpf := Lib.hid hpf; clear hpf
  have Hff := Lib.hid hff; clear hff
  have Hk := Lib.hid hk; clear hk
  have HX := Lib.hid hX; clear hX
  have Hw1 := Lib.hid hw1; clear hw1
  have Hx1 := Lib.hid hx1; clear hx1
  have Hv := Lib.hid hv; clear hv
  have Hargs := Lib.hid hargs; clear hargs
  have Hn0 := Lib.hid hn0; clear hn0
  have Hs0 := Lib.hid hs0; clear hs0
  dsimp only [fiL, fiB, Tryd.f6]
  go_wp2
  go_loopw [16, 14, 15] (fun i f sm wr => ∃ (k n : Nat) (b : Bool), k ≤ rs.length ∧ i = .int .i64 k ∧ f = .int .i64 n ∧ sm = .bool b ∧ n ≤ k ∧ Hid (fitN c.mod (rs.take k) = n) ∧ Hid (sameN s c e x (rs.take k) = b) ∧ Hid (FiW v0 wr gc gr c D d r A1 c1 A2 c2) ∧ Hid (SlAt pCel (Old wr) wr X xc x)) (fun i _ _ _ => rs.length - (intOf i).toNat)
  case atStart => exact ⟨0, 0, false, Nat.zero_le _, rfl, rfl, rfl, Nat.le_refl _, Hn0, Hs0, Hw1, Hx1⟩
  case round =>
    obtain ⟨k, n, b, hk', rfl, rfl, rfl, hnk, hn, hb, hw, hx⟩ := hrel
    obtain ⟨wo, rfl⟩ : ∃ wo : World, wo = wr := ⟨_, rfl⟩
    by_cases hlt : k < rs.length
    case neg =>
      obtain rfl : k = rs.length := by omega
      have hn' := hn.out
      have hb' := hb.out
      rw [List.take_length] at hn' hb'
      have hk2 := Hk.out
      rw [hn', hb'] at hk2
      have Hk2 := Lib.hid hk2; clear hk2
      clear hn' hb' hn hb
      go_wp2
      exact Hk2.out _ _ rfl rfl rfl rfl rfl rfl rfl hw.out hx.out
    case pos =>
      obtain ⟨b7, o7, A7, c7, A8, c8, q, hdr, rfl, hob7, k0, k1, k2, k3, k4, k5, k6, hat, hl1, hl8⟩ := (Hr.out.kp eqv_rul hw.out.kp).getRulAt hlt
      have hrk : rs[k]? = some q := get_of_drop hdr.out
      have hco1 : coreR q = true := Hv.out.c q (mem_of_drop hdr.out)
      have hq1 : checkC [q] = 0 := checkC_one9 Hcm.out (mem_of_drop hdr.out)
      have hsq : Small [q] := small_one9 Hsm.out (mem_of_drop hdr.out)
      obtain ⟨y0, y1, y2⟩ := hw.out.cc
      have g0 := cell_regrown k0
      have g1 := cell_regrown k1
      have g2 := cell_regrown k2
      have g3 := cell_regrown k3
      have g4 := cell_regrown k4
      have g5 := cell_regrown k5
      have g6 := cell_regrown k6
      have p1 := cell_regrown y1
      have p2 := cell_regrown y2
      have hdw := Hda.out.kp (eqv_i .i64) hw.out.kp
      have hcall : ∀ (p : Nat) (os : Array Obj), Calls Tryd.prog 34 #[.agg #[.int .u8 q.name, .int .i64 q.arity, .int .u8 q.left, .int .u8 q.right, .slice A7 q.guards.length c7, .int .i64 q.weight, .slice A8 q.out.length c8], .agg #[.int .u8 c.mod.name, .slice D c.mod.args.length d]] (grow (redrawn wo p) os) fun e w'' => e = .returned (.bool (fitsF q c.mod)) ∧ ∃ p : Regrown, w'' = grow (redrawn wo p.d) p.os := fun p os =>
        have hg := below_regrown wo p os
        Calls.regrown_of (fits_calls q A7 c7 A8 c8 D d c.mod _ (hat.out.to (Nat.le_refl _) hg) (hdw.later hg) hco1 Hargs.out)
      have hk0 : (0 : Int) ≤ (k : Int) := Int.natCast_nonneg _
      have hk1 : (k : Int) < (rs.length : Int) := by omega
      have hfn := fitN_snoc (m := c.mod) hrk
      have hsn := sameN_snoc (s := s) (c := c) (e := e) (x := x) hrk
      rw [hn.out] at hfn
      rw [hb.out] at hsn
      generalize hmn : fitsF q c.mod = t at hcall hfn hsn
      have hwk : ∀ w2 : World, Below wo.heap.size wo w2 → FiW v0 w2 gc gr c D d r A1 c1 A2 c2 ∧ SlAt pCel (Old w2) w2 X xc x ∧ SlAt pRul (Old w2) w2 (some ⟨b7, o7, none⟩) rc rs := fun w2 hw2 => ⟨hw.out.later hw2, hx.out.kp eqv_cel (Kp.below hw2), Hr.out.kp eqv_rul (hw.out.later hw2).kp⟩
      have Hcall := Lib.hid hcall; clear hcall
      have Hrk := Lib.hid hrk; clear hrk
      have Hat := Lib.hid hat; clear hat
      have Hdr := Lib.hid hdr; clear hdr
      have Hfn := Lib.hid hfn; clear hfn
      have Hsn := Lib.hid hsn; clear hsn
      have Hmn := Lib.hid hmn; clear hmn
      have Hwk := Lib.hid hwk; clear hwk
      have Hq1 := Lib.hid hq1; clear hq1
      have Hsq := Lib.hid hsq; clear hsq
      have Hdw := Lib.hid hdw; clear hdw
      clear k0 k1 k2 k3 k4 k5 k6 y0 y1 y2 hn hb hco1
      go_upto_region 12 with fail
      refine wp_region_quiet_below (by kernel_rfl) (by kernel_rfl) ?_
      repeat (quiet_step (exact Hcall.out _ _))
      refine wpQuiet_nil ?_
      intro _ hw'
      obtain ⟨⟨dq, osq⟩, hw''⟩ := hw'
      subst hw''
      have hb2 := below_regrown wo dq osq
      generalize grow (redrawn wo dq) osq = w2 at hb2 ⊢
      clear g0 g1 g2 g3 g4 g5 g6 p1 p2 hw hx
      obtain ⟨hw2, hx2, hr2⟩ := Hwk.out w2 hb2
      clear Hwk hb2
      cases t
      · have hn1 : fitN c.mod (rs.take (k + 1)) = n := by rw [Hfn.out]; rfl
        have hs1 : sameN s c e x (rs.take (k + 1)) = b := by rw [Hsn.out, Bool.false_and, Bool.or_false]
        have Hn1 := Lib.hid hn1; clear hn1
        have Hs1 := Lib.hid hs1; clear hs1
        have Hw2 := Lib.hid hw2; clear hw2
        have Hx2 := Lib.hid hx2; clear hx2
        clear hr2
        go_wp2
        go_roundw
        case rel => exact ⟨k + 1, n, b, hlt, by go_num, rfl, rfl, by omega, Hn1, Hs1, Hw2, Hx2⟩
        case measure => simp [intOf]; omega
      · have hn1 : fitN c.mod (rs.take (k + 1)) = n + 1 := by rw [Hfn.out]; rfl
        have hs1 : sameN s c e x (rs.take (k + 1)) = (b || (decide ((succR [q] s c).2 = e) && (x == (succR [q] s c).1))) := by rw [Hsn.out, Bool.true_and]
        obtain ⟨⟨z, g⟩, hzg⟩ : ∃ p, succR [q] s c = p := ⟨_, rfl⟩
        rw [hzg] at hs1
        simp only at hs1
        have hbd : Below w2.heap.size w2 w2.drew := below_drew (Below.refl _ _)
        have hwd := hw2.later hbd
        have hr3 := hr2.kp eqv_rul (Kp.below hbd)
        have hx3 := hx2.kp eqv_cel (Kp.below hbd)
        have hone : Calls Tryd.prog 27 #[.slice (some ⟨b7, o7 + k * 7, none⟩) 1 (rc - k), .int .i64 s, .agg #[.string c.path, .int .u8 c.mod.name, .slice D c.mod.args.length d]] w2.drew (CelsPost (oneR [q] s c) w2.drew) :=
          one_calls (some ⟨b7, o7 + k * 7, none⟩) (rc - k) [q] s c D d w2.drew (sl_one9 hr3 Hrk.out) (Hda.out.kp (eqv_i .i64) hwd.kp) h8 Hs.out Hsq.out hp3 (Ht.out.kp hwd.kp Hg.out) (Hg.out.kp hwd.kp)
        rw [oneR_of Hq1.out Hpf.out Hff.out, hzg] at hone
        unfold CelsPost at hone
        simp only at hone
        obtain ⟨y0, y1, y2⟩ := hw2.cc
        have kp1 : ∀ w : World, Below w2.drew.heap.size w2.drew w → w.cell? ⟨gc, 0, none⟩ = some (.string c.path) ∧ w.cell? ⟨gc, 1, none⟩ = some (.int .u8 c.mod.name) ∧ w.cell? ⟨gc, 2, none⟩ = some (.slice D c.mod.args.length d) := fun w hb => (hwd.later hb).cc
        have hwr : IntKind.i64.wrap ((k : Int) + 1) = (k : Int) + 1 := IntWalk.i64_in _ (by omega)
        have hi0 : (0 : Int) ≤ (k : Int) + 1 := by omega
        have hi1 : (k : Int) + 1 ≤ (rc : Int) := by omega
        have hi2 : ((k : Int) + 1).toNat = k + 1 := by omega
        have hi3 : ¬ rc = k := by omega
        have hi4 : (k : Int) ≤ (k : Int) + 1 := by omega
        have Hn1 := Lib.hid hn1; clear hn1
        have Hs1 := Lib.hid hs1; clear hs1
        have Hwd := Lib.hid hwd; clear hwd
        have Hx3 := Lib.hid hx3; clear hx3
        have Hr3 := Lib.hid hr3; clear hr3
        have Hzg := Lib.hid hzg; clear hzg
        have Hone := Lib.hid hone; clear hone
        have Kp1 := Lib.hid kp1; clear kp1
        clear hw2 hx2 hr2 hbd
        go_upto_region 14 with fail
        go_region_held3 (fun w' => w'.cell? ⟨gc, 0, none⟩ = some (.string c.path) ∧ w'.cell? ⟨gc, 1, none⟩ = some (.int .u8 c.mod.name) ∧ w'.cell? ⟨gc, 2, none⟩ = some (.slice D c.mod.args.length d))
          (first | go_keep | exact Kp1.out _ hb3)
          (first
            | (go_at_call 27; with_reducible refine Hone.out.mono ?_; rintro e1 w3 ⟨Z, zc, rfl, hz3, hb3⟩))
        have hzz : SlAt pCel (Old w3) w3 Z zc z := hz3.wide fun q hq => hq.2
        have hw3 := Hwd.out.later hb3
        have hx4 := Hx3.out.kp eqv_cel (Kp.below hb3)
        clear hz3 hb3 Hone Kp1 y0 y1 y2 Hwd Hx3 Hr3 hwr hi0 hi1 hi2 hi3 hi4
        cases b
        · by_cases hge : g = e
          · have e0 : (g == e) = true := by simp [hge]
            have hsc := sameC_calls X Z xc zc x z w3 hx4 hzz
            have hs2 : sameN s c e x (rs.take (k + 1)) = (x == z) := by rw [Hs1.out]; simp [hge]
            unfold BoolPost at hsc
            generalize (x == z) = bb at hsc hs2
            have Hsc := Lib.hid hsc; clear hsc
            have Hs2 := Lib.hid hs2; clear hs2
            have Hw3 := Lib.hid hw3; clear hw3
            have Hx4 := Lib.hid hx4; clear hx4
            have Hzz := Lib.hid hzz; clear hzz
            clear hge
            go_wp2_with (go_at_call 15; refine Hsc.out.mono ?_; rintro e1 w4 ⟨rfl, hb4⟩)
            have hw4 := Hw3.out.later hb4
            have hx5 := Hx4.out.kp eqv_cel (Kp.below hb4)
            have Hw4 := Lib.hid hw4; clear hw4
            have Hx5 := Lib.hid hx5; clear hx5
            go_roundw
            case rel => exact ⟨k + 1, n + 1, bb, hlt, by go_num, by go_num, rfl, by omega, Hn1, Hs2, Hw4, Hx5⟩
            case measure => simp [intOf]; omega
          · have e0 : (g == e) = false := by simp [hge]
            have hs2 : sameN s c e x (rs.take (k + 1)) = false := by rw [Hs1.out]; simp [hge]
            have Hs2 := Lib.hid hs2; clear hs2
            have Hw3 := Lib.hid hw3; clear hw3
            have Hx4 := Lib.hid hx4; clear hx4
            have Hzz := Lib.hid hzz; clear hzz
            clear hge
            go_wp2
            go_roundw
            case rel => exact ⟨k + 1, n + 1, false, hlt, by go_num, by go_num, rfl, by omega, Hn1, Hs2, Hw3, Hx4⟩
            case measure => simp [intOf]; omega
        · have hs2 : sameN s c e x (rs.take (k + 1)) = true := by rw [Hs1.out]; rfl
          have Hs2 := Lib.hid hs2; clear hs2
          have Hw3 := Lib.hid hw3; clear hw3
          have Hx4 := Lib.hid hx4; clear hx4
          have Hzz := Lib.hid hzz; clear hzz
          go_wp2
          go_roundw
          case rel => exact ⟨k + 1, n + 1, true, hlt, by go_num, by go_num, rfl, by omega, Hn1, Hs2, Hw3, Hx4⟩
          case measure => simp [intOf]; omega
end
end Go.Proofs.YtlipmagkplbkdaaDoor

/-! Nj9 -/
namespace Go.Proofs.YtlipmagkplbkdaaDoor
open Go Go.Conc Go.RowKit
set_option linter.unusedVariables false
set_option linter.unusedSimpArgs false
noncomputable def fiO16 : Array Oper := match fiR16 with | .region _ o _ => o | _ => #[]
theorem fiR16_eq : fiR16 = .region 16 fiO16 false := by kernel_rfl
theorem fiz16 : List.range fiO16.size = [0, 1] := by kernel_rfl
theorem dec_zeroF : decide ((0 : Int) = 0) = true := rfl
set_option maxRecDepth 100000 in
set_option maxHeartbeats 4000000 in
theorem fi_none {ch : Option Nat} {v v0 : World} {a : Act} {gc gr : Nat} {X : Option Addr} {xc dd : Nat} {c : Cel} {D : Option Addr} {r : Rul} {A1 A2 : Option Addr} {c1 c2 : Nat} (hz : a.tmps.size = 131) (hd : a.defers = []) (s6 : slot a 6 (.pointer (some ⟨gc, 0, none⟩))) (s10 : slot a 10 (.slice X 1 xc)) (s11 : slot a 11 (.int .i64 0)) (s14 : slot a 14 (.int .i64 0)) (h8 : Fits .u8 c.mod.name) (hps : c.path.size ≤ maxLen) (hda : SlAt (pI .i64) (Old v0) v0 D dd c.mod.args) (hw : FiW v0 v gc gr c D dd r A1 c1 A2 c2) (hx : SlAt pCel (Old v) v X xc [c]) (ht : TabAt v0) (hg : GAt v0) :
    MS Tryd.prog SR gR sR (· = .bool true) [] ch (bFi.at a [.code fiT]) [] v := by
  have hXX : ∀ ch, Walk Tryd.prog SR gR sR (MS Tryd.prog SR gR sR (· = .bool true) [] ch) := fun ch => MS.walk ctxR
  have hX := hXX ch
  unfold fiT
  rw [fiR16_eq]
  refine hX.seq (hX.seq (hX.region ?_))
  rw [fiz16]
  have k0 := hw.kp
  refine hX.val (v' := v) (some 114) (.int .i64 0) (show fiO16[0]? = some _ from rfl) (by kernel_rfl) rfl rfl (fun τ d => run_moveX a.eval (.tmp 14) (.inl rfl) s14) ?_
  have hd : (a.put (some 114) (.int .i64 0)).defers = [] := hd
  have s6 := slot_ne (d := 114) (x := .int .i64 0) s6 (by decide)
  have s10 := slot_ne (d := 114) (x := .int .i64 0) s10 (by decide)
  have s11 := slot_ne (d := 114) (x := .int .i64 0) s11 (by decide)
  clear s14
  have s114 := slot_same (a := a) (d := 114) (x := .int .i64 0) (by rw [hz]; decide)
  have hz : (a.put (some 114) (.int .i64 0)).tmps.size = 131 := size_put hz
  generalize (a.put (some 114) (.int .i64 0)) = y16_1 at hz hd s6 s10 s11 s114 ⊢
  refine hX.val (v' := v) (some 115) (.bool true) (show fiO16[1]? = some _ from rfl) (by kernel_rfl) rfl rfl (fun τ d => (run_eql y16_1.eval 3 3 (.tmp 114) _ rfl Tryd.underlying3 (m := 0) s114 (n := 0) rfl).trans (by rw [dec_zeroF])) ?_
  have hd : (y16_1.put (some 115) (.bool true)).defers = [] := hd
  have s6 := slot_ne (d := 115) (x := .bool true) s6 (by decide)
  have s10 := slot_ne (d := 115) (x := .bool true) s10 (by decide)
  have s11 := slot_ne (d := 115) (x := .bool true) s11 (by decide)
  clear s114
  have s115 := slot_same (a := y16_1) (d := 115) (x := .bool true) (by rw [hz]; decide)
  have hz : (y16_1.put (some 115) (.bool true)).tmps.size = 131 := size_put hz
  generalize (y16_1.put (some 115) (.bool true)) = y16_2 at hz hd s6 s10 s11 s115 ⊢
  refine hX.done (hX.cond (t := true) rfl s115 (hX.seq (hX.region ?_)))
  rw [fiz17]
  refine hX.val (v' := v) (some 116) (.int .i64 0) (show fiO17[0]? = some _ from rfl) (by kernel_rfl) rfl rfl (fun τ d => run_moveX y16_2.eval (.tmp 11) (.inl rfl) s11) ?_
  have hd : (y16_2.put (some 116) (.int .i64 0)).defers = [] := hd
  have s6 := slot_ne (d := 116) (x := .int .i64 0) s6 (by decide)
  have s10 := slot_ne (d := 116) (x := .int .i64 0) s10 (by decide)
  clear s11
  clear s115
  have s116 := slot_same (a := y16_2) (d := 116) (x := .int .i64 0) (by rw [hz]; decide)
  have hz : (y16_2.put (some 116) (.int .i64 0)).tmps.size = 131 := size_put hz
  generalize (y16_2.put (some 116) (.int .i64 0)) = y17_1 at hz hd s6 s10 s116 ⊢
  refine hX.val (v' := v) (some 117) (.bool true) (show fiO17[1]? = some _ from rfl) (by kernel_rfl) rfl rfl (fun τ d => (run_eql y17_1.eval 27 27 (.tmp 116) _ rfl Tryd.underlying27 (m := 0) s116 (n := 0) rfl).trans (by rw [dec_zeroF])) ?_
  have hd : (y17_1.put (some 117) (.bool true)).defers = [] := hd
  have s6 := slot_ne (d := 117) (x := .bool true) s6 (by decide)
  have s10 := slot_ne (d := 117) (x := .bool true) s10 (by decide)
  clear s116
  have s117 := slot_same (a := y17_1) (d := 117) (x := .bool true) (by rw [hz]; decide)
  have hz : (y17_1.put (some 117) (.bool true)).tmps.size = 131 := size_put hz
  generalize (y17_1.put (some 117) (.bool true)) = y17_2 at hz hd s6 s10 s117 ⊢
  refine hX.val (v' := v) (some 118) (.bool true) (show fiO17[2]? = some _ from rfl) (by kernel_rfl) rfl rfl (fun τ d => run_moveX y17_2.eval (.tmp 117) (.inl rfl) s117) ?_
  have hd : (y17_2.put (some 118) (.bool true)).defers = [] := hd
  have s6 := slot_ne (d := 118) (x := .bool true) s6 (by decide)
  have s10 := slot_ne (d := 118) (x := .bool true) s10 (by decide)
  clear s117
  have s118 := slot_same (a := y17_2) (d := 118) (x := .bool true) (by rw [hz]; decide)
  have hz : (y17_2.put (some 118) (.bool true)).tmps.size = 131 := size_put hz
  generalize (y17_2.put (some 118) (.bool true)) = y17_3 at hz hd s6 s10 s118 ⊢
  refine hX.valG (v' := v) (some 119) (.slice X 1 xc) (show fiO17[3]? = some _ from rfl) (by kernel_rfl) (wanted_yes rfl (show fiO17[2]? = some _ from rfl) rfl s118) rfl (fun τ d => run_moveX y17_3.eval (.tmp 10) (.inl rfl) s10) ?_
  have hd : (y17_3.put (some 119) (.slice X 1 xc)).defers = [] := hd
  have s6 := slot_ne (d := 119) (x := .slice X 1 xc) s6 (by decide)
  clear s10
  have s118 := slot_ne (d := 119) (x := .slice X 1 xc) s118 (by decide)
  have s119 := slot_same (a := y17_3) (d := 119) (x := .slice X 1 xc) (by rw [hz]; decide)
  have hz : (y17_3.put (some 119) (.slice X 1 xc)).tmps.size = 131 := size_put hz
  generalize (y17_3.put (some 119) (.slice X 1 xc)) = y17_4 at hz hd s6 s118 s119 ⊢
  refine hX.valG (v' := v) (some 120) (.agg #[.string c.path, .int .u8 c.mod.name, .slice D c.mod.args.length dd]) (show fiO17[4]? = some _ from rfl) (by kernel_rfl) (wanted_yes rfl (show fiO17[2]? = some _ from rfl) rfl s118) rfl (fun τ d => run_loadL y17_4.eval 51 (.tmp 6) rfl gc 0 s6 [.string c.path, .int .u8 c.mod.name, .slice D c.mod.args.length dd] _ (range_blk (hw.at2 τ d).bc 0 _ fun j u hj => by rw [Nat.zero_add]; simpa using hj) Tryd.underlying51 rfl (by kernel_rfl)) ?_
  have hd : (y17_4.put (some 120) (.agg #[.string c.path, .int .u8 c.mod.name, .slice D c.mod.args.length dd])).defers = [] := hd
  clear s6
  have s118 := slot_ne (d := 120) (x := .agg #[.string c.path, .int .u8 c.mod.name, .slice D c.mod.args.length dd]) s118 (by decide)
  have s119 := slot_ne (d := 120) (x := .agg #[.string c.path, .int .u8 c.mod.name, .slice D c.mod.args.length dd]) s119 (by decide)
  have s120 := slot_same (a := y17_4) (d := 120) (x := .agg #[.string c.path, .int .u8 c.mod.name, .slice D c.mod.args.length dd]) (by rw [hz]; decide)
  have hz : (y17_4.put (some 120) (.agg #[.string c.path, .int .u8 c.mod.name, .slice D c.mod.args.length dd])).tmps.size = 131 := size_put hz
  generalize (y17_4.put (some 120) (.agg #[.string c.path, .int .u8 c.mod.name, .slice D c.mod.args.length dd])) = y17_5 at hz hd s118 s119 s120 ⊢
  refine hX.valG (v' := v.alloc (.cells #[.string c.path, .int .u8 c.mod.name, .slice D c.mod.args.length dd] 51)) (some 121) (.slice (some ⟨v.heap.size, 0, none⟩) 1 1) (show fiO17[5]? = some _ from rfl) (by kernel_rfl) (wanted_yes rfl (show fiO17[2]? = some _ from rfl) rfl s118) rfl (fun τ d => run_bsL9 y17_5.eval (.tmp 120) rfl s120 (run_buildSlice1 Tryd.underlying26 info_cel rfl (by decide) (by decide) _ rfl (Go.Proofs.YtlipmagkplbkdaaDoor.at2 v τ d))) ?_
  have hbx : SlAt pCel (Old (v.alloc (.cells #[.string c.path, .int .u8 c.mod.name, .slice D c.mod.args.length dd] 51))) (v.alloc (.cells #[.string c.path, .int .u8 c.mod.name, .slice D c.mod.args.length dd] 51)) (some ⟨v.heap.size, 0, none⟩) 1 [c] := by
    refine (sl_boxed (E := pCel) (F := Old v) (u := .agg #[.string c.path, .int .u8 c.mod.name, .slice D c.mod.args.length dd]) ⟨D, dd, rfl, hps, h8, hda.kp (eqv_i .i64) hw.kp⟩ (fun q hq => hq)).wide ?_
    intro q hq
    rcases hq with hq | rfl
    · have : q < v.heap.size := hq
      unfold Old; simp; omega
    · unfold Old; simp
  have hx := hx.kp eqv_cel (Kp.alloc v (.cells #[.string c.path, .int .u8 c.mod.name, .slice D c.mod.args.length dd] 51))
  have k0 := k0.trans (Kp.alloc v (.cells #[.string c.path, .int .u8 c.mod.name, .slice D c.mod.args.length dd] 51))
  generalize v.alloc (.cells #[.string c.path, .int .u8 c.mod.name, .slice D c.mod.args.length dd] 51) = vb at hbx hx k0 ⊢
  generalize hgb : v.heap.size = gb at hbx ⊢
  have hd : (y17_5.put (some 121) (.slice (some ⟨gb, 0, none⟩) 1 1)).defers = [] := hd
  have s118 := slot_ne (d := 121) (x := .slice (some ⟨gb, 0, none⟩) 1 1) s118 (by decide)
  have s119 := slot_ne (d := 121) (x := .slice (some ⟨gb, 0, none⟩) 1 1) s119 (by decide)
  clear s120
  have s121 := slot_same (a := y17_5) (d := 121) (x := .slice (some ⟨gb, 0, none⟩) 1 1) (by rw [hz]; decide)
  have hz : (y17_5.put (some 121) (.slice (some ⟨gb, 0, none⟩) 1 1)).tmps.size = 131 := size_put hz
  generalize (y17_5.put (some 121) (.slice (some ⟨gb, 0, none⟩) 1 1)) = y17_6 at hz hd s118 s119 s121 ⊢
  refine hX.calls ctxR (f := 15) (args := #[.slice X 1 xc, .slice (some ⟨gb, 0, none⟩) 1 1]) (show fiO17[6]? = some _ from rfl) (by kernel_rfl) (wanted_yes rfl (show fiO17[2]? = some _ from rfl) rfl s118) (show LR.contains 15 = true by kernel_rfl) (fun τ d => Eq.trans (b := .ok (.enter 15 #[y17_6.eval (.tmp 119), y17_6.eval (.tmp 121)]) (Go.Proofs.YtlipmagkplbkdaaDoor.at2 vb τ d)) (by kernel_rfl) (by rw [show y17_6.eval (.tmp 119) = _ from s119, show y17_6.eval (.tmp 121) = _ from s121])) (fun τ d => ?_)
  have hsc : Calls Tryd.prog 15 #[.slice X 1 xc, .slice (some ⟨gb, 0, none⟩) 1 1] (Go.Proofs.YtlipmagkplbkdaaDoor.at2 vb τ d) (BoolPost ([c] == [c]) (Go.Proofs.YtlipmagkplbkdaaDoor.at2 vb τ d)) := sameC_calls X (some ⟨gb, 0, none⟩) xc 1 [c] [c] _ (hx.kp eqv_cel (Kp.at2 vb τ d)) (hbx.kp eqv_cel (Kp.at2 vb τ d))
  rw [beq_self_eq_true] at hsc
  unfold BoolPost at hsc
  refine hsc.mono ?_
  rintro e' w' ⟨rfl, hb⟩
  have k0 := (k0.trans (Kp.at2 vb τ d)).trans (Kp.below hb)
  refine ⟨_, rfl, ?_⟩
  show MS Tryd.prog SR gR sR (· = .bool true) [] ch (bFi.at (y17_6.put (some 122) (.bool true)) _) [] w'
  have hd : (y17_6.put (some 122) (.bool true)).defers = [] := hd
  have s118 := slot_ne (d := 122) (x := .bool true) s118 (by decide)
  clear s119
  clear s121
  have s122 := slot_same (a := y17_6) (d := 122) (x := .bool true) (by rw [hz]; decide)
  have hz : (y17_6.put (some 122) (.bool true)).tmps.size = 131 := size_put hz
  generalize (y17_6.put (some 122) (.bool true)) = y17_7 at hz hd s118 s122 ⊢
  refine hX.val (v' := w') (some 123) (.bool true) (show fiO17[7]? = some _ from rfl) (by kernel_rfl) rfl rfl (fun τ d => run_pickT y17_7.eval (.tmp 118) (.tmp 122) _ rfl s118 s122) ?_
  have hd : (y17_7.put (some 123) (.bool true)).defers = [] := hd
  clear s118
  clear s122
  have s123 := slot_same (a := y17_7) (d := 123) (x := .bool true) (by rw [hz]; decide)
  have hz : (y17_7.put (some 123) (.bool true)).tmps.size = 131 := size_put hz
  generalize (y17_7.put (some 123) (.bool true)) = y17_8 at hz hd s123 ⊢
  refine hX.val (v' := w') (some 124) (.bool true) (show fiO17[8]? = some _ from rfl) (by kernel_rfl) rfl rfl (fun τ d => run_moveX y17_8.eval (.tmp 123) (.inl rfl) s123) ?_
  have hd : (y17_8.put (some 124) (.bool true)).defers = [] := hd
  clear s123
  have s124 := slot_same (a := y17_8) (d := 124) (x := .bool true) (by rw [hz]; decide)
  have hz : (y17_8.put (some 124) (.bool true)).tmps.size = 131 := size_put hz
  generalize (y17_8.put (some 124) (.bool true)) = y17_9 at hz hd s124 ⊢
  refine MS.enter ctxR (show fiO17[9]? = some _ from rfl) (wanted_yes rfl (show fiO17[8]? = some _ from rfl) rfl s124) rfl (by kernel_rfl) ⟨_, _, Tryd.func33, alBody, by kernel_rfl⟩ ?_
  show MS Tryd.prog SR gR sR (· = .bool true) [] _ (Frame.enter Tryd.prog 33 ((#[] : Array Operand).map y17_9.eval) .normal) _ w'
  rw [map_none]
  refine alive_ms (ht.kp k0 hg) (hg.kp k0) ?_
  intro ch a' va10 todo hd' q0 kk
  have hX := hXX ch
  refine hX.back' (x := .bool true) rfl rfl Tryd.func33 (show fiO17[9]? = some _ from rfl) (fun τ d => (results_one (p := 0) rfl _).trans (congrArg (fun z => Result.ok z _) (show (a'.tmps.getD 0 undef) = _ from q0))) ?_
  show MS Tryd.prog SR gR sR (· = .bool true) [] ch (bFi.at (y17_9.put (some 125) (.bool true)) _) [] va10
  have k0 := k0.trans kk
  clear kk
  have hd : (y17_9.put (some 125) (.bool true)).defers = [] := hd
  have s124 := slot_ne (d := 125) (x := .bool true) s124 (by decide)
  have s125 := slot_same (a := y17_9) (d := 125) (x := .bool true) (by rw [hz]; decide)
  have hz : (y17_9.put (some 125) (.bool true)).tmps.size = 131 := size_put hz
  generalize (y17_9.put (some 125) (.bool true)) = y17_11 at hz hd s124 s125 ⊢
  refine hX.val (v' := va10) (some 126) (.bool true) (show fiO17[10]? = some _ from rfl) (by kernel_rfl) rfl rfl (fun τ d => run_pickT y17_11.eval (.tmp 124) (.tmp 125) _ rfl s124 s125) ?_
  have hd : (y17_11.put (some 126) (.bool true)).defers = [] := hd
  clear s124
  clear s125
  have s126 := slot_same (a := y17_11) (d := 126) (x := .bool true) (by rw [hz]; decide)
  have hz : (y17_11.put (some 126) (.bool true)).tmps.size = 131 := size_put hz
  generalize (y17_11.put (some 126) (.bool true)) = y17_12 at hz hd s126 ⊢
  refine hX.val (v' := va10) (some 8) (.bool true) (show fiO17[11]? = some _ from rfl) (by kernel_rfl) rfl rfl (fun τ d => run_moveX y17_12.eval (.tmp 126) (.inr rfl) s126) ?_
  have hd : (y17_12.put (some 8) (.bool true)).defers = [] := hd
  clear s126
  have s8 := slot_same (a := y17_12) (d := 8) (x := .bool true) (by rw [hz]; decide)
  have hz : (y17_12.put (some 8) (.bool true)).tmps.size = 131 := size_put hz
  generalize (y17_12.put (some 8) (.bool true)) = y17_13 at hz hd s8 ⊢
  exact hX.done (hX.ret (fi_fin hd s8))
set_option maxRecDepth 100000 in
set_option maxHeartbeats 4000000 in
theorem fi_some {ch : Option Nat} {v v0 : World} {a : Act} {n : Int} (hz : a.tmps.size = 131) (hd : a.defers = []) (s14 : slot a 14 (.int .i64 n)) (s15 : slot a 15 (.bool true)) (h1 : decide (n = 0) = false) (k0 : Kp v0 v) (ht : TabAt v0) (hg : GAt v0) :
    MS Tryd.prog SR gR sR (· = .bool true) [] ch (bFi.at a [.code fiT]) [] v := by
  have hXX : ∀ ch, Walk Tryd.prog SR gR sR (MS Tryd.prog SR gR sR (· = .bool true) [] ch) := fun ch => MS.walk ctxR
  have hX := hXX ch
  unfold fiT
  rw [fiR16_eq]
  refine hX.seq (hX.seq (hX.region ?_))
  rw [fiz16]
  refine hX.val (v' := v) (some 114) (.int .i64 n) (show fiO16[0]? = some _ from rfl) (by kernel_rfl) rfl rfl (fun τ d => run_moveX a.eval (.tmp 14) (.inl rfl) s14) ?_
  have hd : (a.put (some 114) (.int .i64 n)).defers = [] := hd
  clear s14
  have s15 := slot_ne (d := 114) (x := .int .i64 n) s15 (by decide)
  have s114 := slot_same (a := a) (d := 114) (x := .int .i64 n) (by rw [hz]; decide)
  have hz : (a.put (some 114) (.int .i64 n)).tmps.size = 131 := size_put hz
  generalize (a.put (some 114) (.int .i64 n)) = y16_1 at hz hd s15 s114 ⊢
  refine hX.val (v' := v) (some 115) (.bool false) (show fiO16[1]? = some _ from rfl) (by kernel_rfl) rfl rfl (fun τ d => (run_eql y16_1.eval 3 3 (.tmp 114) _ rfl Tryd.underlying3 (m := n) s114 (n := 0) rfl).trans (by rw [h1])) ?_
  have hd : (y16_1.put (some 115) (.bool false)).defers = [] := hd
  have s15 := slot_ne (d := 115) (x := .bool false) s15 (by decide)
  clear s114
  have s115 := slot_same (a := y16_1) (d := 115) (x := .bool false) (by rw [hz]; decide)
  have hz : (y16_1.put (some 115) (.bool false)).tmps.size = 131 := size_put hz
  generalize (y16_1.put (some 115) (.bool false)) = y16_2 at hz hd s15 s115 ⊢
  refine hX.done (hX.cond (t := false) rfl s115 (hX.skip ?_))
  refine hX.seq (hX.region ?_)
  rw [fiz18]
  refine hX.val (v' := v) (some 127) (.bool true) (show fiO18[0]? = some _ from rfl) (by kernel_rfl) rfl rfl (fun τ d => run_moveX y16_2.eval (.tmp 15) (.inl rfl) s15) ?_
  have hd : (y16_2.put (some 127) (.bool true)).defers = [] := hd
  clear s15
  clear s115
  have s127 := slot_same (a := y16_2) (d := 127) (x := .bool true) (by rw [hz]; decide)
  have hz : (y16_2.put (some 127) (.bool true)).tmps.size = 131 := size_put hz
  generalize (y16_2.put (some 127) (.bool true)) = y18_1 at hz hd s127 ⊢
  refine hX.val (v' := v) (some 128) (.bool true) (show fiO18[1]? = some _ from rfl) (by kernel_rfl) rfl rfl (fun τ d => run_moveX y18_1.eval (.tmp 127) (.inl rfl) s127) ?_
  have hd : (y18_1.put (some 128) (.bool true)).defers = [] := hd
  clear s127
  have s128 := slot_same (a := y18_1) (d := 128) (x := .bool true) (by rw [hz]; decide)
  have hz : (y18_1.put (some 128) (.bool true)).tmps.size = 131 := size_put hz
  generalize (y18_1.put (some 128) (.bool true)) = y18_2 at hz hd s128 ⊢
  refine MS.enter ctxR (show fiO18[2]? = some _ from rfl) (wanted_yes rfl (show fiO18[1]? = some _ from rfl) rfl s128) rfl (by kernel_rfl) ⟨_, _, Tryd.func33, alBody, by kernel_rfl⟩ ?_
  show MS Tryd.prog SR gR sR (· = .bool true) [] _ (Frame.enter Tryd.prog 33 ((#[] : Array Operand).map y18_2.eval) .normal) _ v
  rw [map_none]
  refine alive_ms (ht.kp k0 hg) (hg.kp k0) ?_
  intro ch a' va3 todo hd' q0 kk
  have hX := hXX ch
  refine hX.back' (x := .bool true) rfl rfl Tryd.func33 (show fiO18[2]? = some _ from rfl) (fun τ d => (results_one (p := 0) rfl _).trans (congrArg (fun z => Result.ok z _) (show (a'.tmps.getD 0 undef) = _ from q0))) ?_
  show MS Tryd.prog SR gR sR (· = .bool true) [] ch (bFi.at (y18_2.put (some 129) (.bool true)) _) [] va3
  have k0 := k0.trans kk
  clear kk
  have hd : (y18_2.put (some 129) (.bool true)).defers = [] := hd
  have s128 := slot_ne (d := 129) (x := .bool true) s128 (by decide)
  have s129 := slot_same (a := y18_2) (d := 129) (x := .bool true) (by rw [hz]; decide)
  have hz : (y18_2.put (some 129) (.bool true)).tmps.size = 131 := size_put hz
  generalize (y18_2.put (some 129) (.bool true)) = y18_4 at hz hd s128 s129 ⊢
  refine hX.val (v' := va3) (some 130) (.bool true) (show fiO18[3]? = some _ from rfl) (by kernel_rfl) rfl rfl (fun τ d => run_pickT y18_4.eval (.tmp 128) (.tmp 129) _ rfl s128 s129) ?_
  have hd : (y18_4.put (some 130) (.bool true)).defers = [] := hd
  clear s128
  clear s129
  have s130 := slot_same (a := y18_4) (d := 130) (x := .bool true) (by rw [hz]; decide)
  have hz : (y18_4.put (some 130) (.bool true)).tmps.size = 131 := size_put hz
  generalize (y18_4.put (some 130) (.bool true)) = y18_5 at hz hd s130 ⊢
  refine hX.val (v' := va3) (some 8) (.bool true) (show fiO18[4]? = some _ from rfl) (by kernel_rfl) rfl rfl (fun τ d => run_moveX y18_5.eval (.tmp 130) (.inr rfl) s130) ?_
  have hd : (y18_5.put (some 8) (.bool true)).defers = [] := hd
  clear s130
  have s8 := slot_same (a := y18_5) (d := 8) (x := .bool true) (by rw [hz]; decide)
  have hz : (y18_5.put (some 8) (.bool true)).tmps.size = 131 := size_put hz
  generalize (y18_5.put (some 8) (.bool true)) = y18_6 at hz hd s8 ⊢
  exact hX.done (hX.ret (fi_fin hd s8))
set_option maxRecDepth 100000 in
theorem fi_ms {RA : Option Addr} {rc : Nat} {rs : List Rul} {s : Int} {c : Cel} {D : Option Addr} {d : Nat} {r : Rul} {A1 : Option Addr} {c1 : Nat} {A2 : Option Addr} {c2 : Nat} {v0 : World} (hr : SlAt pRul (Old v0) v0 RA rc rs) (hda : SlAt (pI .i64) (Old v0) v0 D d c.mod.args) (hra : RulAt r (Old v0) v0 A1 c1 A2 c2) (h8 : Fits .u8 c.mod.name) (hps : c.path.size ≤ maxLen) (hs : Fits .i64 s) (hrl : rs.length * 80 ≤ 140737488351232) (ht : TabAt v0) (hg : GAt v0) :
    MS Tryd.prog SR gR sR (· = .bool true) [] none (Frame.enter Tryd.prog 6 #[.slice RA rs.length rc, .int .i64 s, .agg #[.string c.path, .int .u8 c.mod.name, .slice D c.mod.args.length d], .agg #[.int .u8 r.name, .int .i64 r.arity, .int .u8 r.left, .int .u8 r.right, .slice A1 r.guards.length c1, .int .i64 r.weight, .slice A2 r.out.length c2]] .normal) [] v0 := by
  refine fi_a hr hda hra h8 (by unfold maxLen at hps; omega) hs hrl ht hg ?_
  intro mr gc gr a v MA mc hmr hsm hcm hpf hff hz hd s0 s1 s6 s7 s9 hw hm
  have hsm0 : Small rs := by rw [hmr] at hsm; exact small_tail9 hsm
  have hcm0 : checkC rs = 0 := by rw [hmr] at hcm; exact checkC_tail9 hcm
  have hlaw := fits_law hcm0 s c
  refine fi_b hr hda hra h8 hs ht hg hmr hsm hcm hpf hff hz hd s0 s1 s6 s7 s9 hw hm ?_
  clear s0 s1 s6 s7 s9 hw hm hz hd
  intro x e a v X xc hxe hz hd s0 s1 s6 s10 s11 s14 s15 hw hx
  rw [hxe] at hlaw
  refine fi_loop hr hda h8 hs ht hg hsm0 hcm0 hpf hff hz hd s0 s1 s6 s10 s11 s14 s15 hw hx ?_
  clear s0 s1 s6 s10 s11 s14 s15 hw hx hz hd
  intro a v hz hd s6 s10 s11 s14 s15 hw hx
  by_cases h0 : fitN c.mod rs = 0
  · have h1 := hlaw.1 h0
    injection h1 with h1 h2
    subst h1 h2
    rw [h0] at s14
    exact fi_none hz hd s6 s10 s11 s14 h8 hps hda hw hx ht hg
  · have h1 := hlaw.2 h0
    simp only at h1
    rw [h1] at s15
    exact fi_some hz hd s14 s15 (by simp; omega) hw.kp ht hg
theorem arg_cel {F : Nat → Prop} {w : World} {cs : Array Value} {m : Cel} (h : pCel.R F w (Value.agg cs).cells.toList m) : ∃ A c, cs = #[.string m.path, .int .u8 m.mod.name, .slice A m.mod.args.length c] ∧ m.path.size ≤ maxLen ∧ Fits .u8 m.mod.name ∧ SlAt (pI .i64) F w A c m.mod.args := by
  obtain ⟨A, c, h1, h2, h3, h4⟩ := h
  exact ⟨A, c, Array.toList_inj.1 (by simpa [Value.cells] using h1), h2, h3, h4⟩
theorem agg_good {S : FuncId → Prop} {ρ : Ren} {cs : Array Value} (h : ∀ x ∈ (Value.agg cs).cells.toList, VRel S ρ x x) : VRel S ρ (.agg cs) (.agg cs) :=
  .agg _ _ rfl fun i h1 h2 => h _ (by show cs[i] ∈ cs.toList; simp)
end Go.Proofs.YtlipmagkplbkdaaDoor
