/-
  Layer 8: the walk of the reference's search for a rule that fits.
-/
import Derived.Test.YtpeknefmjdipmaaGreatDoorCg
namespace Go.Proofs.YtpeknefmjdipmaaGreatDoor
open Go.RowKit Go.Sort Go.BigFrame

theorem firstC_none {q : Rul → Bool} : ∀ {rs : List Rul} {k : Nat}, (∀ r ∈ rs, q r = false) → firstC q rs k = -1
  | [], _, _ => rfl
  | r :: rs, k, h => by rw [firstC_no (h r (by simp))]; exact firstC_none fun x hx => h x (by simp [hx])
theorem core_plain {r : Rul} (h : coreR r = true) : plainC r.name = true := by
  unfold coreR at h; unfold plainC
  simp only [Bool.and_eq_true] at h ⊢
  exact h.1.1.1.1.1
theorem findC_bracket {p : ByteArray} {rs : List Rul} {ms : List Mod} {i : Nat} {m : Mod} (hm : ms[i]? = some m) (h : rs.all coreR = true) (hp : plainC m.name = false) : findC p rs ms i = -1 :=
  firstC_none fun r hr => by
    rw [fitC_of hm]
    have hc := core_plain (List.all_eq_true.1 h r hr)
    have hn : (r.name != m.name) = true := by
      cases hx : (r.name != m.name)
      · have he : r.name = m.name := by simpa using hx
        rw [he, hp] at hc; cases hc
      · rfl
    rw [fitsF_name hn]; rfl
theorem plainC_brk {c : Int} (h : plainC c = true) : brkB c = false := by
  unfold plainC at h; unfold brkB
  simp only [Bool.and_eq_true, bne_iff_ne] at h
  simp [h.1.2, h.2]
theorem below_same {P : Program} {f : FuncId} {args : Array Value} {v : Value} {w : World} (h : Calls P f args w fun e w' => e = .returned v ∧ w = w') : Calls P f args w fun e w' => e = .returned v ∧ Below w.heap.size w w' :=
  h.mono fun _ _ ⟨he, hw⟩ => ⟨he, by rw [← hw]; exact Below.refl _ _⟩
theorem fitC_steps (p : ByteArray) (ms : List Mod) (i : Nat) (m : Mod) (r : Rul) (hm : ms[i]? = some m) :
    (fitC p ms i r = false ∧ fitsF r m = false) ∨ (fitsF r m = true ∧ ((fitC p ms i r = false ∧ atB ms (leftF p ms i) r.left = false) ∨
      (atB ms (leftF p ms i) r.left = true ∧ ((fitC p ms i r = false ∧ atB ms (rightF p ms i) r.right = false) ∨ (fitC p ms i r = true ∧ atB ms (rightF p ms i) r.right = true))))) := by
  rw [fitC_of hm]
  cases fitsF r m <;> cases atB ms (leftF p ms i) r.left <;> cases atB ms (rightF p ms i) r.right <;> simp

end Go.Proofs.YtpeknefmjdipmaaGreatDoor
