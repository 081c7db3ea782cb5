/-
  Layer 43, plain: the order of tries, and the best one.
-/
import Derived.Test.YtfeafembifdklaaZh
namespace Go.Proofs.Ytfeafembifdklaa
open Go.RowKit Go.Sort

/-- the next list of a cube; none: there is none -/
def nextF : List Int → List Int → List Int → Option (List Int)
  | _ :: lo, b :: hi, x :: xs => match nextF lo hi xs with
    | some ys => some (x :: ys)
    | none => if x < b then some ((x + 1) :: lo) else none
  | _, _, _ => none
/-- the n numbers behind x -/
def upN (x : Int) : Nat → List Int
  | 0 => []
  | n + 1 => (x + 1) :: upN (x + 1) n
/-- the lists of a cube behind a list -/
def succs : List Int → List Int → List Int → List (List Int)
  | _ :: lo, b :: hi, x :: xs => (succs lo hi xs).map (x :: ·) ++ (upN x (b - x).toNat).flatMap fun v => (lo :: succs lo hi lo).map (v :: ·)
  | _, _, _ => []
theorem succs_next : ∀ (lo hi x : List Int), succs lo hi x = match nextF lo hi x with | some y => y :: succs lo hi y | none => []
  | [], hi, x => by unfold nextF succs; rfl
  | a :: lo, [], x => by unfold nextF succs; rfl
  | a :: lo, b :: hi, [] => by unfold nextF succs; rfl
  | a :: lo, b :: hi, x :: xs => by
    have ih := succs_next lo hi xs
    unfold nextF
    cases hn : nextF lo hi xs with
    | some ys =>
      rw [hn] at ih
      simp only at ih ⊢
      conv => lhs; unfold succs
      conv => rhs; unfold succs
      rw [ih]; rfl
    | none =>
      rw [hn] at ih
      simp only at ih ⊢
      by_cases h : x < b
      · rw [if_pos h]
        obtain ⟨n, hb⟩ : ∃ n : Nat, (b - x).toNat = n + 1 := ⟨(b - x).toNat - 1, by omega⟩
        have hb2 : (b - (x + 1)).toNat = n := by omega
        simp only
        conv => lhs; unfold succs
        conv => rhs; unfold succs
        rw [ih, hb, hb2]
        rfl
      · rw [if_neg h]
        have hb : (b - x).toNat = 0 := by omega
        simp only
        unfold succs
        rw [ih, hb]; rfl
theorem succs_some {lo hi x y : List Int} (h : nextF lo hi x = some y) : succs lo hi x = y :: succs lo hi y := by rw [succs_next, h]
theorem succs_none {lo hi x : List Int} (h : nextF lo hi x = none) : succs lo hi x = [] := by rw [succs_next, h]

/-- a list of a cube -/
def InBox : List Int → List Int → List Int → Prop
  | a :: lo, b :: hi, x :: xs => a ≤ x ∧ x ≤ b ∧ InBox lo hi xs
  | [], [], [] => True
  | _, _, _ => False
theorem inBox_next : ∀ {lo hi x y : List Int}, InBox lo hi lo → InBox lo hi x → nextF lo hi x = some y → InBox lo hi y
  | [], [], [], y, _, _, h => by cases h
  | a :: lo, b :: hi, x :: xs, y, h0, h1, h => by
    unfold InBox at h0 h1
    unfold nextF at h
    cases hn : nextF lo hi xs with
    | some ys =>
      rw [hn] at h
      simp only [Option.some.injEq] at h
      subst h
      exact ⟨h1.1, h1.2.1, inBox_next h0.2.2 h1.2.2 hn⟩
    | none =>
      rw [hn] at h
      simp only at h
      by_cases hx : x < b
      · rw [if_pos hx] at h
        cases h
        exact ⟨by omega, by omega, h0.2.2⟩
      · rw [if_neg hx] at h; cases h
theorem inBox_len : ∀ {lo hi x : List Int}, InBox lo hi x → x.length = lo.length ∧ hi.length = lo.length
  | [], [], [], _ => ⟨rfl, rfl⟩
  | a :: lo, b :: hi, x :: xs, h => by
    have := inBox_len h.2.2
    simp [this.1, this.2]
theorem inBox_lo : ∀ {lo hi : List Int}, hi.length = lo.length → allB lo hi = true → InBox lo hi lo
  | [], [], _, _ => trivial
  | a :: lo, b :: hi, h, h2 => by
    unfold allB at h2
    rw [Bool.and_eq_true] at h2
    have := okB_iff.1 h2.1
    exact ⟨Int.le_refl _, this.1, inBox_lo (by simpa using h) h2.2⟩
theorem inBox_allB : ∀ {lo hi x : List Int}, allB lo hi = true → InBox lo hi x → allB x x = true
  | [], [], [], _, _ => rfl
  | a :: lo, b :: hi, x :: xs, h, h2 => by
    unfold allB at h ⊢
    rw [Bool.and_eq_true] at h ⊢
    obtain ⟨k1, k2, k3⟩ := okB_iff.1 h.1
    obtain ⟨j1, j2, j3⟩ := h2
    exact ⟨okB_iff.2 ⟨Int.le_refl _, by omega, by omega⟩, inBox_allB h.2 j3⟩
theorem inBox_get : ∀ {lo hi x : List Int}, InBox lo hi x → ∀ (k : Nat) (a b v : Int), lo[k]? = some a → hi[k]? = some b → x[k]? = some v → a ≤ v ∧ v ≤ b
  | [], [], [], _, k, a, b, v, h1, _, _ => by simp at h1
  | a :: lo, b :: hi, x :: xs, h, 0, a', b', v, h1, h2, h3 => by
    simp at h1 h2 h3; subst h1 h2 h3
    exact ⟨h.1, h.2.1⟩
  | a :: lo, b :: hi, x :: xs, h, k + 1, a', b', v, h1, h2, h3 => inBox_get h.2.2 k a' b' v (by simpa using h1) (by simpa using h2) (by simpa using h3)
theorem cubOk_box {f : Fit} {x : List Int} (hv : validF f = true) (h : InBox f.lo f.hi x) : CubOk f x x := by
  obtain ⟨p1, p2, p3, p4, p5, p6, p7⟩ := valid_parts hv
  exact ⟨hv, (inBox_len h).1, (inBox_len h).1, inBox_allB p6 h⟩

/-- one place of the search for the next list -/
theorem nextF_step {lo hi x : List Int} {a b v : Int} {i : Nat} (h0 : lo.drop i = a :: lo.drop (i + 1)) (h1 : hi.drop i = b :: hi.drop (i + 1)) (h2 : x.drop i = v :: x.drop (i + 1)) (hn : nextF (lo.drop (i + 1)) (hi.drop (i + 1)) (x.drop (i + 1)) = none) :
    nextF (lo.drop i) (hi.drop i) (x.drop i) = if v < b then some ((v + 1) :: lo.drop (i + 1)) else none := by
  rw [h0, h1, h2]; unfold nextF; rw [hn]
theorem nextF_take : ∀ (i : Nat) {lo hi x z : List Int}, i ≤ lo.length → i ≤ hi.length → i ≤ x.length → nextF (lo.drop i) (hi.drop i) (x.drop i) = some z → nextF lo hi x = some (x.take i ++ z)
  | 0, lo, hi, x, z, _, _, _, h => by simpa using h
  | i + 1, a :: lo, b :: hi, x :: xs, z, h1, h2, h3, h => by
    have := nextF_take i (lo := lo) (hi := hi) (x := xs) (z := z) (by simpa using h1) (by simpa using h2) (by simpa using h3) (by simpa using h)
    unfold nextF
    rw [this]; rfl

/-! ### the best -/
def costF (f : Fit) (x : List Int) : Int := boundF f.terms f.goals x x
def bestStep (f : Fit) (p : List Int × Int) (y : List Int) : List Int × Int := if costF f y < p.2 then (y, costF f y) else p
def bestF (f : Fit) : List Int × Int := (succs f.lo f.hi f.lo).foldl (bestStep f) (f.lo, costF f f.lo)
theorem boundF_bd {f : Fit} {lo hi : List Int} (h : CubOk f lo hi) : ∀ (ts : List Frm) (gs : List Int), (∀ t ∈ ts, RangeOk t lo hi) → (∀ g ∈ gs, -1000000000 ≤ g ∧ g ≤ 1000000000) → 0 ≤ boundF ts gs lo hi ∧ boundF ts gs lo hi ≤ ts.length * 4002001000000
  | [], gs, _, _ => by have : boundF [] gs lo hi = 0 := by cases gs <;> rfl
                       rw [this]; simp
  | t :: ts, [], _, _ => by have : boundF (t :: ts) [] lo hi = 0 := rfl
                            rw [this]; simp only [List.length_cons]; omega
  | t :: ts, g :: gs, h1, h2 => by
    have h3 := boundT_bd (h1 t (by simp)) (h2 g (by simp)).1 (h2 g (by simp)).2
    have h4 := boundF_bd h ts gs (fun z hz => h1 z (by simp [hz])) (fun z hz => h2 z (by simp [hz]))
    unfold boundF; simp only [List.length_cons]; omega
theorem allT_mem {n : Nat} : ∀ {ts : List Frm} {gs : List Int}, gs.length = ts.length → allT n ts gs = true → (∀ t ∈ ts, formF t n = true) ∧ ∀ g ∈ gs, -1000000000 ≤ g ∧ g ≤ 1000000000
  | [], [], _, _ => ⟨fun t h => by simp at h, fun g h => by simp at h⟩
  | t :: ts, g :: gs, hl, h => by
    unfold allT at h
    rw [Bool.and_eq_true] at h
    obtain ⟨k1, k2, k3⟩ := okT_iff h.1
    have ih := allT_mem (by simpa using hl) h.2
    refine ⟨fun x hx => ?_, fun x hx => ?_⟩
    · rcases List.mem_cons.1 hx with rfl | hx
      · exact k1
      · exact ih.1 x hx
    · rcases List.mem_cons.1 hx with rfl | hx
      · exact ⟨k2, k3⟩
      · exact ih.2 x hx
theorem bound_range {f : Fit} {lo hi : List Int} (h : CubOk f lo hi) : 0 ≤ boundF f.terms f.goals lo hi ∧ boundF f.terms f.goals lo hi ≤ 100000000000000 := by
  obtain ⟨p1, p2, p3, p4, p5, p6, p7⟩ := valid_parts h.v
  have hm := allT_mem p5 p7
  have := boundF_bd h f.terms f.goals (fun t ht => rangeOk (by rw [h.l]; exact hm.1 t ht) (h.h.trans h.l.symm) h.b (by rw [h.l]; exact p2)) hm.2
  omega

/-! ### a row of integers in a block of the call's own -/
def RowAt (w : World) (g : Nat) (t : TypeId) (xs : List Int) : Prop := ∃ cur : Array Value, Blk w g t cur ∧ ∀ (i : Nat) (x : Int), xs[i]? = some x → cur[i]? = some (Value.int .i64 x)
section
variable {w w' : World} {g : Nat} {t : TypeId} {xs : List Int}
theorem RowAt.lt (h : RowAt w g t xs) : g < w.heap.size := by obtain ⟨cur, h1, _⟩ := h; exact h1.lt
theorem RowAt.same (h : RowAt w g t xs) (e : w'.heap[g]? = w.heap[g]?) : RowAt w' g t xs := by obtain ⟨cur, h1, h2⟩ := h; exact ⟨cur, h1.same e, h2⟩
theorem RowAt.cell (h : RowAt w g t xs) {i : Nat} {x : Int} (hx : xs[i]? = some x) : w.cell? ⟨g, i, none⟩ = some (.int .i64 x) := by obtain ⟨cur, h1, h2⟩ := h; rw [h1.cell]; exact h2 i x hx
theorem RowAt.free (h : RowAt w g t xs) (i : Nat) : w.frozen? ⟨g, i, none⟩ = false := by obtain ⟨cur, h1, _⟩ := h; exact h1.free i
theorem RowAt.set (h : RowAt w g t xs) (i : Nat) (v : Int) : RowAt (w.setCell ⟨g, i, none⟩ (.int .i64 v)) g t (xs.set i v) := by
  obtain ⟨cur, h1, h2⟩ := h
  refine ⟨_, h1.set i _, fun j x hx => ?_⟩
  rw [List.getElem?_set] at hx
  by_cases hij : i = j
  · subst hij
    rw [if_pos rfl] at hx
    by_cases hi : i < xs.length
    · rw [if_pos hi] at hx
      cases hx
      have hc : i < cur.size := (Array.getElem?_eq_some_iff.1 (h2 i xs[i] (List.getElem?_eq_getElem hi))).1
      rw [Array.getElem?_setIfInBounds_self_of_lt hc]
    · rw [if_neg hi] at hx; cases hx
  · rw [if_neg hij] at hx
    rw [Array.getElem?_setIfInBounds_ne hij]
    exact h2 j x hx
theorem RowAt.sl (h : RowAt w g t xs) {c : Nat} (h1 : xs.length ≤ c) (h2 : c ≤ maxLen) (h3 : ∀ x ∈ xs, Fits .i64 x) {F : Nat → Prop} (hF : F g) : SlAt (pI .i64) F w (some ⟨g, 0, none⟩) c xs :=
  ⟨h1, h2, (fun e => by cases e), fun i x hx => ⟨g, 0, _, rfl, hF, ⟨rfl, h3 x (List.mem_of_getElem? hx)⟩, fun j c hc => by
    match j, hc with
    | 0, hc => simp at hc; subst hc; simpa [pI] using h.cell hx⟩⟩
theorem Own.row {base : Nat} {G : Nat → Prop} {A : Option Addr} {n c : Nat} (h : Own (pI .i64) t base G w (.slice A n c) xs) (hne : xs ≠ []) : ∃ g, A = some ⟨g, 0, none⟩ ∧ base ≤ g ∧ xs.length = n ∧ n ≤ c ∧ c ≤ maxLen ∧ RowAt w g t xs ∧ ∀ x ∈ xs, Fits .i64 x := by
  have hs := h.sl'
  obtain ⟨cells, ⟨h1, h2⟩, h3⟩ := h
  rcases h2 with ⟨hv, h0⟩ | ⟨g, cap, cur, hv, hb, hg, hnc, hcm, hsz, htake⟩
  · exact absurd (List.eq_nil_of_length_eq_zero h0) hne
  · cases hv
    refine ⟨g, rfl, hb, rfl, hnc, hcm, ⟨cur, hg, fun i x hx => ?_⟩, hs.2.fits⟩
    obtain ⟨cs, ⟨e4, _⟩, h5⟩ := h3.get hx
    subst e4
    have h6 := h5 0 _ rfl
    simp only [pI, Nat.mul_one, Nat.add_zero] at h6 htake
    rw [← htake, List.getElem?_take] at h6
    split at h6
    · simpa using h6
    · cases h6
end
end Go.Proofs.Ytfeafembifdklaa
