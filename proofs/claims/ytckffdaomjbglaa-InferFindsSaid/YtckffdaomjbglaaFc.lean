/-
  Layer 7: the walk of fine.
-/
import Derived.Test.YtckffdaomjbglaaFb
import Derived.Test.YtckffdaomjbglaaOwn
import Derived.StillTailTactics
import Derived.Deep.RegionHeld3
namespace Go.Proofs.Ytckffdaomjbglaa
open Go.RowKit

theorem info_frm : (Try.prog.info? 91).map (fun i => (i.zero, i.size, i.bytes)) = some (some (.agg #[.int .i64 0, .slice none 0 0]), 2, 32) := by kernel_rfl
theorem info_modC : (Try.prog.info? 44).map (fun i => (i.zero, i.size, i.bytes)) = some (some (.agg #[.int .u8 0, .slice none 0 0]), 2, 32) := by kernel_rfl
theorem info_intC : (Try.prog.info? 3).map (fun i => (i.zero, i.size, i.bytes)) = some (some (.int .i64 0), 1, 8) := by kernel_rfl

section
variable {ops : Array Oper} {rest : List Oper} {o o1 o2 : Oper} {a : Act} {Q : Exit → Act → World → Prop} {w : World} {base : Nat} {G : Nat → Prop} {v : Value}
/-- 'out = append(out, m)' over modules -/
theorem pushMod {xs : List Mod} (tmp : Nat) (s xo : Operand)
    (hg1 : o1.guard = none) (hg2 : o2.guard = none) (hd1 : o1.dst = some tmp) (ho1 : o1.op = .buildSlice 22 1 #[(0, xo)])
    (ho2 : o2.op = .call { callee := .builtin .append, args := #[s, .tmp tmp], argTypes := #[22, 22] })
    (hs : ∀ u, (a.put (some tmp) u).eval s = v) (ht2 : ∀ u, (a.put (some tmp) u).eval (.tmp tmp) = u) (hown : Own pMod 44 base G w v xs)
    (nm : Int) (A0 : Option Addr) (n0 c0 : Nat) (hu : a.eval xo = .agg #[.int .u8 nm, .slice A0 n0 c0]) (m : Mod) (F : Nat → Prop) (hR : pMod.R F w [.int .u8 nm, .slice A0 n0 c0] m) (hF : ∀ k, F k → G k ∧ k < w.heap.size ∧ some k ≠ v.ownBlock)
    (n : Nat) (hn : xs.length + 1 = n) (hlen : Room n) (hbase : base ≤ w.heap.size)
    (h : ∀ A' c' w', Hid (Own pMod 44 base G w' (.slice A' n c') (xs ++ [m])) → Hid (Grew base w w' v (.slice A' n c')) →
      wpList Try.prog ops Q rest ((a.put (some tmp) (.slice (some ⟨w.heap.size, 0, none⟩) 1 1)).put o2.dst (.slice A' n c')) w') : wpList Try.prog ops Q (o1 :: o2 :: rest) a w :=
  wpList_pushG (E := pMod) 22 44 (.agg #[.int .u8 0, .slice none 0 0]) 32 tmp s xo hg1 hg2 hd1 ho1 ho2 Try.underlying22 info_modC rfl (by decide) hs ht2 hown (.agg #[.int .u8 nm, .slice A0 n0 c0]) hu m F (by simpa [Value.cells] using hR) hF n hn
    (by unfold Room at *; omega) ⟨by decide, by decide⟩ hbase h
end

theorem Blk.rul {w : World} {g : Nat} {t : TypeId} {a0 a1 a2 a3 a4 a5 a6 : Value} (h : Blk w g t #[a0, a1, a2, a3, a4, a5, a6]) :
    w.cell? ⟨g, 0, none⟩ = some a0 ∧ w.cell? ⟨g, 1, none⟩ = some a1 ∧ w.cell? ⟨g, 2, none⟩ = some a2 ∧ w.cell? ⟨g, 3, none⟩ = some a3 ∧ w.cell? ⟨g, 4, none⟩ = some a4 ∧ w.cell? ⟨g, 5, none⟩ = some a5 ∧ w.cell? ⟨g, 6, none⟩ = some a6 :=
  ⟨h.cell 0, h.cell 1, h.cell 2, h.cell 3, h.cell 4, h.cell 5, h.cell 6⟩

def rulV (r : Rul) (A : Option Addr) (c : Nat) (A' : Option Addr) (c' : Nat) : Array Value := #[.int .u8 r.name, .int .i64 r.arity, .int .u8 r.left, .int .u8 r.right, .slice A r.guards.length c, .int .i64 r.weight, .slice A' r.out.length c']
structure RulAt (r : Rul) (F : Nat → Prop) (w : World) (A : Option Addr) (c : Nat) (A' : Option Addr) (c' : Nat) : Prop where
  fn : Fits .u8 r.name
  fa : Fits .i64 r.arity
  fl : Fits .u8 r.left
  fr : Fits .u8 r.right
  fw : Fits .i64 r.weight
  sg : SlAt pFrm F w A c r.guards
  so : SlAt pShp F w A' c' r.out

theorem mod_boxed {w : World} (c : Int) (hc : Fits .u8 c) : SlAt pMod (Old (w.alloc (.cells #[.int .u8 c, .slice none 0 0] 44))) (w.alloc (.cells #[.int .u8 c, .slice none 0 0] 44)) (some ⟨w.heap.size, 0, none⟩) 1 [⟨c, []⟩] := by
  refine (sl_boxed (E := pMod) (F := fun _ => False) (u := .agg #[.int .u8 c, .slice none 0 0]) ⟨none, 0, rfl, hc, ⟨Nat.le_refl _, Nat.zero_le _, fun _ => rfl, fun i x hx => by simp at hx⟩⟩ (fun k hk => hk.elim)).wide ?_
  intro k hk
  rcases hk with hk | rfl
  · exact hk.elim
  · unfold Old; simp

/-- the check of one bare module, boxed at the heap's end -/
theorem oneCheck (W : World) (c : Int) (hc : Fits .u8 c) (n : Nat) (hn : W.heap.size = n) : Calls Try.prog 28 #[.slice (some ⟨n, 0, none⟩) 1 1] (W.alloc (.cells #[.int .u8 c, .slice none 0 0] 44)) (CheckPost [⟨c, []⟩] (W.alloc (.cells #[.int .u8 c, .slice none 0 0] 44))) := by
  subst hn
  exact wordCheck_calls (some ⟨W.heap.size, 0, none⟩) 1 [⟨c, []⟩] _ (mod_boxed c hc)

/-- the tests ahead of the loops -/
theorem fineR_cases (r : Rul) : (fineR r = false ∧ (r.arity < 0 ∨ (¬ r.arity < 0 ∧ 4 < r.arity) ∨ (¬ r.arity < 0 ∧ ¬ 4 < r.arity ∧ (r.name == 91) = true) ∨ (¬ r.arity < 0 ∧ ¬ 4 < r.arity ∧ (r.name == 91) = false ∧ (r.name == 93) = true))) ∨
    (¬ r.arity < 0 ∧ ¬ 4 < r.arity ∧ (r.name == 91) = false ∧ (r.name == 93) = false ∧
      ((fineR r = false ∧ ((checkF [⟨r.name, []⟩] != 0) = true ∨ ((checkF [⟨r.name, []⟩] != 0) = false ∧ (r.left != 0) = true) ∨ ((checkF [⟨r.name, []⟩] != 0) = false ∧ (r.left != 0) = false ∧ (r.right != 0) = true) ∨
        ((checkF [⟨r.name, []⟩] != 0) = false ∧ (r.left != 0) = false ∧ (r.right != 0) = false ∧ (r.weight != 0) = true))) ∨
       ((checkF [⟨r.name, []⟩] != 0) = false ∧ (r.left != 0) = false ∧ (r.right != 0) = false ∧ (r.weight != 0) = false ∧
        fineR r = (r.guards.all (fun f => formF f r.arity.toNat) && r.out.all (fun s => s.args.all (fun f => formF f r.arity.toNat)) && checkF (r.out.map fun s => ⟨s.name, List.replicate s.args.length 0⟩) == 0)))) := by
  have hn := check_one r.name
  by_cases h1 : r.arity < 0
  · left; exact ⟨by unfold fineR coreR; simp; omega, .inl h1⟩
  by_cases h2 : 4 < r.arity
  · left; exact ⟨by unfold fineR coreR; simp; omega, .inr (.inl ⟨h1, h2⟩)⟩
  by_cases h3 : r.name = 91
  · left; exact ⟨by unfold fineR coreR; simp [h3], .inr (.inr (.inl ⟨h1, h2, by simp [h3]⟩))⟩
  by_cases h4 : r.name = 93
  · left; exact ⟨by unfold fineR coreR; simp [h4], .inr (.inr (.inr ⟨h1, h2, by simp [h3], by simp [h4]⟩))⟩
  right
  refine ⟨h1, h2, by simp [h3], by simp [h4], ?_⟩
  by_cases h5 : checkF [⟨r.name, []⟩] = 0
  · have hl := (hn.1 h5).1
    by_cases h6 : r.left = 0
    · by_cases h7 : r.right = 0
      · by_cases h8 : r.weight = 0
        · right
          refine ⟨by simp [h5], by simp [h6], by simp [h7], by simp [h8], ?_⟩
          unfold fineR coreR bareR
          simp only [hl, h6, h7, h8, show (r.name != 91) = true by simp [h3], show (r.name != 93) = true by simp [h4], show decide (0 ≤ r.arity) = true by simp; omega, show decide (r.arity ≤ 4) = true by simp; omega]
          simp
        · left; exact ⟨by unfold fineR bareR; simp [h8], .inr (.inr (.inr ⟨by simp [h5], by simp [h6], by simp [h7], by simp [h8]⟩))⟩
      · left; exact ⟨by unfold fineR bareR; simp [h7], .inr (.inr (.inl ⟨by simp [h5], by simp [h6], by simp [h7]⟩))⟩
    · left; exact ⟨by unfold fineR bareR; simp [h6], .inr (.inl ⟨by simp [h5], by simp [h6]⟩)⟩
  · left
    have hl : letterB r.name = false := by
      cases hb : letterB r.name
      · rfl
      · exact absurd (hn.2 ⟨hb, h3, h4⟩) h5
    exact ⟨by unfold fineR coreR; simp [hl], .inl (by simp [h5])⟩

/-- the box of a shape, a row of zeros and the box of a module, laid behind each other -/
theorem made_mod {wo : World} {base : Nat} {G : Nat → Prop} {v : Value} {xs : List Mod} (how : Own pMod 44 base G wo v xs) (hb : base ≤ wo.heap.size) (sh : Obj) (nm : Int) (h8 : Fits .u8 nm) (n : Nat) (hn : n ≤ 1000) (Z : Array Value) (hZ : madeCells #[Value.int .i64 0] n = Z) :
    Own pMod 44 base (fun q => G q ∨ wo.heap.size < q) ((((wo.alloc sh).alloc (.cells Z 3)).alloc (.cells #[.int .u8 nm, .slice (some ⟨wo.heap.size + 1, 0, none⟩) n n] 44)).drew) v xs ∧
    SlAt pMod (fun q => q = wo.heap.size + 1 ∨ q = wo.heap.size + 2) ((((wo.alloc sh).alloc (.cells Z 3)).alloc (.cells #[.int .u8 nm, .slice (some ⟨wo.heap.size + 1, 0, none⟩) n n] 44)).drew) (some ⟨wo.heap.size + 2, 0, none⟩) 1 [⟨nm, List.replicate n 0⟩] ∧
    (∀ q, (q = wo.heap.size + 1 ∨ q = wo.heap.size + 2) → (G q ∨ wo.heap.size < q) ∧ q < ((((wo.alloc sh).alloc (.cells Z 3)).alloc (.cells #[.int .u8 nm, .slice (some ⟨wo.heap.size + 1, 0, none⟩) n n] 44)).drew).heap.size ∧ some q ≠ v.ownBlock) ∧
    base ≤ ((((wo.alloc sh).alloc (.cells Z 3)).alloc (.cells #[.int .u8 nm, .slice (some ⟨wo.heap.size + 1, 0, none⟩) n n] 44)).drew).heap.size := by
  subst hZ
  have hb1 : Blk ((wo.alloc sh).alloc (.cells (madeCells #[Value.int .i64 0] n) 3)) (wo.heap.size + 1) 3 (madeCells #[Value.int .i64 0] n) := by
    have := Blk.new (wo.alloc sh) 3 (madeCells #[Value.int .i64 0] n)
    simpa using this
  have hz := zeros_sl (F := fun q => q = wo.heap.size + 1) hb1 rfl (by unfold maxLen; omega)
  have hs : SlAt pMod (fun q => q = wo.heap.size + 1 ∨ q = wo.heap.size + 2) (((wo.alloc sh).alloc (.cells (madeCells #[Value.int .i64 0] n) 3)).alloc (.cells #[.int .u8 nm, .slice (some ⟨wo.heap.size + 1, 0, none⟩) n n] 44)) (some ⟨wo.heap.size + 2, 0, none⟩) 1 [⟨nm, List.replicate n 0⟩] := by
    have := sl_boxed (E := pMod) (e := 44) (w := (wo.alloc sh).alloc (.cells (madeCells #[Value.int .i64 0] n) 3)) (F := fun q => q = wo.heap.size + 1) (x := ⟨nm, List.replicate n 0⟩) (u := .agg #[.int .u8 nm, .slice (some ⟨wo.heap.size + 1, 0, none⟩) n n])
      ⟨some ⟨wo.heap.size + 1, 0, none⟩, n, by simp [Value.cells], h8, hz⟩ (fun k hk => by subst hk; simp)
    simpa [Value.cells] using this
  refine ⟨((((how.alloc _).alloc _).alloc _).drew).wideG fun k _ hk => .inl hk, hs.keep fun _ _ => rfl, fun q hq => ⟨.inr (by omega), by simp; omega, fun he => ?_⟩, by simp; omega⟩
  have := how.lt q he.symm
  omega

def formsK (r : Rul) (k : Nat) : List Frm := r.guards ++ (r.out.take k).flatMap (fun s => s.args)
theorem flat_len : ∀ (l : List Shp), (∀ s ∈ l, s.args.length ≤ 10) → (l.flatMap (fun s => s.args)).length ≤ l.length * 10
  | [], _ => by simp
  | s :: l, h => by
    have h1 := h s (by simp)
    have h2 := flat_len l fun x hx => h x (by simp [hx])
    simp only [List.flatMap_cons, List.length_append, List.length_cons]; omega
theorem formsK_len {r : Rul} (h : ∀ s ∈ r.out, s.args.length ≤ 10) (hg : r.guards.length ≤ 10) (ho : r.out.length ≤ 30) (k : Nat) : (formsK r k).length ≤ 310 := by
  have h1 := flat_len (r.out.take k) fun s hs => h s (List.mem_of_mem_take hs)
  have h2 := List.length_take_le k r.out
  have h3 := List.length_take_le' k r.out
  unfold formsK; rw [List.length_append]; omega
theorem formsK_succ {r : Rul} {k : Nat} {s : Shp} (h : r.out.drop k = s :: r.out.drop (k + 1)) : formsK r (k + 1) = formsK r k ++ s.args := by
  unfold formsK; rw [take_of_drop h, List.flatMap_append, ← List.append_assoc]; simp
theorem formsK_all (r : Rul) (p : Frm → Bool) : (formsK r r.out.length).all p = (r.guards.all p && r.out.all (fun s => s.args.all p)) := by
  unfold formsK; rw [List.take_length, List.all_append, List.all_flatMap]
def modsK (r : Rul) (k : Nat) : List Mod := (r.out.take k).map fun s => ⟨s.name, List.replicate s.args.length 0⟩

end Go.Proofs.Ytckffdaomjbglaa
