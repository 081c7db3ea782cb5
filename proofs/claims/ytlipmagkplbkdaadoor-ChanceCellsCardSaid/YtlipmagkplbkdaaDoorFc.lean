/-
  Layer 7: the walk of fine.
-/
import Derived.Test.YtlipmagkplbkdaaDoorFb
import Derived.Test.YtlipmagkplbkdaaDoorOwn
import Derived.StillTailTactics
import Derived.Deep.RegionHeld3
namespace Go.Proofs.YtlipmagkplbkdaaDoor
open Go.RowKit

theorem info_frm : (Tryd.prog.info? 70).map (fun i => (i.zero, i.size, i.bytes)) = some (some (.agg #[.int .i64 0, .slice none 0 0]), 2, 32) := by kernel_rfl
theorem info_modC : (Tryd.prog.info? 49).map (fun i => (i.zero, i.size, i.bytes)) = some (some (.agg #[.int .u8 0, .slice none 0 0]), 2, 32) := by kernel_rfl
theorem info_intC : (Tryd.prog.info? 3).map (fun i => (i.zero, i.size, i.bytes)) = some (some (.int .i64 0), 1, 8) := by kernel_rfl

section
variable {ops : Array Oper} {rest : List Oper} {o o1 o2 : Oper} {a : Act} {Q : Exit → Act → World → Prop} {w : World} {base : Nat} {G : Nat → Prop} {v : Value}
/-- 'out = append(out, m)' over modules -/
theorem pushMod {xs : List Mod} (tmp : Nat) (s xo : Operand)
    (hg1 : o1.guard = none) (hg2 : o2.guard = none) (hd1 : o1.dst = some tmp) (ho1 : o1.op = .buildSlice 23 1 #[(0, xo)])
    (ho2 : o2.op = .call { callee := .builtin .append, args := #[s, .tmp tmp], argTypes := #[23, 23] })
    (hs : ∀ u, (a.put (some tmp) u).eval s = v) (ht2 : ∀ u, (a.put (some tmp) u).eval (.tmp tmp) = u) (hown : Own pMod 49 base G w v xs)
    (nm : Int) (A0 : Option Addr) (n0 c0 : Nat) (hu : a.eval xo = .agg #[.int .u8 nm, .slice A0 n0 c0]) (m : Mod) (F : Nat → Prop) (hR : pMod.R F w [.int .u8 nm, .slice A0 n0 c0] m) (hF : ∀ k, F k → G k ∧ k < w.heap.size ∧ some k ≠ v.ownBlock)
    (n : Nat) (hn : xs.length + 1 = n) (hlen : Room n) (hbase : base ≤ w.heap.size)
    (h : ∀ A' c' w', Hid (Own pMod 49 base G w' (.slice A' n c') (xs ++ [m])) → Hid (Grew base w w' v (.slice A' n c')) →
      wpList Tryd.prog ops Q rest ((a.put (some tmp) (.slice (some ⟨w.heap.size, 0, none⟩) 1 1)).put o2.dst (.slice A' n c')) w') : wpList Tryd.prog ops Q (o1 :: o2 :: rest) a w :=
  wpList_pushG (E := pMod) 23 49 (.agg #[.int .u8 0, .slice none 0 0]) 32 tmp s xo hg1 hg2 hd1 ho1 ho2 Tryd.underlying23 info_modC rfl (by decide) hs ht2 hown (.agg #[.int .u8 nm, .slice A0 n0 c0]) hu m F (by simpa [Value.cells] using hR) hF n hn
    (by unfold Room at *; omega) ⟨by decide, by decide⟩ hbase h
end

theorem Blk.rul {w : World} {g : Nat} {t : TypeId} {a0 a1 a2 a3 a4 a5 a6 : Value} (h : Blk w g t #[a0, a1, a2, a3, a4, a5, a6]) :
    w.cell? ⟨g, 0, none⟩ = some a0 ∧ w.cell? ⟨g, 1, none⟩ = some a1 ∧ w.cell? ⟨g, 2, none⟩ = some a2 ∧ w.cell? ⟨g, 3, none⟩ = some a3 ∧ w.cell? ⟨g, 4, none⟩ = some a4 ∧ w.cell? ⟨g, 5, none⟩ = some a5 ∧ w.cell? ⟨g, 6, none⟩ = some a6 :=
  ⟨h.cell 0, h.cell 1, h.cell 2, h.cell 3, h.cell 4, h.cell 5, h.cell 6⟩

def rulV (r : Rul) (A : Option Addr) (c : Nat) (A' : Option Addr) (c' : Nat) : Array Value := #[.int .u8 r.name, .int .i64 r.arity, .int .u8 r.left, .int .u8 r.right, .slice A r.guards.length c, .int .i64 r.weight, .slice A' r.out.length c']
structure RulAt (r : Rul) (F : Nat → Prop) (w : World) (A : Option Addr) (c : Nat) (A' : Option Addr) (c' : Nat) : Prop where
  fn : Fits .u8 r.name
  fa : Fits .i64 r.arity
  fl : Fits .u8 r.left
  fr : Fits .u8 r.right
  fw : Fits .i64 r.weight
  sg : SlAt pFrm F w A c r.guards
  so : SlAt pShp F w A' c' r.out

theorem mod_boxed {w : World} (c : Int) (hc : Fits .u8 c) : SlAt pMod (Old (w.alloc (.cells #[.int .u8 c, .slice none 0 0] 49))) (w.alloc (.cells #[.int .u8 c, .slice none 0 0] 49)) (some ⟨w.heap.size, 0, none⟩) 1 [⟨c, []⟩] := by
  refine (sl_boxed (E := pMod) (F := fun _ => False) (u := .agg #[.int .u8 c, .slice none 0 0]) ⟨none, 0, rfl, hc, ⟨Nat.le_refl _, Nat.zero_le _, fun _ => rfl, fun i x hx => by simp at hx⟩⟩ (fun k hk => hk.elim)).wide ?_
  intro k hk
  rcases hk with hk | rfl
  · exact hk.elim
  · unfold Old; simp

/-- the check of one bare module, boxed at the heap's end -/
theorem oneCheck (W : World) (c : Int) (hc : Fits .u8 c) (n : Nat) (hn : W.heap.size = n) : Calls Tryd.prog 42 #[.slice (some ⟨n, 0, none⟩) 1 1] (W.alloc (.cells #[.int .u8 c, .slice none 0 0] 49)) (CheckPost [⟨c, []⟩] (W.alloc (.cells #[.int .u8 c, .slice none 0 0] 49))) := by
  subst hn
  exact wordCheck_calls (some ⟨W.heap.size, 0, none⟩) 1 [⟨c, []⟩] _ (mod_boxed c hc)

/-- the tests ahead of the loops -/
theorem fineR_cases (r : Rul) : (fineR r = false ∧ (r.arity < 0 ∨ (¬ r.arity < 0 ∧ 4 < r.arity) ∨ (¬ r.arity < 0 ∧ ¬ 4 < r.arity ∧ (r.name == 91) = true) ∨ (¬ r.arity < 0 ∧ ¬ 4 < r.arity ∧ (r.name == 91) = false ∧ (r.name == 93) = true))) ∨
    (¬ r.arity < 0 ∧ ¬ 4 < r.arity ∧ (r.name == 91) = false ∧ (r.name == 93) = false ∧
      ((fineR r = false ∧ ((checkF [⟨r.name, []⟩] != 0) = true ∨ ((checkF [⟨r.name, []⟩] != 0) = false ∧ (r.left != 0) = true) ∨ ((checkF [⟨r.name, []⟩] != 0) = false ∧ (r.left != 0) = false ∧ (r.right != 0) = true) ∨
        ((checkF [⟨r.name, []⟩] != 0) = false ∧ (r.left != 0) = false ∧ (r.right != 0) = false ∧ (r.weight != 0) = true))) ∨
       ((checkF [⟨r.name, []⟩] != 0) = false ∧ (r.left != 0) = false ∧ (r.right != 0) = false ∧ (r.weight != 0) = false ∧
        fineR r = (r.guards.all (fun f => formF f r.arity.toNat) && r.out.all (fun s => s.args.all (fun f => formF f r.arity.toNat)) && checkF (r.out.map fun s => ⟨s.name, List.replicate s.args.length 0⟩) == 0)))) := by
  have hn := check_one r.name
  by_cases h1 : r.arity < 0
  · left; exact ⟨by unfold fineR coreR; simp; omega, .inl h1⟩
  by_cases h2 : 4 < r.arity
  · left; exact ⟨by unfold fineR coreR; simp; omega, .inr (.inl ⟨h1, h2⟩)⟩
  by_cases h3 : r.name = 91
  · left; exact ⟨by unfold fineR coreR; simp [h3], .inr (.inr (.inl ⟨h1, h2, by simp [h3]⟩))⟩
  by_cases h4 : r.name = 93
  · left; exact ⟨by unfold fineR coreR; simp [h4], .inr (.inr (.inr ⟨h1, h2, by simp [h3], by simp [h4]⟩))⟩
  right
  refine ⟨h1, h2, by simp [h3], by simp [h4], ?_⟩
  by_cases h5 : checkF [⟨r.name, []⟩] = 0
  · have hl := (hn.1 h5).1
    by_cases h6 : r.left = 0
    · by_cases h7 : r.right = 0
      · by_cases h8 : r.weight = 0
        · right
          refine ⟨by simp [h5], by simp [h6], by simp [h7], by simp [h8], ?_⟩
          unfold fineR coreR bareR
          simp only [hl, h6, h7, h8, show (r.name != 91) = true by simp [h3], show (r.name != 93) = true by simp [h4], show decide (0 ≤ r.arity) = true by simp; omega, show decide (r.arity ≤ 4) = true by simp; omega]
          simp
        · left; exact ⟨by unfold fineR bareR; simp [h8], .inr (.inr (.inr ⟨by simp [h5], by simp [h6], by simp [h7], by simp [h8]⟩))⟩
      · left; exact ⟨by unfold fineR bareR; simp [h7], .inr (.inr (.inl ⟨by simp [h5], by simp [h6], by simp [h7]⟩))⟩
    · left; exact ⟨by unfold fineR bareR; simp [h6], .inr (.inl ⟨by simp [h5], by simp [h6]⟩)⟩
  · left
    have hl : letterB r.name = false := by
      cases hb : letterB r.name
      · rfl
      · exact absurd (hn.2 ⟨hb, h3, h4⟩) h5
    exact ⟨by unfold fineR coreR; simp [hl], .inl (by simp [h5])⟩

/-- the box of a shape, a row of zeros and the box of a module, laid behind each other -/
theorem made_mod {wo : World} {base : Nat} {G : Nat → Prop} {v : Value} {xs : List Mod} (how : Own pMod 49 base G wo v xs) (hb : base ≤ wo.heap.size) (sh : Obj) (nm : Int) (h8 : Fits .u8 nm) (n : Nat) (hn : n ≤ 1000) (Z : Array Value) (hZ : madeCells #[Value.int .i64 0] n = Z) :
    Own pMod 49 base (fun q => G q ∨ wo.heap.size < q) ((((wo.alloc sh).alloc (.cells Z 3)).alloc (.cells #[.int .u8 nm, .slice (some ⟨wo.heap.size + 1, 0, none⟩) n n] 49)).drew) v xs ∧
    SlAt pMod (fun q => q = wo.heap.size + 1 ∨ q = wo.heap.size + 2) ((((wo.alloc sh).alloc (.cells Z 3)).alloc (.cells #[.int .u8 nm, .slice (some ⟨wo.heap.size + 1, 0, none⟩) n n] 49)).drew) (some ⟨wo.heap.size + 2, 0, none⟩) 1 [⟨nm, List.replicate n 0⟩] ∧
    (∀ q, (q = wo.heap.size + 1 ∨ q = wo.heap.size + 2) → (G q ∨ wo.heap.size < q) ∧ q < ((((wo.alloc sh).alloc (.cells Z 3)).alloc (.cells #[.int .u8 nm, .slice (some ⟨wo.heap.size + 1, 0, none⟩) n n] 49)).drew).heap.size ∧ some q ≠ v.ownBlock) ∧
    base ≤ ((((wo.alloc sh).alloc (.cells Z 3)).alloc (.cells #[.int .u8 nm, .slice (some ⟨wo.heap.size + 1, 0, none⟩) n n] 49)).drew).heap.size := by
  subst hZ
  have hb1 : Blk ((wo.alloc sh).alloc (.cells (madeCells #[Value.int .i64 0] n) 3)) (wo.heap.size + 1) 3 (madeCells #[Value.int .i64 0] n) := by
    have := Blk.new (wo.alloc sh) 3 (madeCells #[Value.int .i64 0] n)
    simpa using this
  have hz := zeros_sl (F := fun q => q = wo.heap.size + 1) hb1 rfl (by unfold maxLen; omega)
  have hs : SlAt pMod (fun q => q = wo.heap.size + 1 ∨ q = wo.heap.size + 2) (((wo.alloc sh).alloc (.cells (madeCells #[Value.int .i64 0] n) 3)).alloc (.cells #[.int .u8 nm, .slice (some ⟨wo.heap.size + 1, 0, none⟩) n n] 49)) (some ⟨wo.heap.size + 2, 0, none⟩) 1 [⟨nm, List.replicate n 0⟩] := by
    have := sl_boxed (E := pMod) (e := 49) (w := (wo.alloc sh).alloc (.cells (madeCells #[Value.int .i64 0] n) 3)) (F := fun q => q = wo.heap.size + 1) (x := ⟨nm, List.replicate n 0⟩) (u := .agg #[.int .u8 nm, .slice (some ⟨wo.heap.size + 1, 0, none⟩) n n])
      ⟨some ⟨wo.heap.size + 1, 0, none⟩, n, by simp [Value.cells], h8, hz⟩ (fun k hk => by subst hk; simp)
    simpa [Value.cells] using this
  refine ⟨((((how.alloc _).alloc _).alloc _).drew).wideG fun k _ hk => .inl hk, hs.keep fun _ _ => rfl, fun q hq => ⟨.inr (by omega), by simp; omega, fun he => ?_⟩, by simp; omega⟩
  have := how.lt q he.symm
  omega

def formsK (r : Rul) (k : Nat) : List Frm := r.guards ++ (r.out.take k).flatMap (fun s => s.args)
theorem flat_len : ∀ (l : List Shp), (∀ s ∈ l, s.args.length ≤ 10) → (l.flatMap (fun s => s.args)).length ≤ l.length * 10
  | [], _ => by simp
  | s :: l, h => by
    have h1 := h s (by simp)
    have h2 := flat_len l fun x hx => h x (by simp [hx])
    simp only [List.flatMap_cons, List.length_append, List.length_cons]; omega
theorem formsK_len {r : Rul} (h : ∀ s ∈ r.out, s.args.length ≤ 10) (hg : r.guards.length ≤ 10) (ho : r.out.length ≤ 30) (k : Nat) : (formsK r k).length ≤ 310 := by
  have h1 := flat_len (r.out.take k) fun s hs => h s (List.mem_of_mem_take hs)
  have h2 := List.length_take_le k r.out
  have h3 := List.length_take_le' k r.out
  unfold formsK; rw [List.length_append]; omega
theorem formsK_succ {r : Rul} {k : Nat} {s : Shp} (h : r.out.drop k = s :: r.out.drop (k + 1)) : formsK r (k + 1) = formsK r k ++ s.args := by
  unfold formsK; rw [take_of_drop h, List.flatMap_append, ← List.append_assoc]; simp
theorem formsK_all (r : Rul) (p : Frm → Bool) : (formsK r r.out.length).all p = (r.guards.all p && r.out.all (fun s => s.args.all p)) := by
  unfold formsK; rw [List.take_length, List.all_append, List.all_flatMap]
def modsK (r : Rul) (k : Nat) : List Mod := (r.out.take k).map fun s => ⟨s.name, List.replicate s.args.length 0⟩

set_option maxRecDepth 100000 in
set_option maxHeartbeats 2000000 in
theorem rFine_calls (r : Rul) (A : Option Addr) (c : Nat) (A' : Option Addr) (c' : Nat) (w : World) (h : RulAt r (Old w) w A c A' c') (hg10 : r.guards.length ≤ 10) (ho30 : r.out.length ≤ 30) (ha10 : ∀ s ∈ r.out, s.args.length ≤ 10) :
    Calls Tryd.prog 65 #[.agg #[.int .u8 r.name, .int .i64 r.arity, .int .u8 r.left, .int .u8 r.right, .slice A r.guards.length c, .int .i64 r.weight, .slice A' r.out.length c']] w (BoolPost (fineR r) w) := by
  have hcase := fineR_cases r
  have hn := h.fn
  have hai := h.fa.i64
  have hbx : Blk (w.alloc (.cells #[.int .u8 r.name, .int .i64 r.arity, .int .u8 r.left, .int .u8 r.right, .slice A r.guards.length c, .int .i64 r.weight, .slice A' r.out.length c'] 60)) w.heap.size 60 #[.int .u8 r.name, .int .i64 r.arity, .int .u8 r.left, .int .u8 r.right, .slice A r.guards.length c, .int .i64 r.weight, .slice A' r.out.length c'] := Blk.new _ _ _
  have hb0 : Below w.heap.size w (w.alloc (.cells #[.int .u8 r.name, .int .i64 r.arity, .int .u8 r.left, .int .u8 r.right, .slice A r.guards.length c, .int .i64 r.weight, .slice A' r.out.length c'] 60)) := (Below.refl _ _).alloc (Nat.le_refl _) _
  have hz0 : (w.alloc (.cells #[.int .u8 r.name, .int .i64 r.arity, .int .u8 r.left, .int .u8 r.right, .slice A r.guards.length c, .int .i64 r.weight, .slice A' r.out.length c'] 60)).heap.size = w.heap.size + 1 := by simp
  have H := Lib.hid h; clear h
  have Ha10 := Lib.hid ha10; clear ha10
  have Hbx := Lib.hid hbx; clear hbx
  have Hb0 := Lib.hid hb0; clear hb0
  have Hz0 := Lib.hid hz0; clear hz0
  rcases hcase with ⟨hno, hc⟩ | ⟨h1, h2, h3, h4, hc⟩
  · have Hno := Lib.hid hno; clear hno
    go_enter Tryd.func65, Tryd.ntmps65
    rcases hc with h1 | ⟨h1, h2⟩ | ⟨h1, h2, h3⟩ | ⟨h1, h2, h3, h4⟩
    all_goals
      go_wp2
      go_ret
      exact ⟨by rw [Hno.out]; rfl, Hb0.out⟩
  · go_enter Tryd.func65, Tryd.ntmps65
    go_wp2_with fail
    ((with_reducible refine (oneCheck _ _ hn _ Hz0.out).mono ?_))
    rintro e w1 ⟨rfl, hb1⟩
    have hz1 : w.heap.size + 2 ≤ w1.heap.size := by have := hb1.size; simp at this; omega
    have hbl1 : Blk w1 w.heap.size 60 #[.int .u8 r.name, .int .i64 r.arity, .int .u8 r.left, .int .u8 r.right, .slice A r.guards.length c, .int .i64 r.weight, .slice A' r.out.length c'] :=
      (Hbx.out.alloc _).same (hb1.block _ (by simp; omega))
    obtain ⟨x0, x1, x2, x3, x4, x5, x6⟩ := hbl1.rul
    have hbw1 : Below w.heap.size w w1 := (Hb0.out.alloc (by simp) _).trans (hb1.mono (by simp; omega))
    have Hbl1 := Lib.hid hbl1; clear hbl1
    have Hbw1 := Lib.hid hbw1; clear hbw1
    clear hb1
    rcases hc with ⟨hno, h5 | ⟨h5, h6⟩ | ⟨h5, h6, h7⟩ | ⟨h5, h6, h7, h8⟩⟩ | ⟨h5, h6, h7, h8, hyes⟩
    iterate 4
      · have Hno := Lib.hid hno; clear hno
        go_wp2
        go_ret
        exact ⟨by rw [Hno.out]; rfl, Hbw1.out⟩
    · have hnil : Own pFrm 70 (w.heap.size + 1) (Old w) w1 (.slice none 0 0) [] := Own.nil
      have hsg : SlAt pFrm (Old w) w1 A c r.guards := H.out.sg.below Hbw1.out
      have Hyes := Lib.hid hyes; clear hyes
      have Hnil := Lib.hid hnil; clear hnil
      have Hsg := Lib.hid hsg; clear hsg
      go_wp2_with (at_builtin; refine wpList_cat (E := pFrm) (xs := []) (v := .slice none 0 0) (base := w.heap.size + 1) (G := Old w) 57 70 (.agg #[.int .i64 0, .slice none 0 0]) 32 _ (.tmp 51) rfl rfl Tryd.underlying57 info_frm rfl (by decide) rfl Hnil.out A c r.guards rfl (Old w) Hsg.out ?a2 r.guards.length rfl (room_of ?a3) (by decide) ?a4 ?_; rotate_right; intro A1 c1 w2 hown1 hb2 hk2; have Hown1 := Lib.hid hown1; clear hown1 hk2; have hbl2 := Hbl1.out.same (hb2.block _ (Nat.lt_succ_self _)); obtain ⟨y0, y1, y2, y3, y4, y5, y6⟩ := hbl2.rul; have Hbl2 := Lib.hid hbl2; have Hb2 := Lib.hid (Hbw1.out.trans (hb2.mono (Nat.le_succ _))); have hz2 := hb2.size; clear hbl2 hb2)
      case a2 => intro q hq; have : q < w.heap.size := hq; exact ⟨hq, by omega, by simp [Value.ownBlock]⟩
      case a3 => omega
      case a4 => omega
      have hz2' : w.heap.size + 1 ≤ w2.heap.size := by omega
      clear x0 x1 x2 x3 x4 x5 x6 hz1 hz2
      go_loopw [56, 3, 4] (fun i fo ws wr => ∃ k : Nat, k ≤ r.out.length ∧ i = .int .i64 k ∧ w.heap.size + 1 ≤ wr.heap.size ∧ Hid (Below w.heap.size w wr) ∧ Hid (Blk wr w.heap.size 60 #[.int .u8 r.name, .int .i64 r.arity, .int .u8 r.left, .int .u8 r.right, .slice A r.guards.length c, .int .i64 r.weight, .slice A' r.out.length c']) ∧
        ∃ Af cf Aw cw, fo = .slice Af (formsK r k).length cf ∧ ws = .slice Aw k cw ∧ ∃ G, Hid (Own pFrm 70 (w.heap.size + 1) (Old w) wr fo (formsK r k)) ∧ Hid (Own pMod 49 (w.heap.size + 1) G wr ws (modsK r k)) ∧
          Hid (∀ q, G q → w.heap.size + 1 ≤ q ∧ q < wr.heap.size ∧ fo.ownBlock ≠ some q) ∧ Hid (∀ q, fo.ownBlock = some q → ws.ownBlock ≠ some q)) (fun i _ _ _ => r.out.length - (intOf i).toNat)
      case atStart =>
        have hm0 : Own pMod 49 (w.heap.size + 1) (fun _ => False) w2 (.slice none 0 0) (modsK r 0) := Own.nil
        have hf0 : formsK r 0 = r.guards := by unfold formsK; simp
        refine ⟨0, Nat.zero_le _, rfl, hz2', Hb2, Hbl2, A1, c1, none, 0, by rw [hf0], rfl, fun _ => False, ?_, hm0, fun q hq => hq.elim, fun q _ he => by cases he⟩
        unfold Hid; rw [hf0]; exact Hown1.out
      case round =>
        obtain ⟨k, hk, rfl, hzr, hbr, hblr, Af, cf, Aw, cw, rfl, rfl, G, hof, how, hG, hdj⟩ := hrel
        obtain ⟨wo, rfl⟩ : ∃ wo : World, wo = wr := ⟨_, rfl⟩
        obtain ⟨z0, z1, z2, z3, z4, z5, z6⟩ := hblr.out.rul
        clear y0 y1 y2 y3 y4 y5 y6
        by_cases hlt : k < r.out.length
        · obtain ⟨b, o, As, cs, s, hd, rfl, hob, hs0, hs1, hs8, hsa, hsl⟩ := (H.out.so.below hbr.out).getShp hlt
          have hob' : b < wo.heap.size := by have : b < w.heap.size := hob; omega
          have hk0 : (0 : Int) ≤ (k : Int) := Int.natCast_nonneg _
          have hk1 : (k : Int) < (r.out.length : Int) := by omega
          have hal : s.args.length ≤ 10 := Ha10.out _ (mem_of_drop hd.out)
          obtain ⟨Z, hZ⟩ : ∃ Z, madeCells #[Value.int .i64 0] s.args.length = Z := ⟨_, rfl⟩
          have hmk := fun (wx : World) => run_make_rowN (P := Tryd.prog) (t := 47) (e := 3) Tryd.underlying47 info_intC s.args.length (by omega) (by omega) wx
          rw [show madeCells (Value.int .i64 0).cells (s.args.length * 1) = Z from by rw [Nat.mul_one]; exact hZ] at hmk
          have hmm := made_mod how.out hzr (.cells #[.int .u8 s.name, .slice As s.args.length cs] 72) s.name hs8 s.args.length (by omega) Z hZ
          have hk3 : (modsK r k ++ ([⟨s.name, List.replicate s.args.length 0⟩] : List Mod)).length = k + 1 := by unfold modsK; simp; omega
          have hr3 : Room (k + 1) := room_of (by omega)
          have hsq : some wo.heap.size ≠ (Value.slice Aw k cw).ownBlock := fun he => by have := how.out.lt _ he.symm; omega
          have kp : ∀ (u : Value) (w3 : World), Hid (Grew (w.heap.size + 1) ((((wo.alloc (.cells #[.int .u8 s.name, .slice As s.args.length cs] 72)).alloc (.cells Z 3)).alloc (.cells #[.int .u8 s.name, .slice (some ⟨wo.heap.size + 1, 0, none⟩) s.args.length s.args.length] 49)).drew) w3 (.slice Aw k cw) u) →
              Blk w3 wo.heap.size 72 #[.int .u8 s.name, .slice As s.args.length cs] := fun u w3 hg => by
            have h1 := hg.out.oth wo.heap.size (by simp; omega) hsq
            exact Blk.same ((((Blk.new wo 72 #[.int .u8 s.name, .slice As s.args.length cs]).alloc _).alloc _).same rfl) h1
          have Hmm := Lib.hid hmm; clear hmm
          have HZ := Lib.hid hZ; clear hZ
          have Hk3 := Lib.hid hk3; clear hk3
          have Hr3 := Lib.hid hr3; clear hr3
          have Kp := Lib.hid kp; clear kp
          go_wp2_with fail
          go_region_held3 (fun w' => w'.cell? ⟨wo.heap.size, 0, none⟩ = some (.int .u8 s.name) ∧ w'.cell? ⟨wo.heap.size, 1, none⟩ = some (.slice As s.args.length cs))
            (first | go_keep | exact ⟨(Kp.out _ _ hg3).cell 0, (Kp.out _ _ hg3).cell 1⟩)
            (first | (refine step_catG (E := pMod) (xs := modsK r k) 23 49 (.agg #[.int .u8 0, .slice none 0 0]) 32 (.tmp 60) (.tmp 68) rfl rfl Tryd.underlying23 info_modC rfl (by decide) rfl Hmm.out.1 _ 1 [⟨s.name, List.replicate s.args.length 0⟩] rfl _ Hmm.out.2.1 Hmm.out.2.2.1 (k + 1) Hk3.out Hr3.out (by decide) Hmm.out.2.2.2 ?_; intro A3 c3 w3 hown3 hg3))
          have hz3 : wo.heap.size + 3 ≤ w3.heap.size := by have := hg3.out.bel.size; simp at this; omega
          have hbo3 : Below (w.heap.size + 1) wo w3 := (below_drew ((((Below.refl _ _).alloc hzr _).alloc (by simp; omega) _).alloc (by simp; omega) _)).trans hg3.out.bel
          have hof3 : Own pFrm 70 (w.heap.size + 1) (Old w) w3 (.slice Af (formsK r k).length cf) (formsK r k) :=
            ((((hof.out.alloc _).alloc _).alloc _).drew).beside hg3.out fun q hq => ⟨fun ho => by have := how.out.lt q hq; unfold Old at ho; omega, fun he => hdj.out q he hq⟩
          have hbs3 := Kp.out _ _ hg3
          have hs3 : SlAt pFrm (Old w) w3 As cs s.args := hsa.out.keep fun q hq => hbo3.block q (Nat.lt_succ_of_lt hq)
          have hcs3 : w3.cell? ⟨wo.heap.size, 1, none⟩ = some (.slice As s.args.length cs) := hbs3.cell 1
          have hfk : (formsK r k ++ s.args).length = (formsK r (k + 1)).length := by rw [formsK_succ hd.out]
          have hrf : Room (formsK r (k + 1)).length := room_of (by have := formsK_len Ha10.out hg10 ho30 (k + 1); omega)
          have Hbo3 := Lib.hid hbo3; clear hbo3
          have Hof3 := Lib.hid hof3; clear hof3
          have Hbs3 := Lib.hid hbs3; clear hbs3
          have Hs3 := Lib.hid hs3; clear hs3
          have Hfk := Lib.hid hfk; clear hfk
          have Hrf := Lib.hid hrf; clear hrf
          clear z0 z1 z2 z3 z4 z5 z6 hs0 hs1 hmk
          go_wp2_with (at_builtin; refine wpList_catG (E := pFrm) (xs := formsK r k) (v := .slice Af (formsK r k).length cf) (base := w.heap.size + 1) (G := Old w) 57 70 (.agg #[.int .i64 0, .slice none 0 0]) 32 (.tmp 70) (.tmp 72) rfl rfl Tryd.underlying57 info_frm rfl (by decide) rfl Hof3.out As cs s.args rfl (Old w) Hs3.out ?a2 (formsK r (k + 1)).length Hfk.out Hrf.out (by decide) ?a4 ?_; rotate_right; intro A4 c4 w4 hown4 hg4)
          case a2 =>
            intro q hq
            have hq' : q < w.heap.size := hq
            exact ⟨hq, by omega, fun he => by have := Hof3.out.lt q he.symm; omega⟩
          case a4 => omega
          go_roundw
          case rel =>
            have hz4 := hg4.out.bel.size
            have hfo := fun q (hq : (Value.slice Af (formsK r k).length cf).ownBlock = some q) => hof.out.lt q hq
            have hnot : ∀ q, (Value.slice Af (formsK r k).length cf).ownBlock = some q → ¬ (G q ∨ (wo.heap.size < q ∧ q < w3.heap.size)) ∧ (Value.slice A3 (k + 1) c3).ownBlock ≠ some q := by
              intro q hq
              have h1 := hfo q hq
              refine ⟨fun hg => ?_, fun he => ?_⟩
              · rcases hg with hg | hg
                · exact (hG.out q hg).2.2 hq
                · omega
              · rcases hg3.out.blk with hb | ⟨m, hm, hm2⟩
                · rw [hb] at he; exact hdj.out q hq he
                · rw [hm] at he; cases he; simp at hm2; omega
            have hm3 : Own pMod 49 (w.heap.size + 1) (fun q => G q ∨ (wo.heap.size < q ∧ q < w3.heap.size)) w3 (.slice A3 (k + 1) c3) (modsK r (k + 1)) := by
              have h1 := hown3.out.wideG (G' := fun q => G q ∨ (wo.heap.size < q ∧ q < w3.heap.size)) fun q hq hg => hg.imp id fun h => ⟨h, hq⟩
              have h2 : modsK r (k + 1) = modsK r k ++ [⟨s.name, List.replicate s.args.length 0⟩] := by unfold modsK; rw [take_of_drop hd.out, List.map_append]; rfl
              rw [h2]; exact h1
            refine ⟨k + 1, by omega, by go_num, by omega, (hbr.out.trans (Hbo3.out.mono (Nat.le_succ _))).trans (hg4.out.bel.mono (Nat.le_succ _)), ?_, A4, c4, A3, c3, rfl, rfl, _, ?_, hm3.beside hg4.out hnot, ?_, ?_⟩
            · exact (hblr.out.same (Hbo3.out.block _ (Nat.lt_succ_self _))).same (hg4.out.bel.block _ (Nat.lt_succ_self _))
            · rw [formsK_succ hd.out] at hown4 ⊢; exact hown4
            · intro q hg
              refine ⟨?_, ?_, fun he => ?_⟩
              · rcases hg with hg | hg
                · exact (hG.out q hg).1
                · omega
              · rcases hg with hg | hg
                · have := (hG.out q hg).2.1; omega
                · omega
              · rcases hg4.out.blk with hb | ⟨m, hm, hm2⟩
                · rw [hb] at he; exact (hnot q he).1 hg
                · rw [hm] at he; cases he
                  rcases hg with hg | hg
                  · have := (hG.out _ hg).2.1; omega
                  · omega
            · intro q he
              rcases hg4.out.blk with hb | ⟨m, hm, hm2⟩
              · rw [hb] at he; exact (hnot q he).2
              · rw [hm] at he; cases he
                intro he2
                have := (hm3.lt _ he2).2
                omega
          case measure => simp [intOf]; omega
        · obtain rfl : k = r.out.length := by omega
          obtain ⟨_, hsf⟩ := hof.out.sl'
          obtain ⟨hlw, hsw⟩ := how.out.sl'
          have hr4 : 0 ≤ r.arity ∧ r.arity ≤ 4 := by omega
          have hfl : (formsK r r.out.length).length ≤ 310 := formsK_len Ha10.out hg10 ho30 _
          have hy2 : fineR r = ((formsK r r.out.length).all (fun f => formF f r.arity.toNat) && checkF (modsK r r.out.length) == 0) := by
            rw [Hyes.out, formsK_all]; unfold modsK; rw [List.take_length]
          have Hsf := Lib.hid hsf; clear hsf
          have Hsw := Lib.hid hsw; clear hsw
          have Hlw := Lib.hid hlw; clear hlw
          have Hy2 := Lib.hid hy2; clear hy2
          clear hof how hG hdj z0 z1 z2 z3 z4 z5 z6 hlt
          go_wp2
          go_loopw [77] (fun i wr => ∃ k2 : Nat, k2 ≤ (formsK r r.out.length).length ∧ i = .int .i64 k2 ∧ Hid (Below wo.heap.size wo wr) ∧ wo.heap.size ≤ wr.heap.size ∧ Hid ((formsK r r.out.length).all (fun f => formF f r.arity.toNat) = ((formsK r r.out.length).drop k2).all (fun f => formF f r.arity.toNat))) (fun i _ => (formsK r r.out.length).length - (intOf i).toNat)
          case atStart => exact ⟨0, Nat.zero_le _, rfl, Below.refl _ _, Nat.le_refl _, rfl⟩
          case round =>
            obtain ⟨k2, hk2, rfl, hb2, hz2, hall⟩ := hrel
            obtain ⟨wp, rfl⟩ : ∃ wp : World, wp = wr := ⟨_, rfl⟩
            by_cases hlt : k2 < (formsK r r.out.length).length
            · obtain ⟨b, o, As, cs, f, hd, rfl, hob, hs0, hs1, hsc, hsa, hsl⟩ := ((Hsf.out.keep fun q hq => hb2.out.block q hq.2)).getFrm hlt
              have hob' : b < wp.heap.size := by have := hob.2; omega
              have hwl : w.heap.size < wp.heap.size := by omega
              have hblp := (hblr.out.same (hb2.out.block _ hzr))
              obtain ⟨z0, z1, z2, z3, z4, z5, z6⟩ := hblp.rul
              clear z0 z2 z3 z4 z5 z6 hblp
              have hk0 : (0 : Int) ≤ (k2 : Int) := Int.natCast_nonneg _
              have hk1 : (k2 : Int) < ((formsK r r.out.length).length : Int) := by omega
              have hcall : ∀ W : World, Below wp.heap.size wp W → Calls Tryd.prog 76 #[.agg #[.int .i64 f.const, .slice As f.coefs.length cs], .int .i64 r.arity] W (BoolPost (formF f r.arity.toNat) W) := fun W hW =>
                form_int As cs f r.arity W (hsa.out.keep fun q hq => hW.block q (by have := hq.2; omega)) (fun q hq => by have := hq.2; have := hW.size; omega) hsc hr4
              have hzz := hb2.out.size
              have Hcall := Lib.hid hcall; clear hcall
              go_wp2_with fail
              refine (Hcall.out _ ((Below.refl _ _).alloc (Nat.le_refl _) _)).mono ?_
              rintro e w5 ⟨rfl, hb5⟩
              have hbw5 : Below wp.heap.size wp w5 := ((Below.refl _ _).alloc (Nat.le_refl _) _).trans (hb5.mono (by simp))
              have hz5 := hbw5.size
              have Hbw5 := Lib.hid hbw5; clear hbw5
              clear hb5
              cases hfm : formF f r.arity.toNat
              · go_wp2
                go_ret
                refine ⟨ret_bool ?_, (hbr.out.trans (hb2.out.mono (by omega))).trans (Hbw5.out.mono (by omega))⟩
                rw [Hy2.out, hall.out, hd.out, List.all_cons, hfm]; rfl
              · go_wp2
                go_roundw
                case rel =>
                  refine ⟨k2 + 1, by omega, by go_num, hb2.out.trans (Hbw5.out.mono hz2), by omega, ?_⟩
                  unfold Hid; rw [hall.out, hd.out, List.all_cons, hfm]; rfl
                case measure => simp [intOf]; omega
            · have ha : fineR r = (checkF (modsK r r.out.length) == 0) := by rw [Hy2.out, hall.out, drop_end hlt]; rfl
              have hck : Calls Tryd.prog 42 #[.slice Aw r.out.length cw] wp (CheckPost (modsK r r.out.length) wp) := by
                have := wordCheck_calls Aw cw (modsK r r.out.length) wp ((Hsw.out.keep fun q hq => hb2.out.block q hq.2).wide fun q hq => Nat.lt_of_lt_of_le hq.2 hz2)
                rwa [Hlw.out] at this
              have Ha := Lib.hid ha; clear ha
              have Hck := Lib.hid hck; clear hck
              go_wp2_with fail
              refine Hck.out.mono ?_
              rintro e w5 ⟨rfl, hb5⟩
              have hbw5 : Below w.heap.size w w5 := (hbr.out.trans (hb2.out.mono (by omega))).trans (hb5.mono (by omega))
              have Hbw5 := Lib.hid hbw5; clear hbw5
              clear hb5
              go_wp2
              go_ret
              exact ⟨by rw [Ha.out]; rfl, Hbw5.out⟩

end Go.Proofs.YtlipmagkplbkdaaDoor
