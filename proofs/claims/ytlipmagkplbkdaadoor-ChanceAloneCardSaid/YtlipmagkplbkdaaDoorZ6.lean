/- Texts of the proof that the statement of ChanceAlone holds, several in one. -/
import Derived.Test.YtlipmagkplbkdaaDoorZ4
import Derived.Test.YtlipmagkplbkdaaDoorProg
import Derived.Lib.SlTrimSet
import Derived.Deep.MidRow
import Derived.Deep.DeepCutAuto
set_option linter.unusedVariables false
set_option linter.unusedSimpArgs false
set_option linter.unusedSectionVars false
set_option maxRecDepth 100000
set_option maxHeartbeats 8000000
namespace Go.Proofs.YtlipmagkplbkdaaDoor
section
open Go.RowKit
theorem opens_ints : Opens Tryd.prog 47 (pSl (pI .i64)) := opens_slice Tryd.underlying47 (by kernel_rfl) (by decide) (opens_int Tryd.underlying3)
end
section
open Go.RowKit
theorem opens_mod' : Opens Tryd.prog 49 pMod :=
 opens_mod Tryd.underlying49 (by kernel_rfl) ⟨rfl, by kernel_rfl⟩ ⟨rfl, by kernel_rfl⟩ (opens_int Tryd.underlying5) opens_ints
theorem opens_word : Opens Tryd.prog 23 (pSl pMod) := opens_slice Tryd.underlying23 (by kernel_rfl) (by decide) opens_mod'
theorem opens_frm' : Opens Tryd.prog 70 pFrm :=
 opens_frm Tryd.underlying70 (by kernel_rfl) ⟨rfl, by kernel_rfl⟩ ⟨rfl, by kernel_rfl⟩ (opens_int Tryd.underlying3) opens_ints
theorem opens_frms : Opens Tryd.prog 57 (pSl pFrm) := opens_slice Tryd.underlying57 (by kernel_rfl) (by decide) opens_frm'
theorem opens_shp' : Opens Tryd.prog 72 pShp :=
 opens_shp Tryd.underlying72 (by kernel_rfl) ⟨rfl, by kernel_rfl⟩ ⟨rfl, by kernel_rfl⟩ (opens_int Tryd.underlying5) opens_frms
theorem opens_shps : Opens Tryd.prog 58 (pSl pShp) := opens_slice Tryd.underlying58 (by kernel_rfl) (by decide) opens_shp'
theorem opens_rul' : Opens Tryd.prog 60 pRul :=
 opens_rul Tryd.underlying60 (by kernel_rfl) (by kernel_rfl) (opens_int Tryd.underlying5) (opens_int Tryd.underlying3) (opens_int Tryd.underlying5) (opens_int Tryd.underlying5) opens_frms (opens_int Tryd.underlying3) opens_shps
theorem opens_rules : Opens Tryd.prog 22 (pSl pRul) := opens_slice Tryd.underlying22 (by kernel_rfl) (by decide) opens_rul'
end
section
open Go.RowKit
structure Grew (base : Nat) (w w' : World) (v v' : Value) : Prop where
 bel : Below base w w'
 oth : ∀ k, k < w.heap.size -> some k ≠ v.ownBlock -> w'.heap[k]? = w.heap[k]?
 blk : v'.ownBlock = v.ownBlock ∨ ∃ k, v'.ownBlock = some k /\ w.heap.size <= k
section
variable {α : Type} {E : Rp α} {w w' : World} {e : TypeId} {base : Nat} {G : Nat -> Prop} {v v' : Value} {xs : List α}
theorem below_drew {B : Nat} {a w : World} (h : Below B a w) : Below B a w.drew := ⟨h.os, h.tape, h.output, h.size, h.block⟩
theorem Own.keepG (h : Own E e base G w v xs)
  (hk : ∀ k, k < w.heap.size -> (G k ∨ v.ownBlock = some k) -> w'.heap[k]? = w.heap[k]?) (hs : w.heap.size <= w'.heap.size) : Own E e base G w' v xs := by
 obtain ⟨cells, ⟨h1, h2⟩, h3⟩ := h
 refine ⟨cells, ⟨h1, ?_⟩, (CellsAre.keep (fun k hF => hk k hF.2.1 (.inl hF.1)) h3).wide fun k hF => ⟨hF.1, by omega, hF.2.2⟩⟩
 rcases h2 with h2 | ⟨g, cap, cur, hv, hb, hg, r⟩
 ·exact .inl h2
 ·exact .inr ⟨g, cap, cur, hv, hb, by rw [hk g (Array.getElem?_eq_some_iff.1 hg).1 (.inr (by rw [hv]; rfl))]; exact hg, r⟩
theorem Own.wideG {G' : Nat -> Prop} (h : Own E e base G w v xs) (hG : ∀ k, k < w.heap.size -> G k -> G' k) : Own E e base G' w v xs := by
 obtain ⟨cells, h1, h3⟩ := h
 exact ⟨cells, h1, h3.wide fun k hF => ⟨hG k hF.2.1 hF.1, hF.2⟩⟩
theorem Own.sl' {A : Option Addr} {n c : Nat} (h : Own E e base G w (.slice A n c) xs) : xs.length = n /\ SlAt E (fun k => (G k ∨ base <= k) /\ k < w.heap.size) w A c xs := by
 obtain ⟨A', c', he, hs⟩ := h.sl
 cases he
 exact ⟨rfl, hs⟩
theorem Own.beside {u u' : Value} {b : Nat} (h : Own E e base G w v xs) (hg : Grew b w w' u u') (hd : ∀ k, u.ownBlock = some k -> ¬ G k /\ v.ownBlock ≠ some k) : Own E e base G w' v xs :=
 h.keepG (fun k hk hG => hg.oth k hk fun he => by
  have := hd k he.symm
  rcases hG with hG | hG
  ·exact this.1 hG
  ·exact this.2 hG) hg.bel.size
end
section
variable {P : Program} {α : Type} {E : Rp α}
theorem wpList_catG {ops : Array Oper} {rest : List Oper} {o : Oper} {a : Act} {Q : Exit -> Act -> World -> Prop} {w : World} {base : Nat} {G : Nat -> Prop} {v : Value} {xs : List α} (t e : TypeId) (z : Value) (bytes : Nat) (s x : Operand) (hgd : o.guard = none)
  (ho : o.op = .call { callee := .builtin .append, args := #[s, x], argTypes := #[t, t] })
  (ht : P.underlying t = some (.slice e)) (hinfo : (P.info? e).map (fun i => (i.zero, i.size, i.bytes)) = some (some z, E.n, bytes)) (hzs : z.cells.size = E.n) (hsz : 0 < E.n)
  (hs : a.eval s = v) (hown : Own E e base G w v xs) (A : Option Addr) (c : Nat) (ys : List α) (hx : a.eval x = .slice A ys.length c) (F : Nat -> Prop) (hsl : SlAt E F w A c ys)
  (hF : ∀ k, F k -> G k /\ k < w.heap.size /\ some k ≠ v.ownBlock) (n : Nat) (hn : (xs ++ ys).length = n) (hlen : Room n) (hb : bytes <= 131072) (hbase : base <= w.heap.size)
  (h : ∀ A' c' w', Hid (Own E e base G w' (.slice A' n c') (xs ++ ys)) -> Hid (Grew base w w' v (.slice A' n c')) -> wpList P ops Q rest (a.put o.dst (.slice A' n c')) w') : wpList P ops Q (o :: rest) a w := by
 refine wpList_app_sl t e z bytes hgd s x ho ht hinfo hzs hsz hs hown A c ys hx F hsl hF (by rw [<- List.length_append, hn]; exact Nat.le_of_lt hlen) hb hbase fun v' w' h1 h2 h3 => ?_
 obtain ⟨cells, ⟨hl, hv⟩, hc⟩ := h1
 have hform : ∃ A' c', v' = .slice A' n c' := by
  rcases hv with ⟨hv, h0⟩ | ⟨g, cap, cur, hv, _⟩
  ·rw [hn] at h0; subst h0; exact ⟨_, _, hv⟩
  ·rw [hn] at hv; exact ⟨_, _, hv⟩
 obtain ⟨A', c', rfl⟩ := hform
 exact h A' c' w' ⟨cells, ⟨hl, hv⟩, hc⟩ ⟨below_app (Below.refl base w) h2 hown (Nat.le_refl _) hbase, h2.block, h3.imp id fun he => ⟨_, he, Nat.le_refl _⟩⟩
theorem wpList_pushG {ops : Array Oper} {rest : List Oper} {o1 o2 : Oper} {a : Act} {Q : Exit -> Act -> World -> Prop} {w : World} {base : Nat} {G : Nat -> Prop} {v : Value} {xs : List α} (t e : TypeId) (z : Value) (bytes : Nat) (tmp : Nat) (s xo : Operand)
  (hg1 : o1.guard = none) (hg2 : o2.guard = none) (hd1 : o1.dst = some tmp) (ho1 : o1.op = .buildSlice t 1 #[(0, xo)])
  (ho2 : o2.op = .call { callee := .builtin .append, args := #[s, .tmp tmp], argTypes := #[t, t] })
  (ht : P.underlying t = some (.slice e)) (hinfo : (P.info? e).map (fun i => (i.zero, i.size, i.bytes)) = some (some z, E.n, bytes)) (hzs : z.cells.size = E.n) (hsz : 0 < E.n)
  (hs : ∀ u, (a.put (some tmp) u).eval s = v) (ht2 : ∀ u, (a.put (some tmp) u).eval (.tmp tmp) = u) (hown : Own E e base G w v xs)
  (u : Value) (hu : a.eval xo = u) (x : α) (F : Nat -> Prop) (hR : E.R F w u.cells.toList x)
  (hF : ∀ k, F k -> G k /\ k < w.heap.size /\ some k ≠ v.ownBlock) (n : Nat) (hn : xs.length + 1 = n) (hlen : Room xs.length) (hb : bytes <= 131072 /\ E.n <= 16777216) (hbase : base <= w.heap.size)
  (h : ∀ A' c' w', Hid (Own E e base G w' (.slice A' n c') (xs ++ [x])) -> Hid (Grew base w w' v (.slice A' n c')) ->
   wpList P ops Q rest ((a.put (some tmp) (.slice (some ⟨w.heap.size, 0, none⟩) 1 1)).put o2.dst (.slice A' n c')) w') : wpList P ops Q (o1 :: o2 :: rest) a w := by
 subst hn
 have hcl := E.len hR
 have hrun := run_buildSlice1 (P := P) (t := t) (e := e) (z := z) (size := E.n) (bytes := bytes) ht hinfo hzs hsz hb.2 u (by simpa using hcl) w
 refine wpList_plain hg1 fun K hK => ?_
 unfold Oper.wp
 rw [show execOp a.eval o1 = do return .value (<- Instr.buildSlice t 1 #[(0, u)]) from by simp [execOp, ho1, hu]]
 simp only [Sem.run_bind, hrun, Result.andThen_ok, Sem.run_pure, Oper.upon_value, hd1]
 refine hK _ _ ?_
 have hkp : ∀ k, k < w.heap.size -> (w.alloc (.cells u.cells e)).heap[k]? = w.heap[k]? := fun k hk => Below.heap_alloc _ _ _ hk
 refine wpList_app (P := P) (E := E) (base := base) (G := G) (v := v) (xs := xs) t e z bytes hg2 s (.tmp tmp) ho2 ht hinfo hzs hsz (hs _) (hown.alloc _) ⟨w.heap.size, 0, none⟩ 1 1 (ht2 _) u.cells.toList [x] rfl F
  (CellsAre.one (E.keep hR fun k hk => hkp k (hF k hk).2.1)) (fun j c hc => ?_) (fun k hk => ⟨(hF k hk).1, by simp; have := (hF k hk).2.1; omega, (hF k hk).2.2⟩) (by unfold Room at hlen; simp; omega) hb.1 (by simp; omega) (fun v' w' h1 h2 h3 => ?_)
 ·rw [add_lit', Nat.zero_add, (Blk.new w e u.cells).cell]; simpa using hc
 ·obtain ⟨cells, ⟨hl, hv⟩, hc⟩ := h1
  have hform : ∃ A' c', v' = .slice A' (xs.length + 1) c' := by
   rcases hv with ⟨_, h0⟩ | ⟨g, cap, cur, hv, _⟩
   ·simp at h0
   ·rw [List.length_append] at hv; exact ⟨_, _, hv⟩
  obtain ⟨A', c', rfl⟩ := hform
  refine h A' c' w' ⟨cells, ⟨hl, hv⟩, hc⟩ ⟨?_, fun k hk hne => (h2.block k (by simp; omega) hne).trans (hkp k hk), h3.imp id fun he => ⟨_, he, by simp⟩⟩
  refine below_app ((Below.refl base w).alloc hbase _) h2 (hown.alloc _) (Nat.le_refl _) (by simp; omega)
theorem wp_catG {o : Oper} {a : Act} {K : Act -> World -> Prop} {Q : Exit -> Act -> World -> Prop} {w : World} {base : Nat} {G : Nat -> Prop} {v : Value} {xs : List α} (t e : TypeId) (z : Value) (bytes : Nat) (s x : Operand)
  (ho : o.op = .call { callee := .builtin .append, args := #[s, x], argTypes := #[t, t] })
  (ht : P.underlying t = some (.slice e)) (hinfo : (P.info? e).map (fun i => (i.zero, i.size, i.bytes)) = some (some z, E.n, bytes)) (hzs : z.cells.size = E.n) (hsz : 0 < E.n)
  (hs : a.eval s = v) (hown : Own E e base G w v xs) (A : Option Addr) (c : Nat) (ys : List α) (hx : a.eval x = .slice A ys.length c) (F : Nat -> Prop) (hsl : SlAt E F w A c ys)
  (hF : ∀ k, F k -> G k /\ k < w.heap.size /\ some k ≠ v.ownBlock) (n : Nat) (hn : (xs ++ ys).length = n) (hlen : Room n) (hb : bytes <= 131072) (hbase : base <= w.heap.size)
  (h : ∀ A' c' w', Hid (Own E e base G w' (.slice A' n c') (xs ++ ys)) -> Hid (Grew base w w' v (.slice A' n c')) -> K (a.put o.dst (.slice A' n c')) w') : o.wp P a w K Q := by
 obtain ⟨i, hi, hz, h1, h2⟩ := info_parts hinfo
 have hown' := hown
 obtain ⟨cells, h3, h4⟩ := hown
 cases A with
 | some ad =>
  obtain ⟨news, h5, h6⟩ := hsl.cells
  have hby : (xs.length + ys.length) * bytes <= 140737488355328 := by
   rw [<- List.length_append, hn]
   have := Nat.mul_le_mul (Nat.le_of_lt hlen) hb
   omega
  have hml : xs.length + ys.length <= maxLen := by
   rw [<- List.length_append, hn]; unfold Room at hlen; unfold maxLen; omega
  obtain ⟨v', w', hr, k1, k2, _, k4⟩ := run_append_own_at (P := P) w base t o.type e i z E.n bytes ht hi hz h1 h2 hzs hsz v xs.length cells h3 ad ys.length c news h5.length h6 h5.oneCell hml hby hbase
  have hO := own_append h4 h5 hF k1 k2 k4
  have hform : ∃ A' c', v' = .slice A' n c' := by
   obtain ⟨cells', ⟨hl, hv⟩, hc⟩ := hO
   rcases hv with ⟨hv, h0⟩ | ⟨g, cap, cur, hv, _⟩
   ·rw [hn] at h0; subst h0; exact ⟨_, _, hv⟩
   ·rw [hn] at hv; exact ⟨_, _, hv⟩
  obtain ⟨A', c', rfl⟩ := hform
  unfold Oper.wp execOp
  simp only [ho, resolve, invoke, builtin, Sem.run_bind, Sem.run_pure, Result.andThen_ok, List.map_toArray, List.map_cons, List.map_nil, hs, hx, hr]
  exact h A' c' w' hO ⟨below_app (Below.refl base w) k2 hown' (Nat.le_refl _) hbase, k2.block, k4.imp id fun he => ⟨_, he, Nat.le_refl _⟩⟩
 | none =>
  have hc := hsl.nil rfl
  have hl := hsl.le
  have hy : ys = [] := List.eq_nil_of_length_eq_zero (by omega)
  subst hy
  subst hc
  have hrun := run_append_owned_none (P := P) w base t o.type e i E.n ht hi v xs.length cells h3
  have hform : ∃ A' c', v = .slice A' n c' := by
   rcases h3.2 with ⟨hv, h0⟩ | ⟨g, cap, cur, hv, _⟩
   ·rw [List.append_nil] at hn; rw [hn] at h0; subst h0; exact ⟨_, _, hv⟩
   ·rw [List.append_nil] at hn; rw [hn] at hv; exact ⟨_, _, hv⟩
  obtain ⟨A', c', rfl⟩ := hform
  unfold Oper.wp execOp
  simp only [List.length_nil] at hx
  simp only [ho, resolve, invoke, builtin, Sem.run_bind, Sem.run_pure, Result.andThen_ok, List.map_toArray, List.map_cons, List.map_nil, hs, hx, hrun]
  exact h A' c' w (by unfold Hid; rw [List.append_nil]; exact hown') ⟨Below.refl base w, fun _ _ _ => rfl, .inl rfl⟩
theorem step_catG {ops : Array Oper} {o : Oper} {a : Act} {K : Act -> World -> Prop} {Q : Exit -> Act -> World -> Prop} {D : Prop} {w : World} {base : Nat} {G : Nat -> Prop} {v : Value} {xs : List α} (t e : TypeId) (z : Value) (bytes : Nat) (s x : Operand) (hgd : o.guard = none)
  (ho : o.op = .call { callee := .builtin .append, args := #[s, x], argTypes := #[t, t] })
  (ht : P.underlying t = some (.slice e)) (hinfo : (P.info? e).map (fun i => (i.zero, i.size, i.bytes)) = some (some z, E.n, bytes)) (hzs : z.cells.size = E.n) (hsz : 0 < E.n)
  (hs : a.eval s = v) (hown : Own E e base G w v xs) (A : Option Addr) (c : Nat) (ys : List α) (hx : a.eval x = .slice A ys.length c) (F : Nat -> Prop) (hsl : SlAt E F w A c ys)
  (hF : ∀ k, F k -> G k /\ k < w.heap.size /\ some k ≠ v.ownBlock) (n : Nat) (hn : (xs ++ ys).length = n) (hlen : Room n) (hb : bytes <= 131072) (hbase : base <= w.heap.size)
  (h : ∀ A' c' w', Hid (Own E e base G w' (.slice A' n c') (xs ++ ys)) -> Hid (Grew base w w' v (.slice A' n c')) -> K (a.put o.dst (.slice A' n c')) w') :
  if Region.wanted o (yielded ops a.tmps) = true then Oper.wp P o a w K Q else D := by
 rw [if_pos (by simp [Region.wanted, hgd])]
 exact wp_catG t e z bytes s x ho ht hinfo hzs hsz hs hown A c ys hx F hsl hF n hn hlen hb hbase h
end
theorem zeros_sl {w : World} {g n : Nat} {t : TypeId} {F : Nat -> Prop} (h : Blk w g t (madeCells #[Value.int .i64 0] n)) (hF : F g) (hn : n <= maxLen) : SlAt (pI .i64) F w (some ⟨g, 0, none⟩) n (List.replicate n 0) := by
 rw [cellsN_made] at h
 have := sl_of_blk h hF hn fun i _ => (fits_i64 (by omega) : Fits .i64 0)
 rwa [List.map_const', List.length_range] at this
end
section
open Go.RowKit
structure Cel where
 path : ByteArray
 mod : Mod
 deriving DecidableEq, Inhabited
def pCel : Rp Cel where
 n := 3
 R F w cs x := ∃ A c, cs = [.string x.path, .int .u8 x.mod.name, .slice A x.mod.args.length c] /\ x.path.size <= maxLen /\ Fits .u8 x.mod.name /\ SlAt (pI .i64) F w A c x.mod.args
 len := by rintro F w cs x ⟨A, c, rfl, _⟩; rfl
 keep := by rintro F w w' cs x ⟨A, c, rfl, h0, h1, h2⟩ k; exact ⟨A, c, rfl, h0, h1, h2.keep k⟩
 wide := by rintro F F' w cs x ⟨A, c, rfl, h0, h1, h2⟩ k; exact ⟨A, c, rfl, h0, h1, h2.wide k⟩
 one := by
  rintro F w cs x ⟨A, c, rfl, _⟩ v hv
  simp at hv; rcases hv with rfl | rfl | rfl <;> rfl
section
variable {F : Nat -> Prop} {w : World} {A : Option Addr} {cap : Nat}
theorem SlAt.getCel {xs : List Cel} (h : SlAt pCel F w A cap xs) {i : Nat} (hi : i < xs.length) :
  ∃ b o A' c' m, Hid (xs.drop i = m :: xs.drop (i + 1)) /\ A = some ⟨b, o, none⟩ /\ F b /\ w.cell? ⟨b, o + i * 3, none⟩ = some (.string m.path) /\ w.cell? ⟨b, o + i * 3 + 1, none⟩ = some (.int .u8 m.mod.name) /\
   w.cell? ⟨b, o + i * 3 + 2, none⟩ = some (.slice A' m.mod.args.length c') /\ m.path.size <= 9223372036854775807 /\ Fits .u8 m.mod.name /\ Hid (SlAt (pI .i64) F w A' c' m.mod.args) /\ m.mod.args.length <= 9223372036854775807 := by
 obtain ⟨b, o, cs, x, h0, h1, h2, ⟨A', c', rfl, hp, h3, h5⟩, h4⟩ := h.get hi
 exact ⟨b, o, A', c', x, h0, h1, h2, by simpa [pCel] using h4 0 _ rfl, by simpa [pCel] using h4 1 _ rfl, by simpa [pCel] using h4 2 _ rfl, by unfold maxLen at hp; omega, h3, h5, h5.lenle.1⟩
end
section
variable {P : Program} {t : TypeId}
end
theorem info_cel : (Tryd.prog.info? 51).map (fun i => (i.zero, i.size, i.bytes)) = some (some (.agg #[.string ByteArray.empty, .int .u8 0, .slice none 0 0]), 3, 48) := by kernel_rfl
def pathB (b : UInt8) : Bool := b == 47 || (decide (48 <= b.toNat) && decide (b.toNat <= 57))
def pathF (s : ByteArray) : Bool := decide (1 <= s.size) && decide (s.size <= 200) && s.data.toList.all pathB
theorem dropWhile_nil_iff {α : Type} (p : α -> Bool) : ∀ l : List α, l.dropWhile p = [] ↔ l.all p = true
 | [] => by simp
 | a :: l => by
  rw [List.dropWhile_cons, List.all_cons]
  cases p a
  ·simp
  ·simpa using dropWhile_nil_iff p l
theorem trim_nil (l cs : List UInt8) : Lib.trimS l cs = [] ↔ l.all (cs.contains ·) = true := by
 unfold Lib.trimS Lib.trimLeftS Lib.trimRightS
 rw [dropWhile_nil_iff]
 constructor
 ·intro h
  have h2 : l.reverse.dropWhile (cs.contains ·) = [] := by
   cases hd : l.reverse.dropWhile (cs.contains ·) with
   | nil => rfl
   | cons a t =>
    exfalso
    have hne := List.head?_dropWhile_not (cs.contains ·) l.reverse
    rw [hd] at hne h
    simp only [List.head?_cons] at hne
    rw [List.all_reverse] at h
    have := List.all_eq_true.1 h a (by simp)
    have hm := List.contains_iff_mem.1 this
    simp at hne
    exact hne hm
  rw [dropWhile_nil_iff, List.all_reverse] at h2
  exact h2
 ·intro h
  have h2 : l.reverse.dropWhile (cs.contains ·) = [] := (dropWhile_nil_iff _ _).2 (by rw [List.all_reverse]; exact h)
  rw [h2]; rfl
theorem pathB_contains (b : UInt8) : [47, 48, 49, 50, 51, 52, 53, 54, 55, 56, 57].contains b = pathB b := by
 have h : ∀ n : Fin 256, [47, 48, 49, 50, 51, 52, 53, 54, 55, 56, 57].contains (UInt8.ofNat n.val) = pathB (UInt8.ofNat n.val) := by decide +kernel
 have := h ⟨b.toNat, b.toNat_lt⟩
 simpa using this
end
section
open Go.RowKit
section
variable {P : Program}
end
theorem blk_row {w : World} {g : Nat} {t : TypeId} {old cs : Array Value} (h : Blk w g t old) : Blk (w.setRow g cs) g t cs := setRow_heap w g old cs t (0, 0) h
theorem row_below {B g : Nat} {w0 w : World} (h : RowKit.Below B w0 w) (hg : B <= g) (cs : Array Value) : RowKit.Below B w0 (w.setRow g cs) :=
 ⟨h.os, h.tape, h.output, by simpa using h.size, fun k hk => (setRow_other w g k cs (by omega)).trans (h.block k hk)⟩
section
variable {P : Program}
theorem wp_storeAtG {o : Oper} {a : Act} {K : Act -> World -> Prop} {Q : Exit -> Act -> World -> Prop} {w : World} {g : Nat} {t : TypeId} (ty : TypeId) (p x : Operand) (off : Nat) (old cells row : Array Value) (ho : o.op = .store ty p x) (hp : a.eval p = .pointer (some ⟨g, off, none⟩)) (hx : a.eval x = .agg cells)
  (hg : Blk w g t old) (hi : (P.info? ty).map (·.size) = some cells.size) (hs : off + cells.size <= old.size) (h1 : cells.all (·.oneCell') = true) (hrow : (old.toList.take off ++ cells.toList ++ old.toList.drop (off + cells.size)).toArray = row) (hd : o.dst = none) (h : K a (w.setRow g row)) : o.wp P a w K Q := by
 have hr : (storeVar ty ⟨g, off, none⟩ (.agg cells)).run P w = .ok () (w.setRow g row) := by
  have := run_storeCells_at P g off t cells.toList 0 old w hg (by simpa using hs) (fun v hv => (Array.all_eq_true_iff_forall_mem.1 h1) v (by simpa using hv))
  rw [<- hrow]
  cases hq : P.info? ty with
  | none => simp [hq] at hi
  | some i =>
   have hs : cells.size = i.size := by simp [hq] at hi; omega
   simp only [Nat.add_zero, Array.length_toList] at this
   simp [storeVar, sizeOf, typeInfo, hq, Value.cells, <- hs, this]
 unfold Oper.wp
 obtain ⟨dst, op, tt, ps, af, gd⟩ := o
 simp only at ho hd
 subst ho hd
 simp [execOp, Instr.storeAt, Instr.sureAddr, hp, hx, hr, Oper.upon]
 exact h
end
section
variable {P : Program} {l : List Oper} {c : List (Option Nat)} {D : List (List Nat)} {tm : Array Value} {df : List Deferred} {w0 : World} {Q : Exit -> Act -> World -> Prop}
variable {Φ : Nat -> (Nat -> Prop) -> (Nat -> Value) -> World -> Prop} {i : Nat} {o : Oper} {a : Act} {w : World} {X : Nat -> Nat -> Prop}
theorem run_loadL (ev : Operand -> Value) (ty : TypeId) (x : Operand) (ho : o.op = .load ty x) (b off : Nat) (hx : ev x = .pointer (some ⟨b, off, none⟩)) (cs : List Value) (d : TypeDesc) (hc : w.rangeAt b off cs)
  (hu : P.underlying ty = some d) (hd : d.isRow = true) (hi : (P.info? ty).map (·.size) = some cs.length) : (execOp ev o).run P w = .ok (.value (.agg cs.toArray)) w := by
 unfold execOp
 simp only [ho, hx, Sem.run_bind, run_loadAt_mid w b off ty cs d hc hu hd hi, Result.andThen_ok, Sem.run_pure]
end
end
end Go.Proofs.YtlipmagkplbkdaaDoor
