/-
  Several texts in one.
-/
import Derived.Test.YtlipmagkplbkdaaDoorZ13
import Derived.Test.YtlipmagkplbkdaaDoorZ18
import Derived.Test.YtlipmagkplbkdaaDoorZ15
/-! Oc9 -/
namespace Go.Proofs.YtlipmagkplbkdaaDoor
open Go Go.Conc Go.RowKit
set_option linter.unusedVariables false
set_option linter.unusedSimpArgs false
theorem slat_nilF {N : Nat} {w : World} {F : Nat → Prop} : SlAt (pCelF N) F w none 0 [] := ⟨Nat.le_refl _, Nat.zero_le _, (fun _ => rfl), fun i x hx => by simp at hx⟩
theorem unf_turn {S : FuncId → Prop} {ρ : Ren} {v v' : World} {b c : Nat} (h : HRel S ρ v v') (hbc : ρ b c) (hu : Unf v b) : Unf v' c := fun o => by
  cases hf : v'.frozen? ⟨c, o, none⟩
  · rfl
  · have := h.frozen b c hbc o hf
    rw [hu o] at this
    cases this
theorem trn_celF : Trn (pCelF 0) where
  turn h hl := fun ⟨A, c, e, hp, hf, hs, hu⟩ => by
    subst e
    obtain ⟨u0, l, rfl, hu0, hl⟩ := lsRel_cons hl
    obtain ⟨u1, l, rfl, hu1, hl⟩ := lsRel_cons hl
    obtain ⟨u2, rfl, hu2⟩ := lsRel_one hl
    have hu2' := hu2
    obtain ⟨A', rfl, h2⟩ := hs.turn (trn_i _) h hu2 rfl
    rw [vRel_str hu0, vRel_int hu1]
    refine ⟨A', c, rfl, hp, hf, h2, fun hne b o hA => ⟨Nat.zero_le _, ?_⟩⟩
    subst hA
    generalize hx : (Value.slice A _ c) = x at hu2'
    generalize hy : (Value.slice (some ⟨b, o, none⟩) _ c) = y at hu2'
    cases hu2' with
    | nils => cases hy
    | sl b1 c1 off sp n k hbc =>
      injection hx with e1 _ _
      injection hy with e2 _ _
      injection e2 with e2
      injection e2 with e3 e4 e5
      subst e1 e3 e4 e5
      exact unf_turn h hbc (hu hne _ _ rfl).2
    | sl0 a =>
      injection hy with _ e2 _
      exact absurd (List.eq_nil_of_length_eq_zero e2) hne
    | _ => first | cases hx | cases hy
theorem slat_hideF {N : Nat} {F' : Nat → Prop} {v v1 : World} {A : Option Addr} {cap : Nat} {xs : List Cel} (hN : N ≤ v.heap.size) (hg : Grow v v1) (hs : SlAt (pCelF 0) (Old (hide v v1)) (hide v v1) A cap xs)
    (hc : ∀ a u, (hide v v1).cell? a = some u → F' a.block ∧ v1.cell? a = some u) : SlAt (pCelF N) F' v1 A cap xs :=
  ⟨hs.le, hs.mx, hs.nil, fun i x hx => by
    obtain ⟨b, o, cs, h1, h2, ⟨A', c', h3, hp, hf, h5, h6⟩, h7⟩ := hs.el i x hx
    subst h3
    refine ⟨b, o, _, h1, (hc _ _ (h7 0 _ rfl)).1, ⟨A', c', rfl, hp, hf, h5.into (inn_i _) hc, fun hne b' o' hA => ?_⟩, fun j u hj => (hc _ _ (h7 j u hj)).2⟩
    have hu := (h6 hne b' o' hA).2
    obtain ⟨b9, o9, x9, _, hA9, _, hcell, _⟩ := h5.getI (i := 0) (List.length_pos_iff.2 hne)
    rw [hA] at hA9
    cases hA9
    obtain ⟨k1, k2⟩ := hide_cell hcell
    have hget : (hide v v1).heap[b']? = v1.heap[b']? := hide_get k2
    have hu1 : Unf v1 b' := unf_same hu hget.symm
    refine ⟨?_, hu1⟩
    rcases k2 with k2 | k2
    · exact Nat.le_trans hN k2
    · exfalso
      have hlt := World.block_lt_of_cell? _ _ k1
      cases ho : v1.heap[b']? with
      | none => rw [Array.getElem?_eq_none_iff] at ho; exact absurd hlt (Nat.not_lt.2 ho)
      | some ob =>
        have hsh := k2 ob ho
        have hfz := hu1 (o' + 0)
        unfold World.cell? at k1
        unfold World.frozen? at hfz
        cases ob with
        | cells ds t fr =>
          unfold shutO at hsh
          injection hsh with _ _ e6
          subst e6
          simp [ho] at k1 hfz
          have := (Array.getElem?_eq_some_iff.1 k1).1
          omega
        | _ => simp [ho] at k1⟩
def QcF (zs : Nat → List Cel) (es : Nat → Int) (i : Nat) : Post := fun x w => ∃ B c, x = .agg #[.int .i64 i, .slice B (zs i).length c, .int .i64 (es i)] ∧ SlAt (pCelF 0) (Old w) w B c (zs i)
theorem qc_invF (zs : Nat → List Cel) (es : Nat → Int) (i : Nat) : InvQ SR (QcF zs es i) where
  turn ρ v v' x y h hxy := fun ⟨B, c, e, hs⟩ => by
    subst e
    cases hxy with
    | agg _ bs h1 h2 =>
      obtain ⟨bs⟩ := bs
      match bs, h1, h2 with
      | [b0, b1, b2], h1, h2 =>
        have e0 : VRel SR ρ (.int .i64 i) b0 := h2 0 (by simp) (by simp)
        have e1 : VRel SR ρ (.slice B (zs i).length c) b1 := h2 1 (by simp) (by simp)
        have e2 : VRel SR ρ (.int .i64 (es i)) b2 := h2 2 (by simp) (by simp)
        obtain ⟨B', rfl, hs'⟩ := hs.turn trn_celF h e1 rfl
        rw [vRel_int e0, vRel_int e2]
        exact ⟨B', c, rfl, hs'⟩
      | [], h1, _ => exact absurd h1 (by simp)
      | [_], h1, _ => exact absurd h1 (by simp)
      | [_, _], h1, _ => exact absurd h1 (by simp)
      | _ :: _ :: _ :: _ :: _, h1, _ => exact absurd h1 (by simp)
  at2 x v τ d := fun ⟨B, c, e, hs⟩ => ⟨B, c, e, hs.at2 τ d⟩
theorem qc_gwF (zs : Nat → List Cel) (es : Nat → Int) (i : Nat) (x : Value) (w w' : World) (h : QcF zs es i x w) (hg : Gw w w') : QcF zs es i x w' := by
  obtain ⟨B, c, e, hs⟩ := h
  exact ⟨B, c, e, hs.gw hg⟩
structure RcLF (C g8 g10 : Nat) (zs : Nat → List Cel) (es : Nat → Int) (v0 : World) (rem : List Nat) (j : Nat) (a : Act) (v : World) : Prop where
  sz : a.tmps.size = 48
  df : a.defers = []
  s8 : slot a 8 (.pointer (some ⟨g8, 0, none⟩))
  s10 : slot a 10 (.pointer (some ⟨g10, 0, none⟩))
  s21 : slot a 21 (.int .i64 j)
  lt8 : g8 < v0.heap.size
  ge10 : v0.heap.size ≤ g10
  c8 : v0.cell? ⟨g8, 0, none⟩ = some (.chan (some C))
  k0 : Kp v0 v
  blk : ∃ cells, Blk v g10 95 cells ∧ cells.size = 9 ∧ ∀ i, i < 3 → i ∉ rem → ∃ B c, cells[i * 3]? = some (.int .i64 i) ∧ cells[i * 3 + 1]? = some (.slice B (zs i).length c) ∧ cells[i * 3 + 2]? = some (.int .i64 (es i)) ∧ SlAt (pCelF v0.heap.size) (Fx g10 v) v B c (zs i)
theorem RcLF.put {C g8 g10 : Nat} {zs : Nat → List Cel} {es : Nat → Int} {v0 : World} {rem : List Nat} {j : Nat} {a : Act} {v : World} (h : RcLF C g8 g10 zs es v0 rem j a v) (d : Nat) (x : Value) (hd : d ≠ 8 ∧ d ≠ 10 ∧ d ≠ 21) : RcLF C g8 g10 zs es v0 rem j (a.put (some d) x) v :=
  { h with sz := size_put h.sz, df := h.df, s8 := slot_ne h.s8 hd.1, s10 := slot_ne h.s10 hd.2.1, s21 := slot_ne h.s21 hd.2.2 }
theorem RcLF.gw {C g8 g10 : Nat} {zs : Nat → List Cel} {es : Nat → Int} {v0 : World} {rem : List Nat} {j : Nat} {a : Act} {v v' : World} (h : RcLF C g8 g10 zs es v0 rem j a v) (hg : Gw v v') : RcLF C g8 g10 zs es v0 rem j a v' := by
  obtain ⟨cells, h1, h2, h3⟩ := h.blk
  exact { h with k0 := h.k0.trans (Kp.gw hg), blk := ⟨cells, (hg.2 _ h1.lt).trans h1, h2, fun i hi hr => let ⟨B, c, k1, k2, k3, k4⟩ := h3 i hi hr; ⟨B, c, k1, k2, k3, k4.fx hg⟩⟩ }
section
variable {F : Value → Prop} {b : Frame} {k : List Item} {cs : List Frame}
theorem recv_roundF {C g8 g10 : Nat} {zs : Nat → List Cel} {es : Nat → Int} {v0 : World} {rem : List Nat} {j : Nat} {a : Act} {v : World} (h : RcLF C g8 g10 zs es v0 rem j a v) (hj : j < 3) (hne : rem ≠ []) (hrem : ∀ i ∈ rem, i < 3)
    (hk : ∀ r1 i r2 a' v', rem = r1 ++ i :: r2 → RcLF C g8 g10 zs es v0 (r1 ++ r2) (j + 1) a' v' → MS Tryd.prog SR gR sR F ((r1 ++ r2).map (QcF zs es)) (some C) (b.at a' k) cs v') :
    MS Tryd.prog SR gR sR F (rem.map (QcF zs es)) (some C) (b.at a (.code stepL2 :: k)) cs v := by
  have hX : ∀ Γ, Walk Tryd.prog SR gR sR (MS Tryd.prog SR gR sR F Γ (some C)) := fun Γ => MS.walk ctxR
  rw [stepL2_eq]
  refine (hX _).seq ((hX _).region ?_)
  rw [sz9]
  refine (hX _).val (v' := v) (some 22) (.bool true) (show op9[0]? = some _ from rfl) (by kernel_rfl) rfl rfl (fun τ d => ?_) ?_
  · have e : (decide (((j : Nat) : Int) < 3)) = true := by simp; omega
    have := run_lss (P := Tryd.prog) (o := op9[0]) (w := Go.Proofs.YtlipmagkplbkdaaDoor.at2 v τ d) a.eval 3 3 (.tmp 21) _ rfl Tryd.underlying3 h.s21 (n := 3) rfl
    exact this.trans (by rw [e])
  have h1 := h.put 22 (.bool true) (by decide)
  have s22 := slot_same (a := a) (d := 22) (x := .bool true) (by rw [h.sz]; decide)
  generalize (a.put (some 22) (.bool true)) = a1 at h1 s22
  refine (hX _).done ((hX _).seq ((hX _).cond (t := true) rfl s22 ((hX _).skip ((hX _).seq ((hX _).block ((hX _).seq ((hX _).region ?_)))))))
  rw [sz10]
  have c8 : v.cell? ⟨g8, 0, none⟩ = some (.chan (some C)) := (h.k0.cell _ h.lt8).trans h.c8
  refine (hX _).val (v' := v) (some 23) (.chan (some C)) (show op10[0]? = some _ from rfl) (by kernel_rfl) rfl rfl (fun τ d => run_one (w := Go.Proofs.YtlipmagkplbkdaaDoor.at2 v τ d) a1.eval 91 (.tmp 8) rfl _ Tryd.underlying91 rfl g8 0 h1.s8 c8) ?_
  have h2 := h1.put 23 (.chan (some C)) (by decide)
  have s23 := slot_same (a := a1) (d := 23) (x := .chan (some C)) (by rw [h1.sz]; decide)
  generalize (a1.put (some 23) (.chan (some C))) = a2 at h2 s23
  refine MS.recv (x := .tmp 23) (show op10[1]? = some _ from rfl) rfl rfl s23 (fun ev w es he => recv_run C ev w es he) (by simpa using hne) fun Γ1 Q Γ2 eΓ v1 y hg hq => ?_
  obtain ⟨r1, r2', er, e1, e2⟩ := List.map_eq_append_iff.1 eΓ
  obtain ⟨i, r2, e3, e4, e5⟩ := List.map_eq_cons_iff.1 e2
  subst e1 e3 e5
  subst e4
  have hi : i < 3 := hrem i (by rw [er]; simp)
  obtain ⟨B, c, rfl, hs⟩ := hq
  rw [← List.map_append]
  show MS Tryd.prog SR gR sR F _ (some C) (b.at (a2.put (some 24) (.agg #[.int .i64 i, .slice B (zs i).length c, .int .i64 (es i)])) _) cs v1
  have h3 := (h2.gw (Gw.grow hg)).put 24 (.agg #[.int .i64 i, .slice B (zs i).length c, .int .i64 (es i)]) (by decide)
  have s24 := slot_same (a := a2) (d := 24) (x := .agg #[.int .i64 i, .slice B (zs i).length c, .int .i64 (es i)]) (by rw [h2.sz]; decide)
  generalize (a2.put (some 24) (.agg #[.int .i64 i, .slice B (zs i).length c, .int .i64 (es i)])) = a3 at h3 s24
  have hs1 : SlAt (pCelF v0.heap.size) (Fx g10 v1) v1 B c (zs i) := slat_hideF h.k0.size hg hs fun x u hu => by
    obtain ⟨k1, k2⟩ := hide_cell hu
    refine ⟨⟨fun e => ?_, World.block_lt_of_cell? _ _ k1⟩, k1⟩
    obtain ⟨cells, b1, b2, _⟩ := h.blk
    have hlt := b1.lt
    rcases k2 with k2 | k2
    · omega
    · have b3 : v1.heap[g10]? = some (.cells cells 95 (0, 0)) := (hg.keep _ hlt).trans b1
      have := k2 _ (by rw [e]; exact b3)
      unfold shutO at this
      injection this with _ _ e6
      injection e6 with _ e7
      omega
  let Z : Array Value := #[.int .i64 0, .slice none 0 0, .int .i64 0]
  let Y : Array Value := #[.int .i64 i, .slice B (zs i).length c, .int .i64 (es i)]
  let v2 := v1.alloc (.cells Z 93)
  let v3 := v2.setRow v1.heap.size Y
  have hg3 : Gw v1 v3 := (Gw.alloc v1 _).row (Nat.le_refl _) Y
  refine (hX _).val (v' := v2) (some 11) (.pointer (some ⟨v1.heap.size, 0, none⟩)) (show op10[2]? = some _ from rfl) (by kernel_rfl) rfl rfl (fun τ d => by
    show (execOp a3.eval (op10[2]'(by decide +kernel))).run Tryd.prog (Go.Proofs.YtlipmagkplbkdaaDoor.at2 v1 τ d) = _
    kernel_rfl) ?_
  have h4 := (h3.gw (Gw.alloc v1 (.cells Z 93))).put 11 (.pointer (some ⟨v1.heap.size, 0, none⟩)) (by decide)
  have s24' := slot_ne (d := 11) (x := .pointer (some ⟨v1.heap.size, 0, none⟩)) s24 (by decide)
  have s11 := slot_same (a := a3) (d := 11) (x := .pointer (some ⟨v1.heap.size, 0, none⟩)) (by rw [h3.sz]; decide)
  generalize (a3.put (some 11) (.pointer (some ⟨v1.heap.size, 0, none⟩))) = a4 at h4 s24' s11
  refine (hX _).nil (v' := v3) (show op10[3]? = some _ from rfl) (by kernel_rfl) rfl rfl (fun τ d => run_storeRow (w := Go.Proofs.YtlipmagkplbkdaaDoor.at2 v2 τ d) a4.eval 93 (.tmp 11) (.tmp 24) 0 Z Y Y rfl s11 s24' (show Blk _ _ _ _ from alloc_get v1 _) (by kernel_rfl) (by simp [Z, Y]) (by simp [Y, Value.oneCell']) (by simp [Z, Y])) ?_
  have h5 : RcLF C g8 g10 zs es v0 rem j a4 v3 := { h4 with k0 := (h3.gw hg3).k0, blk := (h3.gw hg3).blk }
  have hb11 : Blk v3 v1.heap.size 93 Y := blk_row (alloc_get v1 _)
  refine (hX _).done ((hX _).region ?_)
  rw [sz11]
  refine (hX _).val (v' := v3) (some 25) (.pointer (some ⟨v1.heap.size, 0, none⟩)) (show op11[0]? = some _ from rfl) (by kernel_rfl) rfl rfl (fun τ d => ?_) ?_
  · have hf : (Instr.fieldAt 93 (.pointer (some ⟨v1.heap.size, 0, none⟩)) 0).run Tryd.prog (Go.Proofs.YtlipmagkplbkdaaDoor.at2 v3 τ d) = .ok (.pointer (some ⟨v1.heap.size, 0, none⟩)) (Go.Proofs.YtlipmagkplbkdaaDoor.at2 v3 τ d) := by kernel_rfl
    exact run_fieldX a4.eval (.tmp 11) 0 rfl s11 hf
  have h6 := h5.put 25 (.pointer (some ⟨v1.heap.size, 0, none⟩)) (by decide)
  have s11' := slot_ne (d := 25) (x := .pointer (some ⟨v1.heap.size, 0, none⟩)) s11 (by decide)
  have s25 := slot_same (a := a4) (d := 25) (x := .pointer (some ⟨v1.heap.size, 0, none⟩)) (by rw [h5.sz]; decide)
  generalize (a4.put (some 25) (.pointer (some ⟨v1.heap.size, 0, none⟩))) = a5 at h6 s11' s25
  refine (hX _).val (v' := v3) (some 26) (.int .i64 i) (show op11[1]? = some _ from rfl) (by kernel_rfl) rfl rfl (fun τ d => run_one (w := Go.Proofs.YtlipmagkplbkdaaDoor.at2 v3 τ d) a5.eval 3 (.tmp 25) rfl _ Tryd.underlying3 rfl v1.heap.size 0 s25 ((hb11.cell 0).trans rfl)) ?_
  have h7 := h6.put 26 (.int .i64 i) (by decide)
  have s11b := slot_ne (d := 26) (x := .int .i64 i) s11' (by decide)
  have s26 := slot_same (a := a5) (d := 26) (x := .int .i64 i) (by rw [h6.sz]; decide)
  generalize (a5.put (some 26) (.int .i64 i)) = a6 at h7 s11b s26
  refine (hX _).val (v' := v3) (some 27) (.agg Y) (show op11[2]? = some _ from rfl) (by kernel_rfl) rfl rfl (fun τ d => run_loadL (w := Go.Proofs.YtlipmagkplbkdaaDoor.at2 v3 τ d) a6.eval 93 (.tmp 11) rfl v1.heap.size 0 s11b Y.toList _ (fun m u hu => by
    show v3.cell? ⟨v1.heap.size, 0 + m, none⟩ = some u
    rw [Nat.zero_add, hb11.cell m]
    simpa using hu) Tryd.underlying93 rfl (by kernel_rfl)) ?_
  have h8 := h7.put 27 (.agg Y) (by decide)
  have s26b := slot_ne (d := 27) (x := .agg Y) s26 (by decide)
  have s27 := slot_same (a := a6) (d := 27) (x := .agg Y) (by rw [h7.sz]; decide)
  generalize (a6.put (some 27) (.agg Y)) = a7 at h8 s26b s27
  refine (hX _).val (v' := v3) (some 28) (.pointer (some ⟨g10, i * 3, none⟩)) (show op11[3]? = some _ from rfl) (by kernel_rfl) rfl rfl (fun τ d => ?_) ?_
  · have hf : (Instr.indexAt 95 (.pointer (some ⟨g10, 0, none⟩)) (.int .i64 i)).run Tryd.prog (Go.Proofs.YtlipmagkplbkdaaDoor.at2 v3 τ d) = .ok (.pointer (some ⟨g10, i * 3, none⟩)) (Go.Proofs.YtlipmagkplbkdaaDoor.at2 v3 τ d) := by
      rcases (by omega : i = 0 ∨ i = 1 ∨ i = 2) with rfl | rfl | rfl <;> kernel_rfl
    exact run_indexX a7.eval (.tmp 10) (.tmp 26) rfl h8.s10 s26b hf
  have h9 := h8.put 28 (.pointer (some ⟨g10, i * 3, none⟩)) (by decide)
  have s27b := slot_ne (d := 28) (x := .pointer (some ⟨g10, i * 3, none⟩)) s27 (by decide)
  have s28 := slot_same (a := a7) (d := 28) (x := .pointer (some ⟨g10, i * 3, none⟩)) (by rw [h8.sz]; decide)
  generalize (a7.put (some 28) (.pointer (some ⟨g10, i * 3, none⟩))) = a8 at h9 s27b s28
  obtain ⟨cells, hb, hcs, hall⟩ := h9.blk
  let v4 := v3.setRow g10 (row3 cells i (.int .i64 i) (.slice B (zs i).length c) (.int .i64 (es i)))
  refine (hX _).nil (v' := v4) (show op11[4]? = some _ from rfl) (by kernel_rfl) rfl rfl (fun τ d => run_storeRow (w := Go.Proofs.YtlipmagkplbkdaaDoor.at2 v3 τ d) a8.eval 93 (.tmp 28) (.tmp 27) (i * 3) cells Y _ rfl s28 s27b hb (by kernel_rfl) (by simp [Y]; omega) (by simp [Y, Value.oneCell']) rfl) ?_
  have hsz : i * 3 + 3 ≤ cells.size := by omega
  have k4 : Kp v3 v4 ∨ True := .inr trivial
  have h10 : RcLF C g8 g10 zs es v0 (r1 ++ r2) j a8 v4 := { h9 with
    k0 := ⟨by simpa [v4] using h9.k0.size, fun x hx => by
      rw [← h9.k0.cell x hx]
      exact World.cell?_of_block (setRow_other v3 g10 x.block _ (by have := h9.ge10; omega))⟩
    blk := ⟨_, blk_row hb, (row3_size hsz).trans hcs, fun m hm hr => by
      by_cases hmi : m = i
      · subst hmi
        exact ⟨B, c, by rw [row3_get hsz, if_pos rfl], by rw [row3_get hsz, if_neg (by omega), if_pos rfl], by rw [row3_get hsz, if_neg (by omega), if_neg (by omega), if_pos rfl], (hs1.fx hg3).fxRow _⟩
      · obtain ⟨B', c', k1, k2, k3, k5⟩ := hall m hm (fun hin => by
          rw [er] at hin
          rcases List.mem_append.1 hin with e | e
          · exact hr (List.mem_append_left _ e)
          · rcases List.mem_cons.1 e with e | e
            · exact hmi e
            · exact hr (List.mem_append_right _ e))
        exact ⟨B', c', by rw [row3_get hsz, if_neg (by omega), if_neg (by omega), if_neg (by omega)]; exact k1, by rw [row3_get hsz, if_neg (by omega), if_neg (by omega), if_neg (by omega)]; exact k2, by rw [row3_get hsz, if_neg (by omega), if_neg (by omega), if_neg (by omega)]; exact k3, k5.fxRow _⟩⟩ }
  refine (hX _).done ((hX _).inBlock ((hX _).region ?_))
  rw [sz12]
  refine (hX _).val (v' := v4) (some 29) (.int .i64 ((j + 1 : Nat) : Int)) (show op12[0]? = some _ from rfl) (by kernel_rfl) rfl rfl (fun τ d => ?_) ?_
  · rw [Int.natCast_add]
    exact run_add a8.eval 3 3 (.tmp 21) _ rfl Tryd.underlying3 h10.s21 rfl (by omega)
  have h11 := h10.put 29 (.int .i64 ((j + 1 : Nat) : Int)) (by decide)
  have s29 := slot_same (a := a8) (d := 29) (x := .int .i64 ((j + 1 : Nat) : Int)) (by rw [h10.sz]; decide)
  generalize (a8.put (some 29) (.int .i64 ((j + 1 : Nat) : Int))) = a9 at h11 s29
  refine (hX _).val (v' := v4) (some 21) (.int .i64 ((j + 1 : Nat) : Int)) (show op12[1]? = some _ from rfl) (by kernel_rfl) rfl rfl (fun τ d => run_moveX _ (.tmp 29) (.inl rfl) s29) ?_
  refine (hX _).done (hk r1 i r2 _ v4 er ?_)
  exact { h11 with sz := size_put h11.sz, df := h11.df, s8 := slot_ne h11.s8 (by decide), s10 := slot_ne h11.s10 (by decide), s21 := slot_same (by rw [h11.sz]; decide) }
end
section
variable {F : Value → Prop} {b : Frame} {k : List Item} {cs : List Frame}
theorem recv_exitF {C g8 g10 : Nat} {zs : Nat → List Cel} {es : Nat → Int} {v0 : World} {rem : List Nat} {a : Act} {v : World} {Γ : List Post} (h : RcLF C g8 g10 zs es v0 rem 3 a v)
    (hk : ∀ a', RcLF C g8 g10 zs es v0 rem 3 a' v → MS Tryd.prog SR gR sR F Γ (some C) (b.at a' k) cs v) :
    MS Tryd.prog SR gR sR F Γ (some C) (b.at a (.code stepL2 :: .inLoop stepL2 :: .inBlock 2 :: k)) cs v := by
  have hX : ∀ Γ, Walk Tryd.prog SR gR sR (MS Tryd.prog SR gR sR F Γ (some C)) := fun Γ => MS.walk ctxR
  rw [stepL2_eq]
  refine (hX _).seq ((hX _).region ?_)
  rw [sz9]
  refine (hX _).val (v' := v) (some 22) (.bool false) (show op9[0]? = some _ from rfl) (by kernel_rfl) rfl rfl (fun τ d => ?_) ?_
  · exact run_lss (P := Tryd.prog) (o := op9[0]) (w := Go.Proofs.YtlipmagkplbkdaaDoor.at2 v τ d) a.eval 3 3 (.tmp 21) _ rfl Tryd.underlying3 h.s21 (n := 3) rfl
  have h1 := h.put 22 (.bool false) (by decide)
  have s22 := slot_same (a := a) (d := 22) (x := .bool false) (by rw [h.sz]; decide)
  generalize (a.put (some 22) (.bool false)) = a1 at h1 s22
  exact (hX _).done ((hX _).seq ((hX _).cond (t := false) rfl s22 ((hX _).exit rfl (hk _ h1))))
theorem recv_loopF {C g8 g10 : Nat} {zs : Nat → List Cel} {es : Nat → Int} {v0 : World} {a : Act} {v : World} (h : RcLF C g8 g10 zs es v0 [0, 1, 2] 0 a v)
    (hk : ∀ a' v', RcLF C g8 g10 zs es v0 [] 3 a' v' → MS Tryd.prog SR gR sR F [] (some C) (b.at a' k) cs v') :
    MS Tryd.prog SR gR sR F [QcF zs es 0, QcF zs es 1, QcF zs es 2] (some C) (b.at a (.code (.block 2 (.loop stepL2)) :: k)) cs v := by
  have hX : ∀ Γ, Walk Tryd.prog SR gR sR (MS Tryd.prog SR gR sR F Γ (some C)) := fun Γ => MS.walk ctxR
  have less : ∀ (n : Nat) (r1 : List Nat) (i : Nat) (r2 : List Nat) (rem : List Nat), rem.length = n + 1 → (∀ i ∈ rem, i < 3) → rem = r1 ++ i :: r2 → (r1 ++ r2).length = n ∧ ∀ i ∈ r1 ++ r2, i < 3 := fun n r1 i r2 rem hl hm e => by
    subst e
    refine ⟨by simp at hl ⊢; omega, fun j hj => hm j ?_⟩
    rcases List.mem_append.1 hj with hj | hj
    · exact List.mem_append_left _ hj
    · exact List.mem_append_right _ (List.mem_cons_of_mem _ hj)
  have ne : ∀ (n : Nat) (rem : List Nat), rem.length = n + 1 → rem ≠ [] := fun n rem hl e => by subst e; cases hl
  refine (hX _).block ((hX _).loop ?_)
  refine recv_roundF (rem := [0, 1, 2]) h (by omega) (by simp) (by simp) fun r1 i r2 a1 v1 e1 h1 => (hX _).again ?_
  obtain ⟨l1, m1⟩ := less 2 r1 i r2 [0, 1, 2] rfl (by simp) e1
  refine recv_roundF h1 (by omega) (ne 1 _ l1) m1 fun s1 i2 s2 a2 v2 e2 h2 => (hX _).again ?_
  obtain ⟨l2, m2⟩ := less 1 s1 i2 s2 _ l1 m1 e2
  refine recv_roundF h2 (by omega) (ne 0 _ l2) m2 fun t1 i3 t2 a3 v3 e3 h3 => (hX _).again ?_
  obtain ⟨l3, m3⟩ := less 0 t1 i3 t2 _ l2 m2 e3
  rw [List.eq_nil_of_length_eq_zero l3] at h3 ⊢
  exact recv_exitF h3 fun a' h' => hk a' v3 h'
end
section
variable {F : Value → Prop}
theorem step_companyF {RA A : Option Addr} {rn rc n cap : Nat} {s : Int} {ch : Option Nat} {v : World} {cs : List Frame} {zs : Nat → List Cel} {es : Nat → Int} (hn : n ≤ 3000000000) (hc : n ≤ cap)
    (hmany : ∀ (i : Nat) w, i ≤ 2 → Kp v w → Calls Tryd.prog 62 #[.slice RA rn rc, .int .i64 s, subS A (i * n / 3) ((i + 1) * n / 3) cap 3, .int .i64 i] w fun e w' => ∃ x, e = .returned x ∧ QcF zs es i x w' ∧ Gw w w')
    (hk : ∀ C g8 g10 v0 a' v', Kp v v0 → RcLF C g8 g10 zs es v0 [] 3 a' v' → MS Tryd.prog SR gR sR F [] (some C) (({ (default : Frame) with fn := 40, kind := .normal } : Frame).at a' [.code stepT]) cs v') :
    MS Tryd.prog SR gR sR F [] ch (Frame.enter Tryd.prog 40 #[.slice RA rn rc, .int .i64 s, .slice A n cap] .normal) cs v := by
  have hX : ∀ Γ C, Walk Tryd.prog SR gR sR (MS Tryd.prog SR gR sR F Γ (some C)) := fun Γ C => MS.walk ctxR
  refine step_head fun C g8 g3 g4 g5 a1 v1 todo h1 k1 et => ?_
  subst et
  refine fork_loop h1 (fun i => qc_invF zs es i) (fun i x w w' => qc_gwF zs es i x w w') hn hc (fun i w hi hw => hmany i w hi (k1.trans hw)) fun a2 v2 h2 k2 => ?_
  refine (hX _ _).seq ?_
  rw [stepR7_eq]
  refine (hX _ _).region ?_
  rw [sz7]
  let v3 := v2.alloc (.cells nine 95)
  refine (hX _ _).val (v' := v3) (some 10) (.pointer (some ⟨v2.heap.size, 0, none⟩)) (show op7[0]? = some _ from rfl) (by kernel_rfl) rfl rfl (fun τ d => run_allocN (w := Go.Proofs.YtlipmagkplbkdaaDoor.at2 v2 τ d) _ 95 rfl (by kernel_rfl)) ?_
  have s10 := slot_same (a := a2) (d := 10) (x := .pointer (some ⟨v2.heap.size, 0, none⟩)) (by rw [h2.sz]; decide)
  have s8 := slot_ne (d := 10) (x := .pointer (some ⟨v2.heap.size, 0, none⟩)) h2.s8 (by decide)
  have sz : (a2.put (some 10) (.pointer (some ⟨v2.heap.size, 0, none⟩))).tmps.size = 48 := size_put h2.sz
  have sd : (a2.put (some 10) (.pointer (some ⟨v2.heap.size, 0, none⟩))).defers = [] := h2.df
  generalize (a2.put (some 10) (.pointer (some ⟨v2.heap.size, 0, none⟩))) = a3 at s10 s8 sz sd
  refine (hX _ _).done ((hX _ _).seq ((hX _ _).seq ?_))
  rw [stepR8_eq]
  refine (hX _ _).region ?_
  rw [sz8]
  refine (hX _ _).val (v' := v3) (some 21) (.int .i64 0) (show op8[0]? = some _ from rfl) (by kernel_rfl) rfl rfl (fun τ d => run_moveX _ _ (.inl rfl) rfl) ?_
  refine (hX _ _).done (recv_loopF (g8 := g8) (g10 := v2.heap.size) (v0 := v2) ?_ fun a' v' h => hk C g8 v2.heap.size v2 a' v' (k1.trans k2) h)
  have hb : Blk v3 v2.heap.size 95 nine := alloc_get v2 _
  exact { sz := size_put sz, df := sd, s8 := slot_ne s8 (by decide), s10 := slot_ne s10 (by decide), s21 := slot_same (by rw [sz]; decide)
          lt8 := World.block_lt_of_cell? _ _ h2.c8, ge10 := Nat.le_refl _, c8 := h2.c8, k0 := Kp.alloc v2 _
          blk := ⟨nine, hb, rfl, fun i hi hr => absurd (by rcases (by omega : i = 0 ∨ i = 1 ∨ i = 2) with rfl | rfl | rfl <;> simp) hr⟩ }
end
structure TlLF (N : Nat) (w0 : World) (zs : Nat → List Cel) (es : Nat → Int) (cells : Array Value) (k : Nat) (a : Act) (v : World) : Prop where
  sz : a.tmps.size = 48
  df : a.defers = []
  s30 : slot a 30 (.agg cells)
  s31 : slot a 31 (.int .i64 k)
  own : ∃ A c, slot a 12 (.slice A (gather zs k).length c) ∧ Own (pCelF N) 51 w0.heap.size (fun _ => True) v (.slice A (gather zs k).length c) (gather zs k)
  g : Gw w0 v
  no : ∀ i, i < k → es i = 0
  csz : cells.size = 9
  cs : ∀ i, i < 3 → ∃ B c, cells[i * 3]? = some (.int .i64 i) ∧ cells[i * 3 + 1]? = some (.slice B (zs i).length c) ∧ cells[i * 3 + 2]? = some (.int .i64 (es i)) ∧ SlAt (pCelF N) (Old w0) w0 B c (zs i)
section
variable {F : Value → Prop} {b : Frame} {k : List Item} {cs : List Frame}
theorem tail_headF {C g8 g10 : Nat} {zs : Nat → List Cel} {es : Nat → Int} {v0 : World} {a : Act} {v : World} {Γ : List Post} (h : RcLF C g8 g10 zs es v0 [] 3 a v)
    (hk : ∀ a' cells, TlLF v0.heap.size v zs es cells 0 a' v → MS Tryd.prog SR gR sR F Γ (some C) (b.at a' (.code (.block 4 (.loop stepL3)) :: .code (.seq (.seq (.region 21 op21 false) (.cond (.tmp 46) (.seq (.region 22 op22 false) .ret) .skip)) (.seq (.region 23 op23 false) .ret)) :: k)) cs v) :
    MS Tryd.prog SR gR sR F Γ (some C) (b.at a (.code stepT :: k)) cs v := by
  have hX : ∀ Γ, Walk Tryd.prog SR gR sR (MS Tryd.prog SR gR sR F Γ (some C)) := fun Γ => MS.walk ctxR
  obtain ⟨cells, hb, hsz, hall⟩ := h.blk
  rw [stepT_eq]
  refine (hX _).seq ((hX _).region ?_)
  rw [sz13]
  refine (hX _).val (v' := v) (some 12) (.slice none 0 0) (show op13[0]? = some _ from rfl) (by kernel_rfl) rfl rfl (fun τ d => run_moveX _ _ (.inr rfl) rfl) ?_
  have s10 := slot_ne (d := 12) (x := .slice none 0 0) h.s10 (by decide)
  have s12 := slot_same (a := a) (d := 12) (x := .slice none 0 0) (by rw [h.sz]; decide)
  have sz : (a.put (some 12) (.slice none 0 0)).tmps.size = 48 := size_put h.sz
  have sd : (a.put (some 12) (.slice none 0 0)).defers = [] := h.df
  generalize (a.put (some 12) (.slice none 0 0)) = a1 at s10 s12 sz sd
  refine (hX _).done ((hX _).seq ((hX _).seq ((hX _).region ?_)))
  rw [sz14]
  refine (hX _).val (v' := v) (some 30) (.agg cells) (show op14[0]? = some _ from rfl) (by kernel_rfl) rfl rfl (fun τ d => run_loadL (w := Go.Proofs.YtlipmagkplbkdaaDoor.at2 v τ d) a1.eval 95 (.tmp 10) rfl g10 0 s10 cells.toList _ (fun m u hu => by
    show v.cell? ⟨g10, 0 + m, none⟩ = some u
    rw [Nat.zero_add, hb.cell m]
    simpa using hu) Tryd.underlying95 rfl (by rw [Array.length_toList, hsz]; kernel_rfl)) ?_
  refine (hX _).val (v' := v) (some 31) (.int .i64 0) (show op14[1]? = some _ from rfl) (by kernel_rfl) rfl rfl (fun τ d => run_moveX _ _ (.inl rfl) rfl) ?_
  refine (hX _).done (hk _ cells { sz := size_put (size_put sz), df := sd, s30 := slot_ne (slot_same (by rw [sz]; decide)) (by decide), s31 := slot_same (by rw [size_put sz]; decide)
                                   own := ⟨none, 0, slot_ne (slot_ne s12 (by decide)) (by decide), Own.nil⟩, g := ⟨Nat.le_refl _, fun _ _ => rfl⟩, no := fun i hi => absurd hi (Nat.not_lt_zero _), csz := hsz, cs := fun i hi => ?_ })
  obtain ⟨B, c, k1, k2, k3, k4⟩ := hall i hi (by simp)
  exact ⟨B, c, k1, k2, k3, k4.wide fun q hq => hq.2⟩
end
section
variable {F : Value → Prop} {b : Frame} {k : List Item} {cs : List Frame}
theorem TlLF.put {N : Nat} {w0 : World} {zs : Nat → List Cel} {es : Nat → Int} {cells : Array Value} {j : Nat} {a : Act} {v : World} (h : TlLF N w0 zs es cells j a v) (d : Nat) (x : Value) (hd : d ≠ 12 ∧ d ≠ 30 ∧ d ≠ 31) : TlLF N w0 zs es cells j (a.put (some d) x) v :=
  { h with sz := size_put h.sz, df := h.df, s30 := slot_ne h.s30 hd.2.1, s31 := slot_ne h.s31 hd.2.2, own := let ⟨A, c, h1, h2⟩ := h.own; ⟨A, c, slot_ne h1 hd.1, h2⟩ }
theorem tail_exitF {N : Nat} {C : Nat} {w0 : World} {zs : Nat → List Cel} {es : Nat → Int} {cells : Array Value} {a : Act} {v : World} {Γ : List Post} (h : TlLF N w0 zs es cells 3 a v)
    (hk : ∀ a', TlLF N w0 zs es cells 3 a' v → MS Tryd.prog SR gR sR F Γ (some C) (b.at a' k) cs v) :
    MS Tryd.prog SR gR sR F Γ (some C) (b.at a (.code stepL3 :: .inLoop stepL3 :: .inBlock 4 :: k)) cs v := by
  have hX : ∀ Γ, Walk Tryd.prog SR gR sR (MS Tryd.prog SR gR sR F Γ (some C)) := fun Γ => MS.walk ctxR
  rw [stepL3_eq]
  refine (hX _).seq ((hX _).region ?_)
  rw [sz15]
  refine (hX _).val (v' := v) (some 32) (.bool false) (show op15[0]? = some _ from rfl) (by kernel_rfl) rfl rfl (fun τ d => ?_) ?_
  · exact run_lss (P := Tryd.prog) (o := op15[0]) (w := Go.Proofs.YtlipmagkplbkdaaDoor.at2 v τ d) a.eval 3 3 (.tmp 31) _ rfl Tryd.underlying3 h.s31 (n := 3) rfl
  have h1 := h.put 32 (.bool false) (by decide)
  have s32 := slot_same (a := a) (d := 32) (x := .bool false) (by rw [h.sz]; decide)
  generalize (a.put (some 32) (.bool false)) = a1 at h1 s32
  exact (hX _).done ((hX _).seq ((hX _).cond (t := false) rfl s32 ((hX _).exit rfl (hk _ h1))))
theorem tail_lookF {N : Nat} {C : Nat} {w0 : World} {zs : Nat → List Cel} {es : Nat → Int} {cells : Array Value} {j : Nat} {a : Act} {v : World} {Γ : List Post} (h : TlLF N w0 zs es cells j a v) (hj : j < 3)
    (hk : ∀ a' v' g B c, TlLF N w0 zs es cells j a' v' → slot a' 14 (.pointer (some ⟨g, 0, none⟩)) → w0.heap.size ≤ g → Blk v' g 93 #[.int .i64 j, .slice B (zs j).length c, .int .i64 (es j)] → SlAt (pCelF N) (Old w0) w0 B c (zs j) → slot a' 36 (.bool (decide (es j ≠ 0))) →
      MS Tryd.prog SR gR sR F Γ (some C) (b.at a' (.code (.cond (.tmp 36) (.seq (.region 18 op18 true) .ret) .skip) :: .code (.region 19 op19 false) :: .inBlock 5 :: .code (.region 20 op20 false) :: k)) cs v') :
    MS Tryd.prog SR gR sR F Γ (some C) (b.at a (.code stepL3 :: k)) cs v := by
  have hX : ∀ Γ, Walk Tryd.prog SR gR sR (MS Tryd.prog SR gR sR F Γ (some C)) := fun Γ => MS.walk ctxR
  rw [stepL3_eq]
  refine (hX _).seq ((hX _).region ?_)
  rw [sz15]
  refine (hX _).val (v' := v) (some 32) (.bool true) (show op15[0]? = some _ from rfl) (by kernel_rfl) rfl rfl (fun τ d => ?_) ?_
  · have e : (decide (((j : Nat) : Int) < 3)) = true := by simp; omega
    have := run_lss (P := Tryd.prog) (o := op15[0]) (w := Go.Proofs.YtlipmagkplbkdaaDoor.at2 v τ d) a.eval 3 3 (.tmp 31) _ rfl Tryd.underlying3 h.s31 (n := 3) rfl
    exact this.trans (by rw [e])
  have h1 := h.put 32 (.bool true) (by decide)
  have s32 := slot_same (a := a) (d := 32) (x := .bool true) (by rw [h.sz]; decide)
  generalize (a.put (some 32) (.bool true)) = a1 at h1 s32
  refine (hX _).done ((hX _).seq ((hX _).cond (t := true) rfl s32 ((hX _).skip ((hX _).seq ((hX _).block ((hX _).seq ((hX _).region ?_)))))))
  rw [sz16]
  obtain ⟨B, c, k1, k2, k3, k4⟩ := h1.cs j hj
  have hcz := h1.csz
  let Y : Array Value := #[.int .i64 j, .slice B (zs j).length c, .int .i64 (es j)]
  let v2 := v.alloc (.cells #[.int .i64 0, .slice none 0 0, .int .i64 0] 93)
  let v3 := v2.setRow v.heap.size Y
  refine (hX _).val (v' := v) (some 33) (.agg Y) (show op16[0]? = some _ from rfl) (by kernel_rfl) rfl rfl (fun τ d => run_readX a1.eval (.tmp 30) (.tmp 31) rfl h1.s30 h1.s31 ?_) ?_
  · exact read3 hj hcz k1 k2 k3
  have h2 := h1.put 33 (.agg Y) (by decide)
  have s33 := slot_same (a := a1) (d := 33) (x := .agg Y) (by rw [h1.sz]; decide)
  generalize (a1.put (some 33) (.agg Y)) = a2 at h2 s33
  refine (hX _).val (v' := v2) (some 14) (.pointer (some ⟨v.heap.size, 0, none⟩)) (show op16[1]? = some _ from rfl) (by kernel_rfl) rfl rfl (fun τ d => run_allocN (w := Go.Proofs.YtlipmagkplbkdaaDoor.at2 v τ d) _ 93 rfl (by kernel_rfl)) ?_
  have h3 := h2.put 14 (.pointer (some ⟨v.heap.size, 0, none⟩)) (by decide)
  have s33b := slot_ne (d := 14) (x := .pointer (some ⟨v.heap.size, 0, none⟩)) s33 (by decide)
  have s14 := slot_same (a := a2) (d := 14) (x := .pointer (some ⟨v.heap.size, 0, none⟩)) (by rw [h2.sz]; decide)
  generalize (a2.put (some 14) (.pointer (some ⟨v.heap.size, 0, none⟩))) = a3 at h3 s33b s14
  refine (hX _).nil (v' := v3) (show op16[2]? = some _ from rfl) (by kernel_rfl) rfl rfl (fun τ d => run_storeRow (w := Go.Proofs.YtlipmagkplbkdaaDoor.at2 v2 τ d) a3.eval (t := 93) 93 (.tmp 14) (.tmp 33) 0 #[.int .i64 0, .slice none 0 0, .int .i64 0] Y Y rfl s14 s33b (alloc_get v _) (by kernel_rfl) (by simp [Y]) (by simp [Y, Value.oneCell']) (by simp [Y])) ?_
  have hb : Blk v3 v.heap.size 93 Y := blk_row (alloc_get v _)
  have g3 : Gw v v3 := (Gw.alloc v _).row (Nat.le_refl _) Y
  have h4 : TlLF N w0 zs es cells j a3 v3 := { h3 with g := h3.g.trans g3, own := let ⟨A, c, h1, h2⟩ := h3.own; ⟨A, c, h1, h2.keep (fun k hk => g3.2 k hk) g3.1⟩ }
  refine (hX _).done ((hX _).seq ((hX _).seq ((hX _).region ?_)))
  rw [sz17]
  refine (hX _).val (v' := v3) (some 34) (.pointer (some ⟨v.heap.size, 2, none⟩)) (show op17[0]? = some _ from rfl) (by kernel_rfl) rfl rfl (fun τ d => ?_) ?_
  · have hf : (Instr.fieldAt 93 (.pointer (some ⟨v.heap.size, 0, none⟩)) 2).run Tryd.prog (Go.Proofs.YtlipmagkplbkdaaDoor.at2 v3 τ d) = .ok (.pointer (some ⟨v.heap.size, 2, none⟩)) (Go.Proofs.YtlipmagkplbkdaaDoor.at2 v3 τ d) := by kernel_rfl
    exact run_fieldX a3.eval (.tmp 14) 2 rfl s14 hf
  have h5 := h4.put 34 (.pointer (some ⟨v.heap.size, 2, none⟩)) (by decide)
  have s14b := slot_ne (d := 34) (x := .pointer (some ⟨v.heap.size, 2, none⟩)) s14 (by decide)
  have s34 := slot_same (a := a3) (d := 34) (x := .pointer (some ⟨v.heap.size, 2, none⟩)) (by rw [h4.sz]; decide)
  generalize (a3.put (some 34) (.pointer (some ⟨v.heap.size, 2, none⟩))) = a4 at h5 s14b s34
  refine (hX _).val (v' := v3) (some 35) (.int .i64 (es j)) (show op17[1]? = some _ from rfl) (by kernel_rfl) rfl rfl (fun τ d => run_one (w := Go.Proofs.YtlipmagkplbkdaaDoor.at2 v3 τ d) a4.eval 27 (.tmp 34) rfl _ Tryd.underlying27 rfl v.heap.size 2 s34 ((hb.cell 2).trans rfl)) ?_
  have h6 := h5.put 35 (.int .i64 (es j)) (by decide)
  have s14c := slot_ne (d := 35) (x := .int .i64 (es j)) s14b (by decide)
  have s35 := slot_same (a := a4) (d := 35) (x := .int .i64 (es j)) (by rw [h5.sz]; decide)
  generalize (a4.put (some 35) (.int .i64 (es j))) = a5 at h6 s14c s35
  refine (hX _).val (v' := v3) (some 36) (.bool (decide (es j ≠ 0))) (show op17[2]? = some _ from rfl) (by kernel_rfl) rfl rfl (fun τ d => run_neq (P := Tryd.prog) (o := op17[2]) (w := Go.Proofs.YtlipmagkplbkdaaDoor.at2 v3 τ d) a5.eval 27 27 (.tmp 35) _ rfl Tryd.underlying27 s35 (n := 0) rfl) ?_
  refine (hX _).done (hk _ v3 v.heap.size B c (h6.put 36 _ (by decide)) (slot_ne s14c (by decide)) h.g.1 hb k4 (slot_same (by rw [h6.sz]; decide)))
end
section
variable {F : Value → Prop} {b : Frame} {k : List Item} {cs : List Frame}
theorem tail_joinF {N : Nat} (hbk : b.kind = .normal) (hbf : ∃ fn, Tryd.prog.funcs[b.fn]? = some fn) {C g : Nat} {B : Option Addr} {c : Nat} {w0 : World} {zs : Nat → List Cel} {es : Nat → Int} {cells : Array Value} {j : Nat} {a : Act} {v : World} {Γ : List Post} (h : TlLF N w0 zs es cells j a v) (hj : j < 3) (h0 : es j = 0) (hlen : ∀ i, i ≤ 3 → (gather zs i).length ≤ 1000000)
    (s14 : slot a 14 (.pointer (some ⟨g, 0, none⟩))) (hg : w0.heap.size ≤ g) (hb : Blk v g 93 #[.int .i64 j, .slice B (zs j).length c, .int .i64 (es j)]) (hs : SlAt (pCelF N) (Old w0) w0 B c (zs j))
    (hk : ∀ a' v', TlLF N w0 zs es cells (j + 1) a' v' → MS Tryd.prog SR gR sR F Γ (some C) (b.at a' k) cs v') :
    MS Tryd.prog SR gR sR F Γ (some C) (b.at a (.code (.region 19 op19 false) :: .inBlock 5 :: .code (.region 20 op20 false) :: k)) cs v := by
  have hX : ∀ Γ, Walk Tryd.prog SR gR sR (MS Tryd.prog SR gR sR F Γ (some C)) := fun Γ => MS.walk ctxR
  obtain ⟨Ao, co, q12, hown⟩ := h.own
  refine (hX _).region ?_
  rw [sz19]
  refine (hX _).val (v' := v) (some 39) (.slice Ao (gather zs j).length co) (show op19[0]? = some _ from rfl) (by kernel_rfl) rfl rfl (fun τ d => run_moveX _ (.tmp 12) (.inl rfl) q12) ?_
  have h1 := h.put 39 (.slice Ao (gather zs j).length co) (by decide)
  have s39 := slot_same (a := a) (d := 39) (x := .slice Ao (gather zs j).length co) (by rw [h.sz]; decide)
  have s14a := slot_ne (d := 39) (x := .slice Ao (gather zs j).length co) s14 (by decide)
  generalize (a.put (some 39) (.slice Ao (gather zs j).length co)) = a1 at h1 s39 s14a
  refine (hX _).val (v' := v) (some 40) (.pointer (some ⟨g, 1, none⟩)) (show op19[1]? = some _ from rfl) (by kernel_rfl) rfl rfl (fun τ d => ?_) ?_
  · have hf : (Instr.fieldAt 93 (.pointer (some ⟨g, 0, none⟩)) 1).run Tryd.prog (Go.Proofs.YtlipmagkplbkdaaDoor.at2 v τ d) = .ok (.pointer (some ⟨g, 1, none⟩)) (Go.Proofs.YtlipmagkplbkdaaDoor.at2 v τ d) := by kernel_rfl
    exact run_fieldX a1.eval (.tmp 14) 1 rfl s14a hf
  have h2 := h1.put 40 (.pointer (some ⟨g, 1, none⟩)) (by decide)
  have s39b := slot_ne (d := 40) (x := .pointer (some ⟨g, 1, none⟩)) s39 (by decide)
  have s40 := slot_same (a := a1) (d := 40) (x := .pointer (some ⟨g, 1, none⟩)) (by rw [h1.sz]; decide)
  generalize (a1.put (some 40) (.pointer (some ⟨g, 1, none⟩))) = a2 at h2 s39b s40
  refine (hX _).val (v' := v) (some 41) (.slice B (zs j).length c) (show op19[2]? = some _ from rfl) (by kernel_rfl) rfl rfl (fun τ d => run_one (w := Go.Proofs.YtlipmagkplbkdaaDoor.at2 v τ d) a2.eval 26 (.tmp 40) rfl _ Tryd.underlying26 rfl g 1 s40 ((hb.cell 1).trans rfl)) ?_
  have h3 := h2.put 41 (.slice B (zs j).length c) (by decide)
  have s39c := slot_ne (d := 41) (x := .slice B (zs j).length c) s39b (by decide)
  have s41 := slot_same (a := a2) (d := 41) (x := .slice B (zs j).length c) (by rw [h2.sz]; decide)
  generalize (a2.put (some 41) (.slice B (zs j).length c)) = a3 at h3 s39c s41
  have hl := hlen (j + 1) (by omega)
  refine (hX _).wpOps ctxR hbk hbf (by kernel_rfl) fun τ d => ?_
  have hO : Own (pCelF N) 51 w0.heap.size (fun _ => True) (Go.Proofs.YtlipmagkplbkdaaDoor.at2 v τ d) (.slice Ao (gather zs j).length co) (gather zs j) := hown.keep (fun _ _ => rfl) (Nat.le_refl _)
  refine wpOps_next (show op19[3]? = some _ from rfl) rfl ?_
  refine wp_catG (E := pCelF N) (xs := gather zs j) (base := w0.heap.size) (G := fun _ => True) 26 51 (.agg #[.string ByteArray.empty, .int .u8 0, .slice none 0 0]) 48 (.tmp 39) (.tmp 41) rfl Tryd.underlying26 info_cel rfl (show 0 < 3 by decide) s39c hO B c (zs j) s41 (Old w0) (hs.keep fun q hq => h.g.2 q hq) (fun q hq => ⟨trivial, Nat.lt_of_lt_of_le hq h.g.1, fun he => ?_⟩) (gather zs (j + 1)).length (by rw [gather_next]) (room_of (by omega)) (by decide) h.g.1 ?_
  · have h8 := (hown.lt q he.symm).1
    have h9 : q < w0.heap.size := hq
    omega
  intro A' c' w' ho hgr
  have h4 := h3.put 42 (.slice A' (gather zs (j + 1)).length c') (by decide)
  have s42 := slot_same (a := a3) (d := 42) (x := .slice A' (gather zs (j + 1)).length c') (by rw [h3.sz]; decide)
  show wpOps _ _ _ _ (a3.put (some 42) (.slice A' (gather zs (j + 1)).length c')) w'
  generalize (a3.put (some 42) (.slice A' (gather zs (j + 1)).length c')) = a4 at h4 s42
  refine wpOps_next (show op19[4]? = some _ from rfl) rfl ?_
  unfold Oper.wp
  rw [run_moveX (o := op19[4]) a4.eval (.tmp 42) (.inr rfl) s42, Oper.upon_value]
  show MS Tryd.prog SR gR sR F Γ (some C) (b.at (a4.put (some 12) (.slice A' (gather zs (j + 1)).length c')) (.inBlock 5 :: .code (.region 20 op20 false) :: k)) cs w'
  have p12 := slot_same (a := a4) (d := 12) (x := .slice A' (gather zs (j + 1)).length c') (by rw [h4.sz]; decide)
  have p30 := slot_ne (d := 12) (x := .slice A' (gather zs (j + 1)).length c') h4.s30 (by decide)
  have p31 := slot_ne (d := 12) (x := .slice A' (gather zs (j + 1)).length c') h4.s31 (by decide)
  have pz : (a4.put (some 12) (.slice A' (gather zs (j + 1)).length c')).tmps.size = 48 := size_put h4.sz
  have pd : (a4.put (some 12) (.slice A' (gather zs (j + 1)).length c')).defers = [] := h4.df
  generalize (a4.put (some 12) (.slice A' (gather zs (j + 1)).length c')) = a5 at p12 p30 p31 pz pd
  refine (hX _).inBlock ((hX _).region ?_)
  rw [sz20]
  refine (hX _).val (v' := w') (some 43) (.int .i64 ((j : Int) + 1)) (show op20[0]? = some _ from rfl) (by kernel_rfl) rfl rfl (fun τ d => run_add (P := Tryd.prog) (o := op20[0]) (w := Go.Proofs.YtlipmagkplbkdaaDoor.at2 w' τ d) a5.eval 3 3 (.tmp 31) _ rfl Tryd.underlying3 p31 (n := 1) rfl (by omega)) ?_
  have r12 := slot_ne (d := 43) (x := .int .i64 ((j : Int) + 1)) p12 (by decide)
  have r30 := slot_ne (d := 43) (x := .int .i64 ((j : Int) + 1)) p30 (by decide)
  have r43 := slot_same (a := a5) (d := 43) (x := .int .i64 ((j : Int) + 1)) (by rw [pz]; decide)
  have rz : (a5.put (some 43) (.int .i64 ((j : Int) + 1))).tmps.size = 48 := size_put pz
  have rd : (a5.put (some 43) (.int .i64 ((j : Int) + 1))).defers = [] := pd
  generalize (a5.put (some 43) (.int .i64 ((j : Int) + 1))) = a6 at r12 r30 r43 rz rd
  refine (hX _).val (v' := w') (some 31) (.int .i64 ((j + 1 : Nat) : Int)) (show op20[1]? = some _ from rfl) (by kernel_rfl) rfl rfl (fun τ d => run_moveX _ (.tmp 43) (.inl rfl) r43) ?_
  refine (hX _).done (hk _ w' { sz := size_put rz, df := rd, s30 := slot_ne r30 (by decide), s31 := slot_same (by rw [rz]; decide), own := ⟨A', c', slot_ne r12 (by decide), by rw [gather_next]; rw [gather_next] at ho; exact ho.out⟩
                                g := ⟨Nat.le_trans h.g.1 hgr.out.bel.size, fun q hq => (hgr.out.bel.block q hq).trans (h.g.2 q hq)⟩, no := fun i hi => ?_, csz := h.csz, cs := h.cs })
  rcases (by omega : i < j ∨ i = j) with hi | rfl
  · exact h.no i hi
  · exact h0
end
section
variable {F : Value → Prop} {b : Frame} {k : List Item} {cs : List Frame}
def StepKF (N : Nat) (F : Value → Prop) (b : Frame) (cs : List Frame) (C : Nat) (Γ : List Post) (w0 : World) (r : List Cel × Int) : Prop := ∀ a' v' todo A c, a'.defers = [] → a'.tmps.size = 48 → slot a' 6 (.slice A r.1.length c) → slot a' 7 (.int .i64 r.2) → SlAt (pCelF N) (Old v') v' A c r.1 → Gw w0 v' → MS Tryd.prog SR gR sR F Γ (some C) { b.at a' todo with mode := .returning } cs v'
theorem tail_roundF {N : Nat} (hbk : b.kind = .normal) (hbf : ∃ fn, Tryd.prog.funcs[b.fn]? = some fn) {C : Nat} {w0 : World} {zs : Nat → List Cel} {es : Nat → Int} {cells : Array Value} {j : Nat} {a : Act} {v : World} {Γ : List Post} (h : TlLF N w0 zs es cells j a v) (hj : j < 3) (hlen : ∀ i, i ≤ 3 → (gather zs i).length ≤ 1000000)
    (he : StepKF N F b cs C Γ w0 (stepOut zs es)) (hk : ∀ a' v', TlLF N w0 zs es cells (j + 1) a' v' → MS Tryd.prog SR gR sR F Γ (some C) (b.at a' k) cs v') :
    MS Tryd.prog SR gR sR F Γ (some C) (b.at a (.code stepL3 :: k)) cs v := by
  have hX : Walk Tryd.prog SR gR sR (MS Tryd.prog SR gR sR F Γ (some C)) := MS.walk ctxR
  refine tail_lookF h hj fun a1 v1 g B c h1 s14 hg hb hs s36 => ?_
  by_cases h0 : es j = 0
  · refine hX.cond (t := false) rfl (s36.trans (by rw [decide_eq_false (not_not_intro h0)])) (hX.skip ?_)
    exact tail_joinF hbk hbf h1 hj h0 hlen s14 hg hb hs hk
  · refine hX.cond (t := true) rfl (s36.trans (by rw [decide_eq_true h0])) ?_
    refine tail_err h1.sz h1.df s14 hb fun a2 v2 todo d2 z2 q6 q7 g2 => he a2 v2 todo none 0 d2 z2 ?_ ?_ ?_ (h1.g.trans g2)
    · rw [stepOut_err hj h1.no h0]; exact q6
    · rw [stepOut_err hj h1.no h0]; exact q7
    · rw [stepOut_err hj h1.no h0]; exact slat_nilF
theorem step_tailF (hbk : b.kind = .normal) (hbf : ∃ fn, Tryd.prog.funcs[b.fn]? = some fn) {C g8 g10 : Nat} {zs : Nat → List Cel} {es : Nat → Int} {v0 : World} {a : Act} {v : World} {Γ : List Post} (h : RcLF C g8 g10 zs es v0 [] 3 a v) (hlen : ∀ i, i ≤ 3 → (gather zs i).length ≤ 1000000)
    (he : StepKF v0.heap.size F b cs C Γ v (stepOut zs es)) : MS Tryd.prog SR gR sR F Γ (some C) (b.at a (.code stepT :: k)) cs v := by
  have hX : Walk Tryd.prog SR gR sR (MS Tryd.prog SR gR sR F Γ (some C)) := MS.walk ctxR
  refine tail_headF h fun a0 cells h0 => hX.block (hX.loop ?_)
  refine tail_roundF hbk hbf h0 (by omega) hlen he fun a1 v1 h1 => hX.again ?_
  refine tail_roundF hbk hbf h1 (by omega) hlen he fun a2 v2 h2 => hX.again ?_
  refine tail_roundF hbk hbf h2 (by omega) hlen he fun a3 v3 h3 => hX.again ?_
  refine tail_exitF h3 fun a4 h4 => ?_
  obtain ⟨A, c, s12, ho⟩ := h4.own
  refine tail_end h4.sz h4.df s12 fun a5 todo d5 z5 q6 q7 => ?_
  have e := stepOut_ok (zs := zs) h4.no
  by_cases hn : 2000 < (gather zs 3).length
  · rw [if_pos hn] at e q6 q7
    rw [e] at he
    exact he a5 v3 todo none 0 d5 z5 q6 q7 slat_nilF h4.g
  · rw [if_neg hn] at e q6 q7
    rw [e] at he
    exact he a5 v3 todo A c d5 z5 q6 q7 (ho.sl'.2.wide fun q hq => hq.2) h4.g
theorem step_msF {RA A : Option Addr} {rn rc n cap : Nat} {s : Int} {ch : Option Nat} {v : World} {zs : Nat → List Cel} {es : Nat → Int} (hn : n ≤ 3000000000) (hc : n ≤ cap) (hlen : ∀ i, i ≤ 3 → (gather zs i).length ≤ 1000000)
    (hmany : ∀ (i : Nat) w, i ≤ 2 → Kp v w → Calls Tryd.prog 62 #[.slice RA rn rc, .int .i64 s, subS A (i * n / 3) ((i + 1) * n / 3) cap 3, .int .i64 i] w fun e w' => ∃ x, e = .returned x ∧ QcF zs es i x w' ∧ Gw w w')
    (hk : ∀ C N v', v.heap.size ≤ N → Kp v v' → StepKF N F { (default : Frame) with fn := 40, kind := .normal } cs C [] v' (stepOut zs es)) :
    MS Tryd.prog SR gR sR F [] ch (Frame.enter Tryd.prog 40 #[.slice RA rn rc, .int .i64 s, .slice A n cap] .normal) cs v :=
  step_companyF hn hc hmany fun C g8 g10 v0 a' v' k0 h => step_tailF (b := { (default : Frame) with fn := 40, kind := .normal }) rfl ⟨Tryd.f40, Tryd.func40⟩ h hlen (hk C v0.heap.size v' k0.size (k0.trans h.k0))
end
section
variable {F : Value → Prop} {cs : List Frame}
theorem step9F_ms {RA A : Option Addr} {rc cap : Nat} {rs : List Rul} {l : List Cel} {s : Int} {ch : Option Nat} {v : World} (hr : SlAt pRul (Old v) v RA rc rs) (hl : SlAt pCel (Old v) v A cap l) (hv : RVal rs) (hs : Fits .i64 s) (hc : cellsR l = 0) (ht : TabAt v) (hg : GAt v)
    (hk : ∀ C N v', v.heap.size ≤ N → Kp v v' → StepKF N F { (default : Frame) with fn := 40, kind := .normal } cs C [] v' (stepR9 rs s l)) :
    MS Tryd.prog SR gR sR F [] ch (Frame.enter Tryd.prog 40 #[.slice RA rs.length rc, .int .i64 s, .slice A l.length cap] .normal) cs v := by
  have hl2 := (cells_fine hc).1
  refine step_msF (zs := zs9 rs s l) (es := es9 rs s l) (by omega) hl.le (gather9_len hv s (by omega)) (fun i w hi hw => ?_) (fun C N v' hN hk' => by rw [stepOut9]; exact hk C N v' hN hk')
  obtain ⟨h1, h2⟩ := part9_ends l.length i hi
  have hsl := slAt_take9 (slAt_cut9 (hl.kp eqv_cel hw) (l := i * l.length / 3) (by omega)) ((i + 1) * l.length / 3 - i * l.length / 3)
  have hlen := part9_len l i hi
  have := many9F_calls RA rc rs s _ _ (part9 l i) i w (hr.kp eqv_rul hw) hsl hs (fits_i64 (by omega)) hv (fun x hx => cells_each hc x (part9_mem hx)) (by omega) (ht.kp hw hg) (hg.kp hw)
  rw [hlen] at this
  refine this.mono ?_
  rintro e w' ⟨B, c, rfl, hs', hb⟩
  exact ⟨_, rfl, ⟨B, c, rfl, hs'⟩, Gw.of hb⟩
end
end Go.Proofs.YtlipmagkplbkdaaDoor

/-! Od9 -/
namespace Go.Proofs.YtlipmagkplbkdaaDoor
open Go Go.Conc Go.RowKit
set_option linter.unusedVariables false
set_option linter.unusedSimpArgs false
theorem slat_celF_mono {N N' : Nat} {F : Nat → Prop} {w : World} {A : Option Addr} {cap : Nat} {xs : List Cel} (hN : N ≤ N') (h : SlAt (pCelF N') F w A cap xs) : SlAt (pCelF N) F w A cap xs :=
  ⟨h.le, h.mx, h.nil, fun i x hx => by
    obtain ⟨b, o, cs, h1, h2, ⟨A', c', h3, h4, h5, h6, h7⟩, h8⟩ := h.el i x hx
    exact ⟨b, o, cs, h1, h2, ⟨A', c', h3, h4, h5, h6, fun hne b o hA => ⟨Nat.le_trans hN (h7 hne b o hA).1, (h7 hne b o hA).2⟩⟩, h8⟩⟩
section
variable {F : Value → Prop} {cs : List Frame}
def LstKF (N : Nat) (F : Value → Prop) (cs : List Frame) (v0 : World) (r : List Cel × Int) : Prop := ∀ ch a' v' todo A c, a'.defers = [] → slot a' 6 (.slice A r.1.length c) → slot a' 7 (.int .i64 r.2) → SlAt (pCelF N) (Old v') v' A c r.1 → Kp v0 v' → MS Tryd.prog SR gR sR F [] ch { bT9.at a' todo with mode := .returning } cs v'
theorem LstKF.err {N : Nat} {v0 : World} {r : List Cel × Int} {x : Int} (h : LstKF N F cs v0 r) (hr : r = ([], x)) {ch : Option Nat} {a' : Act} {v' : World} {todo : List Item} (hd : a'.defers = []) (h6 : slot a' 6 (.slice none 0 0)) (h7 : slot a' 7 (.int .i64 x)) (k : Kp v0 v') : MS Tryd.prog SR gR sR F [] ch { bT9.at a' todo with mode := .returning } cs v' := by
  subst hr
  exact h ch a' v' todo none 0 hd h6 h7 slat_nilF k
set_option maxRecDepth 100000 in
set_option maxHeartbeats 4000000 in
theorem lst_mainF {N : Nat} {RA LA : Option Addr} {rc lc : Nat} {rs : List Rul} {l : List Cel} {s : Int} {ch : Option Nat} {v v0 : World} {a : Act} (hz : a.tmps.size = 26) (hd : a.defers = []) (s0 : slot a 0 (.slice RA rs.length rc)) (s1 : slot a 1 (.int .i64 s)) (s2 : slot a 2 (.slice LA l.length lc))
    (hr : SlAt pRul (Old v) v RA rc rs) (hl : SlAt pCel (Old v) v LA lc l) (hc : checkC rs = 0) (hc2 : cellsR l = 0) (hs : Fits .i64 s) (ht : TabAt v) (hg : GAt v) (k0 : Kp v0 v) (hN : N ≤ v.heap.size) (hk : LstKF N F cs v0 (stepR9 rs s l)) :
    MS Tryd.prog SR gR sR F [] ch (bT9.at a [.code (.seq (.region 7 stO7 false) .ret)]) cs v := by
  have hXX : ∀ ch, Walk Tryd.prog SR gR sR (MS Tryd.prog SR gR sR F [] ch) := fun ch => MS.walk ctxR
  have hX := hXX ch
  refine hX.seq (hX.region ?_)
  rw [stz7]
  refine hX.val (v' := v) (some 20) (.slice RA rs.length rc) (show stO7[0]? = some _ from rfl) (by kernel_rfl) rfl rfl (fun τ d => run_moveX _ (.tmp 0) (.inl rfl) s0) ?_
  have hd : (a.put (some 20) (.slice RA rs.length rc)).defers = [] := hd
  have s0 := slot_ne (d := 20) (x := .slice RA rs.length rc) s0 (by decide)
  have s1 := slot_ne (d := 20) (x := .slice RA rs.length rc) s1 (by decide)
  have s2 := slot_ne (d := 20) (x := .slice RA rs.length rc) s2 (by decide)
  have s20 := slot_same (a := a) (d := 20) (x := .slice RA rs.length rc) (by rw [hz]; decide)
  have hz : (a.put (some 20) (.slice RA rs.length rc)).tmps.size = 26 := size_put hz
  generalize (a.put (some 20) (.slice RA rs.length rc)) = ax1 at hz hd s0 s1 s2 s20
  refine hX.val (v' := v) (some 21) (.int .i64 s) (show stO7[1]? = some _ from rfl) (by kernel_rfl) rfl rfl (fun τ d => run_moveX _ (.tmp 1) (.inl rfl) s1) ?_
  have hd : (ax1.put (some 21) (.int .i64 s)).defers = [] := hd
  have s0 := slot_ne (d := 21) (x := .int .i64 s) s0 (by decide)
  have s1 := slot_ne (d := 21) (x := .int .i64 s) s1 (by decide)
  have s2 := slot_ne (d := 21) (x := .int .i64 s) s2 (by decide)
  have s20 := slot_ne (d := 21) (x := .int .i64 s) s20 (by decide)
  have s21 := slot_same (a := ax1) (d := 21) (x := .int .i64 s) (by rw [hz]; decide)
  have hz : (ax1.put (some 21) (.int .i64 s)).tmps.size = 26 := size_put hz
  generalize (ax1.put (some 21) (.int .i64 s)) = ax2 at hz hd s0 s1 s2 s20 s21
  refine hX.val (v' := v) (some 22) (.slice LA l.length lc) (show stO7[2]? = some _ from rfl) (by kernel_rfl) rfl rfl (fun τ d => run_moveX _ (.tmp 2) (.inl rfl) s2) ?_
  have hd : (ax2.put (some 22) (.slice LA l.length lc)).defers = [] := hd
  have s0 := slot_ne (d := 22) (x := .slice LA l.length lc) s0 (by decide)
  have s1 := slot_ne (d := 22) (x := .slice LA l.length lc) s1 (by decide)
  have s2 := slot_ne (d := 22) (x := .slice LA l.length lc) s2 (by decide)
  have s20 := slot_ne (d := 22) (x := .slice LA l.length lc) s20 (by decide)
  have s21 := slot_ne (d := 22) (x := .slice LA l.length lc) s21 (by decide)
  have s22 := slot_same (a := ax2) (d := 22) (x := .slice LA l.length lc) (by rw [hz]; decide)
  have hz : (ax2.put (some 22) (.slice LA l.length lc)).tmps.size = 26 := size_put hz
  generalize (ax2.put (some 22) (.slice LA l.length lc)) = ax3 at hz hd s0 s1 s2 s20 s21 s22
  refine MS.enter ctxR (show stO7[3]? = some _ from rfl) rfl rfl (by kernel_rfl) ⟨_, _, Tryd.func40, stepBody, by kernel_rfl⟩ ?_
  have hargs : (#[.tmp 20, .tmp 21, .tmp 22] : Array Operand).map ax3.eval = #[.slice RA rs.length rc, .int .i64 s, .slice LA l.length lc] := by
    simp only [List.map_toArray, List.map_cons, List.map_nil]
    rw [show ax3.eval (.tmp 20) = _ from s20, show ax3.eval (.tmp 21) = _ from s21, show ax3.eval (.tmp 22) = _ from s22]
  show MS Tryd.prog SR gR sR F [] ch (Frame.enter Tryd.prog 40 ((#[.tmp 20, .tmp 21, .tmp 22] : Array Operand).map ax3.eval) .normal) _ v
  rw [hargs]
  refine step9F_ms hr hl (rval_of hc) hs hc2 ht hg fun C N1 v1 hN1 k1 => ?_
  intro a' v' todo A' c' hd' hsz' q6 q7 hsl' hgw
  have hX := hXX (some C)
  have k2 : Kp v v' := k1.trans (Kp.gw hgw)
  refine hX.back' (x := .tuple #[.slice A' (stepR9 rs s l).1.length c', .int .i64 (stepR9 rs s l).2]) rfl rfl Tryd.func40 (show stO7[3]? = some _ from rfl) (fun τ d => ?_) ?_
  · refine (results_two (p := 6) (q := 7) rfl _).trans ?_
    show Result.ok (Value.tuple #[a'.tmps.getD 6 undef, a'.tmps.getD 7 undef]) _ = _
    rw [show (a'.tmps.getD 6 undef) = _ from q6, show (a'.tmps.getD 7 undef) = _ from q7]
  show MS Tryd.prog SR gR sR F [] (some C) (bT9.at (ax3.put (some 23) (.tuple #[.slice A' (stepR9 rs s l).1.length c', .int .i64 (stepR9 rs s l).2])) _) cs v'
  have hd : (ax3.put (some 23) (.tuple #[.slice A' (stepR9 rs s l).1.length c', .int .i64 (stepR9 rs s l).2])).defers = [] := hd
  clear s0
  clear s1
  clear s2
  clear s20
  clear s21
  clear s22
  have s23 := slot_same (a := ax3) (d := 23) (x := .tuple #[.slice A' (stepR9 rs s l).1.length c', .int .i64 (stepR9 rs s l).2]) (by rw [hz]; decide)
  have hz : (ax3.put (some 23) (.tuple #[.slice A' (stepR9 rs s l).1.length c', .int .i64 (stepR9 rs s l).2])).tmps.size = 26 := size_put hz
  generalize (ax3.put (some 23) (.tuple #[.slice A' (stepR9 rs s l).1.length c', .int .i64 (stepR9 rs s l).2])) = ax4 at hz hd s23
  refine hX.val (v' := v') (some 24) (.slice A' (stepR9 rs s l).1.length c') (show stO7[4]? = some _ from rfl) (by kernel_rfl) rfl rfl (fun τ d => run_extractX _ (.tmp 23) 0 rfl s23 rfl) ?_
  have hd : (ax4.put (some 24) (.slice A' (stepR9 rs s l).1.length c')).defers = [] := hd
  have s23 := slot_ne (d := 24) (x := .slice A' (stepR9 rs s l).1.length c') s23 (by decide)
  have s24 := slot_same (a := ax4) (d := 24) (x := .slice A' (stepR9 rs s l).1.length c') (by rw [hz]; decide)
  have hz : (ax4.put (some 24) (.slice A' (stepR9 rs s l).1.length c')).tmps.size = 26 := size_put hz
  generalize (ax4.put (some 24) (.slice A' (stepR9 rs s l).1.length c')) = ax5 at hz hd s23 s24
  refine hX.val (v' := v') (some 25) (.int .i64 (stepR9 rs s l).2) (show stO7[5]? = some _ from rfl) (by kernel_rfl) rfl rfl (fun τ d => run_extractX _ (.tmp 23) 1 rfl s23 rfl) ?_
  have hd : (ax5.put (some 25) (.int .i64 (stepR9 rs s l).2)).defers = [] := hd
  have s23 := slot_ne (d := 25) (x := .int .i64 (stepR9 rs s l).2) s23 (by decide)
  have s24 := slot_ne (d := 25) (x := .int .i64 (stepR9 rs s l).2) s24 (by decide)
  have s25 := slot_same (a := ax5) (d := 25) (x := .int .i64 (stepR9 rs s l).2) (by rw [hz]; decide)
  have hz : (ax5.put (some 25) (.int .i64 (stepR9 rs s l).2)).tmps.size = 26 := size_put hz
  generalize (ax5.put (some 25) (.int .i64 (stepR9 rs s l).2)) = ax6 at hz hd s23 s24 s25
  refine hX.val (v' := v') (some 6) (.slice A' (stepR9 rs s l).1.length c') (show stO7[6]? = some _ from rfl) (by kernel_rfl) rfl rfl (fun τ d => run_moveX _ (.tmp 24) (.inr rfl) s24) ?_
  have hd : (ax6.put (some 6) (.slice A' (stepR9 rs s l).1.length c')).defers = [] := hd
  clear s23
  clear s24
  have s25 := slot_ne (d := 6) (x := .slice A' (stepR9 rs s l).1.length c') s25 (by decide)
  have s6 := slot_same (a := ax6) (d := 6) (x := .slice A' (stepR9 rs s l).1.length c') (by rw [hz]; decide)
  have hz : (ax6.put (some 6) (.slice A' (stepR9 rs s l).1.length c')).tmps.size = 26 := size_put hz
  generalize (ax6.put (some 6) (.slice A' (stepR9 rs s l).1.length c')) = ax7 at hz hd s25 s6
  refine hX.val (v' := v') (some 7) (.int .i64 (stepR9 rs s l).2) (show stO7[7]? = some _ from rfl) (by kernel_rfl) rfl rfl (fun τ d => run_moveX _ (.tmp 25) (.inr rfl) s25) ?_
  have hd : (ax7.put (some 7) (.int .i64 (stepR9 rs s l).2)).defers = [] := hd
  clear s25
  have s6 := slot_ne (d := 7) (x := .int .i64 (stepR9 rs s l).2) s6 (by decide)
  have s7 := slot_same (a := ax7) (d := 7) (x := .int .i64 (stepR9 rs s l).2) (by rw [hz]; decide)
  have hz : (ax7.put (some 7) (.int .i64 (stepR9 rs s l).2)).tmps.size = 26 := size_put hz
  generalize (ax7.put (some 7) (.int .i64 (stepR9 rs s l).2)) = ax8 at hz hd s6 s7
  exact hX.done (hX.ret (hk _ _ _ _ _ _ hd s6 s7 (slat_celF_mono (Nat.le_trans hN hN1) hsl') (k0.trans k2)))
set_option maxRecDepth 100000 in
set_option maxHeartbeats 4000000 in
theorem lst_msF {RA LA : Option Addr} {rc lc : Nat} {rs : List Rul} {l : List Cel} {s : Int} {ch : Option Nat} {v : World} (hr : SlAt pRul (Old v) v RA rc rs) (hl : SlAt pCel (Old v) v LA lc l) (hsm : Small rs) (hs : Fits .i64 s) (ht : TabAt v) (hg : GAt v) (hk : LstKF v.heap.size F cs v (rStep9 rs s l)) :
    MS Tryd.prog SR gR sR F [] ch (Frame.enter Tryd.prog 26 #[.slice RA rs.length rc, .int .i64 s, .slice LA l.length lc] .normal) cs v := by
  have hX : Walk Tryd.prog SR gR sR (MS Tryd.prog SR gR sR F [] ch) := MS.walk ctxR
  rw [enter_eq Tryd.func26 stBody, stB_eq, stTm]
  show MS Tryd.prog SR gR sR F [] ch (bT9.at _ _) cs v
  refine hX.seq (hX.wp ctxR rfl bT9_fn sokR0 fun τ d => ?_)
  have k1 : Kp v (Go.Proofs.YtlipmagkplbkdaaDoor.at2 v τ d) := Kp.at2 _ _ _
  generalize Go.Proofs.YtlipmagkplbkdaaDoor.at2 v τ d = v1 at k1 ⊢
  have Hr := Lib.hid hr; clear hr
  have Hl := Lib.hid hl; clear hl
  have Hk := Lib.hid hk; clear hk
  have HX := Lib.hid hX; clear hX
  have Ht := Lib.hid ht; clear ht
  have Hg := Lib.hid hg; clear hg
  dsimp only [stR0, stB, Tryd.f26]
  go_wp2
  refine HX.out.seq (HX.out.wp ctxR rfl bT9_fn sokC1 fun τ d => ?_)
  have k2 : Kp v (Go.Proofs.YtlipmagkplbkdaaDoor.at2 v1 τ d) := k1.trans (Kp.at2 _ _ _)
  generalize Go.Proofs.YtlipmagkplbkdaaDoor.at2 v1 τ d = v2 at k2 ⊢
  have hck := checkC_calls RA rc rs v2 (Hr.out.kp eqv_rul k2) hsm
  unfold IntPost at hck
  dsimp only [stC1, stB, Tryd.f26]
  by_cases hc : checkC rs = 0
  case neg =>
    have e0 : (checkC rs != 0) = true := by simp [hc]
    have hff : rStep9 rs s l = ([], checkC rs) := by unfold rStep9; rw [if_neg hc]
    generalize checkC rs = x at hck hff e0
    have Hck := Lib.hid hck; clear hck
    have Hff := Lib.hid hff; clear hff
    clear hc
    go_wp2_with (go_at_call 21; refine Hck.out.mono ?_; rintro e w1 ⟨rfl, hb1⟩)
    intro todo
    exact Hk.out.err Hff.out rfl rfl rfl (k2.trans (Kp.below hb1))
  case pos =>
  rw [hc] at hck
  have Hck := Lib.hid hck; clear hck
  have Hc := Lib.hid hc; clear hc
  go_wp2_with (go_at_call 21; refine Hck.out.mono ?_; rintro e w1 ⟨rfl, hb1⟩)
  have k3 := k2.trans (Kp.below hb1)
  clear hb1 k2
  refine HX.out.seq (HX.out.wp ctxR rfl bT9_fn sokC4 fun τ d => ?_)
  have k4 : Kp v (Go.Proofs.YtlipmagkplbkdaaDoor.at2 w1 τ d) := k3.trans (Kp.at2 _ _ _)
  generalize Go.Proofs.YtlipmagkplbkdaaDoor.at2 w1 τ d = v4 at k4 ⊢
  clear k3
  have hcl := cells_calls LA lc l v4 (Hl.out.kp eqv_cel k4)
  unfold IntPost at hcl
  dsimp only [stC4, stB, Tryd.f26]
  by_cases hc2 : cellsR l = 0
  case neg =>
    have e0 : (cellsR l != 0) = true := by simp [hc2]
    have hff : rStep9 rs s l = ([], cellsR l) := by unfold rStep9; rw [if_pos Hc.out, if_neg hc2]
    generalize cellsR l = x at hcl hff e0
    have Hcl := Lib.hid hcl; clear hcl
    have Hff := Lib.hid hff; clear hff
    clear hc2
    go_wp2_with (go_at_call 23; refine Hcl.out.mono ?_; rintro e w2 ⟨rfl, hb2⟩)
    intro todo
    exact Hk.out.err Hff.out rfl rfl rfl (k4.trans (Kp.below hb2))
  case pos =>
  have hff : rStep9 rs s l = stepR9 rs s l := by unfold rStep9; rw [if_pos Hc.out, if_pos hc2]
  rw [hc2] at hcl
  have Hcl := Lib.hid hcl; clear hcl
  have Hff := Lib.hid hff; clear hff
  have Hc2 := Lib.hid hc2; clear hc2
  go_wp2_with (go_at_call 23; refine Hcl.out.mono ?_; rintro e w2 ⟨rfl, hb2⟩)
  have k5 := k4.trans (Kp.below hb2)
  have hk2 := Hk.out
  rw [Hff.out] at hk2
  exact lst_mainF (N := v.heap.size) rfl rfl rfl rfl rfl (Hr.out.kp eqv_rul k5) (Hl.out.kp eqv_cel k5) Hc.out Hc2.out hs (Ht.out.kp k5 Hg.out) (Hg.out.kp k5) k5 k5.size hk2
end
end Go.Proofs.YtlipmagkplbkdaaDoor

/-! Of9 -/
namespace Go.Proofs.YtlipmagkplbkdaaDoor
open Go Go.Conc Go.RowKit
set_option linter.unusedVariables false
set_option linter.unusedSimpArgs false
set_option maxRecDepth 100000 in
set_option maxHeartbeats 4000000 in
theorem act_lit126 {a : Act} (hd : a.defers = []) (hz : a.tmps.size = 126) : a = { tmps := #[a.tmps.getD 0 undef, a.tmps.getD 1 undef, a.tmps.getD 2 undef, a.tmps.getD 3 undef, a.tmps.getD 4 undef, a.tmps.getD 5 undef, a.tmps.getD 6 undef, a.tmps.getD 7 undef, a.tmps.getD 8 undef, a.tmps.getD 9 undef, a.tmps.getD 10 undef, a.tmps.getD 11 undef, a.tmps.getD 12 undef, a.tmps.getD 13 undef, a.tmps.getD 14 undef, a.tmps.getD 15 undef, a.tmps.getD 16 undef, a.tmps.getD 17 undef, a.tmps.getD 18 undef, a.tmps.getD 19 undef, a.tmps.getD 20 undef, a.tmps.getD 21 undef, a.tmps.getD 22 undef, a.tmps.getD 23 undef, a.tmps.getD 24 undef, a.tmps.getD 25 undef, a.tmps.getD 26 undef, a.tmps.getD 27 undef, a.tmps.getD 28 undef, a.tmps.getD 29 undef, a.tmps.getD 30 undef, a.tmps.getD 31 undef, a.tmps.getD 32 undef, a.tmps.getD 33 undef, a.tmps.getD 34 undef, a.tmps.getD 35 undef, a.tmps.getD 36 undef, a.tmps.getD 37 undef, a.tmps.getD 38 undef, a.tmps.getD 39 undef, a.tmps.getD 40 undef, a.tmps.getD 41 undef, a.tmps.getD 42 undef, a.tmps.getD 43 undef, a.tmps.getD 44 undef, a.tmps.getD 45 undef, a.tmps.getD 46 undef, a.tmps.getD 47 undef, a.tmps.getD 48 undef, a.tmps.getD 49 undef, a.tmps.getD 50 undef, a.tmps.getD 51 undef, a.tmps.getD 52 undef, a.tmps.getD 53 undef, a.tmps.getD 54 undef, a.tmps.getD 55 undef, a.tmps.getD 56 undef, a.tmps.getD 57 undef, a.tmps.getD 58 undef, a.tmps.getD 59 undef, a.tmps.getD 60 undef, a.tmps.getD 61 undef, a.tmps.getD 62 undef, a.tmps.getD 63 undef, a.tmps.getD 64 undef, a.tmps.getD 65 undef, a.tmps.getD 66 undef, a.tmps.getD 67 undef, a.tmps.getD 68 undef, a.tmps.getD 69 undef, a.tmps.getD 70 undef, a.tmps.getD 71 undef, a.tmps.getD 72 undef, a.tmps.getD 73 undef, a.tmps.getD 74 undef, a.tmps.getD 75 undef, a.tmps.getD 76 undef, a.tmps.getD 77 undef, a.tmps.getD 78 undef, a.tmps.getD 79 undef, a.tmps.getD 80 undef, a.tmps.getD 81 undef, a.tmps.getD 82 undef, a.tmps.getD 83 undef, a.tmps.getD 84 undef, a.tmps.getD 85 undef, a.tmps.getD 86 undef, a.tmps.getD 87 undef, a.tmps.getD 88 undef, a.tmps.getD 89 undef, a.tmps.getD 90 undef, a.tmps.getD 91 undef, a.tmps.getD 92 undef, a.tmps.getD 93 undef, a.tmps.getD 94 undef, a.tmps.getD 95 undef, a.tmps.getD 96 undef, a.tmps.getD 97 undef, a.tmps.getD 98 undef, a.tmps.getD 99 undef, a.tmps.getD 100 undef, a.tmps.getD 101 undef, a.tmps.getD 102 undef, a.tmps.getD 103 undef, a.tmps.getD 104 undef, a.tmps.getD 105 undef, a.tmps.getD 106 undef, a.tmps.getD 107 undef, a.tmps.getD 108 undef, a.tmps.getD 109 undef, a.tmps.getD 110 undef, a.tmps.getD 111 undef, a.tmps.getD 112 undef, a.tmps.getD 113 undef, a.tmps.getD 114 undef, a.tmps.getD 115 undef, a.tmps.getD 116 undef, a.tmps.getD 117 undef, a.tmps.getD 118 undef, a.tmps.getD 119 undef, a.tmps.getD 120 undef, a.tmps.getD 121 undef, a.tmps.getD 122 undef, a.tmps.getD 123 undef, a.tmps.getD 124 undef, a.tmps.getD 125 undef], defers := [] } := by
  obtain ⟨tm, df⟩ := a
  obtain rfl : df = [] := hd
  have hz : tm.size = 126 := hz
  refine congrArg (fun t => ({ tmps := t, defers := [] } : Act)) ?_
  apply Array.ext
  · rw [hz]; rfl
  · intro i h1 h2
    rw [hz] at h1
    rw [show tm[i] = tm.getD i undef by rw [Array.getD_eq_getD_getElem?, Array.getElem?_eq_getElem (by omega)]; rfl]
    match i, h1 with
    | 0, _ => rfl
    | 1, _ => rfl
    | 2, _ => rfl
    | 3, _ => rfl
    | 4, _ => rfl
    | 5, _ => rfl
    | 6, _ => rfl
    | 7, _ => rfl
    | 8, _ => rfl
    | 9, _ => rfl
    | 10, _ => rfl
    | 11, _ => rfl
    | 12, _ => rfl
    | 13, _ => rfl
    | 14, _ => rfl
    | 15, _ => rfl
    | 16, _ => rfl
    | 17, _ => rfl
    | 18, _ => rfl
    | 19, _ => rfl
    | 20, _ => rfl
    | 21, _ => rfl
    | 22, _ => rfl
    | 23, _ => rfl
    | 24, _ => rfl
    | 25, _ => rfl
    | 26, _ => rfl
    | 27, _ => rfl
    | 28, _ => rfl
    | 29, _ => rfl
    | 30, _ => rfl
    | 31, _ => rfl
    | 32, _ => rfl
    | 33, _ => rfl
    | 34, _ => rfl
    | 35, _ => rfl
    | 36, _ => rfl
    | 37, _ => rfl
    | 38, _ => rfl
    | 39, _ => rfl
    | 40, _ => rfl
    | 41, _ => rfl
    | 42, _ => rfl
    | 43, _ => rfl
    | 44, _ => rfl
    | 45, _ => rfl
    | 46, _ => rfl
    | 47, _ => rfl
    | 48, _ => rfl
    | 49, _ => rfl
    | 50, _ => rfl
    | 51, _ => rfl
    | 52, _ => rfl
    | 53, _ => rfl
    | 54, _ => rfl
    | 55, _ => rfl
    | 56, _ => rfl
    | 57, _ => rfl
    | 58, _ => rfl
    | 59, _ => rfl
    | 60, _ => rfl
    | 61, _ => rfl
    | 62, _ => rfl
    | 63, _ => rfl
    | 64, _ => rfl
    | 65, _ => rfl
    | 66, _ => rfl
    | 67, _ => rfl
    | 68, _ => rfl
    | 69, _ => rfl
    | 70, _ => rfl
    | 71, _ => rfl
    | 72, _ => rfl
    | 73, _ => rfl
    | 74, _ => rfl
    | 75, _ => rfl
    | 76, _ => rfl
    | 77, _ => rfl
    | 78, _ => rfl
    | 79, _ => rfl
    | 80, _ => rfl
    | 81, _ => rfl
    | 82, _ => rfl
    | 83, _ => rfl
    | 84, _ => rfl
    | 85, _ => rfl
    | 86, _ => rfl
    | 87, _ => rfl
    | 88, _ => rfl
    | 89, _ => rfl
    | 90, _ => rfl
    | 91, _ => rfl
    | 92, _ => rfl
    | 93, _ => rfl
    | 94, _ => rfl
    | 95, _ => rfl
    | 96, _ => rfl
    | 97, _ => rfl
    | 98, _ => rfl
    | 99, _ => rfl
    | 100, _ => rfl
    | 101, _ => rfl
    | 102, _ => rfl
    | 103, _ => rfl
    | 104, _ => rfl
    | 105, _ => rfl
    | 106, _ => rfl
    | 107, _ => rfl
    | 108, _ => rfl
    | 109, _ => rfl
    | 110, _ => rfl
    | 111, _ => rfl
    | 112, _ => rfl
    | 113, _ => rfl
    | 114, _ => rfl
    | 115, _ => rfl
    | 116, _ => rfl
    | 117, _ => rfl
    | 118, _ => rfl
    | 119, _ => rfl
    | 120, _ => rfl
    | 121, _ => rfl
    | 122, _ => rfl
    | 123, _ => rfl
    | 124, _ => rfl
    | 125, _ => rfl
    | j + 126, h => exact absurd h (by omega)
noncomputable def soB : Code := match Tryd.f5.body with | some c => c | none => .skip
theorem soBody : Tryd.f5.body = some soB := by kernel_rfl
noncomputable def soR0 : Code := match soB with | .seq a _ => a | _ => .skip
noncomputable def soR1 : Code := match soB with | .seq _ (.seq (.seq a _) _) => a | _ => .skip
noncomputable def soO2 : Array Oper := match soB with | .seq _ (.seq (.seq _ (.cond _ (.seq (.region _ a _) _) _)) _) => a | _ => #[]
noncomputable def soO3 : Array Oper := match soB with | .seq _ (.seq _ (.seq (.region _ a _) _)) => a | _ => #[]
noncomputable def soR4 : Code := match soB with | .seq _ (.seq _ (.seq _ (.seq a _))) => a | _ => .skip
noncomputable def soR5 : Code := match soB with | .seq _ (.seq _ (.seq _ (.seq _ (.seq a _)))) => a | _ => .skip
noncomputable def soO6 : Array Oper := match soB with | .seq _ (.seq _ (.seq _ (.seq _ (.seq _ (.seq (.region _ a _) _))))) => a | _ => #[]
noncomputable def soR7 : Code := match soB with | .seq _ (.seq _ (.seq _ (.seq _ (.seq _ (.seq _ (.seq a _)))))) => a | _ => .skip
noncomputable def soR8 : Code := match soB with | .seq _ (.seq _ (.seq _ (.seq _ (.seq _ (.seq _ (.seq _ (.seq (.seq a _) _))))))) => a | _ => .skip
noncomputable def soC9 : Code := match soB with | .seq _ (.seq _ (.seq _ (.seq _ (.seq _ (.seq _ (.seq _ (.seq (.seq _ (.cond _ a _)) _))))))) => a | _ => .skip
noncomputable def soL : Code := match soB with | .seq _ (.seq _ (.seq _ (.seq _ (.seq _ (.seq _ (.seq _ (.seq _ (.seq a _)))))))) => a | _ => .skip
noncomputable def soR17 : Code := match soB with | .seq _ (.seq _ (.seq _ (.seq _ (.seq _ (.seq _ (.seq _ (.seq _ (.seq _ (.seq a _))))))))) => a | _ => .skip
noncomputable def soT : Code := .seq soR7 (.seq (.seq soR8 (.cond (.tmp 93) soC9 .skip)) (.seq soL (.seq soR17 .ret)))
noncomputable def soM : Code := .seq (.region 3 soO3 false) (.seq soR4 (.seq soR5 (.seq (.region 6 soO6 false) soT)))
theorem soB_eq : soB = .seq soR0 (.seq (.seq soR1 (.cond (.tmp 39) (.seq (.region 2 soO2 false) .ret) .skip)) soM) := by kernel_rfl
theorem soTm (RA LA : Option Addr) (rc lc m1 m2 : Nat) (s : Int) (u : Value) : (#[.slice RA m1 rc, .int .i64 s, u, .slice LA m2 lc] ++ Array.replicate (Tryd.f5.ntmps - (#[.slice RA m1 rc, .int .i64 s, u, .slice LA m2 lc] : Array Value).size) undef : Array Value) = #[.slice RA m1 rc, .int .i64 s, u, .slice LA m2 lc, undef, undef, undef, undef, undef, undef, undef, undef, undef, undef, undef, undef, undef, undef, undef, undef, undef, undef, undef, undef, undef, undef, undef, undef, undef, undef, undef, undef, undef, undef, undef, undef, undef, undef, undef, undef, undef, undef, undef, undef, undef, undef, undef, undef, undef, undef, undef, undef, undef, undef, undef, undef, undef, undef, undef, undef, undef, undef, undef, undef, undef, undef, undef, undef, undef, undef, undef, undef, undef, undef, undef, undef, undef, undef, undef, undef, undef, undef, undef, undef, undef, undef, undef, undef, undef, undef, undef, undef, undef, undef, undef, undef, undef, undef, undef, undef, undef, undef, undef, undef, undef, undef, undef, undef, undef, undef, undef, undef, undef, undef, undef, undef, undef, undef, undef, undef, undef, undef, undef, undef, undef, undef] := by kernel_rfl
theorem ookR0 : okC Tryd.prog gR sR soR0 = true := by kernel_rfl
theorem ookR1 : okC Tryd.prog gR sR soR1 = true := by kernel_rfl
theorem ookR4 : okC Tryd.prog gR sR soR4 = true := by kernel_rfl
theorem ookR5 : okC Tryd.prog gR sR soR5 = true := by kernel_rfl
theorem ookR7 : okC Tryd.prog gR sR soR7 = true := by kernel_rfl
theorem ookR8 : okC Tryd.prog gR sR soR8 = true := by kernel_rfl
theorem ookL : okC Tryd.prog gR sR soL = true := by kernel_rfl
theorem ookR17 : okC Tryd.prog gR sR soR17 = true := by kernel_rfl
theorem soz2 : List.range soO2.size = [0] := by kernel_rfl
theorem soz3 : List.range soO3.size = [0, 1, 2, 3, 4, 5, 6, 7] := by kernel_rfl
theorem soz6 : List.range soO6.size = [0, 1, 2, 3, 4, 5, 6, 7, 8] := by kernel_rfl
def bSo : Frame := { (default : Frame) with fn := 5, kind := .normal }
theorem bSo_fn : ∃ fn, Tryd.prog.funcs[bSo.fn]? = some fn := ⟨Tryd.f5, Tryd.func5⟩
theorem so_fin {ch : Option Nat} {a : Act} {v : World} {todo : List Item} (hd : a.defers = []) (h8 : slot a 8 (.bool true)) : MS Tryd.prog SR gR sR (· = .bool true) [] ch { bSo.at a todo with mode := .returning } [] v := by
  refine MS.fin (x := .bool true) rfl hd rfl Tryd.func5 (fun τ d => ?_) (by kernel_rfl) rfl
  refine (results_one (p := 8) rfl _).trans ?_
  show Result.ok (a.tmps.getD 8 undef) _ = _
  rw [show (a.tmps.getD 8 undef) = _ from h8]
theorem nilS_small : Small [] := small_of (by decide +kernel)
structure SoW (v0 v : World) (gc : Nat) (c : Cel) (D : Option Addr) (dd : Nat) : Prop where
  kp : Kp v0 v
  lt : gc < v.heap.size
  y0 : v.cell? ⟨gc, 0, none⟩ = some (.string c.path)
  y1 : v.cell? ⟨gc, 1, none⟩ = some (.int .u8 c.mod.name)
  y2 : v.cell? ⟨gc, 2, none⟩ = some (.slice D c.mod.args.length dd)
theorem SoW.to {v0 v v' : World} {gc : Nat} {c : Cel} {D : Option Addr} {dd : Nat} (h : SoW v0 v gc c D dd) (k : Kp v v') : SoW v0 v' gc c D dd :=
  ⟨h.kp.trans k, Nat.lt_of_lt_of_le h.lt k.size, (k.cell _ h.lt).trans h.y0, (k.cell _ h.lt).trans h.y1, (k.cell _ h.lt).trans h.y2⟩
set_option maxRecDepth 100000 in
set_option maxHeartbeats 4000000 in
theorem so_two {ch : Option Nat} {v : World} {a : Act} {k : List Item} (hz : a.tmps.size = 126) (hd : a.defers = []) :
    MS Tryd.prog SR gR sR (· = .bool true) [] ch (bSo.at a (.code (.seq (.region 2 soO2 false) .ret) :: k)) [] v := by
  have hX : Walk Tryd.prog SR gR sR (MS Tryd.prog SR gR sR (· = .bool true) [] ch) := MS.walk ctxR
  refine hX.seq (hX.region ?_)
  rw [soz2]
  refine hX.val (v' := v) (some 8) (.bool true) (show soO2[0]? = some _ from rfl) (by kernel_rfl) rfl rfl (fun τ d => run_moveX a.eval _ (.inr rfl) rfl) ?_
  have hd : (a.put (some 8) (.bool true)).defers = [] := hd
  have s8 := slot_same (a := a) (d := 8) (x := .bool true) (by rw [hz]; decide)
  have hz : (a.put (some 8) (.bool true)).tmps.size = 126 := size_put hz
  generalize (a.put (some 8) (.bool true)) = y1 at hz hd s8 ⊢
  exact hX.done (hX.ret (so_fin hd s8))
section
variable {RA LA : Option Addr} {rc lc : Nat} {rs : List Rul} {l : List Cel} {s : Int} {c : Cel} {D : Option Addr} {dd : Nat} {v0 : World}
set_option maxRecDepth 100000 in
set_option maxHeartbeats 4000000 in
theorem so_a (hr : SlAt pRul (Old v0) v0 RA rc rs) (hl : SlAt pCel (Old v0) v0 LA lc l) (hda : SlAt (pI .i64) (Old v0) v0 D dd c.mod.args) (hps : c.path.size ≤ 9223372036854775807)
    (hk : ∀ (gc : Nat) a v, greatR rs = false → c.path.size ≤ 300 → a.tmps.size = 126 → a.defers = [] → slot a 0 (.slice RA rs.length rc) → slot a 1 (.int .i64 s) → slot a 3 (.slice LA l.length lc) → slot a 6 (.pointer (some ⟨gc, 0, none⟩)) → SoW v0 v gc c D dd → MS Tryd.prog SR gR sR (· = .bool true) [] none (bSo.at a [.code soM]) [] v) :
    MS Tryd.prog SR gR sR (· = .bool true) [] none (Frame.enter Tryd.prog 5 #[.slice RA rs.length rc, .int .i64 s, .agg #[.string c.path, .int .u8 c.mod.name, .slice D c.mod.args.length dd], .slice LA l.length lc] .normal) [] v0 := by
  have hX : Walk Tryd.prog SR gR sR (MS Tryd.prog SR gR sR (· = .bool true) [] none) := MS.walk ctxR
  have hmx := hr.lenle
  have hmxd := hda.lenle
  rw [enter_eq Tryd.func5 soBody, soB_eq, soTm]
  show MS Tryd.prog SR gR sR (· = .bool true) [] none (bSo.at _ _) [] v0
  refine hX.seq (hX.wp ctxR rfl bSo_fn ookR0 fun τ t => ?_)
  have k1 : Kp v0 (Go.Proofs.YtlipmagkplbkdaaDoor.at2 v0 τ t) := Kp.at2 _ _ _
  generalize Go.Proofs.YtlipmagkplbkdaaDoor.at2 v0 τ t = v1 at k1 ⊢
  have hb0 : Blk (v1.alloc (.cells #[.string c.path, .int .u8 c.mod.name, .slice D c.mod.args.length dd] 51)) v1.heap.size 51 #[.string c.path, .int .u8 c.mod.name, .slice D c.mod.args.length dd] := Blk.new _ _ _
  have hw : SoW v0 (v1.alloc (.cells #[.string c.path, .int .u8 c.mod.name, .slice D c.mod.args.length dd] 51)) v1.heap.size c D dd := ⟨k1.trans (Kp.alloc _ _), hb0.lt, (hb0.cell 0).trans rfl, (hb0.cell 1).trans rfl, (hb0.cell 2).trans rfl⟩
  clear hb0
  have Hr := Lib.hid hr; clear hr
  have Hl := Lib.hid hl; clear hl
  have Hda := Lib.hid hda; clear hda
  have Hk := Lib.hid hk; clear hk
  have HX := Lib.hid hX; clear hX
  have Hw := Lib.hid hw; clear hw
  dsimp only [soR0, soB, Tryd.f5]
  go_wp2
  generalize (v1.alloc (.cells #[.string c.path, .int .u8 c.mod.name, .slice D c.mod.args.length dd] 51)) = v2 at Hw ⊢
  generalize v1.heap.size = gc at Hw ⊢
  refine HX.out.seq (HX.out.seq (HX.out.wp ctxR rfl bSo_fn ookR1 fun τ t => ?_))
  have hw3 := Hw.out.to (Kp.at2 v2 τ t)
  generalize Go.Proofs.YtlipmagkplbkdaaDoor.at2 v2 τ t = v3 at hw3 ⊢
  clear Hw k1
  have y0 := hw3.y0
  have y1 := hw3.y1
  have y2 := hw3.y2
  have g1 := greatR_calls RA rc rs v3 (Hr.out.kp eqv_rul hw3.kp)
  unfold GreatPost at g1
  have g2 := greatC_calls LA lc l v3 (Hl.out.kp eqv_cel hw3.kp)
  dsimp only [soR1, soB, Tryd.f5]
  cases hg1 : greatR rs
  case true =>
    rw [hg1] at g1
    have G1 := Lib.hid g1; clear g1
    have G2 := Lib.hid g2; clear g2
    have Hw3 := Lib.hid hw3; clear hw3
    have Hg1 := Lib.hid hg1; clear hg1
    go_wp2_with (go_at_call 11; refine G1.out.mono ?_; rintro e w4 ⟨rfl, rfl⟩)
    refine HX.out.cond (t := true) rfl rfl ?_
    exact so_two rfl rfl
  rw [hg1] at g1
  cases hg2 : greatL l
  case true =>
    rw [hg2] at g2
    have G1 := Lib.hid g1; clear g1
    have G2 := Lib.hid g2; clear g2
    have Hw3 := Lib.hid hw3; clear hw3
    have Hg1 := Lib.hid hg1; clear hg1
    have Hg2 := Lib.hid hg2; clear hg2
    go_wp2_with (first
      | (go_at_call 11; refine G1.out.mono ?_; rintro e w4 ⟨rfl, rfl⟩)
      | (go_at_call 16; refine G2.out.mono ?_; rintro e w5 ⟨rfl, rfl⟩))
    refine HX.out.cond (t := true) rfl rfl ?_
    exact so_two rfl rfl
  rw [hg2] at g2
  by_cases h3 : 300 < c.path.size
  · have h3' : (300 : Int) < (c.path.size : Int) := by omega
    have G1 := Lib.hid g1; clear g1
    have G2 := Lib.hid g2; clear g2
    have Hw3 := Lib.hid hw3; clear hw3
    have Hg1 := Lib.hid hg1; clear hg1
    have Hg2 := Lib.hid hg2; clear hg2
    clear h3
    go_wp2_with (first
      | (go_at_call 11; refine G1.out.mono ?_; rintro e w4 ⟨rfl, rfl⟩)
      | (go_at_call 16; refine G2.out.mono ?_; rintro e w5 ⟨rfl, rfl⟩))
    refine HX.out.cond (t := true) rfl rfl ?_
    exact so_two rfl rfl
  have h3' : ¬ (300 : Int) < (c.path.size : Int) := by omega
  have hp3 : c.path.size ≤ 300 := by omega
  by_cases h10 : 10 < c.mod.args.length
  · have h10' : (10 : Int) < (c.mod.args.length : Int) := by omega
    have G1 := Lib.hid g1; clear g1
    have G2 := Lib.hid g2; clear g2
    have Hw3 := Lib.hid hw3; clear hw3
    have Hg1 := Lib.hid hg1; clear hg1
    have Hg2 := Lib.hid hg2; clear hg2
    have Hp3 := Lib.hid hp3; clear hp3
    clear h3 h10
    go_wp2_with (first
      | (go_at_call 11; refine G1.out.mono ?_; rintro e w4 ⟨rfl, rfl⟩)
      | (go_at_call 16; refine G2.out.mono ?_; rintro e w5 ⟨rfl, rfl⟩))
    refine HX.out.cond (t := true) rfl rfl ?_
    exact so_two rfl rfl
  have h10' : ¬ (10 : Int) < (c.mod.args.length : Int) := by omega
  have G1 := Lib.hid g1; clear g1
  have G2 := Lib.hid g2; clear g2
  have Hw3 := Lib.hid hw3; clear hw3
  have Hg1 := Lib.hid hg1; clear hg1
  have Hg2 := Lib.hid hg2; clear hg2
  have Hp3 := Lib.hid hp3; clear hp3
  clear h3 h10
  go_wp2_with (first
    | (go_at_call 11; refine G1.out.mono ?_; rintro e w4 ⟨rfl, rfl⟩)
    | (go_at_call 16; refine G2.out.mono ?_; rintro e w5 ⟨rfl, rfl⟩))
  refine HX.out.cond (t := false) rfl (congrArg Value.bool (by rw [Bool.or_eq_false_iff]; exact ⟨decide_eq_false (by omega), decide_eq_false (by omega)⟩)) (HX.out.skip ?_)
  exact Hk.out gc _ _ Hg1.out Hp3.out rfl rfl rfl rfl rfl rfl Hw3.out
set_option maxRecDepth 100000 in
set_option maxHeartbeats 4000000 in
theorem so_3 {gc : Nat} {ch : Option Nat} {a : Act} {v : World} {rest : Code} (hr : SlAt pRul (Old v0) v0 RA rc rs) (hl : SlAt pCel (Old v0) v0 LA lc l) (hs : Fits .i64 s) (ht : TabAt v0) (hg : GAt v0) (hz : a.tmps.size = 126) (hd : a.defers = []) (s0 : slot a 0 (.slice RA rs.length rc)) (s1 : slot a 1 (.int .i64 s)) (s3 : slot a 3 (.slice LA l.length lc)) (s6 : slot a 6 (.pointer (some ⟨gc, 0, none⟩))) (hw : SoW v0 v gc c D dd)
    (hk : ∀ ch a v W wc, a.tmps.size = 126 → a.defers = [] → slot a 0 (.slice RA rs.length rc) → slot a 1 (.int .i64 s) → slot a 3 (.slice LA l.length lc) → slot a 6 (.pointer (some ⟨gc, 0, none⟩)) → slot a 9 (.slice W (rStep9 [] s l).1.length wc) → slot a 10 (.int .i64 (rStep9 [] s l).2) → SoW v0 v gc c D dd → SlAt pCel (Old v) v W wc (rStep9 [] s l).1 → MS Tryd.prog SR gR sR (· = .bool true) [] ch (bSo.at a [.code rest]) [] v) :
    MS Tryd.prog SR gR sR (· = .bool true) [] ch (bSo.at a [.code (.seq (.region 3 soO3 false) rest)]) [] v := by
  have hXX : ∀ ch, Walk Tryd.prog SR gR sR (MS Tryd.prog SR gR sR (· = .bool true) [] ch) := fun ch => MS.walk ctxR
  have hX := hXX ch
  refine hX.seq (hX.region ?_)
  rw [soz3]
  refine hX.val (v' := v) (some 41) (.int .i64 s) (show soO3[0]? = some _ from rfl) (by kernel_rfl) rfl rfl (fun τ d => run_moveX a.eval (.tmp 1) (.inl rfl) s1) ?_
  have hd : (a.put (some 41) (.int .i64 s)).defers = [] := hd
  have s0 := slot_ne (d := 41) (x := .int .i64 s) s0 (by decide)
  have s1 := slot_ne (d := 41) (x := .int .i64 s) s1 (by decide)
  have s3 := slot_ne (d := 41) (x := .int .i64 s) s3 (by decide)
  have s6 := slot_ne (d := 41) (x := .int .i64 s) s6 (by decide)
  have s41 := slot_same (a := a) (d := 41) (x := .int .i64 s) (by rw [hz]; decide)
  have hz : (a.put (some 41) (.int .i64 s)).tmps.size = 126 := size_put hz
  generalize (a.put (some 41) (.int .i64 s)) = y1 at hz hd s0 s1 s3 s6 s41 ⊢
  refine hX.val (v' := v) (some 42) (.slice LA l.length lc) (show soO3[1]? = some _ from rfl) (by kernel_rfl) rfl rfl (fun τ d => run_moveX y1.eval (.tmp 3) (.inl rfl) s3) ?_
  have hd : (y1.put (some 42) (.slice LA l.length lc)).defers = [] := hd
  have s0 := slot_ne (d := 42) (x := .slice LA l.length lc) s0 (by decide)
  have s1 := slot_ne (d := 42) (x := .slice LA l.length lc) s1 (by decide)
  have s3 := slot_ne (d := 42) (x := .slice LA l.length lc) s3 (by decide)
  have s6 := slot_ne (d := 42) (x := .slice LA l.length lc) s6 (by decide)
  have s41 := slot_ne (d := 42) (x := .slice LA l.length lc) s41 (by decide)
  have s42 := slot_same (a := y1) (d := 42) (x := .slice LA l.length lc) (by rw [hz]; decide)
  have hz : (y1.put (some 42) (.slice LA l.length lc)).tmps.size = 126 := size_put hz
  generalize (y1.put (some 42) (.slice LA l.length lc)) = y2 at hz hd s0 s1 s3 s6 s41 s42 ⊢
  refine MS.enter ctxR (show soO3[2]? = some _ from rfl) rfl rfl (by kernel_rfl) ⟨_, _, Tryd.func26, stBody, by kernel_rfl⟩ ?_
  have hargs : (#[.const (.slice none 0 0), .tmp 41, .tmp 42] : Array Operand).map y2.eval = #[.slice none 0 0, .int .i64 s, .slice LA l.length lc] := by
    simp only [List.map_toArray, List.map_cons, List.map_nil]
    rw [show y2.eval (.tmp 41) = _ from s41, show y2.eval (.tmp 42) = _ from s42]
    rfl
  show MS Tryd.prog SR gR sR (· = .bool true) [] _ (Frame.enter Tryd.prog 26 ((#[.const (.slice none 0 0), .tmp 41, .tmp 42] : Array Operand).map y2.eval) .normal) _ v
  rw [hargs]
  refine lst_msF (rs := []) sl_none (hl.kp eqv_cel hw.kp) nilS_small hs (ht.kp hw.kp hg) (hg.kp hw.kp) ?_
  intro ch a' v' todo X xc hd' q6 q7 hsl kk
  have hX := hXX ch
  refine hX.back' (x := .tuple #[.slice X (rStep9 [] s l).1.length xc, .int .i64 (rStep9 [] s l).2]) rfl rfl Tryd.func26 (show soO3[2]? = some _ from rfl) (fun τ d => ?_) ?_
  · refine (results_two (p := 6) (q := 7) rfl _).trans ?_
    show Result.ok (Value.tuple #[a'.tmps.getD 6 undef, a'.tmps.getD 7 undef]) _ = _
    rw [show (a'.tmps.getD 6 undef) = _ from q6, show (a'.tmps.getD 7 undef) = _ from q7]
  have hw := hw.to kk
  show MS Tryd.prog SR gR sR (· = .bool true) [] ch (bSo.at (y2.put (some 43) (.tuple #[.slice X (rStep9 [] s l).1.length xc, .int .i64 (rStep9 [] s l).2])) _) [] v'
  have hd : (y2.put (some 43) (.tuple #[.slice X (rStep9 [] s l).1.length xc, .int .i64 (rStep9 [] s l).2])).defers = [] := hd
  have s0 := slot_ne (d := 43) (x := .tuple #[.slice X (rStep9 [] s l).1.length xc, .int .i64 (rStep9 [] s l).2]) s0 (by decide)
  have s1 := slot_ne (d := 43) (x := .tuple #[.slice X (rStep9 [] s l).1.length xc, .int .i64 (rStep9 [] s l).2]) s1 (by decide)
  have s3 := slot_ne (d := 43) (x := .tuple #[.slice X (rStep9 [] s l).1.length xc, .int .i64 (rStep9 [] s l).2]) s3 (by decide)
  have s6 := slot_ne (d := 43) (x := .tuple #[.slice X (rStep9 [] s l).1.length xc, .int .i64 (rStep9 [] s l).2]) s6 (by decide)
  clear s41
  clear s42
  have s43 := slot_same (a := y2) (d := 43) (x := .tuple #[.slice X (rStep9 [] s l).1.length xc, .int .i64 (rStep9 [] s l).2]) (by rw [hz]; decide)
  have hz : (y2.put (some 43) (.tuple #[.slice X (rStep9 [] s l).1.length xc, .int .i64 (rStep9 [] s l).2])).tmps.size = 126 := size_put hz
  generalize (y2.put (some 43) (.tuple #[.slice X (rStep9 [] s l).1.length xc, .int .i64 (rStep9 [] s l).2])) = y3 at hz hd s0 s1 s3 s6 s43 ⊢
  refine hX.val (v' := v') (some 40) (.tuple #[.slice X (rStep9 [] s l).1.length xc, .int .i64 (rStep9 [] s l).2]) (show soO3[3]? = some _ from rfl) (by kernel_rfl) rfl rfl (fun τ d => run_moveX y3.eval (.tmp 43) (.inl rfl) s43) ?_
  have hd : (y3.put (some 40) (.tuple #[.slice X (rStep9 [] s l).1.length xc, .int .i64 (rStep9 [] s l).2])).defers = [] := hd
  have s0 := slot_ne (d := 40) (x := .tuple #[.slice X (rStep9 [] s l).1.length xc, .int .i64 (rStep9 [] s l).2]) s0 (by decide)
  have s1 := slot_ne (d := 40) (x := .tuple #[.slice X (rStep9 [] s l).1.length xc, .int .i64 (rStep9 [] s l).2]) s1 (by decide)
  have s3 := slot_ne (d := 40) (x := .tuple #[.slice X (rStep9 [] s l).1.length xc, .int .i64 (rStep9 [] s l).2]) s3 (by decide)
  have s6 := slot_ne (d := 40) (x := .tuple #[.slice X (rStep9 [] s l).1.length xc, .int .i64 (rStep9 [] s l).2]) s6 (by decide)
  clear s43
  have s40 := slot_same (a := y3) (d := 40) (x := .tuple #[.slice X (rStep9 [] s l).1.length xc, .int .i64 (rStep9 [] s l).2]) (by rw [hz]; decide)
  have hz : (y3.put (some 40) (.tuple #[.slice X (rStep9 [] s l).1.length xc, .int .i64 (rStep9 [] s l).2])).tmps.size = 126 := size_put hz
  generalize (y3.put (some 40) (.tuple #[.slice X (rStep9 [] s l).1.length xc, .int .i64 (rStep9 [] s l).2])) = y4 at hz hd s0 s1 s3 s6 s40 ⊢
  refine hX.val (v' := v') (some 44) (.slice X (rStep9 [] s l).1.length xc) (show soO3[4]? = some _ from rfl) (by kernel_rfl) rfl rfl (fun τ d => run_extractX y4.eval (.tmp 40) 0 rfl s40 rfl) ?_
  have hd : (y4.put (some 44) (.slice X (rStep9 [] s l).1.length xc)).defers = [] := hd
  have s0 := slot_ne (d := 44) (x := .slice X (rStep9 [] s l).1.length xc) s0 (by decide)
  have s1 := slot_ne (d := 44) (x := .slice X (rStep9 [] s l).1.length xc) s1 (by decide)
  have s3 := slot_ne (d := 44) (x := .slice X (rStep9 [] s l).1.length xc) s3 (by decide)
  have s6 := slot_ne (d := 44) (x := .slice X (rStep9 [] s l).1.length xc) s6 (by decide)
  have s40 := slot_ne (d := 44) (x := .slice X (rStep9 [] s l).1.length xc) s40 (by decide)
  have s44 := slot_same (a := y4) (d := 44) (x := .slice X (rStep9 [] s l).1.length xc) (by rw [hz]; decide)
  have hz : (y4.put (some 44) (.slice X (rStep9 [] s l).1.length xc)).tmps.size = 126 := size_put hz
  generalize (y4.put (some 44) (.slice X (rStep9 [] s l).1.length xc)) = y5 at hz hd s0 s1 s3 s6 s40 s44 ⊢
  refine hX.val (v' := v') (some 45) (.int .i64 (rStep9 [] s l).2) (show soO3[5]? = some _ from rfl) (by kernel_rfl) rfl rfl (fun τ d => run_extractX y5.eval (.tmp 40) 1 rfl s40 rfl) ?_
  have hd : (y5.put (some 45) (.int .i64 (rStep9 [] s l).2)).defers = [] := hd
  have s0 := slot_ne (d := 45) (x := .int .i64 (rStep9 [] s l).2) s0 (by decide)
  have s1 := slot_ne (d := 45) (x := .int .i64 (rStep9 [] s l).2) s1 (by decide)
  have s3 := slot_ne (d := 45) (x := .int .i64 (rStep9 [] s l).2) s3 (by decide)
  have s6 := slot_ne (d := 45) (x := .int .i64 (rStep9 [] s l).2) s6 (by decide)
  clear s40
  have s44 := slot_ne (d := 45) (x := .int .i64 (rStep9 [] s l).2) s44 (by decide)
  have s45 := slot_same (a := y5) (d := 45) (x := .int .i64 (rStep9 [] s l).2) (by rw [hz]; decide)
  have hz : (y5.put (some 45) (.int .i64 (rStep9 [] s l).2)).tmps.size = 126 := size_put hz
  generalize (y5.put (some 45) (.int .i64 (rStep9 [] s l).2)) = y6 at hz hd s0 s1 s3 s6 s44 s45 ⊢
  refine hX.val (v' := v') (some 9) (.slice X (rStep9 [] s l).1.length xc) (show soO3[6]? = some _ from rfl) (by kernel_rfl) rfl rfl (fun τ d => run_moveX y6.eval (.tmp 44) (.inr rfl) s44) ?_
  have hd : (y6.put (some 9) (.slice X (rStep9 [] s l).1.length xc)).defers = [] := hd
  have s0 := slot_ne (d := 9) (x := .slice X (rStep9 [] s l).1.length xc) s0 (by decide)
  have s1 := slot_ne (d := 9) (x := .slice X (rStep9 [] s l).1.length xc) s1 (by decide)
  have s3 := slot_ne (d := 9) (x := .slice X (rStep9 [] s l).1.length xc) s3 (by decide)
  have s6 := slot_ne (d := 9) (x := .slice X (rStep9 [] s l).1.length xc) s6 (by decide)
  clear s44
  have s45 := slot_ne (d := 9) (x := .slice X (rStep9 [] s l).1.length xc) s45 (by decide)
  have s9 := slot_same (a := y6) (d := 9) (x := .slice X (rStep9 [] s l).1.length xc) (by rw [hz]; decide)
  have hz : (y6.put (some 9) (.slice X (rStep9 [] s l).1.length xc)).tmps.size = 126 := size_put hz
  generalize (y6.put (some 9) (.slice X (rStep9 [] s l).1.length xc)) = y7 at hz hd s0 s1 s3 s6 s9 s45 ⊢
  refine hX.val (v' := v') (some 10) (.int .i64 (rStep9 [] s l).2) (show soO3[7]? = some _ from rfl) (by kernel_rfl) rfl rfl (fun τ d => run_moveX y7.eval (.tmp 45) (.inr rfl) s45) ?_
  have hd : (y7.put (some 10) (.int .i64 (rStep9 [] s l).2)).defers = [] := hd
  have s0 := slot_ne (d := 10) (x := .int .i64 (rStep9 [] s l).2) s0 (by decide)
  have s1 := slot_ne (d := 10) (x := .int .i64 (rStep9 [] s l).2) s1 (by decide)
  have s3 := slot_ne (d := 10) (x := .int .i64 (rStep9 [] s l).2) s3 (by decide)
  have s6 := slot_ne (d := 10) (x := .int .i64 (rStep9 [] s l).2) s6 (by decide)
  have s9 := slot_ne (d := 10) (x := .int .i64 (rStep9 [] s l).2) s9 (by decide)
  clear s45
  have s10 := slot_same (a := y7) (d := 10) (x := .int .i64 (rStep9 [] s l).2) (by rw [hz]; decide)
  have hz : (y7.put (some 10) (.int .i64 (rStep9 [] s l).2)).tmps.size = 126 := size_put hz
  generalize (y7.put (some 10) (.int .i64 (rStep9 [] s l).2)) = y8 at hz hd s0 s1 s3 s6 s9 s10 ⊢
  exact hX.done (hk _ _ _ X xc hz hd s0 s1 s3 s6 s9 s10 hw (slAt_celF hsl))
set_option maxRecDepth 100000 in
set_option maxHeartbeats 4000000 in
theorem so_45 {gc : Nat} {W : Option Addr} {wc : Nat} {ch : Option Nat} {a : Act} {v : World} {rest : Code} (hr : SlAt pRul (Old v0) v0 RA rc rs) (hl : SlAt pCel (Old v0) v0 LA lc l) (hs : Fits .i64 s) (ht : TabAt v0) (hg : GAt v0) (hda : SlAt (pI .i64) (Old v0) v0 D dd c.mod.args) (h8 : Fits .u8 c.mod.name) (hp : c.path.size ≤ 300) (hsm : Small rs) (hz : a.tmps.size = 126) (hd : a.defers = []) (s0 : slot a 0 (.slice RA rs.length rc)) (s1 : slot a 1 (.int .i64 s)) (s3 : slot a 3 (.slice LA l.length lc)) (s6 : slot a 6 (.pointer (some ⟨gc, 0, none⟩))) (s9 : slot a 9 (.slice W (rStep9 [] s l).1.length wc)) (s10 : slot a 10 (.int .i64 (rStep9 [] s l).2)) (hw : SoW v0 v gc c D dd) (hwas : SlAt pCel (Old v) v W wc (rStep9 [] s l).1)
    (hk : ∀ a v A1 c1 A2 c2, a.tmps.size = 126 → a.defers = [] → slot a 0 (.slice RA rs.length rc) → slot a 1 (.int .i64 s) → slot a 3 (.slice LA l.length lc) → slot a 6 (.pointer (some ⟨gc, 0, none⟩)) → slot a 9 (.slice W (rStep9 [] s l).1.length wc) → slot a 10 (.int .i64 (rStep9 [] s l).2) → slot a 11 (.slice A1 (oneR rs s c).1.length c1) → slot a 12 (.int .i64 (oneR rs s c).2) → slot a 13 (.slice A2 (oneR rs s c).1.length c2) → slot a 14 (.int .i64 (oneR rs s c).2) → SoW v0 v gc c D dd → SlAt pCel (Old v) v W wc (rStep9 [] s l).1 → SlAt pCel (Old v) v A1 c1 (oneR rs s c).1 → SlAt pCel (Old v) v A2 c2 (oneR rs s c).1 → MS Tryd.prog SR gR sR (· = .bool true) [] ch (bSo.at a [.code rest]) [] v) :
    MS Tryd.prog SR gR sR (· = .bool true) [] ch (bSo.at a [.code (.seq soR4 (.seq soR5 rest))]) [] v := by
  have hX : Walk Tryd.prog SR gR sR (MS Tryd.prog SR gR sR (· = .bool true) [] ch) := MS.walk ctxR
  rw [act_lit126 hd hz]
  rw [show (a.tmps.getD 0 undef) = _ from s0, show (a.tmps.getD 1 undef) = _ from s1, show (a.tmps.getD 3 undef) = _ from s3, show (a.tmps.getD 6 undef) = _ from s6, show (a.tmps.getD 9 undef) = _ from s9, show (a.tmps.getD 10 undef) = _ from s10]
  clear s0 s1 s3 s6 s9 s10 hd
  generalize (a.tmps.getD 2 undef) = j2
  generalize (a.tmps.getD 4 undef) = j4
  generalize (a.tmps.getD 5 undef) = j5
  generalize (a.tmps.getD 7 undef) = j7
  generalize (a.tmps.getD 8 undef) = j8
  generalize (a.tmps.getD 11 undef) = j11
  generalize (a.tmps.getD 12 undef) = j12
  generalize (a.tmps.getD 13 undef) = j13
  generalize (a.tmps.getD 14 undef) = j14
  generalize (a.tmps.getD 15 undef) = j15
  generalize (a.tmps.getD 16 undef) = j16
  generalize (a.tmps.getD 17 undef) = j17
  generalize (a.tmps.getD 18 undef) = j18
  generalize (a.tmps.getD 19 undef) = j19
  generalize (a.tmps.getD 20 undef) = j20
  generalize (a.tmps.getD 21 undef) = j21
  generalize (a.tmps.getD 22 undef) = j22
  generalize (a.tmps.getD 23 undef) = j23
  generalize (a.tmps.getD 24 undef) = j24
  generalize (a.tmps.getD 25 undef) = j25
  generalize (a.tmps.getD 26 undef) = j26
  generalize (a.tmps.getD 27 undef) = j27
  generalize (a.tmps.getD 28 undef) = j28
  generalize (a.tmps.getD 29 undef) = j29
  generalize (a.tmps.getD 30 undef) = j30
  generalize (a.tmps.getD 31 undef) = j31
  generalize (a.tmps.getD 32 undef) = j32
  generalize (a.tmps.getD 33 undef) = j33
  generalize (a.tmps.getD 34 undef) = j34
  generalize (a.tmps.getD 35 undef) = j35
  generalize (a.tmps.getD 36 undef) = j36
  generalize (a.tmps.getD 37 undef) = j37
  generalize (a.tmps.getD 38 undef) = j38
  generalize (a.tmps.getD 39 undef) = j39
  generalize (a.tmps.getD 40 undef) = j40
  generalize (a.tmps.getD 41 undef) = j41
  generalize (a.tmps.getD 42 undef) = j42
  generalize (a.tmps.getD 43 undef) = j43
  generalize (a.tmps.getD 44 undef) = j44
  generalize (a.tmps.getD 45 undef) = j45
  generalize (a.tmps.getD 46 undef) = j46
  generalize (a.tmps.getD 47 undef) = j47
  generalize (a.tmps.getD 48 undef) = j48
  generalize (a.tmps.getD 49 undef) = j49
  generalize (a.tmps.getD 50 undef) = j50
  generalize (a.tmps.getD 51 undef) = j51
  generalize (a.tmps.getD 52 undef) = j52
  generalize (a.tmps.getD 53 undef) = j53
  generalize (a.tmps.getD 54 undef) = j54
  generalize (a.tmps.getD 55 undef) = j55
  generalize (a.tmps.getD 56 undef) = j56
  generalize (a.tmps.getD 57 undef) = j57
  generalize (a.tmps.getD 58 undef) = j58
  generalize (a.tmps.getD 59 undef) = j59
  generalize (a.tmps.getD 60 undef) = j60
  generalize (a.tmps.getD 61 undef) = j61
  generalize (a.tmps.getD 62 undef) = j62
  generalize (a.tmps.getD 63 undef) = j63
  generalize (a.tmps.getD 64 undef) = j64
  generalize (a.tmps.getD 65 undef) = j65
  generalize (a.tmps.getD 66 undef) = j66
  generalize (a.tmps.getD 67 undef) = j67
  generalize (a.tmps.getD 68 undef) = j68
  generalize (a.tmps.getD 69 undef) = j69
  generalize (a.tmps.getD 70 undef) = j70
  generalize (a.tmps.getD 71 undef) = j71
  generalize (a.tmps.getD 72 undef) = j72
  generalize (a.tmps.getD 73 undef) = j73
  generalize (a.tmps.getD 74 undef) = j74
  generalize (a.tmps.getD 75 undef) = j75
  generalize (a.tmps.getD 76 undef) = j76
  generalize (a.tmps.getD 77 undef) = j77
  generalize (a.tmps.getD 78 undef) = j78
  generalize (a.tmps.getD 79 undef) = j79
  generalize (a.tmps.getD 80 undef) = j80
  generalize (a.tmps.getD 81 undef) = j81
  generalize (a.tmps.getD 82 undef) = j82
  generalize (a.tmps.getD 83 undef) = j83
  generalize (a.tmps.getD 84 undef) = j84
  generalize (a.tmps.getD 85 undef) = j85
  generalize (a.tmps.getD 86 undef) = j86
  generalize (a.tmps.getD 87 undef) = j87
  generalize (a.tmps.getD 88 undef) = j88
  generalize (a.tmps.getD 89 undef) = j89
  generalize (a.tmps.getD 90 undef) = j90
  generalize (a.tmps.getD 91 undef) = j91
  generalize (a.tmps.getD 92 undef) = j92
  generalize (a.tmps.getD 93 undef) = j93
  generalize (a.tmps.getD 94 undef) = j94
  generalize (a.tmps.getD 95 undef) = j95
  generalize (a.tmps.getD 96 undef) = j96
  generalize (a.tmps.getD 97 undef) = j97
  generalize (a.tmps.getD 98 undef) = j98
  generalize (a.tmps.getD 99 undef) = j99
  generalize (a.tmps.getD 100 undef) = j100
  generalize (a.tmps.getD 101 undef) = j101
  generalize (a.tmps.getD 102 undef) = j102
  generalize (a.tmps.getD 103 undef) = j103
  generalize (a.tmps.getD 104 undef) = j104
  generalize (a.tmps.getD 105 undef) = j105
  generalize (a.tmps.getD 106 undef) = j106
  generalize (a.tmps.getD 107 undef) = j107
  generalize (a.tmps.getD 108 undef) = j108
  generalize (a.tmps.getD 109 undef) = j109
  generalize (a.tmps.getD 110 undef) = j110
  generalize (a.tmps.getD 111 undef) = j111
  generalize (a.tmps.getD 112 undef) = j112
  generalize (a.tmps.getD 113 undef) = j113
  generalize (a.tmps.getD 114 undef) = j114
  generalize (a.tmps.getD 115 undef) = j115
  generalize (a.tmps.getD 116 undef) = j116
  generalize (a.tmps.getD 117 undef) = j117
  generalize (a.tmps.getD 118 undef) = j118
  generalize (a.tmps.getD 119 undef) = j119
  generalize (a.tmps.getD 120 undef) = j120
  generalize (a.tmps.getD 121 undef) = j121
  generalize (a.tmps.getD 122 undef) = j122
  generalize (a.tmps.getD 123 undef) = j123
  generalize (a.tmps.getD 124 undef) = j124
  generalize (a.tmps.getD 125 undef) = j125
  clear hz
  refine hX.seq (hX.wp ctxR rfl bSo_fn ookR4 fun τ t => ?_)
  have hw1 := hw.to (Kp.at2 v τ t)
  have hwas1 := hwas.kp eqv_cel (Kp.at2 v τ t)
  generalize Go.Proofs.YtlipmagkplbkdaaDoor.at2 v τ t = v1 at hw1 hwas1 ⊢
  clear hw hwas
  have y0 := hw1.y0
  have y1 := hw1.y1
  have y2 := hw1.y2
  have hmxd := hda.lenle
  have hone := oneF_calls RA rc rs s c D dd v1 (hr.kp eqv_rul hw1.kp) (hda.kp (eqv_i .i64) hw1.kp) h8 hs hsm hp (ht.kp hw1.kp hg) (hg.kp hw1.kp)
  have hone2 := fun w (k : SoW v0 w gc c D dd) => refOne9_calls RA rc rs s c D dd w (hr.kp eqv_rul k.kp) (hda.kp (eqv_i .i64) k.kp) h8 hs hsm hp
  unfold CelsPost at hone hone2
  generalize (rStep9 [] s l).1.length = wl at hk ⊢
  generalize (rStep9 [] s l).2 = we at hk ⊢
  obtain ⟨⟨x, e⟩, hxe⟩ : ∃ p, oneR rs s c = p := ⟨_, rfl⟩
  rw [hxe] at hone hk
  simp only [hxe] at hone2
  simp only at hone hk
  have Hr := Lib.hid hr; clear hr
  have Hl := Lib.hid hl; clear hl
  have Hda := Lib.hid hda; clear hda
  have Hs := Lib.hid hs; clear hs
  have Ht := Lib.hid ht; clear ht
  have Hg := Lib.hid hg; clear hg
  have Hk := Lib.hid hk; clear hk
  have HX := Lib.hid hX; clear hX
  have Hone := Lib.hid hone; clear hone
  have Hone2 := Lib.hid hone2; clear hone2
  have Hw1 := Lib.hid hw1; clear hw1
  have Hwas1 := Lib.hid hwas1; clear hwas1
  have Hxe := Lib.hid hxe; clear hxe
  have Hsm := Lib.hid hsm; clear hsm
  dsimp only [soR4, soB, Tryd.f5]
  go_wp2_with (go_at_call 27; refine Hone.out.mono ?_; rintro e1 w1 ⟨A1, c1, rfl, hx, hb1⟩)
  have hx : SlAt pCel (Old w1) w1 A1 c1 x := hx.wide fun q hq => hq.2
  have hw2 := Hw1.out.to (Kp.below hb1)
  have hwas2 := Hwas1.out.kp eqv_cel (Kp.below hb1)
  clear Hw1 Hwas1 y0 y1 y2 Hone hb1
  refine HX.out.seq (HX.out.wp ctxR rfl bSo_fn ookR5 fun τ t => ?_)
  have hw3 := hw2.to (Kp.at2 w1 τ t)
  have hwas3 := hwas2.kp eqv_cel (Kp.at2 w1 τ t)
  have hx3 := hx.kp eqv_cel (Kp.at2 w1 τ t)
  generalize Go.Proofs.YtlipmagkplbkdaaDoor.at2 w1 τ t = v3 at hw3 hwas3 hx3 ⊢
  clear hw2 hwas2 hx
  have y0 := hw3.y0
  have y1 := hw3.y1
  have y2 := hw3.y2
  have hone3 := Hone2.out v3 hw3
  have Hw3 := Lib.hid hw3; clear hw3
  have Hwas3 := Lib.hid hwas3; clear hwas3
  have Hx3 := Lib.hid hx3; clear hx3
  have Hone3 := Lib.hid hone3; clear hone3
  clear Hone2
  dsimp only [soR5, soB, Tryd.f5]
  go_wp2_with (go_at_call 28; refine Hone3.out.mono ?_; rintro e1 w4 ⟨A2, c2, rfl, hy, hb4⟩)
  have hy : SlAt pCel (Old w4) w4 A2 c2 x := hy.wide fun q hq => hq.2
  exact Hk.out _ _ A1 c1 A2 c2 rfl rfl rfl rfl rfl rfl rfl rfl rfl rfl rfl rfl (Hw3.out.to (Kp.below hb4)) (Hwas3.out.kp eqv_cel (Kp.below hb4)) (Hx3.out.kp eqv_cel (Kp.below hb4)) hy
set_option maxRecDepth 100000 in
set_option maxHeartbeats 4000000 in
theorem so_6 {gc : Nat} {W A1 A2 : Option Addr} {wc c1 c2 : Nat} {ch : Option Nat} {a : Act} {v : World} {rest : Code} (hr : SlAt pRul (Old v0) v0 RA rc rs) (hl : SlAt pCel (Old v0) v0 LA lc l) (hs : Fits .i64 s) (ht : TabAt v0) (hg : GAt v0) (hsm : Small rs) (hz : a.tmps.size = 126) (hd : a.defers = []) (s0 : slot a 0 (.slice RA rs.length rc)) (s1 : slot a 1 (.int .i64 s)) (s3 : slot a 3 (.slice LA l.length lc)) (s6 : slot a 6 (.pointer (some ⟨gc, 0, none⟩))) (s9 : slot a 9 (.slice W (rStep9 [] s l).1.length wc)) (s10 : slot a 10 (.int .i64 (rStep9 [] s l).2)) (s11 : slot a 11 (.slice A1 (oneR rs s c).1.length c1)) (s12 : slot a 12 (.int .i64 (oneR rs s c).2)) (s13 : slot a 13 (.slice A2 (oneR rs s c).1.length c2)) (s14 : slot a 14 (.int .i64 (oneR rs s c).2)) (hw : SoW v0 v gc c D dd)
    (hk : ∀ ch a v' X xc, a.tmps.size = 126 → a.defers = [] → slot a 0 (.slice RA rs.length rc) → slot a 1 (.int .i64 s) → slot a 3 (.slice LA l.length lc) → slot a 6 (.pointer (some ⟨gc, 0, none⟩)) → slot a 9 (.slice W (rStep9 [] s l).1.length wc) → slot a 10 (.int .i64 (rStep9 [] s l).2) → slot a 11 (.slice A1 (oneR rs s c).1.length c1) → slot a 12 (.int .i64 (oneR rs s c).2) → slot a 13 (.slice A2 (oneR rs s c).1.length c2) → slot a 14 (.int .i64 (oneR rs s c).2) → slot a 15 (.slice X (rStep9 rs s l).1.length xc) → slot a 16 (.int .i64 (rStep9 rs s l).2) → SoW v0 v' gc c D dd → Kp v v' → SlAt (pCelF v.heap.size) (Old v') v' X xc (rStep9 rs s l).1 → MS Tryd.prog SR gR sR (· = .bool true) [] ch (bSo.at a [.code rest]) [] v') :
    MS Tryd.prog SR gR sR (· = .bool true) [] ch (bSo.at a [.code (.seq (.region 6 soO6 false) rest)]) [] v := by
  have hXX : ∀ ch, Walk Tryd.prog SR gR sR (MS Tryd.prog SR gR sR (· = .bool true) [] ch) := fun ch => MS.walk ctxR
  have hX := hXX ch
  refine hX.seq (hX.region ?_)
  rw [soz6]
  refine hX.val (v' := v) (some 61) (.slice RA rs.length rc) (show soO6[0]? = some _ from rfl) (by kernel_rfl) rfl rfl (fun τ d => run_moveX a.eval (.tmp 0) (.inl rfl) s0) ?_
  have hd : (a.put (some 61) (.slice RA rs.length rc)).defers = [] := hd
  have s0 := slot_ne (d := 61) (x := .slice RA rs.length rc) s0 (by decide)
  have s1 := slot_ne (d := 61) (x := .slice RA rs.length rc) s1 (by decide)
  have s3 := slot_ne (d := 61) (x := .slice RA rs.length rc) s3 (by decide)
  have s6 := slot_ne (d := 61) (x := .slice RA rs.length rc) s6 (by decide)
  have s9 := slot_ne (d := 61) (x := .slice RA rs.length rc) s9 (by decide)
  have s10 := slot_ne (d := 61) (x := .slice RA rs.length rc) s10 (by decide)
  have s11 := slot_ne (d := 61) (x := .slice RA rs.length rc) s11 (by decide)
  have s12 := slot_ne (d := 61) (x := .slice RA rs.length rc) s12 (by decide)
  have s13 := slot_ne (d := 61) (x := .slice RA rs.length rc) s13 (by decide)
  have s14 := slot_ne (d := 61) (x := .slice RA rs.length rc) s14 (by decide)
  have s61 := slot_same (a := a) (d := 61) (x := .slice RA rs.length rc) (by rw [hz]; decide)
  have hz : (a.put (some 61) (.slice RA rs.length rc)).tmps.size = 126 := size_put hz
  generalize (a.put (some 61) (.slice RA rs.length rc)) = y1 at hz hd s0 s1 s3 s6 s9 s10 s11 s12 s13 s14 s61 ⊢
  refine hX.val (v' := v) (some 62) (.int .i64 s) (show soO6[1]? = some _ from rfl) (by kernel_rfl) rfl rfl (fun τ d => run_moveX y1.eval (.tmp 1) (.inl rfl) s1) ?_
  have hd : (y1.put (some 62) (.int .i64 s)).defers = [] := hd
  have s0 := slot_ne (d := 62) (x := .int .i64 s) s0 (by decide)
  have s1 := slot_ne (d := 62) (x := .int .i64 s) s1 (by decide)
  have s3 := slot_ne (d := 62) (x := .int .i64 s) s3 (by decide)
  have s6 := slot_ne (d := 62) (x := .int .i64 s) s6 (by decide)
  have s9 := slot_ne (d := 62) (x := .int .i64 s) s9 (by decide)
  have s10 := slot_ne (d := 62) (x := .int .i64 s) s10 (by decide)
  have s11 := slot_ne (d := 62) (x := .int .i64 s) s11 (by decide)
  have s12 := slot_ne (d := 62) (x := .int .i64 s) s12 (by decide)
  have s13 := slot_ne (d := 62) (x := .int .i64 s) s13 (by decide)
  have s14 := slot_ne (d := 62) (x := .int .i64 s) s14 (by decide)
  have s61 := slot_ne (d := 62) (x := .int .i64 s) s61 (by decide)
  have s62 := slot_same (a := y1) (d := 62) (x := .int .i64 s) (by rw [hz]; decide)
  have hz : (y1.put (some 62) (.int .i64 s)).tmps.size = 126 := size_put hz
  generalize (y1.put (some 62) (.int .i64 s)) = y2 at hz hd s0 s1 s3 s6 s9 s10 s11 s12 s13 s14 s61 s62 ⊢
  refine hX.val (v' := v) (some 63) (.slice LA l.length lc) (show soO6[2]? = some _ from rfl) (by kernel_rfl) rfl rfl (fun τ d => run_moveX y2.eval (.tmp 3) (.inl rfl) s3) ?_
  have hd : (y2.put (some 63) (.slice LA l.length lc)).defers = [] := hd
  have s0 := slot_ne (d := 63) (x := .slice LA l.length lc) s0 (by decide)
  have s1 := slot_ne (d := 63) (x := .slice LA l.length lc) s1 (by decide)
  have s3 := slot_ne (d := 63) (x := .slice LA l.length lc) s3 (by decide)
  have s6 := slot_ne (d := 63) (x := .slice LA l.length lc) s6 (by decide)
  have s9 := slot_ne (d := 63) (x := .slice LA l.length lc) s9 (by decide)
  have s10 := slot_ne (d := 63) (x := .slice LA l.length lc) s10 (by decide)
  have s11 := slot_ne (d := 63) (x := .slice LA l.length lc) s11 (by decide)
  have s12 := slot_ne (d := 63) (x := .slice LA l.length lc) s12 (by decide)
  have s13 := slot_ne (d := 63) (x := .slice LA l.length lc) s13 (by decide)
  have s14 := slot_ne (d := 63) (x := .slice LA l.length lc) s14 (by decide)
  have s61 := slot_ne (d := 63) (x := .slice LA l.length lc) s61 (by decide)
  have s62 := slot_ne (d := 63) (x := .slice LA l.length lc) s62 (by decide)
  have s63 := slot_same (a := y2) (d := 63) (x := .slice LA l.length lc) (by rw [hz]; decide)
  have hz : (y2.put (some 63) (.slice LA l.length lc)).tmps.size = 126 := size_put hz
  generalize (y2.put (some 63) (.slice LA l.length lc)) = y3 at hz hd s0 s1 s3 s6 s9 s10 s11 s12 s13 s14 s61 s62 s63 ⊢
  refine MS.enter ctxR (show soO6[3]? = some _ from rfl) rfl rfl (by kernel_rfl) ⟨_, _, Tryd.func26, stBody, by kernel_rfl⟩ ?_
  have hargs : (#[.tmp 61, .tmp 62, .tmp 63] : Array Operand).map y3.eval = #[.slice RA rs.length rc, .int .i64 s, .slice LA l.length lc] := by
    simp only [List.map_toArray, List.map_cons, List.map_nil]
    rw [show y3.eval (.tmp 61) = _ from s61, show y3.eval (.tmp 62) = _ from s62, show y3.eval (.tmp 63) = _ from s63]
  show MS Tryd.prog SR gR sR (· = .bool true) [] _ (Frame.enter Tryd.prog 26 ((#[.tmp 61, .tmp 62, .tmp 63] : Array Operand).map y3.eval) .normal) _ v
  rw [hargs]
  refine lst_msF (rs := rs) (hr.kp eqv_rul hw.kp) (hl.kp eqv_cel hw.kp) hsm hs (ht.kp hw.kp hg) (hg.kp hw.kp) ?_
  intro ch a' v' todo X xc hd' q6 q7 hsl kk
  have hX := hXX ch
  refine hX.back' (x := .tuple #[.slice X (rStep9 rs s l).1.length xc, .int .i64 (rStep9 rs s l).2]) rfl rfl Tryd.func26 (show soO6[3]? = some _ from rfl) (fun τ d => ?_) ?_
  · refine (results_two (p := 6) (q := 7) rfl _).trans ?_
    show Result.ok (Value.tuple #[a'.tmps.getD 6 undef, a'.tmps.getD 7 undef]) _ = _
    rw [show (a'.tmps.getD 6 undef) = _ from q6, show (a'.tmps.getD 7 undef) = _ from q7]
  have hw := hw.to kk
  show MS Tryd.prog SR gR sR (· = .bool true) [] ch (bSo.at (y3.put (some 64) (.tuple #[.slice X (rStep9 rs s l).1.length xc, .int .i64 (rStep9 rs s l).2])) _) [] v'
  have hd : (y3.put (some 64) (.tuple #[.slice X (rStep9 rs s l).1.length xc, .int .i64 (rStep9 rs s l).2])).defers = [] := hd
  have s0 := slot_ne (d := 64) (x := .tuple #[.slice X (rStep9 rs s l).1.length xc, .int .i64 (rStep9 rs s l).2]) s0 (by decide)
  have s1 := slot_ne (d := 64) (x := .tuple #[.slice X (rStep9 rs s l).1.length xc, .int .i64 (rStep9 rs s l).2]) s1 (by decide)
  have s3 := slot_ne (d := 64) (x := .tuple #[.slice X (rStep9 rs s l).1.length xc, .int .i64 (rStep9 rs s l).2]) s3 (by decide)
  have s6 := slot_ne (d := 64) (x := .tuple #[.slice X (rStep9 rs s l).1.length xc, .int .i64 (rStep9 rs s l).2]) s6 (by decide)
  have s9 := slot_ne (d := 64) (x := .tuple #[.slice X (rStep9 rs s l).1.length xc, .int .i64 (rStep9 rs s l).2]) s9 (by decide)
  have s10 := slot_ne (d := 64) (x := .tuple #[.slice X (rStep9 rs s l).1.length xc, .int .i64 (rStep9 rs s l).2]) s10 (by decide)
  have s11 := slot_ne (d := 64) (x := .tuple #[.slice X (rStep9 rs s l).1.length xc, .int .i64 (rStep9 rs s l).2]) s11 (by decide)
  have s12 := slot_ne (d := 64) (x := .tuple #[.slice X (rStep9 rs s l).1.length xc, .int .i64 (rStep9 rs s l).2]) s12 (by decide)
  have s13 := slot_ne (d := 64) (x := .tuple #[.slice X (rStep9 rs s l).1.length xc, .int .i64 (rStep9 rs s l).2]) s13 (by decide)
  have s14 := slot_ne (d := 64) (x := .tuple #[.slice X (rStep9 rs s l).1.length xc, .int .i64 (rStep9 rs s l).2]) s14 (by decide)
  clear s61
  clear s62
  clear s63
  have s64 := slot_same (a := y3) (d := 64) (x := .tuple #[.slice X (rStep9 rs s l).1.length xc, .int .i64 (rStep9 rs s l).2]) (by rw [hz]; decide)
  have hz : (y3.put (some 64) (.tuple #[.slice X (rStep9 rs s l).1.length xc, .int .i64 (rStep9 rs s l).2])).tmps.size = 126 := size_put hz
  generalize (y3.put (some 64) (.tuple #[.slice X (rStep9 rs s l).1.length xc, .int .i64 (rStep9 rs s l).2])) = y4 at hz hd s0 s1 s3 s6 s9 s10 s11 s12 s13 s14 s64 ⊢
  refine hX.val (v' := v') (some 60) (.tuple #[.slice X (rStep9 rs s l).1.length xc, .int .i64 (rStep9 rs s l).2]) (show soO6[4]? = some _ from rfl) (by kernel_rfl) rfl rfl (fun τ d => run_moveX y4.eval (.tmp 64) (.inl rfl) s64) ?_
  have hd : (y4.put (some 60) (.tuple #[.slice X (rStep9 rs s l).1.length xc, .int .i64 (rStep9 rs s l).2])).defers = [] := hd
  have s0 := slot_ne (d := 60) (x := .tuple #[.slice X (rStep9 rs s l).1.length xc, .int .i64 (rStep9 rs s l).2]) s0 (by decide)
  have s1 := slot_ne (d := 60) (x := .tuple #[.slice X (rStep9 rs s l).1.length xc, .int .i64 (rStep9 rs s l).2]) s1 (by decide)
  have s3 := slot_ne (d := 60) (x := .tuple #[.slice X (rStep9 rs s l).1.length xc, .int .i64 (rStep9 rs s l).2]) s3 (by decide)
  have s6 := slot_ne (d := 60) (x := .tuple #[.slice X (rStep9 rs s l).1.length xc, .int .i64 (rStep9 rs s l).2]) s6 (by decide)
  have s9 := slot_ne (d := 60) (x := .tuple #[.slice X (rStep9 rs s l).1.length xc, .int .i64 (rStep9 rs s l).2]) s9 (by decide)
  have s10 := slot_ne (d := 60) (x := .tuple #[.slice X (rStep9 rs s l).1.length xc, .int .i64 (rStep9 rs s l).2]) s10 (by decide)
  have s11 := slot_ne (d := 60) (x := .tuple #[.slice X (rStep9 rs s l).1.length xc, .int .i64 (rStep9 rs s l).2]) s11 (by decide)
  have s12 := slot_ne (d := 60) (x := .tuple #[.slice X (rStep9 rs s l).1.length xc, .int .i64 (rStep9 rs s l).2]) s12 (by decide)
  have s13 := slot_ne (d := 60) (x := .tuple #[.slice X (rStep9 rs s l).1.length xc, .int .i64 (rStep9 rs s l).2]) s13 (by decide)
  have s14 := slot_ne (d := 60) (x := .tuple #[.slice X (rStep9 rs s l).1.length xc, .int .i64 (rStep9 rs s l).2]) s14 (by decide)
  clear s64
  have s60 := slot_same (a := y4) (d := 60) (x := .tuple #[.slice X (rStep9 rs s l).1.length xc, .int .i64 (rStep9 rs s l).2]) (by rw [hz]; decide)
  have hz : (y4.put (some 60) (.tuple #[.slice X (rStep9 rs s l).1.length xc, .int .i64 (rStep9 rs s l).2])).tmps.size = 126 := size_put hz
  generalize (y4.put (some 60) (.tuple #[.slice X (rStep9 rs s l).1.length xc, .int .i64 (rStep9 rs s l).2])) = y5 at hz hd s0 s1 s3 s6 s9 s10 s11 s12 s13 s14 s60 ⊢
  refine hX.val (v' := v') (some 65) (.slice X (rStep9 rs s l).1.length xc) (show soO6[5]? = some _ from rfl) (by kernel_rfl) rfl rfl (fun τ d => run_extractX y5.eval (.tmp 60) 0 rfl s60 rfl) ?_
  have hd : (y5.put (some 65) (.slice X (rStep9 rs s l).1.length xc)).defers = [] := hd
  have s0 := slot_ne (d := 65) (x := .slice X (rStep9 rs s l).1.length xc) s0 (by decide)
  have s1 := slot_ne (d := 65) (x := .slice X (rStep9 rs s l).1.length xc) s1 (by decide)
  have s3 := slot_ne (d := 65) (x := .slice X (rStep9 rs s l).1.length xc) s3 (by decide)
  have s6 := slot_ne (d := 65) (x := .slice X (rStep9 rs s l).1.length xc) s6 (by decide)
  have s9 := slot_ne (d := 65) (x := .slice X (rStep9 rs s l).1.length xc) s9 (by decide)
  have s10 := slot_ne (d := 65) (x := .slice X (rStep9 rs s l).1.length xc) s10 (by decide)
  have s11 := slot_ne (d := 65) (x := .slice X (rStep9 rs s l).1.length xc) s11 (by decide)
  have s12 := slot_ne (d := 65) (x := .slice X (rStep9 rs s l).1.length xc) s12 (by decide)
  have s13 := slot_ne (d := 65) (x := .slice X (rStep9 rs s l).1.length xc) s13 (by decide)
  have s14 := slot_ne (d := 65) (x := .slice X (rStep9 rs s l).1.length xc) s14 (by decide)
  have s60 := slot_ne (d := 65) (x := .slice X (rStep9 rs s l).1.length xc) s60 (by decide)
  have s65 := slot_same (a := y5) (d := 65) (x := .slice X (rStep9 rs s l).1.length xc) (by rw [hz]; decide)
  have hz : (y5.put (some 65) (.slice X (rStep9 rs s l).1.length xc)).tmps.size = 126 := size_put hz
  generalize (y5.put (some 65) (.slice X (rStep9 rs s l).1.length xc)) = y6 at hz hd s0 s1 s3 s6 s9 s10 s11 s12 s13 s14 s60 s65 ⊢
  refine hX.val (v' := v') (some 66) (.int .i64 (rStep9 rs s l).2) (show soO6[6]? = some _ from rfl) (by kernel_rfl) rfl rfl (fun τ d => run_extractX y6.eval (.tmp 60) 1 rfl s60 rfl) ?_
  have hd : (y6.put (some 66) (.int .i64 (rStep9 rs s l).2)).defers = [] := hd
  have s0 := slot_ne (d := 66) (x := .int .i64 (rStep9 rs s l).2) s0 (by decide)
  have s1 := slot_ne (d := 66) (x := .int .i64 (rStep9 rs s l).2) s1 (by decide)
  have s3 := slot_ne (d := 66) (x := .int .i64 (rStep9 rs s l).2) s3 (by decide)
  have s6 := slot_ne (d := 66) (x := .int .i64 (rStep9 rs s l).2) s6 (by decide)
  have s9 := slot_ne (d := 66) (x := .int .i64 (rStep9 rs s l).2) s9 (by decide)
  have s10 := slot_ne (d := 66) (x := .int .i64 (rStep9 rs s l).2) s10 (by decide)
  have s11 := slot_ne (d := 66) (x := .int .i64 (rStep9 rs s l).2) s11 (by decide)
  have s12 := slot_ne (d := 66) (x := .int .i64 (rStep9 rs s l).2) s12 (by decide)
  have s13 := slot_ne (d := 66) (x := .int .i64 (rStep9 rs s l).2) s13 (by decide)
  have s14 := slot_ne (d := 66) (x := .int .i64 (rStep9 rs s l).2) s14 (by decide)
  clear s60
  have s65 := slot_ne (d := 66) (x := .int .i64 (rStep9 rs s l).2) s65 (by decide)
  have s66 := slot_same (a := y6) (d := 66) (x := .int .i64 (rStep9 rs s l).2) (by rw [hz]; decide)
  have hz : (y6.put (some 66) (.int .i64 (rStep9 rs s l).2)).tmps.size = 126 := size_put hz
  generalize (y6.put (some 66) (.int .i64 (rStep9 rs s l).2)) = y7 at hz hd s0 s1 s3 s6 s9 s10 s11 s12 s13 s14 s65 s66 ⊢
  refine hX.val (v' := v') (some 15) (.slice X (rStep9 rs s l).1.length xc) (show soO6[7]? = some _ from rfl) (by kernel_rfl) rfl rfl (fun τ d => run_moveX y7.eval (.tmp 65) (.inr rfl) s65) ?_
  have hd : (y7.put (some 15) (.slice X (rStep9 rs s l).1.length xc)).defers = [] := hd
  have s0 := slot_ne (d := 15) (x := .slice X (rStep9 rs s l).1.length xc) s0 (by decide)
  have s1 := slot_ne (d := 15) (x := .slice X (rStep9 rs s l).1.length xc) s1 (by decide)
  have s3 := slot_ne (d := 15) (x := .slice X (rStep9 rs s l).1.length xc) s3 (by decide)
  have s6 := slot_ne (d := 15) (x := .slice X (rStep9 rs s l).1.length xc) s6 (by decide)
  have s9 := slot_ne (d := 15) (x := .slice X (rStep9 rs s l).1.length xc) s9 (by decide)
  have s10 := slot_ne (d := 15) (x := .slice X (rStep9 rs s l).1.length xc) s10 (by decide)
  have s11 := slot_ne (d := 15) (x := .slice X (rStep9 rs s l).1.length xc) s11 (by decide)
  have s12 := slot_ne (d := 15) (x := .slice X (rStep9 rs s l).1.length xc) s12 (by decide)
  have s13 := slot_ne (d := 15) (x := .slice X (rStep9 rs s l).1.length xc) s13 (by decide)
  have s14 := slot_ne (d := 15) (x := .slice X (rStep9 rs s l).1.length xc) s14 (by decide)
  clear s65
  have s66 := slot_ne (d := 15) (x := .slice X (rStep9 rs s l).1.length xc) s66 (by decide)
  have s15 := slot_same (a := y7) (d := 15) (x := .slice X (rStep9 rs s l).1.length xc) (by rw [hz]; decide)
  have hz : (y7.put (some 15) (.slice X (rStep9 rs s l).1.length xc)).tmps.size = 126 := size_put hz
  generalize (y7.put (some 15) (.slice X (rStep9 rs s l).1.length xc)) = y8 at hz hd s0 s1 s3 s6 s9 s10 s11 s12 s13 s14 s15 s66 ⊢
  refine hX.val (v' := v') (some 16) (.int .i64 (rStep9 rs s l).2) (show soO6[8]? = some _ from rfl) (by kernel_rfl) rfl rfl (fun τ d => run_moveX y8.eval (.tmp 66) (.inr rfl) s66) ?_
  have hd : (y8.put (some 16) (.int .i64 (rStep9 rs s l).2)).defers = [] := hd
  have s0 := slot_ne (d := 16) (x := .int .i64 (rStep9 rs s l).2) s0 (by decide)
  have s1 := slot_ne (d := 16) (x := .int .i64 (rStep9 rs s l).2) s1 (by decide)
  have s3 := slot_ne (d := 16) (x := .int .i64 (rStep9 rs s l).2) s3 (by decide)
  have s6 := slot_ne (d := 16) (x := .int .i64 (rStep9 rs s l).2) s6 (by decide)
  have s9 := slot_ne (d := 16) (x := .int .i64 (rStep9 rs s l).2) s9 (by decide)
  have s10 := slot_ne (d := 16) (x := .int .i64 (rStep9 rs s l).2) s10 (by decide)
  have s11 := slot_ne (d := 16) (x := .int .i64 (rStep9 rs s l).2) s11 (by decide)
  have s12 := slot_ne (d := 16) (x := .int .i64 (rStep9 rs s l).2) s12 (by decide)
  have s13 := slot_ne (d := 16) (x := .int .i64 (rStep9 rs s l).2) s13 (by decide)
  have s14 := slot_ne (d := 16) (x := .int .i64 (rStep9 rs s l).2) s14 (by decide)
  have s15 := slot_ne (d := 16) (x := .int .i64 (rStep9 rs s l).2) s15 (by decide)
  clear s66
  have s16 := slot_same (a := y8) (d := 16) (x := .int .i64 (rStep9 rs s l).2) (by rw [hz]; decide)
  have hz : (y8.put (some 16) (.int .i64 (rStep9 rs s l).2)).tmps.size = 126 := size_put hz
  generalize (y8.put (some 16) (.int .i64 (rStep9 rs s l).2)) = y9 at hz hd s0 s1 s3 s6 s9 s10 s11 s12 s13 s14 s15 s16 ⊢
  exact hX.done (hk _ _ _ X xc hz hd s0 s1 s3 s6 s9 s10 s11 s12 s13 s14 s15 s16 hw kk hsl)
end
end Go.Proofs.YtlipmagkplbkdaaDoor

/-! Og9 -/
namespace Go.Proofs.YtlipmagkplbkdaaDoor
open Go Go.Conc Go.RowKit
set_option linter.unusedVariables false
set_option linter.unusedSimpArgs false
theorem Kp9.to {v w : World} (h : Kp9 v w) : Kp v w := ⟨h.size, h.cell⟩
theorem Kp.to9 {v w : World} (h : Kp v w) : Kp9 v w := ⟨h.size, h.cell⟩
section
variable {RA LA W A1 A2 X : Option Addr} {rc lc wc c1 c2 xc M : Nat} {rs : List Rul} {l was z x : List Cel} {s we ze xe : Int} {v0 vN : World}
set_option maxRecDepth 100000 in
set_option maxHeartbeats 4000000 in
theorem so_78 {ch : Option Nat} {a : Act} {v : World} {rest : Code} (hr : SlAt pRul (Old v0) v0 RA rc rs) (hl : SlAt pCel (Old v0) v0 LA lc l) (hs : Fits .i64 s) (hsm : Small rs) (hst : rStep9 rs s l = (x, xe)) (hz : a.tmps.size = 126) (hd : a.defers = []) (s0 : slot a 0 (.slice RA rs.length rc)) (s1 : slot a 1 (.int .i64 s)) (s3 : slot a 3 (.slice LA l.length lc)) (s9 : slot a 9 (.slice W was.length wc)) (s10 : slot a 10 (.int .i64 we)) (s11 : slot a 11 (.slice A1 z.length c1)) (s12 : slot a 12 (.int .i64 ze)) (s13 : slot a 13 (.slice A2 z.length c2)) (s14 : slot a 14 (.int .i64 ze)) (s15 : slot a 15 (.slice X x.length xc)) (s16 : slot a 16 (.int .i64 xe))
    (k0 : Kp v0 v) (kN : Kp vN v) (hwas : SlAt pCel (Old v) v W wc was) (hz1 : SlAt pCel (Old v) v A1 c1 z) (hz2 : SlAt pCel (Old v) v A2 c2 z) (hx : SlAt (pCelF M) (Old v) v X xc x)
    (hk : ∀ a v, a.tmps.size = 126 → a.defers = [] → slot a 3 (.slice LA l.length lc) → slot a 9 (.slice W was.length wc) → slot a 10 (.int .i64 we) → slot a 15 (.slice X x.length xc) → Kp v0 v → Kp vN v → SlAt (pCelF M) (Old v) v X xc x → MS Tryd.prog SR gR sR (· = .bool true) [] ch (bSo.at a [.code rest]) [] v) :
    MS Tryd.prog SR gR sR (· = .bool true) [] ch (bSo.at a [.code (.seq soR7 (.seq (.seq soR8 (.cond (.tmp 93) soC9 .skip)) rest))]) [] v := by
  have hX : Walk Tryd.prog SR gR sR (MS Tryd.prog SR gR sR (· = .bool true) [] ch) := MS.walk ctxR
  rw [act_lit126 hd hz]
  rw [show (a.tmps.getD 0 undef) = _ from s0, show (a.tmps.getD 1 undef) = _ from s1, show (a.tmps.getD 3 undef) = _ from s3, show (a.tmps.getD 9 undef) = _ from s9, show (a.tmps.getD 10 undef) = _ from s10, show (a.tmps.getD 11 undef) = _ from s11, show (a.tmps.getD 12 undef) = _ from s12, show (a.tmps.getD 13 undef) = _ from s13, show (a.tmps.getD 14 undef) = _ from s14, show (a.tmps.getD 15 undef) = _ from s15, show (a.tmps.getD 16 undef) = _ from s16]
  clear s0 s1 s3 s9 s10 s11 s12 s13 s14 s15 s16 hd
  generalize (a.tmps.getD 2 undef) = j2
  generalize (a.tmps.getD 4 undef) = j4
  generalize (a.tmps.getD 5 undef) = j5
  generalize (a.tmps.getD 6 undef) = j6
  generalize (a.tmps.getD 7 undef) = j7
  generalize (a.tmps.getD 8 undef) = j8
  generalize (a.tmps.getD 17 undef) = j17
  generalize (a.tmps.getD 18 undef) = j18
  generalize (a.tmps.getD 19 undef) = j19
  generalize (a.tmps.getD 20 undef) = j20
  generalize (a.tmps.getD 21 undef) = j21
  generalize (a.tmps.getD 22 undef) = j22
  generalize (a.tmps.getD 23 undef) = j23
  generalize (a.tmps.getD 24 undef) = j24
  generalize (a.tmps.getD 25 undef) = j25
  generalize (a.tmps.getD 26 undef) = j26
  generalize (a.tmps.getD 27 undef) = j27
  generalize (a.tmps.getD 28 undef) = j28
  generalize (a.tmps.getD 29 undef) = j29
  generalize (a.tmps.getD 30 undef) = j30
  generalize (a.tmps.getD 31 undef) = j31
  generalize (a.tmps.getD 32 undef) = j32
  generalize (a.tmps.getD 33 undef) = j33
  generalize (a.tmps.getD 34 undef) = j34
  generalize (a.tmps.getD 35 undef) = j35
  generalize (a.tmps.getD 36 undef) = j36
  generalize (a.tmps.getD 37 undef) = j37
  generalize (a.tmps.getD 38 undef) = j38
  generalize (a.tmps.getD 39 undef) = j39
  generalize (a.tmps.getD 40 undef) = j40
  generalize (a.tmps.getD 41 undef) = j41
  generalize (a.tmps.getD 42 undef) = j42
  generalize (a.tmps.getD 43 undef) = j43
  generalize (a.tmps.getD 44 undef) = j44
  generalize (a.tmps.getD 45 undef) = j45
  generalize (a.tmps.getD 46 undef) = j46
  generalize (a.tmps.getD 47 undef) = j47
  generalize (a.tmps.getD 48 undef) = j48
  generalize (a.tmps.getD 49 undef) = j49
  generalize (a.tmps.getD 50 undef) = j50
  generalize (a.tmps.getD 51 undef) = j51
  generalize (a.tmps.getD 52 undef) = j52
  generalize (a.tmps.getD 53 undef) = j53
  generalize (a.tmps.getD 54 undef) = j54
  generalize (a.tmps.getD 55 undef) = j55
  generalize (a.tmps.getD 56 undef) = j56
  generalize (a.tmps.getD 57 undef) = j57
  generalize (a.tmps.getD 58 undef) = j58
  generalize (a.tmps.getD 59 undef) = j59
  generalize (a.tmps.getD 60 undef) = j60
  generalize (a.tmps.getD 61 undef) = j61
  generalize (a.tmps.getD 62 undef) = j62
  generalize (a.tmps.getD 63 undef) = j63
  generalize (a.tmps.getD 64 undef) = j64
  generalize (a.tmps.getD 65 undef) = j65
  generalize (a.tmps.getD 66 undef) = j66
  generalize (a.tmps.getD 67 undef) = j67
  generalize (a.tmps.getD 68 undef) = j68
  generalize (a.tmps.getD 69 undef) = j69
  generalize (a.tmps.getD 70 undef) = j70
  generalize (a.tmps.getD 71 undef) = j71
  generalize (a.tmps.getD 72 undef) = j72
  generalize (a.tmps.getD 73 undef) = j73
  generalize (a.tmps.getD 74 undef) = j74
  generalize (a.tmps.getD 75 undef) = j75
  generalize (a.tmps.getD 76 undef) = j76
  generalize (a.tmps.getD 77 undef) = j77
  generalize (a.tmps.getD 78 undef) = j78
  generalize (a.tmps.getD 79 undef) = j79
  generalize (a.tmps.getD 80 undef) = j80
  generalize (a.tmps.getD 81 undef) = j81
  generalize (a.tmps.getD 82 undef) = j82
  generalize (a.tmps.getD 83 undef) = j83
  generalize (a.tmps.getD 84 undef) = j84
  generalize (a.tmps.getD 85 undef) = j85
  generalize (a.tmps.getD 86 undef) = j86
  generalize (a.tmps.getD 87 undef) = j87
  generalize (a.tmps.getD 88 undef) = j88
  generalize (a.tmps.getD 89 undef) = j89
  generalize (a.tmps.getD 90 undef) = j90
  generalize (a.tmps.getD 91 undef) = j91
  generalize (a.tmps.getD 92 undef) = j92
  generalize (a.tmps.getD 93 undef) = j93
  generalize (a.tmps.getD 94 undef) = j94
  generalize (a.tmps.getD 95 undef) = j95
  generalize (a.tmps.getD 96 undef) = j96
  generalize (a.tmps.getD 97 undef) = j97
  generalize (a.tmps.getD 98 undef) = j98
  generalize (a.tmps.getD 99 undef) = j99
  generalize (a.tmps.getD 100 undef) = j100
  generalize (a.tmps.getD 101 undef) = j101
  generalize (a.tmps.getD 102 undef) = j102
  generalize (a.tmps.getD 103 undef) = j103
  generalize (a.tmps.getD 104 undef) = j104
  generalize (a.tmps.getD 105 undef) = j105
  generalize (a.tmps.getD 106 undef) = j106
  generalize (a.tmps.getD 107 undef) = j107
  generalize (a.tmps.getD 108 undef) = j108
  generalize (a.tmps.getD 109 undef) = j109
  generalize (a.tmps.getD 110 undef) = j110
  generalize (a.tmps.getD 111 undef) = j111
  generalize (a.tmps.getD 112 undef) = j112
  generalize (a.tmps.getD 113 undef) = j113
  generalize (a.tmps.getD 114 undef) = j114
  generalize (a.tmps.getD 115 undef) = j115
  generalize (a.tmps.getD 116 undef) = j116
  generalize (a.tmps.getD 117 undef) = j117
  generalize (a.tmps.getD 118 undef) = j118
  generalize (a.tmps.getD 119 undef) = j119
  generalize (a.tmps.getD 120 undef) = j120
  generalize (a.tmps.getD 121 undef) = j121
  generalize (a.tmps.getD 122 undef) = j122
  generalize (a.tmps.getD 123 undef) = j123
  generalize (a.tmps.getD 124 undef) = j124
  generalize (a.tmps.getD 125 undef) = j125
  clear hz
  refine hX.seq (hX.wp ctxR rfl bSo_fn ookR7 fun τ t => ?_)
  have k1 := Kp.at2 v τ t
  have hx1 := hx.at2 τ t
  have hw1 := hwas.kp eqv_cel k1
  have hu1 := hz1.kp eqv_cel k1
  have hu2 := hz2.kp eqv_cel k1
  have kz := k0.trans k1
  have kM := kN.trans k1
  generalize Go.Proofs.YtlipmagkplbkdaaDoor.at2 v τ t = v1 at k1 hx1 hw1 hu1 hu2 kz kM ⊢
  clear hx hwas hz1 hz2 k0 kN k1
  have href := refStep9_calls RA rc rs s LA lc l v1 (hr.kp eqv_rul kz) (hl.kp eqv_cel kz) hs hsm
  rw [hst] at href
  unfold CelsPost at href
  simp only at href
  have Hr := Lib.hid hr; clear hr
  have Hl := Lib.hid hl; clear hl
  have Hs := Lib.hid hs; clear hs
  have Hsm := Lib.hid hsm; clear hsm
  have Hst := Lib.hid hst; clear hst
  have Hk := Lib.hid hk; clear hk
  have HX := Lib.hid hX; clear hX
  have Href := Lib.hid href; clear href
  have Hx1 := Lib.hid hx1; clear hx1
  have Hw1 := Lib.hid hw1; clear hw1
  have Hu1 := Lib.hid hu1; clear hu1
  have Hu2 := Lib.hid hu2; clear hu2
  have Kz := Lib.hid kz; clear kz
  have KM := Lib.hid kM; clear kM
  dsimp only [soR7, soB, Tryd.f5]
  go_wp2_with (go_at_call 29; refine Href.out.mono ?_; rintro e1 w2 ⟨Y, yc, rfl, hy, hb⟩)
  have hy2 : SlAt pCel (Old w2) w2 Y yc x := hy.wide fun q hq => hq.2
  have hx2 : SlAt (pCelF M) (Old w2) w2 X xc x := (Hx1.out.keep fun q hq => hb.block q hq).wide fun q hq => Nat.lt_of_lt_of_le hq hb.size
  have kb := Kp.below hb
  have hw2 := Hw1.out.kp eqv_cel kb
  have hu1 := Hu1.out.kp eqv_cel kb
  have hu2 := Hu2.out.kp eqv_cel kb
  have kz := Kz.out.trans kb
  have kM := KM.out.trans kb
  clear Hx1 Hw1 Hu1 Hu2 Kz KM Href hb kb hy
  refine HX.out.seq (HX.out.seq (HX.out.wp ctxR rfl bSo_fn ookR8 fun τ t => ?_))
  have k1 := Kp.at2 w2 τ t
  have hx3 := hx2.at2 τ t
  have hy3 := hy2.kp eqv_cel k1
  have hw3 := hw2.kp eqv_cel k1
  have hu1 := hu1.kp eqv_cel k1
  have hu2 := hu2.kp eqv_cel k1
  have kz := kz.trans k1
  have kM := kM.trans k1
  generalize Go.Proofs.YtlipmagkplbkdaaDoor.at2 w2 τ t = v3 at k1 hx3 hy3 hw3 hu1 hu2 kz kM ⊢
  clear hx2 hy2 hw2 k1
  have c1' := sameC_calls A1 A2 c1 c2 z z v3 hu1 hu2
  rw [beq_self_eq_true] at c1'
  have c2' := fun w (hb : Below v3.heap.size v3 w) => sameC_calls X Y xc yc x x w ((slAt_celF hx3).kp eqv_cel (Kp.below hb)) (hy3.kp eqv_cel (Kp.below hb))
  simp only [beq_self_eq_true] at c2'
  unfold BoolPost at c1' c2'
  have Hx3 := Lib.hid hx3; clear hx3
  have Hy3 := Lib.hid hy3; clear hy3
  have Hw3 := Lib.hid hw3; clear hw3
  have Hu1 := Lib.hid hu1; clear hu1
  have Hu2 := Lib.hid hu2; clear hu2
  have Kz := Lib.hid kz; clear kz
  have KM := Lib.hid kM; clear kM
  have C1' := Lib.hid c1'; clear c1'
  have C2' := Lib.hid c2'; clear c2'
  dsimp only [soR8, soB, Tryd.f5]
  go_wp2_with fail
  refine C1'.out.mono ?_
  rintro e1 w4 ⟨rfl, hb4⟩
  have Hb4 := Lib.hid hb4
  clear hb4
  go_wp2_with fail
  refine (C2'.out _ Hb4.out).mono ?_
  rintro e1 w5 ⟨rfl, hb5⟩
  have hb := Hb4.out.trans (hb5.mono Hb4.out.size)
  clear hb5 Hb4 C1' C2'
  have Hb := Lib.hid hb; clear hb
  go_wp2
  refine HX.out.cond (t := false) rfl rfl (HX.out.skip ?_)
  have kb := Kp.below Hb.out
  exact Hk.out _ _ rfl rfl rfl rfl rfl rfl (Kz.out.trans kb) (KM.out.trans kb) ((Hx3.out.keep fun q hq => Hb.out.block q hq).wide fun q hq => Nat.lt_of_lt_of_le hq Hb.out.size)
set_option maxRecDepth 100000 in
set_option maxHeartbeats 4000000 in
theorem so_end {ch : Option Nat} {a : Act} {v : World} (hl : SlAt pCel (Old vN) vN LA lc l) (hwas : SlAt pCel (Old vN) vN W wc was) (hwe : we = 0 → was = l) (hM : vN.heap.size ≤ M) (hz : a.tmps.size = 126) (hd : a.defers = []) (s3 : slot a 3 (.slice LA l.length lc)) (s9 : slot a 9 (.slice W was.length wc)) (s10 : slot a 10 (.int .i64 we)) (s15 : slot a 15 (.slice X x.length xc))
    (kN : Kp vN v) (hx : SlAt (pCelF M) (Old v) v X xc x) :
    MS Tryd.prog SR gR sR (· = .bool true) [] ch (bSo.at a [.code (.seq soL (.seq soR17 .ret))]) [] v := by
  have hX : Walk Tryd.prog SR gR sR (MS Tryd.prog SR gR sR (· = .bool true) [] ch) := MS.walk ctxR
  rw [act_lit126 hd hz]
  rw [show (a.tmps.getD 3 undef) = _ from s3, show (a.tmps.getD 9 undef) = _ from s9, show (a.tmps.getD 10 undef) = _ from s10, show (a.tmps.getD 15 undef) = _ from s15]
  clear s3 s9 s10 s15 hd
  generalize (a.tmps.getD 0 undef) = j0
  generalize (a.tmps.getD 1 undef) = j1
  generalize (a.tmps.getD 2 undef) = j2
  generalize (a.tmps.getD 4 undef) = j4
  generalize (a.tmps.getD 5 undef) = j5
  generalize (a.tmps.getD 6 undef) = j6
  generalize (a.tmps.getD 7 undef) = j7
  generalize (a.tmps.getD 8 undef) = j8
  generalize (a.tmps.getD 11 undef) = j11
  generalize (a.tmps.getD 12 undef) = j12
  generalize (a.tmps.getD 13 undef) = j13
  generalize (a.tmps.getD 14 undef) = j14
  generalize (a.tmps.getD 16 undef) = j16
  generalize (a.tmps.getD 17 undef) = j17
  generalize (a.tmps.getD 18 undef) = j18
  generalize (a.tmps.getD 19 undef) = j19
  generalize (a.tmps.getD 20 undef) = j20
  generalize (a.tmps.getD 21 undef) = j21
  generalize (a.tmps.getD 22 undef) = j22
  generalize (a.tmps.getD 23 undef) = j23
  generalize (a.tmps.getD 24 undef) = j24
  generalize (a.tmps.getD 25 undef) = j25
  generalize (a.tmps.getD 26 undef) = j26
  generalize (a.tmps.getD 27 undef) = j27
  generalize (a.tmps.getD 28 undef) = j28
  generalize (a.tmps.getD 29 undef) = j29
  generalize (a.tmps.getD 30 undef) = j30
  generalize (a.tmps.getD 31 undef) = j31
  generalize (a.tmps.getD 32 undef) = j32
  generalize (a.tmps.getD 33 undef) = j33
  generalize (a.tmps.getD 34 undef) = j34
  generalize (a.tmps.getD 35 undef) = j35
  generalize (a.tmps.getD 36 undef) = j36
  generalize (a.tmps.getD 37 undef) = j37
  generalize (a.tmps.getD 38 undef) = j38
  generalize (a.tmps.getD 39 undef) = j39
  generalize (a.tmps.getD 40 undef) = j40
  generalize (a.tmps.getD 41 undef) = j41
  generalize (a.tmps.getD 42 undef) = j42
  generalize (a.tmps.getD 43 undef) = j43
  generalize (a.tmps.getD 44 undef) = j44
  generalize (a.tmps.getD 45 undef) = j45
  generalize (a.tmps.getD 46 undef) = j46
  generalize (a.tmps.getD 47 undef) = j47
  generalize (a.tmps.getD 48 undef) = j48
  generalize (a.tmps.getD 49 undef) = j49
  generalize (a.tmps.getD 50 undef) = j50
  generalize (a.tmps.getD 51 undef) = j51
  generalize (a.tmps.getD 52 undef) = j52
  generalize (a.tmps.getD 53 undef) = j53
  generalize (a.tmps.getD 54 undef) = j54
  generalize (a.tmps.getD 55 undef) = j55
  generalize (a.tmps.getD 56 undef) = j56
  generalize (a.tmps.getD 57 undef) = j57
  generalize (a.tmps.getD 58 undef) = j58
  generalize (a.tmps.getD 59 undef) = j59
  generalize (a.tmps.getD 60 undef) = j60
  generalize (a.tmps.getD 61 undef) = j61
  generalize (a.tmps.getD 62 undef) = j62
  generalize (a.tmps.getD 63 undef) = j63
  generalize (a.tmps.getD 64 undef) = j64
  generalize (a.tmps.getD 65 undef) = j65
  generalize (a.tmps.getD 66 undef) = j66
  generalize (a.tmps.getD 67 undef) = j67
  generalize (a.tmps.getD 68 undef) = j68
  generalize (a.tmps.getD 69 undef) = j69
  generalize (a.tmps.getD 70 undef) = j70
  generalize (a.tmps.getD 71 undef) = j71
  generalize (a.tmps.getD 72 undef) = j72
  generalize (a.tmps.getD 73 undef) = j73
  generalize (a.tmps.getD 74 undef) = j74
  generalize (a.tmps.getD 75 undef) = j75
  generalize (a.tmps.getD 76 undef) = j76
  generalize (a.tmps.getD 77 undef) = j77
  generalize (a.tmps.getD 78 undef) = j78
  generalize (a.tmps.getD 79 undef) = j79
  generalize (a.tmps.getD 80 undef) = j80
  generalize (a.tmps.getD 81 undef) = j81
  generalize (a.tmps.getD 82 undef) = j82
  generalize (a.tmps.getD 83 undef) = j83
  generalize (a.tmps.getD 84 undef) = j84
  generalize (a.tmps.getD 85 undef) = j85
  generalize (a.tmps.getD 86 undef) = j86
  generalize (a.tmps.getD 87 undef) = j87
  generalize (a.tmps.getD 88 undef) = j88
  generalize (a.tmps.getD 89 undef) = j89
  generalize (a.tmps.getD 90 undef) = j90
  generalize (a.tmps.getD 91 undef) = j91
  generalize (a.tmps.getD 92 undef) = j92
  generalize (a.tmps.getD 93 undef) = j93
  generalize (a.tmps.getD 94 undef) = j94
  generalize (a.tmps.getD 95 undef) = j95
  generalize (a.tmps.getD 96 undef) = j96
  generalize (a.tmps.getD 97 undef) = j97
  generalize (a.tmps.getD 98 undef) = j98
  generalize (a.tmps.getD 99 undef) = j99
  generalize (a.tmps.getD 100 undef) = j100
  generalize (a.tmps.getD 101 undef) = j101
  generalize (a.tmps.getD 102 undef) = j102
  generalize (a.tmps.getD 103 undef) = j103
  generalize (a.tmps.getD 104 undef) = j104
  generalize (a.tmps.getD 105 undef) = j105
  generalize (a.tmps.getD 106 undef) = j106
  generalize (a.tmps.getD 107 undef) = j107
  generalize (a.tmps.getD 108 undef) = j108
  generalize (a.tmps.getD 109 undef) = j109
  generalize (a.tmps.getD 110 undef) = j110
  generalize (a.tmps.getD 111 undef) = j111
  generalize (a.tmps.getD 112 undef) = j112
  generalize (a.tmps.getD 113 undef) = j113
  generalize (a.tmps.getD 114 undef) = j114
  generalize (a.tmps.getD 115 undef) = j115
  generalize (a.tmps.getD 116 undef) = j116
  generalize (a.tmps.getD 117 undef) = j117
  generalize (a.tmps.getD 118 undef) = j118
  generalize (a.tmps.getD 119 undef) = j119
  generalize (a.tmps.getD 120 undef) = j120
  generalize (a.tmps.getD 121 undef) = j121
  generalize (a.tmps.getD 122 undef) = j122
  generalize (a.tmps.getD 123 undef) = j123
  generalize (a.tmps.getD 124 undef) = j124
  generalize (a.tmps.getD 125 undef) = j125
  clear hz
  refine hX.seq (hX.wp ctxR rfl bSo_fn ookL fun τ t => ?_)
  have kM := kN.trans (Kp.at2 v τ t)
  have hx1 := hx.at2 τ t
  generalize Go.Proofs.YtlipmagkplbkdaaDoor.at2 v τ t = v1 at kM hx1 ⊢
  clear kN hx
  have hxl := hx1.lenle
  have Hl := Lib.hid hl; clear hl
  have Hwas := Lib.hid hwas; clear hwas
  have Hwe := Lib.hid hwe; clear hwe
  have HX := Lib.hid hX; clear hX
  have KM := Lib.hid kM; clear kM
  have Hx1 := Lib.hid hx1; clear hx1
  dsimp only [soL, soB, Tryd.f5]
  go_wp2
  go_loopw [19] (fun i wr => ∃ k : Nat, k ≤ x.length ∧ i = .int .i64 k ∧ Hid (WrS M v1 wr)) (fun i _ => x.length - (intOf i).toNat)
  case atStart => exact ⟨0, Nat.zero_le _, rfl, WrS.refl M v1⟩
  case round =>
    obtain ⟨k, hk, rfl, hws⟩ := hrel
    obtain ⟨wo, rfl⟩ : ∃ wo : World, wo = wr := ⟨_, rfl⟩
    by_cases hlt : k < x.length
    case neg =>
      obtain rfl : k = x.length := by omega
      have kw := (hws.out.kp KM.out.to9 hM).to
      have Kw := Lib.hid kw; clear kw
      clear hws
      go_wp2
      refine HX.out.seq (HX.out.wp ctxR rfl bSo_fn ookR17 fun τ t => ?_)
      have kw := Kw.out.trans (Kp.at2 wo τ t)
      generalize Go.Proofs.YtlipmagkplbkdaaDoor.at2 wo τ t = v3 at kw ⊢
      clear Kw
      dsimp only [soR17, soB, Tryd.f5]
      by_cases h0 : we = 0
      · have hsame := sameC_calls W LA wc lc was l v3 (Hwas.out.kp eqv_cel kw) (Hl.out.kp eqv_cel kw)
        have e0 : (we != 0) = false := by simp [h0]
        have hbq : (was == l) = true := by rw [Hwe.out h0]; exact beq_self_eq_true l
        rw [hbq] at hsame
        unfold BoolPost at hsame
        clear hbq
        have Hsame := Lib.hid hsame; clear hsame
        have Kw := Lib.hid kw; clear kw
        clear h0
        go_wp2_with (go_at_call 15; refine Hsame.out.mono ?_; rintro e1 w4 ⟨rfl, hb4⟩)
        exact HX.out.ret (so_fin rfl rfl)
      · have e0 : (we != 0) = true := by simp [h0]
        have Kw := Lib.hid kw; clear kw
        clear h0
        go_wp2
        exact HX.out.ret (so_fin rfl rfl)
    case pos =>
      obtain ⟨b, o, A', c', m, hm, rfl, hc2, hle, harg⟩ := celF_get Hx1.out hlt
      have hcw : ∀ w, WrS M v1 w → w.cell? ⟨b, o + k * 3 + 2, none⟩ = some (.slice A' m.mod.args.length c') := fun w h => by
        rcases h.cell _ _ hc2 with h1 | ⟨_, n, n', h1, _⟩
        · exact h1
        · cases h1
      have hk0 : (0 : Int) ≤ (k : Int) := Int.natCast_nonneg _
      have hk1 : (k : Int) < (x.length : Int) := by omega
      obtain ⟨ln, hln⟩ : ∃ ln, m.mod.args.length = ln := ⟨_, rfl⟩
      rw [hln] at hcw hle harg
      clear hc2
      have Hcw := Lib.hid hcw; clear hcw
      have Harg := Lib.hid harg; clear harg
      have Hm := Lib.hid hm; clear hm
      have Hln := Lib.hid hln; clear hln
      go_wp2
      go_loopw [20] (fun i wr => ∃ j : Nat, j ≤ ln ∧ i = .int .i64 j ∧ Hid (WrS M v1 wr)) (fun i _ => ln - (intOf i).toNat)
      case atStart => exact ⟨0, Nat.zero_le _, rfl, hws⟩
      case round =>
        obtain ⟨j, hj, rfl, hws2⟩ := hrel
        obtain ⟨wq, rfl⟩ : ∃ wq : World, wq = wr := ⟨_, rfl⟩
        have y2 := Hcw.out wq hws2.out
        have y2' : wq.cell? ⟨b, o + k * 3 + 1 + 1, none⟩ = some (.slice A' ln c') := y2
        have hj0 : (0 : Int) ≤ (j : Int) := Int.natCast_nonneg _
        by_cases hjl : j < ln
        · have hj1 : (j : Int) < (ln : Int) := by omega
          obtain ⟨b', o', n0, rfl, hNb, hca, hfz⟩ := Harg.out j hjl
          obtain ⟨n1, hcm⟩ : ∃ n1, wq.cell? ⟨b', o' + j, none⟩ = some (.int .i64 n1) := by
            rcases hws2.out.cell _ _ hca with h1 | ⟨_, _, n', _, h1⟩
            · exact ⟨_, h1⟩
            · exact ⟨_, h1⟩
          have hfq : wq.frozen? ⟨b', o' + j, none⟩ = false := (hws2.out.frz _).trans hfz
          have hset := hws2.out.set (m := 77) hNb hcm
          clear hca hfz
          have Hset := Lib.hid hset; clear hset
          clear hws2
          go_wp2
          go_roundw
          case rel => exact ⟨j + 1, by omega, by go_num, Hset⟩
          case measure => simp [intOf]; omega
        · have hj1 : ¬ (j : Int) < (ln : Int) := by omega
          go_wp2
          go_roundw
          case rel => exact ⟨k + 1, by omega, by go_num, hws2⟩
          case measure => simp [intOf]; omega
theorem so_ms {c : Cel} {D : Option Addr} {dd : Nat} (hr : SlAt pRul (Old v0) v0 RA rc rs) (hl : SlAt pCel (Old v0) v0 LA lc l) (hda : SlAt (pI .i64) (Old v0) v0 D dd c.mod.args) (h8 : Fits .u8 c.mod.name) (hps : c.path.size ≤ maxLen) (hs : Fits .i64 s) (ht : TabAt v0) (hg : GAt v0) :
    MS Tryd.prog SR gR sR (· = .bool true) [] none (Frame.enter Tryd.prog 5 #[.slice RA rs.length rc, .int .i64 s, .agg #[.string c.path, .int .u8 c.mod.name, .slice D c.mod.args.length dd], .slice LA l.length lc] .normal) [] v0 := by
  refine so_a hr hl hda (by unfold maxLen at hps; omega) ?_
  intro gc a v hg1 hp3 hz hd s0 s1 s3 s6 hw
  have hsm := small_of hg1
  unfold soM
  refine so_3 hr hl hs ht hg hz hd s0 s1 s3 s6 hw ?_
  clear hz hd s0 s1 s3 s6 hw
  intro ch a v W wc hz hd s0 s1 s3 s6 s9 s10 hw hwas
  refine so_45 hr hl hs ht hg hda h8 hp3 hsm hz hd s0 s1 s3 s6 s9 s10 hw hwas ?_
  clear hz hd s0 s1 s3 s6 s9 s10 hw hwas
  intro a v A1 c1 A2 c2 hz hd s0 s1 s3 s6 s9 s10 s11 s12 s13 s14 hw hwas hz1 hz2
  refine so_6 hr hl hs ht hg hsm hz hd s0 s1 s3 s6 s9 s10 s11 s12 s13 s14 hw ?_
  clear hz hd s0 s1 s3 s6 s9 s10 s11 s12 s13 s14
  intro ch a v' X xc hz hd s0 s1 s3 s6 s9 s10 s11 s12 s13 s14 s15 s16 hw' kk hx
  unfold soT
  refine so_78 (vN := v) (M := v.heap.size) hr hl hs hsm rfl hz hd s0 s1 s3 s9 s10 s11 s12 s13 s14 s15 s16 hw'.kp kk (hwas.kp eqv_cel kk) (hz1.kp eqv_cel kk) (hz2.kp eqv_cel kk) hx ?_
  clear hz hd s0 s1 s3 s6 s9 s10 s11 s12 s13 s14 s15 s16 hx kk
  intro a v2 hz hd s3 s9 s10 s15 k0 kN hx
  exact so_end (hl.kp eqv_cel hw.kp) hwas (rStep_nil9 s l) (Nat.le_refl _) hz hd s3 s9 s10 s15 kN hx
end
theorem arg_cel {F : Nat → Prop} {w : World} {cs : Array Value} {m : Cel} (h : pCel.R F w (Value.agg cs).cells.toList m) : ∃ A c, cs = #[.string m.path, .int .u8 m.mod.name, .slice A m.mod.args.length c] ∧ m.path.size ≤ maxLen ∧ Fits .u8 m.mod.name ∧ SlAt (pI .i64) F w A c m.mod.args := by
  obtain ⟨A, c, h1, h2, h3, h4⟩ := h
  exact ⟨A, c, Array.toList_inj.1 (by simpa [Value.cells] using h1), h2, h3, h4⟩
theorem agg_good {S : FuncId → Prop} {ρ : Ren} {cs : Array Value} (h : ∀ x ∈ (Value.agg cs).cells.toList, VRel S ρ x x) : VRel S ρ (.agg cs) (.agg cs) :=
  .agg _ _ rfl fun i h1 h2 => h _ (by show cs[i] ∈ cs.toList; simp)
end Go.Proofs.YtlipmagkplbkdaaDoor
