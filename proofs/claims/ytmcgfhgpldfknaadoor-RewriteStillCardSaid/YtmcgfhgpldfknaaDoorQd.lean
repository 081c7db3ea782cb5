/-
  RewriteStill, the walk of the law: it returns true.
-/
import Derived.Test.YtmcgfhgpldfknaaDoorQb
import Derived.ProofKit
import Derived.SizedLaws
namespace Go.Proofs.YtmcgfhgpldfknaaDoor
open Go.RowKit Go.Sort
set_option linter.unusedVariables false

theorem own_lit {α : Type} {E : Rp α} {w : World} {e : TypeId} {cells : Array Value} {xs : List α} {G : Nat → Prop} (h : CellsAre E (fun k => G k ∧ k < w.heap.size) w cells.toList xs) (hm : xs.length ≤ maxLen) :
    Own E e w.heap.size G (w.alloc (.cells cells e)) (.slice (some ⟨w.heap.size, 0, none⟩) xs.length xs.length) xs := by
  have hl := h.length
  refine ⟨cells.toList, ⟨hl, .inr ⟨w.heap.size, xs.length, cells, rfl, Nat.le_refl _, heap_alloc_new w _, Nat.le_refl _, hm, by rw [← hl]; simp, ?_⟩⟩, ?_⟩
  · rw [List.take_of_length_le (by omega)]
  · refine (CellsAre.keep (fun k hk => Below.heap_alloc _ _ _ hk.2) h).wide fun k hk => ⟨hk.1, by have := hk.2; simp; omega, fun e => ?_⟩
    cases e
    exact Nat.lt_irrefl _ hk.2
/-- an append of a slice to an own one, by the bytes that the two take -/
theorem wpList_catB {P : Program} {α : Type} {E : Rp α} {ops : Array Oper} {rest : List Oper} {o : Oper} {a : Act} {Q : Exit → Act → World → Prop} {w : World} {base : Nat} {G : Nat → Prop} {v : Value} {xs : List α} (t e : TypeId) (z : Value) (bytes : Nat) (s x : Operand) (hgd : o.guard = none)
    (ho : o.op = .call { callee := .builtin .append, args := #[s, x], argTypes := #[t, t] })
    (ht : P.underlying t = some (.slice e)) (hinfo : (P.info? e).map (fun i => (i.zero, i.size, i.bytes)) = some (some z, E.n, bytes)) (hzs : z.cells.size = E.n) (hsz : 0 < E.n)
    (hs : a.eval s = v) (hown : Own E e base G w v xs) (A : Option Addr) (c : Nat) (ys : List α) (hx : a.eval x = .slice A ys.length c) (F : Nat → Prop) (hsl : SlAt E F w A c ys)
    (hF : ∀ k, F k → G k ∧ k < w.heap.size ∧ some k ≠ v.ownBlock) (n : Nat) (hn : (xs ++ ys).length = n) (hml : n ≤ maxLen) (hby : n * bytes ≤ 140737488355328) (hbase : base ≤ w.heap.size)
    (h : ∀ A' c' w', Hid (Own E e base G w' (.slice A' n c') (xs ++ ys)) → Hid (Grew base w w' v (.slice A' n c')) → wpList P ops Q rest (a.put o.dst (.slice A' n c')) w') : wpList P ops Q (o :: rest) a w := by
  have fin : ∀ v' w', Own E e base G w' v' (xs ++ ys) → w.grownBy w' v.ownBlock → (v'.ownBlock = v.ownBlock ∨ v'.ownBlock = some w.heap.size) → wpList P ops Q rest (a.put o.dst v') w' := fun v' w' h1 h2 h3 => by
    obtain ⟨cells, ⟨hl, hv⟩, hc⟩ := h1
    have hform : ∃ A' c', v' = .slice A' n c' := by
      rcases hv with ⟨hv, h0⟩ | ⟨g, cap, cur, hv, _⟩
      · rw [hn] at h0; subst h0; exact ⟨_, _, hv⟩
      · rw [hn] at hv; exact ⟨_, _, hv⟩
    obtain ⟨A', c', rfl⟩ := hform
    exact h A' c' w' ⟨cells, ⟨hl, hv⟩, hc⟩ ⟨below_app (Below.refl base w) h2 hown (Nat.le_refl _) hbase, h2.block, h3.imp id fun he => ⟨_, he, Nat.le_refl _⟩⟩
  have hnl : xs.length + ys.length = n := by rw [← hn, List.length_append]
  obtain ⟨i, hi, hz, h1, h2⟩ := info_parts hinfo
  have hown' := hown
  obtain ⟨cells, h3, h4⟩ := hown
  cases A with
  | some ad =>
    obtain ⟨news, h5, h6⟩ := hsl.cells
    exact wpList_append_own_at (P := P) w hgd s x t ho base e i z E.n bytes ht hi hz h1 h2 hzs hsz v xs.length cells hs h3 ad ys.length c news hx h5.length h6 h5.oneCell (by omega) (by rw [hnl]; exact hby) hbase
      (fun v' w' k5 k6 _ k7 => fin v' w' (own_append h4 h5 hF k5 k6 k7) k6 k7)
  | none =>
    have hc := hsl.nil rfl
    have hl := hsl.le
    have hy : ys = [] := List.eq_nil_of_length_eq_zero (by omega)
    subst hy
    subst hc
    refine wpList_plain hgd fun K hK => ?_
    have hrun := run_append_owned_none (P := P) w base t o.type e i E.n ht hi v xs.length cells h3
    unfold Oper.wp
    simp [execOp, ho, resolve, invoke, builtin, hs, hx, hrun, Result.andThen]
    exact hK _ _ (fin v w (by simpa using hown') (World.grownBy.refl w _) (.inl rfl))
/-- what the row's reach says of a slice that comes in -/
theorem reach_slice {H : Type} {P : Program} {enc : TypeId × Value → H} {w : World} {fuel : Nat} {t e : TypeId} {a : Option Addr} {len cap : Nat} {d : DataW H} {p : List MemPlace} (ht : P.underlying t = some (.slice e))
    (h : DataW.trod enc P w 0 (fun _ => true) true fuel t [.slice a len cap] = some (d, p)) {ts : List TypeId} {ds : List (DataW H)} (hsz : (DataW.weightsEach P ts ds).all (· ≤ reachBytes) = true) {j : Nat} (hts : ts[j]? = some t) (hds : ds[j]? = some d) :
    len * P.bytesOf e ≤ 140737488351232 := by
  rcases DataW.trod_slice ht h with ⟨h1, h2⟩ | ⟨a', len', cap', elems, rest, n, h1, h2, h3, _, _, _, h4, _⟩
  · cases h1; omega
  · cases h2
    cases h3
    have := sized_slice hsz hts hds ht
    rw [List.length_map, List.length_map, h4, Nat.add_mul] at this
    have e1 : reachBytes = 140737488351232 := by decide
    omega
theorem small_sub {l l' : List Rul} (h : Small l) (hs : ∀ r ∈ l', r ∈ l) (hl : l'.length ≤ 50) : Small l' := ⟨hl, fun r hr => h.g r (hs r hr), fun r hr => h.o r (hs r hr), fun r hr => h.a r (hs r hr)⟩
theorem rulV_R {F : Nat → Prop} {w : World} {r : Rul} {A B : Option Addr} {c d : Nat} (hf : Fits .u8 r.name ∧ Fits .i64 r.arity ∧ Fits .u8 r.left ∧ Fits .u8 r.right ∧ Fits .i64 r.weight) (h : SlAt pFrm F w A c r.guards) (h2 : SlAt pShp F w B d r.out) :
    pRul.R F w [.int .u8 r.name, .int .i64 r.arity, .int .u8 r.left, .int .u8 r.right, .slice A r.guards.length c, .int .i64 r.weight, .slice B r.out.length d] r := ⟨A, c, B, d, rfl, hf, h, h2⟩

theorem countF_le' (c : Int) (ms : List Mod) : countF c ms ≤ ms.length := List.countP_le_length
set_option maxRecDepth 100000 in
set_option maxHeartbeats 8000000 in
theorem rewriteStill_walk (A : Option Addr) (c : Nat) (rs : List Rul) (B : Option Addr) (cb : Nat) (ms : List Mod) (r : Rul) (A3 : Option Addr) (c3 : Nat) (B3 : Option Addr) (d3 : Nat) (w : World) (h : SlAt pRul (Old w) w A c rs) (h1 : SlAt pMod (Old w) w B cb ms)
    (hf : Fits .u8 r.name ∧ Fits .i64 r.arity ∧ Fits .u8 r.left ∧ Fits .u8 r.right ∧ Fits .i64 r.weight) (hg : SlAt pFrm (Old w) w A3 c3 r.guards) (ho : SlAt pShp (Old w) w B3 d3 r.out) (hrl : rs.length * 80 ≤ 140737488351232) (hL : LibAt w) :
    Calls Tryd.prog 4 #[.slice A rs.length c, .slice B ms.length cb, .agg #[.int .u8 r.name, .int .i64 r.arity, .int .u8 r.left, .int .u8 r.right, .slice A3 r.guards.length c3, .int .i64 r.weight, .slice B3 r.out.length d3]] w (OkPost w) := by
  have hmx := h.lenle
  have hmy := h1.lenle
  have hmg := hg.lenle
  have hmo := ho.lenle
  have hfn := hf.1
  obtain ⟨W0, hW0⟩ : ∃ W0, W0 = w.alloc (.cells #[.int .u8 r.name, .int .i64 r.arity, .int .u8 r.left, .int .u8 r.right, .slice A3 r.guards.length c3, .int .i64 r.weight, .slice B3 r.out.length d3] 35) := ⟨_, rfl⟩
  have hb0 : Below w.heap.size w W0 := by rw [hW0]; exact bl _
  have hz0 : W0.heap.size = w.heap.size + 1 := by rw [hW0]; simp
  have hbl0 : Blk W0 w.heap.size 35 #[.int .u8 r.name, .int .i64 r.arity, .int .u8 r.left, .int .u8 r.right, .slice A3 r.guards.length c3, .int .i64 r.weight, .slice B3 r.out.length d3] := by rw [hW0]; exact Blk.new _ _ _
  obtain ⟨W1, hW1⟩ : ∃ W1, W1 = W0.alloc (.cells #[.int .u8 r.name, .int .i64 r.arity, .int .u8 r.left, .int .u8 r.right, .slice A3 r.guards.length c3, .int .i64 r.weight, .slice B3 r.out.length d3] 35) := ⟨_, rfl⟩
  have hb1 : Below W0.heap.size W0 W1 := by rw [hW1]; exact bl _
  have hz1 : W1.heap.size = W0.heap.size + 1 := by rw [hW1]; simp
  have hb01 : Below w.heap.size w W1 := hb0.trans (hb1.mono hb0.size)
  have hcs : CellsAre pRul (fun k => Old w k ∧ k < W0.heap.size) W0 [.int .u8 r.name, .int .i64 r.arity, .int .u8 r.left, .int .u8 r.right, .slice A3 r.guards.length c3, .int .i64 r.weight, .slice B3 r.out.length d3] [r] :=
    ⟨_, [], rfl, rulV_R hf ((hg.below hb0).wide fun k hk => ⟨hk, by have : k < w.heap.size := hk; omega⟩) ((ho.below hb0).wide fun k hk => ⟨hk, by have : k < w.heap.size := hk; omega⟩), rfl⟩
  have hown : Own pRul 35 W0.heap.size (Old w) W1 (.slice (some ⟨W0.heap.size, 0, none⟩) 1 1) [r] := by rw [hW1]; exact own_lit hcs (by unfold maxLen; simp)
  have hsl1 : SlAt pRul (Old w) W1 A c rs := h.below hb01
  have hF1 : ∀ k, Old w k → Old w k ∧ k < W1.heap.size ∧ some k ≠ (Value.slice (some ⟨W0.heap.size, 0, none⟩) 1 1).ownBlock := fun k hk => ⟨hk, by have : k < w.heap.size := hk; omega, fun e => by
    have h1 : k < w.heap.size := hk
    have h2 : k = W0.heap.size := Option.some.inj e
    omega⟩
  obtain ⟨more, hmore⟩ : ∃ l, [r] ++ rs = l := ⟨_, rfl⟩
  have hml : ([r] ++ rs).length = more.length := by rw [hmore]
  have hmlen : more.length = rs.length + 1 := by rw [← hmore]; simp
  have hroom : more.length ≤ maxLen := by unfold maxLen; omega
  have hby : more.length * 80 ≤ 140737488355328 := by omega
  have hbase : W0.heap.size ≤ W1.heap.size := by omega
  rw [hz0] at hown hF1
  have H := Lib.hid h; clear h
  have H1 := Lib.hid h1; clear h1
  have Hf := Lib.hid hf; clear hf
  have Hg := Lib.hid hg; clear hg
  have Ho := Lib.hid ho; clear ho
  have HL := Lib.hid hL; clear hL
  have Hb0 := Lib.hid hb0; clear hb0
  have Hbl0 := Lib.hid hbl0; clear hbl0
  have Hb1 := Lib.hid hb1; clear hb1
  have Hb01 := Lib.hid hb01; clear hb01
  have Hcs := Lib.hid hcs; clear hcs
  have Hown := Lib.hid hown; clear hown
  have Hsl1 := Lib.hid hsl1; clear hsl1
  have HF1 := Lib.hid hF1; clear hF1
  have Hml := Lib.hid hml; clear hml
  have Hroom := Lib.hid hroom; clear hroom
  have Hby := Lib.hid hby; clear hby
  have out : ∀ (W : World), Below w.heap.size w W → Calls Tryd.prog 9 #[] W fun e W' => e = .returned (.bool true) ∧ Hid (Below w.heap.size w W') := fun W hW => (alive_calls W (HL.out.later hW)).mono fun e W' hh => ⟨hh.1, hW.trans (hh.2.mono hW.size)⟩
  have Out := Lib.hid out; clear out
  have hbs : w.heap.size + 1 ≤ W1.heap.size := by omega
  clear hmlen
  go_enter Tryd.func4, Tryd.ntmps4
  go_wp2_with (at_builtin; rw [← hW0, ← hW1]; (refine wpList_catB (E := pRul) (xs := [r]) (v := .slice (some ⟨w.heap.size + 1, 0, none⟩) 1 1) (base := w.heap.size + 1) (G := Old w) 22 35 (.agg #[.int .u8 0, .int .i64 0, .int .u8 0, .int .u8 0, .slice none 0 0, .int .i64 0, .slice none 0 0]) 80 (.tmp 15) (.tmp 16) rfl rfl Tryd.underlying22 (by kernel_rfl) rfl (by decide) rfl Hown.out A c rs rfl (Old w) Hsl1.out HF1.out more.length Hml.out Hroom.out Hby.out hbs ?_); intro A2 c2 w2 hown2 hg2; refine Hid.out ?_)
  refine Lib.hid ?_
  rw [hmore] at hown2
  have hbw2 : Below w.heap.size w w2 := Hb01.out.trans (hg2.out.bel.mono (by omega))
  have S2 := Lib.hid (((hown2.out.sl'.2).wide fun q hq => hq.2) : SlAt pRul (Old w2) w2 A2 c2 more)
  have T2 := Lib.hid hbw2; clear hbw2
  have hbl2 := (Hbl0.out.same (Hb1.out.block _ (by omega))).same (hg2.out.bel.block _ (by omega))
  have Bl2 := Lib.hid hbl2; clear hbl2
  have HW0 := Lib.hid hW0; clear hW0
  have HW1 := Lib.hid hW1; clear hW1
  clear Hown Hsl1 HF1 hown2 hg2
  cases hv : validQ more ms
  · go_wp2_with fail
    refine (valid_calls A2 c2 more B cb ms w2 S2.out (H1.out.later T2.out)).mono ?_
    rintro e w3 ⟨rfl, b3⟩
    rw [hv]
    have T3 := Lib.hid (T2.out.trans (b3.mono T2.out.size)); clear b3
    go_wp2_with fail
    refine (Out.out w3 T3.out).mono ?_
    rintro e w4 ⟨rfl, b4⟩
    go_wp2
    go_ret
    exact ⟨rfl, b4.out⟩
  obtain ⟨hs, hr, hw⟩ := validQ_yes hv
  have hsr : Small rs := small_sub hs (fun x hx => by rw [← hmore]; simp [hx]) (by have := hs.l; rw [← hmore] at this; simp at this; omega)
  have hs1 : Small [r] := small_sub hs (fun x hx => by rw [← hmore]; rw [List.mem_singleton] at hx; simp [hx]) (by simp)
  have hlw := check_len hw
  have hcl := countF_le' r.name ms
  obtain ⟨cn, hcn⟩ : ∃ cn : Int, (countF r.name ms : Int) = cn := ⟨_, rfl⟩
  by_cases hc0 : 0 < cn
  · have Hs := Lib.hid hs; clear hs
    have Hr := Lib.hid hr; clear hr
    have Hw := Lib.hid hw; clear hw
    have Hsr := Lib.hid hsr; clear hsr
    have Hs1 := Lib.hid hs1; clear hs1
    go_wp2_with fail
    refine (valid_calls A2 c2 more B cb ms w2 S2.out (H1.out.later T2.out)).mono ?_
    rintro e w3 ⟨rfl, b3⟩
    rw [hv]
    have T3 := Lib.hid (T2.out.trans (b3.mono T2.out.size))
    have x0 := ((Bl2.out.same (b3.block _ (Bl2.out.lt))).cell 0).trans rfl; clear b3
    have hct := count_calls B cb ms r.name w3 (H1.out.later T3.out)
    rw [hcn] at hct
    have Hct := Lib.hid hct; clear hct
    go_wp2_with fail
    refine Hct.out.mono ?_
    rintro e w4 ⟨rfl, b4⟩
    have T4 := Lib.hid (T3.out.trans (b4.mono T3.out.size)); clear b4
    go_wp2_with fail
    refine (Out.out w4 T4.out).mono ?_
    rintro e w5 ⟨rfl, b5⟩
    go_wp2
    go_ret
    exact ⟨rfl, b5.out⟩
  obtain ⟨lal, lst⟩ := still_law (rs := rs) (r := r) (by rw [show r :: rs = more from hmore]; exact hr) hw (by omega)
  rw [show r :: rs = more from hmore] at lal
  obtain ⟨⟨x, e1⟩, hx⟩ : ∃ q, rStepF rs ms = q := ⟨_, rfl⟩
  rw [hx] at lal
  obtain rfl : cn = 0 := by omega
  have cx := fun V (hV : Below w.heap.size w V) => rStep_calls A c rs B cb ms V (H.out.later hV) (H1.out.later hV) hsr
  unfold RStepPost at cx
  rw [hx] at cx
  clear hc0 hcl
  have eb : (e1 == e1) = true := beq_self_eq_true _
  have Hs := Lib.hid hs; clear hs
  have Hr := Lib.hid hr; clear hr
  have Hw := Lib.hid hw; clear hw
  have Hsr := Lib.hid hsr; clear hsr
  have Hs1 := Lib.hid hs1; clear hs1
  have Lal := Lib.hid lal; clear lal
  have Lst := Lib.hid lst; clear lst
  have Cx := Lib.hid cx; clear cx
  have Hx := Lib.hid hx; clear hx
  go_wp2_with fail
  refine (valid_calls A2 c2 more B cb ms w2 S2.out (H1.out.later T2.out)).mono ?_
  rintro e w3 ⟨rfl, b3⟩
  rw [hv]
  have T3 := Lib.hid (T2.out.trans (b3.mono T2.out.size))
  have Bl3 := Lib.hid (Bl2.out.same (b3.block _ (Bl2.out.lt)))
  have S3 := Lib.hid (S2.out.later b3); clear b3 S2 Bl2 hv
  have x0 := (Bl3.out.cell 0).trans rfl
  have hct := count_calls B cb ms r.name w3 (H1.out.later T3.out)
  rw [hcn] at hct
  have Hct := Lib.hid hct; clear hct
  have Hcn := Lib.hid hcn; clear hcn
  go_wp2_with fail
  refine Hct.out.mono ?_
  rintro e w4 ⟨rfl, b4⟩
  have T4 := Lib.hid (T3.out.trans (b4.mono T3.out.size))
  have Bl4 := Lib.hid (Bl3.out.same (b4.block _ (Bl3.out.lt)))
  have S4 := Lib.hid (S3.out.later b4); clear b4 S3 Bl3 x0
  go_wp2_with fail
  refine (Cx.out w4 T4.out).mono ?_
  rintro e w5 ⟨A5, c5, rfl, o5, b5⟩
  have T5 := Lib.hid (T4.out.trans (b5.mono T4.out.size))
  have Bl5 := Lib.hid (Bl4.out.same (b5.block _ (Bl4.out.lt)))
  have S5 := Lib.hid (S4.out.later b5)
  have X5 := Lib.hid (ownF_sl o5); clear b5 o5 S4 Bl4
  have cy := rStep_calls A2 c2 more B cb ms w5 S5.out (H1.out.later T5.out) Hs.out
  unfold RStepPost at cy
  rw [Lal.out] at cy
  have Cy := Lib.hid cy; clear cy
  go_wp2_with fail
  refine Cy.out.mono ?_
  rintro e w6 ⟨A6, c6, rfl, o6, b6⟩
  have T6 := Lib.hid (T5.out.trans (b6.mono T5.out.size))
  have Bl6 := Lib.hid (Bl5.out.same (b6.block _ (Bl5.out.lt)))
  have X56 := Lib.hid (X5.out.later b6)
  have X6 := Lib.hid (ownF_sl o6); clear b6 o6 S5 Bl5 X5
  obtain ⟨y0, y1, y2, y3, y4, y5, y6⟩ := Bl6.out.rul
  have hsl7 := lit_new (E := pRul) (w := w6) (t := 35) (cells := #[.int .u8 r.name, .int .i64 r.arity, .int .u8 r.left, .int .u8 r.right, .slice A3 r.guards.length c3, .int .i64 r.weight, .slice B3 r.out.length d3]) (xs := [r]) ⟨_, [], rfl, rulV_R Hf.out (Hg.out.later T6.out) (Ho.out.later T6.out), rfl⟩ (by unfold maxLen; simp) (n := 1) rfl
  have k7 := bl (w := w6) (.cells #[.int .u8 r.name, .int .i64 r.arity, .int .u8 r.left, .int .u8 r.right, .slice A3 r.guards.length c3, .int .i64 r.weight, .slice B3 r.out.length d3] 35)
  obtain ⟨v7, hv7⟩ : ∃ v7, v7 = w6.alloc (.cells #[.int .u8 r.name, .int .i64 r.arity, .int .u8 r.left, .int .u8 r.right, .slice A3 r.guards.length c3, .int .i64 r.weight, .slice B3 r.out.length d3] 35) := ⟨_, rfl⟩
  rw [← hv7] at hsl7 k7
  have T7 := Lib.hid (T6.out.trans (k7.mono T6.out.size))
  have X57 := Lib.hid (X56.out.later k7)
  have X67 := Lib.hid (X6.out.later k7)
  have cz := rStep_calls (some ⟨w6.heap.size, 0, none⟩) 1 [r] B cb ms v7 hsl7 (H1.out.later T7.out) Hs1.out
  unfold RStepPost at cz
  rw [Lst.out] at cz
  have Cz := Lib.hid cz; clear cz
  have Hsl7 := Lib.hid hsl7; clear hsl7
  clear k7 X56 X6
  go_wp2_with fail
  rw [← hv7]
  refine Cz.out.mono ?_
  rintro e w8 ⟨A8, c8, rfl, o8, b8⟩
  have T8 := Lib.hid (T7.out.trans (b8.mono T7.out.size))
  have X58 := Lib.hid (X57.out.later b8)
  have X68 := Lib.hid (X67.out.later b8)
  have X8 := Lib.hid (ownF_sl o8); clear b8 o8 X57 X67
  have p9 := refSame_calls A5 A6 c5 c6 x x w8 X58.out X68.out
  rw [beq_self_eq_true] at p9
  have P9 := Lib.hid p9; clear p9
  go_wp2_with fail
  refine P9.out.mono ?_
  rintro e w9 ⟨rfl, b9⟩
  have T9 := Lib.hid (T8.out.trans (b9.mono T8.out.size))
  have X89 := Lib.hid (X8.out.later b9); clear b9 X58 X68 X8
  have p10 := refSame_calls A8 B c8 cb ms ms w9 X89.out (H1.out.later T9.out)
  rw [beq_self_eq_true] at p10
  have P10 := Lib.hid p10; clear p10
  go_wp2_with fail
  refine P10.out.mono ?_
  rintro e w10 ⟨rfl, b10⟩
  have T10 := Lib.hid (T9.out.trans (b10.mono T9.out.size)); clear b10
  go_wp2_with fail
  refine (Out.out w10 T10.out).mono ?_
  rintro e w11 ⟨rfl, b11⟩
  go_wp2
  go_ret
  exact ⟨rfl, b11.out⟩
end Go.Proofs.YtmcgfhgpldfknaaDoor
