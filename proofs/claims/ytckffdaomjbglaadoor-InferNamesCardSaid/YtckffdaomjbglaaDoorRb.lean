/-
  Layer 7: the iterator that rewrite.successors hands back: its contract over whatever loop body (the round's word: what is not in the body's footprint lies as it lay).
  NOT FINISHED: the branch where a rule fits (regions 6 to 18) is a sorry; the branch where none fits (region 5) is done.
-/
import Derived.Test.YtckffdaomjbglaaDoorRa
import Derived.Test.YtckffdaomjbglaaDoorFg
import Derived.Test.YtckffdaomjbglaaDoorRj
import Derived.Test.YtckffdaomjbglaaDoorRp
namespace Go.Proofs.YtckffdaomjbglaaDoor
open Go.RowKit Go.Shelf
attribute [local go_sem] Oper.semAt_some

/-- what a step of another leaves: whatever is not in the footprint lies as it lay, and stays out of it -/
structure Kpt (foot : World → Nat → Prop) (W W' : World) : Prop where
  size : W.heap.size ≤ W'.heap.size
  same : ∀ k, k < W.heap.size → ¬ foot W k → W'.heap[k]? = W.heap[k]? ∧ ¬ foot W' k

theorem Kpt.refl {foot : World → Nat → Prop} (W : World) : Kpt foot W W := ⟨Nat.le_refl _, fun _ _ h => ⟨rfl, h⟩⟩
theorem Kpt.trans {foot : World → Nat → Prop} {A B C : World} (h : Kpt foot A B) (k : Kpt foot B C) : Kpt foot A C :=
  ⟨Nat.le_trans h.size k.size, fun i hi hf => by
    have h1 := h.same i hi hf
    have h2 := k.same i (Nat.lt_of_lt_of_le hi h.size) h1.2
    exact ⟨h2.1.trans h1.1, h2.2⟩⟩

/-- what the loop body's state must bear of the iterator's own steps -/
structure Bears (foot : World → Nat → Prop) (J : List (Mod × Bool) → World → Prop) : Prop where
  keep : ∀ pre W W', J pre W → Below W.heap.size W W' → J pre W'
  fewer : ∀ pre W W', J pre W → Below W.heap.size W W' → ∀ k, foot W' k → foot W k
  small : ∀ pre W k, J pre W → foot W k → k < W.heap.size

theorem Bears.kpt {foot : World → Nat → Prop} {J : List (Mod × Bool) → World → Prop} {pre : List (Mod × Bool)} {W W' : World} (h : Bears foot J) (hJ : J pre W) (hb : Below W.heap.size W W') : Kpt foot W W' :=
  ⟨hb.size, fun k hk hf => ⟨hb.block k hk, fun he => hf (h.fewer _ _ _ hJ hb k he)⟩⟩

/-- a slice read in a world that keeps its places -/
theorem SlAt.kpt {α : Type} {E : Rp α} {foot : World → Nat → Prop} {W W' : World} {A : Option Addr} {c : Nat} {xs : List α} (h : SlAt E (fun k => k < W.heap.size ∧ ¬ foot W k) W A c xs) (hk : Kpt foot W W') :
    SlAt E (fun k => k < W'.heap.size ∧ ¬ foot W' k) W' A c xs :=
  (h.keep fun k hf => (hk.same k hf.1 hf.2).1).wide fun k hf => ⟨Nat.lt_of_lt_of_le hf.1 hk.size, (hk.same k hf.1 hf.2).2⟩

theorem SlAt.old {α : Type} {E : Rp α} {foot : World → Nat → Prop} {W : World} {A : Option Addr} {c : Nat} {xs : List α} (h : SlAt E (fun k => k < W.heap.size ∧ ¬ foot W k) W A c xs) : SlAt E (Old W) W A c xs := h.wide fun _ hf => hf.1

/-- the arguments of a module that is yielded: a row of the iterator's own -/
structure YArgs (foot : World → Nat → Prop) (W0 V : World) (D : Option Addr) (d : Nat) (args : List Int) : Prop where
  sl : SlAt (pI .i64) (fun k => (W0.heap.size ≤ k ∧ k < V.heap.size) ∧ ¬ foot V k) V D d args
  unf : args ≠ [] → ∀ b o, D = some ⟨b, o, none⟩ → Unf V b
/-- what an append has made, kept out of the footprint -/
theorem own_yargs {foot : World → Nat → Prop} {J : List (Mod × Bool) → World → Prop} {pre : List (Mod × Bool)} {W0 w w' : World} {e : TypeId} {D : Option Addr} {n d base : Nat} {G : Nat → Prop} {xs : List Int} (hB : Bears foot J) (hJ : J pre w)
    (hb : Below w.heap.size w w') (ho : Own (pI .i64) e base G w' (.slice D n d) xs) (h1 : w.heap.size ≤ base) (h0 : W0.heap.size ≤ w.heap.size) : YArgs foot W0 w' D d xs := by
  obtain ⟨A, c, he, hs⟩ := (ho.flat (pI_flat _) (G' := (base ≤ ·))).fresh
  injection he with e1 e2 e3
  subst e1 e3
  refine ⟨hs.wide fun k hk => ⟨⟨by omega, hk.2⟩, fun hf => ?_⟩, fun _ b o hD => ?_⟩
  · have h2 := hB.fewer _ _ _ hJ hb k hf
    have h3 := hB.small _ _ _ hJ h2
    omega
  · subst hD
    exact own_unf ho

theorem cut_in {fe : Fence} {n : Nat} {P : Program} {c : Code} {a : Act} {w : World} {Q : Exit → Act → World → Prop} (Mid : Act → Exit → Act → World → Prop) (h : c.wpIn fe n P (Mid a) a w) (h2 : ∀ e a' w', Mid a e a' w' → Q e a' w') : c.wpIn fe n P Q a w := wpIn_mono h h2

/-- what region 5 leaves -/
def Mid5 (l g : Nat) (nm : Int) (D : Option Addr) (d k : Nat) (R1 R2 : World → Prop) (a : Act) (e : Exit) (a' : Act) (w' : World) : Prop :=
  e = .normal ∧ ∃ (D4 : Option Addr) (d4 : Nat) (bb : Bool),
    a' = (((((((((a.put (some 25) (.func (.yield l) #[] #[])).put (some 26) (.pointer (some ⟨g, 0, none⟩))).put (some 27) (.int .u8 nm)).put (some 28) (.pointer (some ⟨g, 1, none⟩))).put (some 29) (.slice D k d)).put (some 30) (.slice D4 k d4)).put (some 31) (.agg #[.int .u8 nm, .slice D4 k d4])).put (some 32) (.bool bb)).put (some 33) (.bool !bb)) ∧
    ((bb = true ∧ R1 w') ∨ (bb = false ∧ R2 w'))

set_option maxRecDepth 100000 in
set_option maxHeartbeats 4000000 in
theorem iter_calls {foot : World → Nat → Prop} {J Jx : List (Mod × Bool) → World → Prop} (n l B1 B2 : Nat) (A A' : Option Addr) (c c' : Nat) (rs : List Rul) (ms : List Mod) (W : World) (hn : 2 ≤ n)
    (hB : Bears foot J)
    (hY : ∀ pre (m : Mod) D d (ok : Bool) V, J pre V → pre ++ [(m, ok)] <+: succF rs ms → YArgs foot W V D d m.args →
      YieldAt Fence.wide (n - 1) Tryd.prog l #[.agg #[.int .u8 m.name, .slice D m.args.length d], .bool ok] V fun e V' =>
        (e = .returned (.bool true) ∧ J (pre ++ [(m, ok)]) V' ∧ Kpt foot V V') ∨ (e = .returned (.bool false) ∧ Jx (pre ++ [(m, ok)]) V'))
    (hrs : SlAt pRul (fun k => k < W.heap.size ∧ ¬ foot W k) W A c rs) (hms : SlAt pMod (fun k => k < W.heap.size ∧ ¬ foot W k) W A' c' ms)
    (hb1 : Blk W B1 25 #[.slice A rs.length c]) (hb2 : Blk W B2 22 #[.slice A' ms.length c']) (hf1 : ¬ foot W B1) (hf2 : ¬ foot W B2)
    (hcore : rs.all coreR = true) (hfine : ∀ m ∈ ms, m.args.all argOk = true ∧ m.args.length ≤ 4) (h0 : J [] W) :
    CallsIn Fence.wide n Tryd.prog 62 #[.func (.yield l) #[] #[], .pointer (some ⟨B2, 0, none⟩), .pointer (some ⟨B1, 0, none⟩)] W fun e W' => (∃ v, e = .returned v) ∧
      (J (succF rs ms) W' ∨ ∃ pre, pre <+: succF rs ms ∧ Jx pre W') := by
  have hlm := hms.lenle
  have y2 := hb2.cell 0
  have h0' : Hid (J (succF rs (ms.take 0)) W) := by unfold Hid; simpa [succF] using h0
  have hs1 : B1 < W.heap.size := (Array.getElem?_eq_some_iff.1 hb1).1
  have hs2 : B2 < W.heap.size := (Array.getElem?_eq_some_iff.1 hb2).1
  have HB := Lib.hid hB; clear hB
  have HY := Lib.hid hY; clear hY
  have Hrs := Lib.hid hrs; clear hrs
  have Hms := Lib.hid hms; clear hms
  have Hb1 := Lib.hid hb1; clear hb1
  have Hb2 := Lib.hid hb2; clear hb2
  have Hf1 := Lib.hid hf1; clear hf1
  have Hf2 := Lib.hid hf2; clear hf2
  have Hcore := Lib.hid hcore; clear hcore
  have Hfine := Lib.hid hfine; clear hfine
  have Hs1 := Lib.hid hs1; clear hs1
  have Hs2 := Lib.hid hs2; clear hs2
  clear h0
  have hn1 : 1 ≤ n := by omega
  refine callsIn_of_wp Tryd.func62 rfl trivial ?_ rfl
  simp only [Tryd.ntmps62, List.size_toArray, List.length_cons, List.length_nil, Nat.reduceAdd, Nat.reduceSub, Array.replicate_succ, Array.replicate_zero, List.push_toArray, List.append_toArray, List.nil_append, List.cons_append]
  gi_wp2
  gi_loopw [16] (fun p wr => ∃ k : Nat, k ≤ ms.length ∧ p = .int .i64 k ∧ Hid (J (succF rs (ms.take k)) wr) ∧ Hid (Kpt foot W wr))
    (fun p _ => ms.length - (intOf p).toNat)
  case atStart => exact ⟨0, Nat.zero_le _, rfl, h0', Kpt.refl _⟩
  case round =>
    obtain ⟨k, hkm, rfl, hJ, hKk⟩ := hrel
    obtain ⟨wo, rfl⟩ : ∃ wo : World, wo = wr := ⟨_, rfl⟩
    by_cases hlt : k < ms.length
    case neg =>
      have hk : k = ms.length := by omega
      gi_wp2
      go_end0
      exact ⟨⟨_, rfl⟩, .inl (by have := hJ.out; rw [hk, List.take_length] at this; exact this)⟩
    case pos =>
      obtain ⟨b, o, D, d, m, hd, rfl, hob, q0, q1, hx8, hxa, hxl⟩ := (Hms.out.kpt hKk.out).getMod hlt
      have hm := Hfine.out m (mem_of_drop hd.out)
      have hob' := hob.1
      have z1 : B1 < wo.heap.size := Nat.lt_of_lt_of_le Hs1.out hKk.out.size
      have y1 := (Hb1.out.same (hKk.out.same _ Hs1.out Hf1.out).1).cell 0
      have hbw : Below wo.heap.size wo (wo.alloc (.cells #[.int .u8 m.name, .slice D m.args.length d] 50)) := (Below.refl _ _).alloc (Nat.le_refl _) _
      have hk1 := HB.out.kpt hJ.out hbw
      have hrs1 := (Hrs.out.kpt hKk.out).kpt hk1
      have hxa1 := hxa.out.kpt hk1
      have Hfc := find_calls A c rs D d m _ hrs1.old hxa1.old Hcore.out hm
      have hJ1 := HB.out.keep _ _ _ hJ.out hbw
      have hsn := succF_snoc (rs := rs) hd.out
      clear hob
      have Hm := Lib.hid hm; clear hm
      have Hbw := Lib.hid hbw; clear hbw
      have Hk1 := Lib.hid hk1; clear hk1
      have Hrs1 := Lib.hid hrs1; clear hrs1
      have Hxa1 := Lib.hid hxa1; clear hxa1
      have HJ1 := Lib.hid hJ1; clear hJ1
      have Hsn := Lib.hid hsn; clear hsn
      rcases firstFrom_none (m := m) (rs := rs) (k := 0) with hneg | ⟨j, hj, _, hjl⟩
      · have hneg' : firstF rs m = -1 := hneg
        clear hneg
        rw [hneg'] at Hfc
        have ho : outsF rs m = [(m, true)] := by
          unfold outsF; rw [hneg']; split <;> rfl
        have Hneg' := Lib.hid hneg'; clear hneg'
        have Ho := Lib.hid ho; clear ho
        have hxa1 := Hxa1.out
        gi_wp2_with (refine ⟨trivial, ?_⟩; gi_at_call 63; refine (callsIn_wide.2 Hfc).mono ?_; rintro e w2 ⟨rfl, hbf⟩)
        have hbl2 := (Blk.new wo 50 #[.int .u8 m.name, .slice D m.args.length d]).same (hbf.block _ (by simp))
        have c0 := hbl2.cell 0
        have c1 := hbl2.cell 1
        have hz2 : wo.heap.size < w2.heap.size := Nat.lt_of_lt_of_le (by simp) hbf.size
        have hJ3 := HB.out.keep _ _ _ HJ1.out (below_drew hbf)
        have hk3 := HB.out.kpt HJ1.out (below_drew hbf)
        have hxa3 := Hxa1.out.kpt hk3
        have hpre : succF rs (ms.take k) ++ [(m, true)] <+: succF rs ms := by rw [← Ho.out, ← Hsn.out]; exact succF_prefix _
        have hrm : Room m.args.length := by have := Hm.out.2; unfold Room; omega
        have hmix : Tryd.prog.follows .mixedOrders = true := by kernel_rfl
        obtain ⟨w3, hw3⟩ : ∃ w3, w3 = w2.drew := ⟨_, rfl⟩
        have d0 : w3.cell? ⟨wo.heap.size, 0, none⟩ = some (.int .u8 m.name) := by rw [hw3]; exact c0
        have d1 : w3.cell? ⟨wo.heap.size, 1, none⟩ = some (.slice D m.args.length d) := by rw [hw3]; exact c1
        have hbl3 : Blk w3 wo.heap.size 50 #[.int .u8 m.name, .slice D m.args.length d] := by rw [hw3]; exact hbl2
        have hz3 : wo.heap.size < w3.heap.size := by rw [hw3]; exact hz2
        rw [← hw3] at hJ3 hk3 hxa3
        have hw03 : W.heap.size ≤ w3.heap.size := by have h1 := hKk.out.size; have h2 := Hk1.out.size; have h3 := hk3.size; omega
        have hF3 : ∀ k, (k < w3.heap.size ∧ ¬ foot w3 k) → (k < w3.heap.size ∧ ¬ foot w3 k) ∧ k < w3.heap.size ∧ some k ≠ (Value.slice none 0 0).ownBlock := fun k hk => ⟨hk, hk.1, by simp [Value.ownBlock]⟩
        have HJ3 := Lib.hid hJ3; clear hJ3
        have Hk3 := Lib.hid hk3; clear hk3
        have Hxa3 := Lib.hid hxa3; clear hxa3
        have Hrm := Lib.hid hrm; clear hrm
        have HF3 := Lib.hid hF3; clear hF3
        have Hpre := Lib.hid hpre; clear hpre
        have Hbl3 := Lib.hid hbl3; clear hbl3
        have Hz3 := Lib.hid hz3; clear hz3
        have Hw03 := Lib.hid hw03; clear hw03
        refine cut_in (Mid5 l wo.heap.size m.name D d m.args.length (fun w' => Hid (J (succF rs (ms.take (k + 1))) w') ∧ Hid (Kpt foot W w')) (fun w' => Hid (∃ pre, pre <+: succF rs ms ∧ Jx pre w'))) ?_ ?_
        refine wpIn_region_any hmix ?_
        change wpAnyIn _ _ _ _ _ _ _ _ _ (World.drew w2)
        rw [← hw3]
        clear hw3
        refine wpAnyIn_take (i := 0) (v := ?v0) rfl rfl (by kernel_rfl) (by kernel_rfl) (by kernel_rfl) (fun _ _ _ h => Exit.noConfusion h.1) ⟨Or.inl ⟨by rfl, ?y0⟩, fun _ => rfl⟩ ?r0
        case y0 => intro w; go_simp; with_reducible rfl
        refine wpAnyIn_take (i := 1) (v := ?v1) rfl rfl (by kernel_rfl) (by kernel_rfl) (by kernel_rfl) (fun _ _ _ h => Exit.noConfusion h.1) ⟨Or.inl ⟨by rfl, ?y1⟩, fun _ => rfl⟩ ?r1
        case y1 => intro w; go_simp; with_reducible rfl
        refine wpAnyIn_take (i := 3) (v := ?v3) rfl rfl (by kernel_rfl) (by kernel_rfl) (by kernel_rfl) (fun _ _ _ h => Exit.noConfusion h.1) ⟨Or.inl ⟨by rfl, ?y3⟩, fun _ => rfl⟩ ?r3
        case y3 => intro w; go_simp; with_reducible rfl
        refine wpAnyIn_ready (rs := [2, 4]) (by kernel_rfl) (by simp) ?_
        refine AllReadyIn.cons rfl (fun K hK => ?_) (AllReadyIn.cons rfl (fun K hK => ?_) AllReadyIn.nil)
        · go_simp
          refine hK _ _ ?_
          clear hK K
          refine wpAnyIn_ready (rs := [4]) (by kernel_rfl) (by simp) ?_
          refine AllReadyIn.cons rfl (fun K hK => ?_) AllReadyIn.nil
          go_simp
          refine hK _ _ ?_
          clear hK K
          refine wpAnyIn_ready (rs := [5]) (by kernel_rfl) (by simp) ?_
          refine AllReadyIn.cons rfl (fun K hK => ?_) AllReadyIn.nil
          refine stepIn_catG (E := pI .i64) (xs := []) (v := .slice none 0 0) (base := w3.heap.size) (G := fun k => k < w3.heap.size ∧ ¬ foot w3 k) 48 3 (.int .i64 0) 8 (.const (.slice none 0 0)) (.tmp 29) rfl rfl Tryd.underlying48 (by kernel_rfl) rfl (by decide) rfl Own.nil D d m.args rfl _ Hxa3.out HF3.out m.args.length rfl Hrm.out (by decide) (Nat.le_refl _) ?_
          intro D4 d4 w4 ho4 hg4
          refine hK _ _ ?_
          clear hK K
          have hJ4 := HB.out.keep _ _ _ HJ3.out hg4.out.bel
          have hsl4 := own_yargs (W0 := W) HB.out HJ3.out hg4.out.bel ho4.out (Nat.le_refl _) Hw03.out
          obtain ⟨fn, tm, asg, bd, hy, hR⟩ := HY.out (succF rs (ms.take k)) m D4 d4 true w4 hJ4 Hpre.out hsl4
          have HJ4 := Lib.hid hJ4; clear hJ4
          have Hsl4 := Lib.hid hsl4; clear hsl4
          have HR := Lib.hid hR; clear hR
          refine wpAnyIn_ready (rs := [6]) (by kernel_rfl) (by simp) ?_
          refine AllReadyIn.cons rfl (fun K hK => ?_) AllReadyIn.nil
          go_simp
          refine hK _ _ ?_
          clear hK K
          refine wpAnyIn_ready (rs := [7]) (by kernel_rfl) (by simp) ?_
          refine AllReadyIn.cons rfl (fun K hK => ?_) AllReadyIn.nil
          go_simp
          refine HR.out.mono ?_
          rintro e w5 (⟨rfl, hJ5, hk5⟩ | ⟨rfl, hJx5⟩)
          · refine hK _ _ ?_
            clear hK K hy
            refine wpAnyIn_ready (rs := [8]) (by kernel_rfl) (by simp) ?_
            refine AllReadyIn.cons rfl (fun K hK => ?_) AllReadyIn.nil
            go_simp
            refine hK _ _ ?_
            clear hK K
            refine wpAnyIn_done (by kernel_rfl) ?_ _
            refine ⟨rfl, D4, d4, true, by kernel_rfl, .inl ⟨rfl, ?_, ?_⟩⟩
            · rw [Hsn.out, Ho.out]; exact hJ5
            · exact hKk.out.trans (Hk1.out.trans (Hk3.out.trans ((HB.out.kpt HJ3.out hg4.out.bel).trans hk5)))
          · refine hK _ _ ?_
            clear hK K hy
            refine wpAnyIn_ready (rs := [8]) (by kernel_rfl) (by simp) ?_
            refine AllReadyIn.cons rfl (fun K hK => ?_) AllReadyIn.nil
            go_simp
            refine hK _ _ ?_
            clear hK K
            refine wpAnyIn_done (by kernel_rfl) ?_ _
            exact ⟨rfl, D4, d4, false, by kernel_rfl, .inr ⟨rfl, _, Hpre.out, hJx5⟩⟩
        · go_simp
          refine hK _ _ ?_
          clear hK K
          refine wpAnyIn_ready (rs := [2, 5]) (by kernel_rfl) (by simp) ?_
          refine AllReadyIn.cons rfl (fun K hK => ?_) (AllReadyIn.cons rfl (fun K hK => ?_) AllReadyIn.nil)
          · go_simp
            refine hK _ _ ?_
            clear hK K
            refine wpAnyIn_ready (rs := [5]) (by kernel_rfl) (by simp) ?_
            refine AllReadyIn.cons rfl (fun K hK => ?_) AllReadyIn.nil
            refine stepIn_catG (E := pI .i64) (xs := []) (v := .slice none 0 0) (base := w3.heap.size) (G := fun k => k < w3.heap.size ∧ ¬ foot w3 k) 48 3 (.int .i64 0) 8 (.const (.slice none 0 0)) (.tmp 29) rfl rfl Tryd.underlying48 (by kernel_rfl) rfl (by decide) rfl Own.nil D d m.args rfl _ Hxa3.out HF3.out m.args.length rfl Hrm.out (by decide) (Nat.le_refl _) ?_
            intro D4 d4 w4 ho4 hg4
            refine hK _ _ ?_
            clear hK K
            have hJ4 := HB.out.keep _ _ _ HJ3.out hg4.out.bel
            have hsl4 := own_yargs (W0 := W) HB.out HJ3.out hg4.out.bel ho4.out (Nat.le_refl _) Hw03.out
            obtain ⟨fn, tm, asg, bd, hy, hR⟩ := HY.out (succF rs (ms.take k)) m D4 d4 true w4 hJ4 Hpre.out hsl4
            have HJ4 := Lib.hid hJ4; clear hJ4
            have Hsl4 := Lib.hid hsl4; clear hsl4
            have HR := Lib.hid hR; clear hR
            refine wpAnyIn_ready (rs := [6]) (by kernel_rfl) (by simp) ?_
            refine AllReadyIn.cons rfl (fun K hK => ?_) AllReadyIn.nil
            go_simp
            refine hK _ _ ?_
            clear hK K
            refine wpAnyIn_ready (rs := [7]) (by kernel_rfl) (by simp) ?_
            refine AllReadyIn.cons rfl (fun K hK => ?_) AllReadyIn.nil
            go_simp
            refine HR.out.mono ?_
            rintro e w5 (⟨rfl, hJ5, hk5⟩ | ⟨rfl, hJx5⟩)
            · refine hK _ _ ?_
              clear hK K hy
              refine wpAnyIn_ready (rs := [8]) (by kernel_rfl) (by simp) ?_
              refine AllReadyIn.cons rfl (fun K hK => ?_) AllReadyIn.nil
              go_simp
              refine hK _ _ ?_
              clear hK K
              refine wpAnyIn_done (by kernel_rfl) ?_ _
              refine ⟨rfl, D4, d4, true, by kernel_rfl, .inl ⟨rfl, ?_, ?_⟩⟩
              · rw [Hsn.out, Ho.out]; exact hJ5
              · exact hKk.out.trans (Hk1.out.trans (Hk3.out.trans ((HB.out.kpt HJ3.out hg4.out.bel).trans hk5)))
            · refine hK _ _ ?_
              clear hK K hy
              refine wpAnyIn_ready (rs := [8]) (by kernel_rfl) (by simp) ?_
              refine AllReadyIn.cons rfl (fun K hK => ?_) AllReadyIn.nil
              go_simp
              refine hK _ _ ?_
              clear hK K
              refine wpAnyIn_done (by kernel_rfl) ?_ _
              exact ⟨rfl, D4, d4, false, by kernel_rfl, .inr ⟨rfl, _, Hpre.out, hJx5⟩⟩
          · refine stepIn_catG (E := pI .i64) (xs := []) (v := .slice none 0 0) (base := w3.heap.size) (G := fun k => k < w3.heap.size ∧ ¬ foot w3 k) 48 3 (.int .i64 0) 8 (.const (.slice none 0 0)) (.tmp 29) rfl rfl Tryd.underlying48 (by kernel_rfl) rfl (by decide) rfl Own.nil D d m.args rfl _ Hxa3.out HF3.out m.args.length rfl Hrm.out (by decide) (Nat.le_refl _) ?_
            intro D4 d4 w4 ho4 hg4
            refine hK _ _ ?_
            clear hK K
            have e0 := (Hbl3.out.same (hg4.out.bel.block _ Hz3.out)).cell 0
            refine wpAnyIn_ready (rs := [2]) (by kernel_rfl) (by simp) ?_
            refine AllReadyIn.cons rfl (fun K hK => ?_) AllReadyIn.nil
            go_simp
            refine hK _ _ ?_
            clear hK K
            have hJ4 := HB.out.keep _ _ _ HJ3.out hg4.out.bel
            have hsl4 := own_yargs (W0 := W) HB.out HJ3.out hg4.out.bel ho4.out (Nat.le_refl _) Hw03.out
            obtain ⟨fn, tm, asg, bd, hy, hR⟩ := HY.out (succF rs (ms.take k)) m D4 d4 true w4 hJ4 Hpre.out hsl4
            have HJ4 := Lib.hid hJ4; clear hJ4
            have Hsl4 := Lib.hid hsl4; clear hsl4
            have HR := Lib.hid hR; clear hR
            refine wpAnyIn_ready (rs := [6]) (by kernel_rfl) (by simp) ?_
            refine AllReadyIn.cons rfl (fun K hK => ?_) AllReadyIn.nil
            go_simp
            refine hK _ _ ?_
            clear hK K
            refine wpAnyIn_ready (rs := [7]) (by kernel_rfl) (by simp) ?_
            refine AllReadyIn.cons rfl (fun K hK => ?_) AllReadyIn.nil
            go_simp
            refine HR.out.mono ?_
            rintro e w5 (⟨rfl, hJ5, hk5⟩ | ⟨rfl, hJx5⟩)
            · refine hK _ _ ?_
              clear hK K hy
              refine wpAnyIn_ready (rs := [8]) (by kernel_rfl) (by simp) ?_
              refine AllReadyIn.cons rfl (fun K hK => ?_) AllReadyIn.nil
              go_simp
              refine hK _ _ ?_
              clear hK K
              refine wpAnyIn_done (by kernel_rfl) ?_ _
              refine ⟨rfl, D4, d4, true, by kernel_rfl, .inl ⟨rfl, ?_, ?_⟩⟩
              · rw [Hsn.out, Ho.out]; exact hJ5
              · exact hKk.out.trans (Hk1.out.trans (Hk3.out.trans ((HB.out.kpt HJ3.out hg4.out.bel).trans hk5)))
            · refine hK _ _ ?_
              clear hK K hy
              refine wpAnyIn_ready (rs := [8]) (by kernel_rfl) (by simp) ?_
              refine AllReadyIn.cons rfl (fun K hK => ?_) AllReadyIn.nil
              go_simp
              refine hK _ _ ?_
              clear hK K
              refine wpAnyIn_done (by kernel_rfl) ?_ _
              exact ⟨rfl, D4, d4, false, by kernel_rfl, .inr ⟨rfl, _, Hpre.out, hJx5⟩⟩
        · rintro e a' w6 ⟨rfl, D4, d4, bb, rfl, hpost⟩
          simp only [Act.put, List.setIfInBounds_toArray, List.set_cons_succ, List.set_cons_zero]
          rcases hpost with ⟨rfl, hJ6, hK6⟩ | ⟨rfl, hx6⟩
          · gi_wp2
            exact ⟨⟨k + 1, hlt, rfl, hJ6, hK6⟩, by simp only [intOf]; omega⟩
          · gi_wp2
            refine bodyPost_ret (results_none rfl _ _ _) rfl ?_
            exact ⟨⟨_, rfl⟩, .inr hx6.out⟩
      · have hpos : firstF rs m = (j : Int) := hj
        clear hj
        rw [hpos] at Hfc
        have hjl' : j < rs.length := by omega
        have hnn : ¬ ((j : Int) < 0) := by omega
        have hxa1 := Hxa1.out
        have hrs1 := Hrs1.out
        have Hpos := Lib.hid hpos; clear hpos
        gi_wp2_with (refine ⟨trivial, ?_⟩; gi_at_call 63; refine (callsIn_wide.2 Hfc).mono ?_; rintro e w2 ⟨rfl, hbf⟩; have hk2 := HB.out.kpt HJ1.out hbf; obtain ⟨b3, o3, A1, c1, A2, c2, r, hdr, hA3, hob3, k0, k1, k2, k3, k4, k5, k6, hat, hl1, hl2⟩ := (hrs1.kpt hk2).getRulAt hjl'; subst hA3; have y1' := (Hb1.out.same (((hKk.out.trans Hk1.out).trans hk2).same _ Hs1.out Hf1.out).1).cell 0)
        have hJ2 := HB.out.keep _ _ _ HJ1.out hbf
        have hKw := hKk.out.trans (Hk1.out.trans hk2)
        have hxa2 := Hxa1.out.kpt hk2
        have hso2 := hat.out.so
        have hzo2 : wo.heap.size < w2.heap.size := Nat.lt_of_lt_of_le (by simp) hbf.size
        have hbl2 := (Blk.new wo 50 #[.int .u8 m.name, .slice D m.args.length d]).same (hbf.block _ (by simp))
        have hnf2 : ¬ foot w2 wo.heap.size := fun hf => by
          have h1 := HB.out.fewer _ _ _ HJ1.out hbf _ hf
          have h2 := HB.out.fewer _ _ _ hJ.out Hbw.out _ h1
          have h3 := HB.out.small _ _ _ hJ.out h2
          omega
        obtain ⟨r', hr', hfit, hou⟩ : ∃ r', rs[j]? = some r' ∧ fitsF r' m = true ∧ outsF rs m = r'.out.map (outF m.args) := by
          rcases outsF_cases rs m with ⟨h1, _⟩ | ⟨j', r', h1, h2, h3, h4⟩
          · have := Hpos.out; omega
          · have : j' = j := by have := Hpos.out; omega
            subst this
            exact ⟨r', h2, h3, h4⟩
        have hrr : r' = r := by have h1 := get_of_drop hdr.out; rw [h1] at hr'; exact (Option.some.inj hr').symm
        subst hrr
        have hco : coreR r' = true := List.all_eq_true.1 Hcore.out r' (mem_of_drop hdr.out)
        have har : r'.arity = (m.args.length : Int) := by
          unfold fitsF at hfit
          simp only [Bool.and_eq_true, beq_iff_eq] at hfit
          exact hfit.1.2
        have hsum : ∀ s ∈ r'.out, ∀ f ∈ s.args, SumOk f m.args := fun s hs f hf => by
          have h1 := (fineR_guards hco).2.2.2 s hs f hf
          rw [har, Int.toNat_natCast] at h1
          exact sumOk h1 Hm.out.1 Hm.out.2
        have hsl4 : ∀ s ∈ r'.out, s.args.length ≤ 4 := fun s hs => by
          have h1 := List.all_eq_true.1 (checkF_iff.1 (core_out hco).1).2.1 _ (List.mem_map.2 ⟨s, hs, rfl⟩)
          have h2 := (fine_args h1).2
          simpa using h2
        have hpre : succF rs (ms.take k) ++ r'.out.map (outF m.args) <+: succF rs ms := by rw [← hou, ← Hsn.out]; exact succF_prefix _
        have hsn' : succF rs (ms.take (k + 1)) = succF rs (ms.take k) ++ r'.out.map (outF m.args) := by rw [Hsn.out, hou]
        have hJ0 : J (succF rs (ms.take k) ++ (r'.out.take 0).map (outF m.args)) w2 := by simpa using hJ2
        have hw02 : W.heap.size ≤ w2.heap.size := hKw.size
        have HJ2 := Lib.hid hJ2; clear hJ2
        have HKw := Lib.hid hKw; clear hKw
        have Hxa2 := Lib.hid hxa2; clear hxa2
        have Hso2 := Lib.hid hso2; clear hso2
        have Hbl2 := Lib.hid hbl2; clear hbl2
        have Hnf2 := Lib.hid hnf2; clear hnf2
        have Hou := Lib.hid hou; clear hou
        have Hco := Lib.hid hco; clear hco
        have Har := Lib.hid har; clear har
        have Hsum := Lib.hid hsum; clear hsum
        have Hsl4 := Lib.hid hsl4; clear hsl4
        have Hpre := Lib.hid hpre; clear hpre
        have Hsn' := Lib.hid hsn'; clear hsn'
        have HJ0 := Lib.hid hJ0; clear hJ0
        have Hbf := Lib.hid hbf; clear hbf
        have Hk2 := Lib.hid hk2; clear hk2
        have Hfit := Lib.hid hfit; clear hfit
        have Hr' := Lib.hid hr'; clear hr'
        clear k0 k1 k2 k3 k4 k5 k6 y1' hrs1 hxa1 Hfc hob3 hnn
        gi_loopw [40] (fun p wr => ∃ k2 : Nat, k2 ≤ r'.out.length ∧ p = .int .i64 k2 ∧ Hid (J (succF rs (ms.take k) ++ (r'.out.take k2).map (outF m.args)) wr) ∧ Hid (Kpt foot w2 wr))
          (fun p _ => r'.out.length - (intOf p).toNat)
        case atStart => exact ⟨0, Nat.zero_le _, rfl, HJ0, Kpt.refl _⟩
        case round =>
          obtain ⟨k2, hk2m, rfl, hJp, hKp⟩ := hrel
          obtain ⟨wp, rfl⟩ : ∃ wp : World, wp = wr := ⟨_, rfl⟩
          by_cases hlt2 : k2 < r'.out.length
          case neg =>
            have hk : k2 = r'.out.length := by omega
            have hJe : J (succF rs (ms.take (k + 1))) wp := by have := hJp.out; rw [hk, List.take_length, ← Hsn'.out] at this; exact this
            have hKe := HKw.out.trans hKp.out
            have HJe := Lib.hid hJe; clear hJe
            have HKe := Lib.hid hKe; clear hKe
            gi_wp2
            exact ⟨⟨k + 1, hlt, rfl, HJe, HKe⟩, by simp only [intOf]; omega⟩
          case pos =>
            obtain ⟨b4, o4, As, cs, s, hds, hA4, hob4, s0, s1, hs8, hsa, hsl⟩ := (Hso2.out.kpt hKp.out).getShp hlt2
            subst hA4
            have hsm := mem_of_drop hds.out
            have hs4 := Hsl4.out s hsm
            have hzp : w2.heap.size ≤ wp.heap.size := hKp.out.size
            have hzop : wo.heap.size < wp.heap.size := by omega
            have hblp := Hbl2.out.same (hKp.out.same _ hzo2 Hnf2.out).1
            have hxap := Hxa2.out.kpt hKp.out
            obtain ⟨wq0, hwq⟩ : ∃ wq, wq = (wp.alloc (.cells #[.int .u8 s.name, .slice As s.args.length cs] 45)).alloc (.cells #[.int .u8 s.name, .slice none 0 0] 50) := ⟨_, rfl⟩
            have hbq0 : Below wp.heap.size wp wq0 := by rw [hwq]; exact ((Below.refl _ _).alloc (Nat.le_refl _) _).alloc (by simp) _
            have hzq0 : wp.heap.size + 2 ≤ wq0.heap.size := by rw [hwq]; simp
            have hbs0 : Blk wq0 wp.heap.size 45 #[.int .u8 s.name, .slice As s.args.length cs] := by rw [hwq]; exact (Blk.new _ _ _).alloc _
            have hbm0 : Blk wq0 (wp.heap.size + 1) 50 #[.int .u8 s.name, .slice none 0 0] := by
              rw [hwq]
              have := Blk.new (wp.alloc (.cells #[.int .u8 s.name, .slice As s.args.length cs] 45)) 50 #[.int .u8 s.name, .slice none 0 0]
              rwa [show (wp.alloc (.cells #[.int .u8 s.name, .slice As s.args.length cs] 45)).heap.size = wp.heap.size + 1 from by simp] at this
            have how0 : Own (pI .i64) 3 (wp.heap.size + 2) (fun _ => False) wq0 (.slice none 0 0) ((s.args.take 0).map fun f => worthF f m.args) := Own.nil
            have hszl : ((s.args.length : Nat) : Int) ≤ 4 := by omega
            have Hsm := Lib.hid hsm; clear hsm
            have Hblp := Lib.hid hblp; clear hblp
            have Hxap := Lib.hid hxap; clear hxap
            have Hbq0 := Lib.hid hbq0; clear hbq0
            have Hbs0 := Lib.hid hbs0; clear hbs0
            have Hbm0 := Lib.hid hbm0; clear hbm0
            have How0 := Lib.hid how0; clear how0
            have Hds := Lib.hid hds; clear hds
            gi_wp2
            rw [← hwq]
            have Hwq := Lib.hid hwq; clear hwq
            clear s0 s1
            gi_loopw [50, 10] (fun p okv wr => ∃ (k3 : Nat) (Dv : Option Addr) (dv : Nat), k3 ≤ s.args.length ∧ p = .int .i64 k3 ∧ okv = .bool ((s.args.take k3).all (fun f => argOk (worthF f m.args))) ∧ Hid (Below wp.heap.size wp wr) ∧ wp.heap.size + 2 ≤ wr.heap.size ∧
              Hid (Blk wr wp.heap.size 45 #[.int .u8 s.name, .slice As s.args.length cs]) ∧ Hid (Blk wr (wp.heap.size + 1) 50 #[.int .u8 s.name, .slice Dv k3 dv]) ∧
              Hid (Own (pI .i64) 3 (wp.heap.size + 2) (fun _ => False) wr (.slice Dv k3 dv) ((s.args.take k3).map fun f => worthF f m.args))) (fun p _ _ => s.args.length - (intOf p).toNat)
            case atStart => exact ⟨0, none, 0, Nat.zero_le _, rfl, rfl, Hbq0, hzq0, Hbs0, Hbm0, How0⟩
            case round =>
              obtain ⟨k3, Dv, dv, hk3m, rfl, rfl, hbq, hzq, hbs, hbm, how⟩ := hrel
              obtain ⟨wq, rfl⟩ : ∃ wq : World, wq = wr := ⟨_, rfl⟩
              by_cases hlt3 : k3 < s.args.length
              case neg =>
                obtain rfl : k3 = s.args.length := by omega
                have hJq := HB.out.keep _ _ _ hJp.out hbq.out
                have how' := how.out
                rw [List.take_length] at how'
                have hya := own_yargs (W0 := W) HB.out hJp.out hbq.out how' (by omega) (by omega)
                obtain ⟨okb, hokb⟩ : ∃ okb, (s.args.take s.args.length).all (fun f => argOk (worthF f m.args)) = okb := ⟨_, rfl⟩
                have hout : outF m.args s = (⟨s.name, s.args.map fun f => worthF f m.args⟩, okb) := by unfold outF; rw [← hokb, List.take_length]
                have htk : succF rs (ms.take k) ++ (r'.out.take k2).map (outF m.args) ++ [(⟨s.name, s.args.map fun f => worthF f m.args⟩, okb)] = succF rs (ms.take k) ++ (r'.out.take (k2 + 1)).map (outF m.args) := by
                  rw [take_of_drop Hds.out, List.map_append, List.append_assoc, List.map_singleton, hout]
                have hpx : succF rs (ms.take k) ++ (r'.out.take (k2 + 1)).map (outF m.args) <+: succF rs ms :=
                  List.IsPrefix.trans ((List.prefix_append_right_inj _).2 ((List.take_prefix _ _).map _)) Hpre.out
                obtain ⟨fn, tm, asg, bd, hy, hR⟩ := HY.out _ ⟨s.name, s.args.map fun f => worthF f m.args⟩ Dv dv okb wq hJq (by rw [htk]; exact hpx) hya
                simp only [List.length_map] at hy hR
                rw [htk] at hR
                rw [hokb]
                have x0 := hbm.out.cell 0
                have x1 := hbm.out.cell 1
                have hkq := HB.out.kpt hJp.out hbq.out
                have HJq := Lib.hid hJq; clear hJq
                have Hya := Lib.hid hya; clear hya
                have Hout := Lib.hid hout; clear hout
                have Htk := Lib.hid htk; clear htk
                have Hpx := Lib.hid hpx; clear hpx
                have Hokb := Lib.hid hokb; clear hokb
                have HR := Lib.hid hR; clear hR
                have Hkq := Lib.hid hkq; clear hkq
                clear how'
                gi_wp2
                refine HR.out.mono ?_
                rintro e w5 (⟨rfl, hJ5, hk5⟩ | ⟨rfl, hJx5⟩)
                · have hk6 := hKp.out.trans (Hkq.out.trans hk5)
                  clear hy
                  have HJ5 := Lib.hid hJ5; clear hJ5
                  have Hk6 := Lib.hid hk6; clear hk6
                  have Hk5 := Lib.hid hk5; clear hk5
                  gi_wp2
                  exact ⟨⟨k2 + 1, hlt2, rfl, HJ5, Hk6⟩, by simp only [intOf]; omega⟩
                · clear hy
                  have HJx5 := Lib.hid hJx5; clear hJx5
                  gi_wp2
                  refine bodyPost_ret (results_none rfl _ _ _) rfl ?_
                  exact ⟨⟨_, rfl⟩, .inr ⟨_, Hpx.out, HJx5.out⟩⟩
              case pos =>
                obtain ⟨b6, o6, A6, c6, f, hdf, rfl, hob6, f0, f1, hfc, hfa, hfl⟩ := (hsa.out.keep fun q hq => hbq.out.block q hq.1).getFrm hlt3
                have hob6' : b6 < wq.heap.size := by have := hob6.1; omega
                have hblq := Hblp.out.same (hbq.out.block _ hzop)
                have hw9 : wo.heap.size < wq.heap.size := by omega
                have hw8 : wp.heap.size < wq.heap.size := by omega
                have y0 := hblq.cell 0
                have y1q := hblq.cell 1
                have u0 := hbs.out.cell 0
                have u1 := hbs.out.cell 1
                have hok := Hsum.out s Hsm.out f (mem_of_drop hdf.out)
                have hbd := worth_bd hok
                have hcall : ∀ Wx : World, Below wq.heap.size wq Wx → Calls Tryd.prog 64 #[.agg #[.int .i64 f.const, .slice A6 f.coefs.length c6], .slice D m.args.length d] Wx (IntPost (worthF f m.args) Wx) := fun Wx hW =>
                  worth_calls (F := fun q => q < wp.heap.size ∧ ¬ foot wp q) A6 c6 f D d m.args Wx (hfa.out.keep fun q hq => hW.block q (by have := hq.1; omega)) ((Hxap.out.keep fun q hq => hbq.out.block q hq.1).keep fun q hq => hW.block q (by have := hq.1; omega)) (fun q hq => by have := hq.1; have := hW.size; omega) hok
                obtain ⟨v, hvv⟩ : ∃ v, worthF f m.args = v := ⟨_, rfl⟩
                rw [hvv] at hbd hcall
                obtain ⟨okb, hokb⟩ : ∃ okb, (s.args.take k3).all (fun f => argOk (worthF f m.args)) = okb := ⟨_, rfl⟩
                rw [hokb]
                have hoks : (s.args.take (k3 + 1)).all (fun f => argOk (worthF f m.args)) = (okb && argOk v) := by
                  rw [take_of_drop hdf.out, List.all_append, hokb, List.all_cons, hvv, List.all_nil, Bool.and_true]
                have hvs : (s.args.take (k3 + 1)).map (fun f => worthF f m.args) = (s.args.take k3).map (fun f => worthF f m.args) ++ [v] := by
                  rw [take_of_drop hdf.out, List.map_append, List.map_singleton, hvv]
                have Hcall := Lib.hid hcall; clear hcall
                have Hok := Lib.hid hok; clear hok
                have Hvv := Lib.hid hvv; clear hvv
                have Hvs := Lib.hid hvs; clear hvs
                clear hl1 hl2 hjl
                gi_wp2_with (refine ⟨trivial, ?_⟩; gi_at_call 64; refine (callsIn_wide.2 (Hcall.out _ ((Below.refl _ _).alloc (Nat.le_refl _) _))).mono ?_; rintro e w5 ⟨rfl, hb5⟩; refine Hid.out ?_)
                refine Lib.hid ?_
                have hbx5 : Below wq.heap.size wq w5 := ((Below.refl _ _).alloc (Nat.le_refl _) _).trans (hb5.mono (by simp))
                have hz5 := hbx5.size
                have hbm5 := hbm.out.same (hbx5.block _ (by omega))
                have hbs5 := hbs.out.same (hbx5.block _ hw8)
                have how5 := how.out.later hbx5
                have x1 := hbm5.cell 1
                have hbp5 : Below wp.heap.size wp w5 := hbq.out.trans (hbx5.mono (by omega))
                have hne5 : some (wp.heap.size + 1) ≠ (Value.slice Dv k3 dv).ownBlock := fun he => by have := how.out.lt _ he.symm; omega
                have hRv : (pI .i64).R (fun _ => False) w5 (Value.int .i64 v).cells.toList v := ⟨rfl, fits_i64 (by omega)⟩
                have hln5 : ((s.args.take k3).map fun f => worthF f m.args).length + 1 = k3 + 1 := by rw [List.length_map, List.length_take]; omega
                have hrm5 : Room ((s.args.take k3).map fun f => worthF f m.args).length := room_of (by rw [List.length_map, List.length_take]; omega)
                have hba5 : wp.heap.size + 2 ≤ w5.heap.size := by omega
                have hlt5 : wp.heap.size + 1 < w5.heap.size := by omega
                have Hbx5 := Lib.hid hbx5; clear hbx5
                have Hbm5 := Lib.hid hbm5; clear hbm5
                have Hbs5 := Lib.hid hbs5; clear hbs5
                have How5 := Lib.hid how5; clear how5
                have Hbp5 := Lib.hid hbp5; clear hbp5
                have Hne5 := Lib.hid hne5; clear hne5
                have HRv := Lib.hid hRv; clear hRv
                have Hln5 := Lib.hid hln5; clear hln5
                have Hrm5 := Lib.hid hrm5; clear hrm5
                clear hb5 y0 y1q u0 u1 f0 f1
                have hfin : ∀ (bb : Bool) (A7 : Option Addr) (c7 : Nat) (w7 : World), (okb && argOk v) = bb →
                    Hid (Own (pI .i64) 3 (wp.heap.size + 2) (fun _ => False) w7 (.slice A7 (k3 + 1) c7) (((s.args.take k3).map fun f => worthF f m.args) ++ [v])) → Hid (Grew (wp.heap.size + 2) w5 w7 (.slice Dv k3 dv) (.slice A7 (k3 + 1) c7)) →
                    (∃ (k4 : Nat) (Dw : Option Addr) (dw : Nat), k4 ≤ s.args.length ∧ Value.int .i64 (k3 + 1) = .int .i64 k4 ∧ Value.bool bb = .bool ((s.args.take k4).all (fun f => argOk (worthF f m.args))) ∧ Hid (Below wp.heap.size wp (w7.setCell ⟨wp.heap.size + 1, 1, none⟩ (.slice A7 (k3 + 1) c7))) ∧ wp.heap.size + 2 ≤ (w7.setCell ⟨wp.heap.size + 1, 1, none⟩ (.slice A7 (k3 + 1) c7)).heap.size ∧
                      Hid (Blk (w7.setCell ⟨wp.heap.size + 1, 1, none⟩ (.slice A7 (k3 + 1) c7)) wp.heap.size 45 #[.int .u8 s.name, .slice (some ⟨b6, o6, none⟩) s.args.length cs]) ∧ Hid (Blk (w7.setCell ⟨wp.heap.size + 1, 1, none⟩ (.slice A7 (k3 + 1) c7)) (wp.heap.size + 1) 50 #[.int .u8 s.name, .slice Dw k4 dw]) ∧
                      Hid (Own (pI .i64) 3 (wp.heap.size + 2) (fun _ => False) (w7.setCell ⟨wp.heap.size + 1, 1, none⟩ (.slice A7 (k3 + 1) c7)) (.slice Dw k4 dw) ((s.args.take k4).map fun f => worthF f m.args))) := by
                  intro bb A7 c7 w7 hbb ho7 hg7
                  have hz7 := hg7.out.bel.size
                  have hs7 : (w7.setCell ⟨wp.heap.size + 1, 1, none⟩ (.slice A7 (k3 + 1) c7)).heap.size = w7.heap.size := by simp [World.setCell]
                  have hne7 : wp.heap.size ≠ wp.heap.size + 1 := by omega
                  refine ⟨k3 + 1, A7, c7, hlt3, rfl, by rw [hoks, hbb], ?_, by omega, ?_, ?_, ?_⟩
                  · exact (Hbp5.out.trans (hg7.out.bel.mono (by omega))).setCell (by show wp.heap.size ≤ wp.heap.size + 1; omega) _
                  · exact Hbs5.out.same ((Below.heap_setCell _ _ _ _ hne7).trans (hg7.out.bel.block _ (by omega)))
                  · have := (Hbm5.out.same (hg7.out.oth _ hlt5 Hne5.out)).set 1 (.slice A7 (k3 + 1) c7)
                    unfold Hid
                    simpa using this
                  · unfold Hid
                    rw [Hvs.out]
                    refine ho7.out.keepG (fun q hq hG => Below.heap_setCell _ _ _ _ ?_) (by omega)
                    rcases hG with hG | hG
                    · exact hG.elim
                    · have := ho7.out.lt q hG
                      show q ≠ wp.heap.size + 1
                      omega
                have hcases : (okb && argOk v) = false ∧ okb = false ∨ okb = true ∧ (((okb && argOk v) = false ∧ ¬ -1000000000 ≤ v) ∨ (-1000000000 ≤ v ∧ (((okb && argOk v) = false ∧ ¬ v ≤ 1000000000) ∨ ((okb && argOk v) = true ∧ v ≤ 1000000000)))) := by
                  cases okb
                  · exact .inl ⟨rfl, rfl⟩
                  · refine .inr ⟨rfl, ?_⟩
                    by_cases h1 : -1000000000 ≤ v
                    · refine .inr ⟨h1, ?_⟩
                      by_cases h2 : v ≤ 1000000000
                      · exact .inr ⟨by rw [argOk_yes (by omega) (by omega)]; rfl, h2⟩
                      · exact .inl ⟨by rw [argOk_no (by omega)]; rfl, h2⟩
                    · exact .inl ⟨by rw [argOk_no (by omega)]; rfl, h1⟩
                have Hfin := Lib.hid hfin; clear hfin
                have Hokb := Lib.hid hokb; clear hokb
                rcases hcases with ⟨hb9, rfl⟩ | ⟨rfl, (⟨hb9, h1⟩ | ⟨h1, (⟨hb9, h2⟩ | ⟨hb9, h2⟩)⟩)⟩
                all_goals
                  have Hb9 := Lib.hid hb9; clear hb9
                  gi_wp2_with ((with_reducible show wpListIn _ _ _ _ _ (Oper.mk (some 70) _ _ _ _ _ :: _) _ _); refine wpListIn_pushG (E := pI .i64) (xs := (s.args.take k3).map fun f => worthF f m.args) (v := .slice Dv k3 dv) (base := wp.heap.size + 2) (G := fun _ => False) 48 3 (.int .i64 0) 8 70 (.tmp 68) (.tmp 69) rfl rfl rfl rfl rfl Tryd.underlying48 (by kernel_rfl) rfl (by decide) (fun _ => rfl) (fun _ => rfl) How5.out (.int .i64 v) rfl v (fun _ => False) HRv.out (fun _ h => h.elim) (k3 + 1) Hln5.out Hrm5.out ⟨by decide, by decide⟩ hba5 ?_; intro A7 c7 w7 hown7 hg7; have hbm7 := Hbm5.out.same (hg7.out.oth _ hlt5 Hne5.out); have x7 := hbm7.cell 1; have f7 := hbm7.free 1; have Hbm7 := Lib.hid hbm7; clear hbm7)
                  exact ⟨Hfin.out _ _ _ _ Hb9.out hown7 hg7, by simp only [intOf]; omega⟩
end Go.Proofs.YtckffdaomjbglaaDoor
