/-
  Layer 42: the walk of best.
-/
import Derived.Test.YtckffdaomjbglaaDoorIm
import Derived.BigRegion
import Derived.RegionTactic
import Derived.Deep.RegionHeld3
import Derived.Deep.LoopGhost
namespace Go.Proofs.YtckffdaomjbglaaDoor
open Go.RowKit Go.Sort Go.BigFrame Go.Maps
set_option linter.unusedVariables false

abbrev MapU (w : World) (b n : Nat) (D : DataW Unit) : Prop := w.ownsMap Tryd.prog 57 (plainElem Tryd.prog 3) b n D
theorem mapU_later {w w' : World} {b n : Nat} {D : DataW Unit} (h : MapU w b n D) (hg : w'.heap[b]? = w.heap[b]?) : MapU w' b n D := by
  obtain ⟨es, clock, h1, h2⟩ := h
  exact ⟨es, clock, hg.trans h1, h2⟩
theorem below_grown {B g : Nat} {a w w' : World} (h : Below B a w) (hg : w.grownBy w' (some g)) (hB : B ≤ g) (hs : B ≤ w.heap.size) : Below B a w' :=
  ⟨hg.os.trans h.os, hg.tape.trans h.tape, hg.output.trans h.output, Nat.le_trans h.size hg.size, fun i hi => (hg.block i (by omega) (fun e => by have := Option.some.inj e; omega)).trans (h.block i hi)⟩
theorem grown_set {w : World} {b : Nat} (o : Obj) : w.grownBy (Go.ChangeMaps.setBlock w b o) (some b) :=
  ⟨rfl, rfl, rfl, by simp [Go.ChangeMaps.setBlock], fun i _ hi => by
    have : b ≠ i := fun e => hi (by rw [e])
    simp [Go.ChangeMaps.setBlock, this]⟩
theorem grown_drew (w : World) (g : Nat) : w.grownBy w.drew (some g) := ⟨rfl, rfl, rfl, Nat.le_refl _, fun _ _ _ => rfl⟩
theorem mapIs_at {D : DataW Unit} {f : Int → Int → Option Int} (h : MapIs D f) {a b : Int} (ha : Fits .u8 a) (hb : Fits .u8 b) : D.atKey (prL a b) (.lit (.int .i64 0)) = .lit (.int .i64 ((f a b).getD 0)) := by
  have := h.2 a b ha hb
  cases hf : f a b with
  | none => rw [hf] at this; exact atKey_of_not_has this _
  | some c => rw [hf] at this; exact this.2 _
theorem mapIs_has {D : DataW Unit} {f : Int → Int → Option Int} (h : MapIs D f) {a b : Int} (ha : Fits .u8 a) (hb : Fits .u8 b) : Maps.has D (prL a b) = (f a b).isSome := by
  have := h.2 a b ha hb
  cases hf : f a b with
  | none => rw [hf] at this; exact this
  | some c => rw [hf] at this; exact this.1
theorem results_arr_tmp {fn : Func} {p u : Tmp} {ty : TypeId} (h : fn.results = #[.cell p ty, .tmp u]) (tmps : Array Value) (P : Program) (w : World) (g : Nat) (t : TypeId) (cs : Array Value) {n e}
    (hp : tmps.getD p undef = .pointer (some ⟨g, 0, none⟩)) (hg : Blk w g t cs) (hu : P.underlying ty = some (.array n e)) (hi : (P.info? ty).map (·.size) = some cs.size) :
    (results fn tmps).run P w = .ok (.tuple #[.agg cs, tmps.getD u undef]) w := by
  rw [results_cell_tmp h, hp]
  simp only [asAddr, Sem.run_pure, Result.andThen_ok, run_loadVar_row w g t ty cs (0, 0) _ hg hu rfl hi]
theorem blk_two {w : World} {g : Nat} {t : TypeId} {a0 a1 : Value} (h : Blk w g t #[a0, a1]) (v0 v1 : Value) : Blk ((w.setCell ⟨g, 0, none⟩ v0).setCell ⟨g, 1, none⟩ v1) g t #[v0, v1] := by
  have := (h.set 0 v0).set 1 v1
  simpa using this
theorem grown_cell (w : World) (g i : Nat) (v : Value) : w.grownBy (w.setCell ⟨g, i, none⟩ v) (some g) :=
  ⟨rfl, rfl, rfl, by simp [World.setCell], fun k _ hk => Below.heap_setCell _ _ _ _ (fun e => hk (by rw [e]))⟩
def BestP (l : List Int) (w : World) (e : Ending) (w' : World) : Prop :=
  ∃ a b n, e = .returned (.tuple #[.agg #[.int .u8 a, .int .u8 b], .int .i64 n]) ∧ Hid (BestOf (PairAt l l.length) (fun u v => cntR u v l) a b n) ∧ Fits .u8 a ∧ Fits .u8 b ∧ 0 ≤ n ∧ n ≤ l.length ∧ Below w.heap.size w w'
set_option maxRecDepth 100000 in
set_option maxHeartbeats 4000000 in
theorem best_calls (A : Option Addr) (c : Nat) (l : List Int) (w : World) (h : SlAt (pI .u8) (Old w) w A c l) (hl : l.length ≤ 100000) (hp : ∀ x ∈ l, brkB x = !plainC x) :
    Calls Tryd.prog 24 #[.slice A l.length c] w (BestP l w) := by
  have hmx := h.lenle
  have hfit := h.fits
  have hmm := @run_makeMap Tryd.prog
  obtain ⟨W0, hW0⟩ : ∃ W0, W0 = ((w.alloc (.cells #[.int .u8 0, .int .u8 0] 57)).alloc (.map #[] 0)).alloc (.map #[] 0) := ⟨_, rfl⟩
  have hb0 : Below w.heap.size w W0 := by rw [hW0]; exact (((Below.refl _ _).alloc (Nat.le_refl _) _).alloc (by simp) _).alloc (by simp; omega) _
  have hz0 : W0.heap.size = w.heap.size + 3 := by rw [hW0]; simp
  have hbk0 : Blk W0 w.heap.size 57 #[.int .u8 0, .int .u8 0] := by rw [hW0]; exact ((Blk.new _ _ _).alloc _).alloc _
  have hm1 : MapU W0 (w.heap.size + 1) 0 (.map []) := by
    rw [hW0]
    have := World.ownsMap_made (H := Unit) (w.alloc (.cells #[.int .u8 0, .int .u8 0] 57)) Tryd.prog 57 (plainElem Tryd.prog 3)
    have e1 : (w.alloc (.cells #[.int .u8 0, .int .u8 0] 57)).heap.size = w.heap.size + 1 := by simp
    rw [e1] at this
    exact this.alloc _
  have hm2 : MapU W0 (w.heap.size + 1 + 1) 0 (.map []) := by
    rw [hW0]
    have := World.ownsMap_made (H := Unit) ((w.alloc (.cells #[.int .u8 0, .int .u8 0] 57)).alloc (.map #[] 0)) Tryd.prog 57 (plainElem Tryd.prog 3)
    have e1 : ((w.alloc (.cells #[.int .u8 0, .int .u8 0] 57)).alloc (.map #[] 0)).heap.size = w.heap.size + 1 + 1 := by simp
    rw [e1] at this
    exact this
  have hc0 := CntAt.zero l
  have hd0 : MapIs (.map [] : DataW Unit) (fun _ _ => none) := MapIs.empty
  have hz0' : w.heap.size + 3 ≤ W0.heap.size := by omega
  clear hz0
  have H := Lib.hid h; clear h
  have Hfit := Lib.hid hfit; clear hfit
  have Hb0 := Lib.hid hb0; clear hb0
  have Hbk0 := Lib.hid hbk0; clear hbk0
  have Hm1 := Lib.hid hm1; clear hm1
  have Hm2 := Lib.hid hm2; clear hm2
  have Hc0 := Lib.hid hc0; clear hc0
  have Hd0 := Lib.hid hd0; clear hd0
  have Hp := Lib.hid hp; clear hp
  go_enter Tryd.func24, Tryd.ntmps24
  go_wp2
  rw [← hW0]
  have HW0 := Lib.hid hW0; clear hW0
  go_loopw [6] (fun i wr => ∃ (k : Nat) (D1 D2 : DataW Unit) (cf lf : Int → Int → Option Int), k ≤ l.length ∧ i = .int .i64 k ∧ Hid (Below w.heap.size w wr) ∧ w.heap.size + 3 ≤ wr.heap.size ∧ Hid (Blk wr w.heap.size 57 #[.int .u8 0, .int .u8 0]) ∧
    Hid (MapU wr (w.heap.size + 1) k D1) ∧ Hid (MapU wr (w.heap.size + 1 + 1) k D2) ∧ Hid (MapIs D1 cf) ∧ Hid (MapIs D2 lf) ∧ Hid (CntAt l k cf lf)) (fun i _ => l.length - (intOf i).toNat)
  case atStart => exact ⟨0, _, _, _, _, Nat.zero_le _, rfl, Hb0, hz0', Hbk0, Hm1, Hm2, Hd0, Hd0, Hc0⟩
  case round =>
    obtain ⟨k, D1, D2, cf, lf, hk, rfl, hb, hsz, hbk, hm1, hm2, hd1, hd2, hca⟩ := hrel
    obtain ⟨wo, rfl⟩ : ∃ wo : World, wo = wr := ⟨_, rfl⟩
    by_cases hlt : k + 1 < l.length
    case pos =>
      obtain ⟨b, o, x, hdr, hA, hob, q0, hx8⟩ := (H.out.below hb.out).getI (i := k) (by omega)
      subst hA
      obtain ⟨b', o', y, hdr', hA', hob', q0', hy8⟩ := (H.out.below hb.out).getI (i := k + 1) hlt
      cases hA'
      have g1 : l[k]? = some x := get_of_drop hdr.out
      have g2 : l[k + 1]? = some y := get_of_drop hdr'.out
      have hk0 : (0 : Int) ≤ (k : Int) := Int.natCast_nonneg _
      have hk1 : (k : Int) < (l.length : Int) := by omega
      have hk2 : (k : Int) + 1 < (l.length : Int) := by omega
      obtain ⟨wp, hwp⟩ : ∃ wp, wp = wo.alloc (.cells #[.int .u8 x, .int .u8 y] 57) := ⟨_, rfl⟩
      have hpx := Hp.out x (List.mem_of_getElem? g1)
      have hpy := Hp.out y (List.mem_of_getElem? g2)
      have hcx := fun W => bracket_calls x W
      have hcy := fun W => bracket_calls y W
      rw [hpx] at hcx
      rw [hpy] at hcy
      have hlt0 : w.heap.size < wo.heap.size := by omega
      have hob1 : b < w.heap.size := hob
      have r0 := (cell_keep (o := o + k) (((Below.refl wo.heap.size wo).alloc (Nat.le_refl _) (.cells #[.int .u8 0, .int .u8 0] 57)).block b (by omega))).trans q0
      have r0' := (cell_keep (o := o + (k + 1)) (((Below.refl wo.heap.size wo).alloc (Nat.le_refl _) (.cells #[.int .u8 0, .int .u8 0] 57)).block b (by omega))).trans q0'
      have Hdr := Lib.hid hdr; clear hdr
      have Hdr' := Lib.hid hdr'; clear hdr'
      have G1 := Lib.hid g1; clear g1
      have G2 := Lib.hid g2; clear g2
      have Hcx := Lib.hid hcx; clear hcx
      have Hcy := Lib.hid hcy; clear hcy
      have Hwp := Lib.hid hwp; clear hwp
      have Hx8 := Lib.hid hx8; clear hx8
      have Hy8 := Lib.hid hy8; clear hy8
      clear hpx hpy
      go_wp2
      go_region
      obtain ⟨w5, hw5⟩ : ∃ W, W = (wo.alloc (.cells #[.int .u8 x, .int .u8 y] 57)).drew := ⟨_, rfl⟩
      rw [← hw5]
      have hb5 : Below wo.heap.size wo w5 := by rw [hw5]; exact (⟨rfl, rfl, rfl, by simp [World.drew], fun i hi => by have := ((Below.refl wo.heap.size wo).alloc (Nat.le_refl _) (.cells #[.int .u8 x, .int .u8 y] 57)).block i hi; exact this⟩)
      have hz5 : wo.heap.size + 1 ≤ w5.heap.size := by rw [hw5]; simp [World.drew]
      have hp5 : Blk w5 wo.heap.size 57 #[.int .u8 x, .int .u8 y] := by rw [hw5]; exact Blk.new _ _ _
      have hbw5 : Below w.heap.size w w5 := hb.out.trans (hb5.mono (by omega))
      have hbk5 := hbk.out.same (hb5.block _ (by omega))
      have hm15 := mapU_later hm1.out (hb5.block _ (by omega))
      have hm25 := mapU_later hm2.out (hb5.block _ (by omega))
      have p0 := hp5.cell 0
      have p1 := hp5.cell 1
      have Hw5 := Lib.hid hw5; clear hw5
      have Hb5 := Lib.hid hb5; clear hb5
      have Hp5 := Lib.hid hp5; clear hp5
      have Hbw5 := Lib.hid hbw5; clear hbw5
      have Hbk5 := Lib.hid hbk5; clear hbk5
      have Hm15 := Lib.hid hm15; clear hm15
      have Hm25 := Lib.hid hm25; clear hm25
      clear q0 q0' r0 r0'
      have round : ∀ (W : World) (E1 E2 : DataW Unit) (cf' lf' : Int → Int → Option Int) (n1 n2 : Nat), Below w.heap.size w W → w.heap.size + 3 ≤ W.heap.size → Blk W w.heap.size 57 #[.int .u8 0, .int .u8 0] → MapU W (w.heap.size + 1) n1 E1 → MapU W (w.heap.size + 1 + 1) n2 E2 → n1 ≤ k + 1 → n2 ≤ k + 1 → MapIs E1 cf' → MapIs E2 lf' → CntAt l (k + 1) cf' lf' →
          ∃ (k' : Nat) (D1 D2 : DataW Unit) (cf lf : Int → Int → Option Int), k' ≤ l.length ∧ Value.int .i64 ((k : Int) + 1) = .int .i64 k' ∧ Hid (Below w.heap.size w W) ∧ w.heap.size + 3 ≤ W.heap.size ∧ Hid (Blk W w.heap.size 57 #[.int .u8 0, .int .u8 0]) ∧
            Hid (MapU W (w.heap.size + 1) k' D1) ∧ Hid (MapU W (w.heap.size + 1 + 1) k' D2) ∧ Hid (MapIs D1 cf) ∧ Hid (MapIs D2 lf) ∧ Hid (CntAt l k' cf lf) := fun W E1 E2 cf' lf' n1 n2 a1 a2 a3 a4 a5 a6 a7 a8 a9 a10 =>
        ⟨k + 1, E1, E2, cf', lf', by omega, by go_num, a1, a2, a3, a4.mono a6, a5.mono a7, a8, a9, a10⟩
      have Round := Lib.hid round; clear round
      cases hpx : plainC x
      case false =>
        have hc1 := Hcx.out w5
        rw [hpx] at hc1
        have hr := hca.out.skip G1.out G2.out (.inl hpx)
        have Hc1 := Lib.hid hc1; clear hc1
        have Hr := Lib.hid hr; clear hr
        have Hpx := Lib.hid hpx; clear hpx
        go_wp2_with (go_at_call 35; refine Hc1.out.mono ?_; rintro e w' ⟨rfl, rfl⟩)
        go_roundw
        case rel => exact Round.out w5 D1 D2 cf lf k k Hbw5.out (by omega) Hbk5.out Hm15.out Hm25.out (by omega) (by omega) hd1.out hd2.out Hr.out
        case measure => simp [intOf]; omega
      case true =>
      cases hpy : plainC y
      case false =>
        have hc1 := Hcx.out w5
        have hc2 := Hcy.out w5
        rw [hpx] at hc1
        rw [hpy] at hc2
        have hr := hca.out.skip G1.out G2.out (.inr hpy)
        have Hc1 := Lib.hid hc1; clear hc1
        have Hc2 := Lib.hid hc2; clear hc2
        have Hr := Lib.hid hr; clear hr
        have Hpx := Lib.hid hpx; clear hpx
        have Hpy := Lib.hid hpy; clear hpy
        go_wp2_with (first | (go_at_call 35; (with_reducible refine Hc1.out.mono ?_); rintro e w' ⟨rfl, rfl⟩) | (go_at_call 35; (with_reducible refine Hc2.out.mono ?_); rintro e w' ⟨rfl, rfl⟩))
        go_roundw
        case rel => exact Round.out w5 D1 D2 cf lf k k Hbw5.out (by omega) Hbk5.out Hm15.out Hm25.out (by omega) (by omega) hd1.out hd2.out Hr.out
        case measure => simp [intOf]; omega
      case true =>
      have hc1 := Hcx.out w5
      have hc2 := Hcy.out w5
      rw [hpx] at hc1
      rw [hpy] at hc2
      have hkey : keyOf Tryd.prog 57 (.agg #[.int .u8 x, .int .u8 y]) = some (prL x y) := pair_key Hx8.out Hy8.out
      have hzE : ∀ W, (zeroValue 3).run Tryd.prog W = .ok (.int .i64 0) W := fun W => by kernel_rfl
      have hlt1 : w.heap.size + 1 + 1 < wo.heap.size := by omega
      have hml : k < maxLen := by unfold maxLen; omega
      have hhas := mapIs_has hd2.out Hx8.out Hy8.out
      have hat2 := mapIs_at hd2.out Hx8.out Hy8.out
      have hat1 := mapIs_at hd1.out Hx8.out Hy8.out
      have hcnt := fun hn => hca.out.count G1.out G2.out hpx hpy hn
      have hagn := fun h1 h2 => hca.out.again G1.out G2.out hpx hpy h1 h2
      have hwf : (Lit.int .i64 (k : Int)).wf = true := fits_i64 (by omega)
      have hwf1 : (Lit.int .i64 ((cf x y).getD 0 + 1)).wf = true := by
        refine fits_i64 ?_
        cases hf : cf x y with
        | none => simp
        | some c => have := hca.out.pos x y c hf; simp; omega
      have Hc1 := Lib.hid hc1; clear hc1
      have Hc2 := Lib.hid hc2; clear hc2
      have Hkey := Lib.hid hkey; clear hkey
      have Hat1 := Lib.hid hat1; clear hat1
      have Hat2 := Lib.hid hat2; clear hat2
      have Hcnt := Lib.hid hcnt; clear hcnt
      have Hagn := Lib.hid hagn; clear hagn
      have Hwf := Lib.hid hwf; clear hwf
      have Hwf1 := Lib.hid hwf1; clear hwf1
      have Hml := Lib.hid hml; clear hml
      have Hpx := Lib.hid hpx; clear hpx
      have Hpy := Lib.hid hpy; clear hpy
      have hcb : 0 ≤ (cf x y).getD 0 ∧ (cf x y).getD 0 ≤ k := by
        cases hf : cf x y with
        | none => simp
        | some c => have := hca.out.pos x y c hf; simp; omega
      obtain ⟨c1, hc1v⟩ : ∃ c1, (cf x y).getD 0 = c1 := ⟨_, rfl⟩
      rw [hc1v] at hcb
      obtain ⟨hcb0, hcb1⟩ := hcb
      have hcb2 : c1 + 1 ≤ 100001 := by omega
      obtain ⟨vl, hvl⟩ : ∃ v, lf x y = v := ⟨_, rfl⟩
      obtain ⟨jl, hjl⟩ : ∃ j, vl.getD 0 = j := ⟨_, rfl⟩
      have hat2' := Hat2.out
      have hat1' := Hat1.out
      have hwf1' := Hwf1.out
      rw [hvl, hjl] at hat2'
      rw [hvl] at hhas
      rw [hc1v] at hat1' hwf1'
      have Hcnt' : Hid (¬ (vl = some ((k : Int) - 1) ∧ x = y) → CntAt l (k + 1) (setF cf x y (c1 + 1)) (setF lf x y k)) := fun hn => by
        rw [← hc1v]; exact Hcnt.out (by rw [hvl]; exact hn)
      have Hagn' : Hid (vl = some ((k : Int) - 1) → x = y → CntAt l (k + 1) cf lf) := fun h1 h2 => Hagn.out (hvl.trans h1) h2
      have Hat1' := Lib.hid hat1'; clear hat1'
      have Hat2' := Lib.hid hat2'; clear hat2'
      have Hwf1' := Lib.hid hwf1'; clear hwf1'
      clear hc1v hvl Hcnt Hagn Hat1 Hat2 Hwf1
      by_cases hag : vl = some ((k : Int) - 1) ∧ x = y
      case pos =>
        obtain ⟨rfl, rfl⟩ := hag
        simp only [Option.getD_some] at hjl
        subst hjl
        have e1 : (((k : Int) - 1) == (k : Int) - 1) = true := beq_self_eq_true _
        have e2 : (x == x) = true := beq_self_eq_true _
        have hr := Hagn'.out rfl rfl
        simp only [Option.isSome_some] at hhas
        have Hr := Lib.hid hr; clear hr
        clear Hcnt' Hagn'
        go_wp2_with (first
          | (go_at_call 35; (with_reducible refine Hc1.out.mono ?_); rintro e w' ⟨rfl, rfl⟩)
          | (go_at_call 35; (with_reducible refine Hc2.out.mono ?_); rintro e w' ⟨rfl, rfl⟩)
          | (at_lookup; refine wpList_lookup_own_ok_int _ rfl _ _ 70 rfl 57 3 .i64 pair_keyed Tryd.underlying70 Tryd.underlying3 (hzE _) (w.heap.size + 1 + 1) k D2 rfl Hm25.out _ _ rfl Hkey.out ?_; intro cc hat hwc; obtain rfl : cc = (k : Int) - 1 := (by have h3 := hat; rw [Hat2'.out] at h3; simpa using h3.symm); clear hat hwc; rw [hhas]))
        go_roundw
        case rel => exact Round.out w5 D1 D2 cf lf k k Hbw5.out (by omega) Hbk5.out Hm15.out Hm25.out (by omega) (by omega) hd1.out hd2.out Hr.out
        case measure => simp [intOf]; omega
      case neg =>
        have hr := Hcnt'.out hag
        have hd2' := hd2.out.put Hx8.out Hy8.out (k : Int)
        have hd1' := hd1.out.put Hx8.out Hy8.out (c1 + 1)
        have Hr := Lib.hid hr; clear hr
        have Hd2' := Lib.hid hd2'; clear hd2'
        have Hd1' := Lib.hid hd1'; clear hd1'
        clear Hcnt' Hagn'
        rcases vl with _ | jv
        · simp only [Option.isSome_none] at hhas
          clear hag hjl
          go_wp2_with (first
            | (go_at_call 35; (with_reducible refine Hc1.out.mono ?_); rintro e w' ⟨rfl, rfl⟩)
            | (go_at_call 35; (with_reducible refine Hc2.out.mono ?_); rintro e w' ⟨rfl, rfl⟩)
            | (at_lookup; refine wpList_lookup_own_ok_int _ rfl _ _ 70 rfl 57 3 .i64 pair_keyed Tryd.underlying70 Tryd.underlying3 (hzE _) (w.heap.size + 1 + 1) k D2 rfl Hm25.out _ _ rfl Hkey.out ?_; intro cc hat hwc; obtain rfl : jl = cc := (by have h3 := hat; rw [Hat2'.out] at h3; simpa using h3); clear hat hwc; rw [hhas])
            | (at_mapUpdate; refine wpList_mapUpdate_own _ rfl _ _ _ 70 rfl 57 3 pair_keyed Tryd.underlying70 _ (w.heap.size + 1 + 1) k D2 rfl Hm25.out Hml.out _ _ _ rfl rfl Hkey.out _ [] (plainElem_int Tryd.underlying3 Hwf.out) ?_; intro w1 hown1 hgrow1))
          have hz1 := hgrow1.size
          have hb1 : Below w.heap.size w w1 := below_grown Hbw5.out hgrow1 (by omega) (by omega)
          have hp1 := Hp5.out.same (hgrow1.block wo.heap.size (by omega) (fun e => by have := Option.some.inj e; omega))
          have hbk1 := Hbk5.out.same (hgrow1.block w.heap.size (by omega) (fun e => by have := Option.some.inj e; omega))
          have hm1' := mapU_later Hm15.out (hgrow1.block (w.heap.size + 1) (by omega) (fun e => by have := Option.some.inj e; omega))
          obtain ⟨o0, o1, o2, v0, st, f0, f1, f2, f3, f4, f5, es, clock, fo, es1, clock1, fo1⟩ := entry_facts pair_law Tryd.underlying70 Tryd.underlying3 (fun u => by kernel_rfl) hm1' Hml.out Hkey.out Hat1'.out Hwf1'.out
          have p0 := hp1.cell 0
          have p1 := hp1.cell 1
          have sb : ∀ (W : World) (o : Obj), W.heap[w.heap.size + 1]? = some o0 → (Go.ChangeMaps.setBlock W (w.heap.size + 1) o).heap[w.heap.size + 1]? = some o := fun W o h => by rw [fo] at h; exact Go.ChangeMaps.heap_setBlock_same h o
          have fin : MapU (Go.ChangeMaps.setBlock (Go.ChangeMaps.setBlock w1.drew (w.heap.size + 1) o1) (w.heap.size + 1) o2) (w.heap.size + 1) (k + 1) (D1.put (prL x y) (.lit (.int .i64 (c1 + 1)))) := f5 _ (by have h1 := sb w1.drew o1 f0; rw [fo1] at h1 ⊢; exact Go.ChangeMaps.heap_setBlock_same h1 o2)
          have hg6 : w1.grownBy (Go.ChangeMaps.setBlock (Go.ChangeMaps.setBlock w1.drew (w.heap.size + 1) o1) (w.heap.size + 1) o2) (some (w.heap.size + 1)) := ((grown_drew w1 _).trans (grown_set o1)).trans (grown_set o2)
          have f1' := f1 w1.drew f0
          have f2' := f2 (Go.ChangeMaps.setBlock w1.drew (w.heap.size + 1) o1) (sb w1.drew o1 f0)
          have f3' := f3 w1.drew f0
          have f4' := f4 (Go.ChangeMaps.setBlock w1.drew (w.heap.size + 1) o1) (sb w1.drew o1 f0)
          unfold goInt at f3' f4'
          have Hb1 := Lib.hid hb1; clear hb1
          have Hp1 := Lib.hid hp1; clear hp1
          have Hbk1 := Lib.hid hbk1; clear hbk1
          have Hm1' := Lib.hid hm1'; clear hm1'
          have Fin := Lib.hid fin; clear fin
          have Hg6 := Lib.hid hg6; clear hg6
          have Hown1 := Lib.hid hown1; clear hown1
          have Hgrow1 := Lib.hid hgrow1; clear hgrow1
          have Hz1 := Lib.hid hz1; clear hz1
          have Fo := Lib.hid fo; clear fo
          have Fo1 := Lib.hid fo1; clear fo1
          have F5 := Lib.hid f5; clear f5
          clear f0 f1 f2 f3 f4 sb
          go_frame
          go_region
          have hm16 := Fin.out
          have hg6' := Hg6.out
          generalize (Go.ChangeMaps.setBlock (Go.ChangeMaps.setBlock w1.drew (w.heap.size + 1) o1) (w.heap.size + 1) o2) = w6 at hm16 hg6' ⊢
          have hz6 := hg6'.size
          have hb6 : Below w.heap.size w w6 := below_grown Hb1.out hg6' (by omega) (by have := Hz1.out; omega)
          have hbk6 := Hbk1.out.same (hg6'.block w.heap.size (by have := Hz1.out; omega) (fun e => by have := Option.some.inj e; omega))
          have hm26 := mapU_later Hown1.out (hg6'.block (w.heap.size + 1 + 1) (by have := Hz1.out; omega) (fun e => by have := Option.some.inj e; omega))
          have hz6' : w.heap.size + 3 ≤ w6.heap.size := by have := Hz1.out; omega
          have Hm16 := Lib.hid hm16; clear hm16
          have Hb6 := Lib.hid hb6; clear hb6
          have Hbk6 := Lib.hid hbk6; clear hbk6
          have Hm26 := Lib.hid hm26; clear hm26
          clear hg6' f1' f2' f3' f4' p0 p1
          go_wp2
          go_roundw
          case rel => exact Round.out w6 _ _ _ _ (k + 1) (k + 1) Hb6.out hz6' Hbk6.out Hm16.out Hm26.out (Nat.le_refl _) (Nat.le_refl _) Hd1'.out Hd2'.out Hr.out
          case measure => simp [intOf]; omega
        · simp only [Option.isSome_some] at hhas
          simp only [Option.getD_some] at hjl
          subst hjl
          cases e1 : (jv == (k : Int) - 1)
          · clear hag
            go_wp2_with (first
              | (go_at_call 35; (with_reducible refine Hc1.out.mono ?_); rintro e w' ⟨rfl, rfl⟩)
              | (go_at_call 35; (with_reducible refine Hc2.out.mono ?_); rintro e w' ⟨rfl, rfl⟩)
              | (at_lookup; refine wpList_lookup_own_ok_int _ rfl _ _ 70 rfl 57 3 .i64 pair_keyed Tryd.underlying70 Tryd.underlying3 (hzE _) (w.heap.size + 1 + 1) k D2 rfl Hm25.out _ _ rfl Hkey.out ?_; intro cc hat hwc; obtain rfl : jv = cc := (by have h3 := hat; rw [Hat2'.out] at h3; simpa using h3); clear hat hwc; rw [hhas])
              | (at_mapUpdate; refine wpList_mapUpdate_own _ rfl _ _ _ 70 rfl 57 3 pair_keyed Tryd.underlying70 _ (w.heap.size + 1 + 1) k D2 rfl Hm25.out Hml.out _ _ _ rfl rfl Hkey.out _ [] (plainElem_int Tryd.underlying3 Hwf.out) ?_; intro w1 hown1 hgrow1))
            have hz1 := hgrow1.size
            have hb1 : Below w.heap.size w w1 := below_grown Hbw5.out hgrow1 (by omega) (by omega)
            have hp1 := Hp5.out.same (hgrow1.block wo.heap.size (by omega) (fun e => by have := Option.some.inj e; omega))
            have hbk1 := Hbk5.out.same (hgrow1.block w.heap.size (by omega) (fun e => by have := Option.some.inj e; omega))
            have hm1' := mapU_later Hm15.out (hgrow1.block (w.heap.size + 1) (by omega) (fun e => by have := Option.some.inj e; omega))
            obtain ⟨o0, o1, o2, v0, st, f0, f1, f2, f3, f4, f5, es, clock, fo, es1, clock1, fo1⟩ := entry_facts pair_law Tryd.underlying70 Tryd.underlying3 (fun u => by kernel_rfl) hm1' Hml.out Hkey.out Hat1'.out Hwf1'.out
            have p0 := hp1.cell 0
            have p1 := hp1.cell 1
            have sb : ∀ (W : World) (o : Obj), W.heap[w.heap.size + 1]? = some o0 → (Go.ChangeMaps.setBlock W (w.heap.size + 1) o).heap[w.heap.size + 1]? = some o := fun W o h => by rw [fo] at h; exact Go.ChangeMaps.heap_setBlock_same h o
            have fin : MapU (Go.ChangeMaps.setBlock (Go.ChangeMaps.setBlock w1.drew (w.heap.size + 1) o1) (w.heap.size + 1) o2) (w.heap.size + 1) (k + 1) (D1.put (prL x y) (.lit (.int .i64 (c1 + 1)))) := f5 _ (by have h1 := sb w1.drew o1 f0; rw [fo1] at h1 ⊢; exact Go.ChangeMaps.heap_setBlock_same h1 o2)
            have hg6 : w1.grownBy (Go.ChangeMaps.setBlock (Go.ChangeMaps.setBlock w1.drew (w.heap.size + 1) o1) (w.heap.size + 1) o2) (some (w.heap.size + 1)) := ((grown_drew w1 _).trans (grown_set o1)).trans (grown_set o2)
            have f1' := f1 w1.drew f0
            have f2' := f2 (Go.ChangeMaps.setBlock w1.drew (w.heap.size + 1) o1) (sb w1.drew o1 f0)
            have f3' := f3 w1.drew f0
            have f4' := f4 (Go.ChangeMaps.setBlock w1.drew (w.heap.size + 1) o1) (sb w1.drew o1 f0)
            unfold goInt at f3' f4'
            have Hb1 := Lib.hid hb1; clear hb1
            have Hp1 := Lib.hid hp1; clear hp1
            have Hbk1 := Lib.hid hbk1; clear hbk1
            have Hm1' := Lib.hid hm1'; clear hm1'
            have Fin := Lib.hid fin; clear fin
            have Hg6 := Lib.hid hg6; clear hg6
            have Hown1 := Lib.hid hown1; clear hown1
            have Hgrow1 := Lib.hid hgrow1; clear hgrow1
            have Hz1 := Lib.hid hz1; clear hz1
            have Fo := Lib.hid fo; clear fo
            have Fo1 := Lib.hid fo1; clear fo1
            have F5 := Lib.hid f5; clear f5
            clear f0 f1 f2 f3 f4 sb
            go_frame
            go_region
            have hm16 := Fin.out
            have hg6' := Hg6.out
            generalize (Go.ChangeMaps.setBlock (Go.ChangeMaps.setBlock w1.drew (w.heap.size + 1) o1) (w.heap.size + 1) o2) = w6 at hm16 hg6' ⊢
            have hz6 := hg6'.size
            have hb6 : Below w.heap.size w w6 := below_grown Hb1.out hg6' (by omega) (by have := Hz1.out; omega)
            have hbk6 := Hbk1.out.same (hg6'.block w.heap.size (by have := Hz1.out; omega) (fun e => by have := Option.some.inj e; omega))
            have hm26 := mapU_later Hown1.out (hg6'.block (w.heap.size + 1 + 1) (by have := Hz1.out; omega) (fun e => by have := Option.some.inj e; omega))
            have hz6' : w.heap.size + 3 ≤ w6.heap.size := by have := Hz1.out; omega
            have Hm16 := Lib.hid hm16; clear hm16
            have Hb6 := Lib.hid hb6; clear hb6
            have Hbk6 := Lib.hid hbk6; clear hbk6
            have Hm26 := Lib.hid hm26; clear hm26
            clear hg6' f1' f2' f3' f4' p0 p1
            go_wp2
            go_roundw
            case rel => exact Round.out w6 _ _ _ _ (k + 1) (k + 1) Hb6.out hz6' Hbk6.out Hm16.out Hm26.out (Nat.le_refl _) (Nat.le_refl _) Hd1'.out Hd2'.out Hr.out
            case measure => simp [intOf]; omega
          · have e2 : (x == y) = false := by
              cases e2 : (x == y)
              · rfl
              · exact absurd ⟨congrArg some (eq_of_beq e1), eq_of_beq e2⟩ hag
            clear hag
            go_wp2_with (first
              | (go_at_call 35; (with_reducible refine Hc1.out.mono ?_); rintro e w' ⟨rfl, rfl⟩)
              | (go_at_call 35; (with_reducible refine Hc2.out.mono ?_); rintro e w' ⟨rfl, rfl⟩)
              | (at_lookup; refine wpList_lookup_own_ok_int _ rfl _ _ 70 rfl 57 3 .i64 pair_keyed Tryd.underlying70 Tryd.underlying3 (hzE _) (w.heap.size + 1 + 1) k D2 rfl Hm25.out _ _ rfl Hkey.out ?_; intro cc hat hwc; obtain rfl : jv = cc := (by have h3 := hat; rw [Hat2'.out] at h3; simpa using h3); clear hat hwc; rw [hhas])
              | (at_mapUpdate; refine wpList_mapUpdate_own _ rfl _ _ _ 70 rfl 57 3 pair_keyed Tryd.underlying70 _ (w.heap.size + 1 + 1) k D2 rfl Hm25.out Hml.out _ _ _ rfl rfl Hkey.out _ [] (plainElem_int Tryd.underlying3 Hwf.out) ?_; intro w1 hown1 hgrow1))
            have hz1 := hgrow1.size
            have hb1 : Below w.heap.size w w1 := below_grown Hbw5.out hgrow1 (by omega) (by omega)
            have hp1 := Hp5.out.same (hgrow1.block wo.heap.size (by omega) (fun e => by have := Option.some.inj e; omega))
            have hbk1 := Hbk5.out.same (hgrow1.block w.heap.size (by omega) (fun e => by have := Option.some.inj e; omega))
            have hm1' := mapU_later Hm15.out (hgrow1.block (w.heap.size + 1) (by omega) (fun e => by have := Option.some.inj e; omega))
            obtain ⟨o0, o1, o2, v0, st, f0, f1, f2, f3, f4, f5, es, clock, fo, es1, clock1, fo1⟩ := entry_facts pair_law Tryd.underlying70 Tryd.underlying3 (fun u => by kernel_rfl) hm1' Hml.out Hkey.out Hat1'.out Hwf1'.out
            have p0 := hp1.cell 0
            have p1 := hp1.cell 1
            have sb : ∀ (W : World) (o : Obj), W.heap[w.heap.size + 1]? = some o0 → (Go.ChangeMaps.setBlock W (w.heap.size + 1) o).heap[w.heap.size + 1]? = some o := fun W o h => by rw [fo] at h; exact Go.ChangeMaps.heap_setBlock_same h o
            have fin : MapU (Go.ChangeMaps.setBlock (Go.ChangeMaps.setBlock w1.drew (w.heap.size + 1) o1) (w.heap.size + 1) o2) (w.heap.size + 1) (k + 1) (D1.put (prL x y) (.lit (.int .i64 (c1 + 1)))) := f5 _ (by have h1 := sb w1.drew o1 f0; rw [fo1] at h1 ⊢; exact Go.ChangeMaps.heap_setBlock_same h1 o2)
            have hg6 : w1.grownBy (Go.ChangeMaps.setBlock (Go.ChangeMaps.setBlock w1.drew (w.heap.size + 1) o1) (w.heap.size + 1) o2) (some (w.heap.size + 1)) := ((grown_drew w1 _).trans (grown_set o1)).trans (grown_set o2)
            have f1' := f1 w1.drew f0
            have f2' := f2 (Go.ChangeMaps.setBlock w1.drew (w.heap.size + 1) o1) (sb w1.drew o1 f0)
            have f3' := f3 w1.drew f0
            have f4' := f4 (Go.ChangeMaps.setBlock w1.drew (w.heap.size + 1) o1) (sb w1.drew o1 f0)
            unfold goInt at f3' f4'
            have Hb1 := Lib.hid hb1; clear hb1
            have Hp1 := Lib.hid hp1; clear hp1
            have Hbk1 := Lib.hid hbk1; clear hbk1
            have Hm1' := Lib.hid hm1'; clear hm1'
            have Fin := Lib.hid fin; clear fin
            have Hg6 := Lib.hid hg6; clear hg6
            have Hown1 := Lib.hid hown1; clear hown1
            have Hgrow1 := Lib.hid hgrow1; clear hgrow1
            have Hz1 := Lib.hid hz1; clear hz1
            have Fo := Lib.hid fo; clear fo
            have Fo1 := Lib.hid fo1; clear fo1
            have F5 := Lib.hid f5; clear f5
            clear f0 f1 f2 f3 f4 sb
            go_frame
            go_region
            have hm16 := Fin.out
            have hg6' := Hg6.out
            generalize (Go.ChangeMaps.setBlock (Go.ChangeMaps.setBlock w1.drew (w.heap.size + 1) o1) (w.heap.size + 1) o2) = w6 at hm16 hg6' ⊢
            have hz6 := hg6'.size
            have hb6 : Below w.heap.size w w6 := below_grown Hb1.out hg6' (by omega) (by have := Hz1.out; omega)
            have hbk6 := Hbk1.out.same (hg6'.block w.heap.size (by have := Hz1.out; omega) (fun e => by have := Option.some.inj e; omega))
            have hm26 := mapU_later Hown1.out (hg6'.block (w.heap.size + 1 + 1) (by have := Hz1.out; omega) (fun e => by have := Option.some.inj e; omega))
            have hz6' : w.heap.size + 3 ≤ w6.heap.size := by have := Hz1.out; omega
            have Hm16 := Lib.hid hm16; clear hm16
            have Hb6 := Lib.hid hb6; clear hb6
            have Hbk6 := Lib.hid hbk6; clear hbk6
            have Hm26 := Lib.hid hm26; clear hm26
            clear hg6' f1' f2' f3' f4' p0 p1
            go_wp2
            go_roundw
            case rel => exact Round.out w6 _ _ _ _ (k + 1) (k + 1) Hb6.out hz6' Hbk6.out Hm16.out Hm26.out (Nat.le_refl _) (Nat.le_refl _) Hd1'.out Hd2'.out Hr.out
            case measure => simp [intOf]; omega
    case neg =>
      have hdn := hca.out.done hk (by omega)
      obtain ⟨wA, hwA⟩ : ∃ W, W = wo.alloc (.cells #[.int .u8 0, .int .u8 0] 57) := ⟨_, rfl⟩
      have hbA : Below wo.heap.size wo wA := by rw [hwA]; exact (Below.refl _ _).alloc (Nat.le_refl _) _
      have hzA : wA.heap.size = wo.heap.size + 1 := by rw [hwA]; simp
      have hpA : Blk wA wo.heap.size 57 #[.int .u8 0, .int .u8 0] := by rw [hwA]; exact Blk.new _ _ _
      have hm1A := mapU_later hm1.out (hbA.block _ (by omega))
      have hbkA := hbk.out.same (hbA.block _ (by omega))
      have hbwA : Below w.heap.size w wA := hb.out.trans (hbA.mono (by omega))
      have hdec : decide ((k : Int) + 1 < (l.length : Int)) = false := decide_eq_false (by omega)
      have hno : ¬ ((k : Int) + 1 < (l.length : Int)) := by omega
      have hk0 : (0 : Int) ≤ (k : Int) := Int.natCast_nonneg _
      rw [hwA] at hm1A
      have Hdn := Lib.hid hdn; clear hdn
      have HbA := Lib.hid hbA; clear hbA
      have HzA := Lib.hid hzA; clear hzA
      have HpA := Lib.hid hpA; clear hpA
      have HbkA := Lib.hid hbkA; clear hbkA
      have HbwA := Lib.hid hbwA; clear hbwA
      have HwA := Lib.hid hwA; clear hwA
      have Hm1A := Lib.hid hm1A; clear hm1A
      go_wp2_with (at_range; refine wpList_range_own _ rfl _ 70 rfl 57 3 pair_keyed Tryd.underlying70 _ (w.heap.size + 1) k D1 rfl Hm1A.out ?_; intro w0 hrg0 hg0 hs0)
      have hsA : (wo.alloc (.cells #[.int .u8 0, .int .u8 0] 57)).heap.size = wo.heap.size + 1 := by simp
      rw [hsA] at hrg0 hs0
      have hg0' := hg0.but (some (wo.heap.size + 1))
      rw [← HwA.out] at hg0'
      have hbw0 : Below w.heap.size w w0 := below_grown HbwA.out hg0' (by omega) (by have := HzA.out; omega)
      have hbk0' := HbkA.out.same (hg0'.block w.heap.size (by have := HzA.out; omega) (fun e => by have := Option.some.inj e; omega))
      have hp0' := HpA.out.same (hg0'.block wo.heap.size (by have := HzA.out; omega) (fun e => by have := Option.some.inj e; omega))
      have hstart : BestOf (Come l (Maps.has D1)) (fun u v => cntR u v l) 0 0 0 := (BestOf.start _).congr fun u v => by
        refine ⟨False.elim, fun hh => ?_⟩
        have hf := pairAt_fits Hfit.out hh.1
        have h1 := mapIs_has hd1.out hf.1 hf.2
        rw [hh.2] at h1
        have h2 := (Hdn.out u v).1.2 hh.1
        rw [← h1] at h2
        cases h2
      have hall : ∀ z, Maps.has D1 z = true → Maps.has D1 z = true := fun z h => h
      have hz0w : wo.heap.size + 2 ≤ w0.heap.size := by omega
      have Hrg0 := Lib.hid hrg0; clear hrg0
      have Hbw0 := Lib.hid hbw0; clear hbw0
      have Hbk0' := Lib.hid hbk0'; clear hbk0'
      have Hp0' := Lib.hid hp0'; clear hp0'
      have Hstart := Lib.hid hstart; clear hstart
      have Hall := Lib.hid hall; clear hall
      clear hg0 hg0' hs0
      try go_frame
      go_loopw [11] (fun nv wr => ∃ (left : Lit → Bool) (cnt : Nat) (a b n : Int), nv = .int .i64 n ∧ 0 ≤ n ∧ n ≤ l.length ∧ wo.heap.size + 2 ≤ wr.heap.size ∧ Hid (Fits .u8 a) ∧ Hid (Fits .u8 b) ∧ Hid (Below w.heap.size w wr) ∧ Hid (Blk wr w.heap.size 57 #[.int .u8 0, .int .u8 0]) ∧
        Hid (Blk wr wo.heap.size 57 #[.int .u8 a, .int .u8 b]) ∧ Hid (wr.ranges Tryd.prog 57 (plainElem Tryd.prog 3) (w.heap.size + 1) (wo.heap.size + 1) k D1 left cnt) ∧
        Hid (BestOf (Come l left) (fun u v => cntR u v l) a b n) ∧ Hid (∀ z, left z = true → Maps.has D1 z = true)) (fun _ wr => wr.rangeLeft (w.heap.size + 1) (wo.heap.size + 1))
      case atStart => exact ⟨_, _, 0, 0, 0, rfl, Int.le_refl _, by omega, hz0w, by unfold Hid Fits; decide, by unfold Hid Fits; decide, Hbw0, Hbk0', Hp0', Hrg0, Hstart, Hall⟩
      case round =>
        obtain ⟨left, cnt, a, b, n, rfl, hn0, hn1, hzr, hfa, hfb, hbr, hbkr, hpr, hrg, hbest, hall⟩ := hrel
        obtain ⟨wi, rfl⟩ : ∃ wi : World, wi = wr := ⟨_, rfl⟩
        go_wp2_with (at_next; refine wpList_next_ranges _ rfl _ rfl 57 pair_keyed (plainElem Tryd.prog 3) (fun p : Int × Int => prV p.1 p.2) (Value.int .i64) (fun v kl h => let ⟨p, h1, _⟩ := pair_inv v kl h; ⟨p, h1⟩) (fun v y hv => by obtain ⟨c, rfl, _⟩ := plainElem_int_inv Tryd.underlying3 hv; exact ⟨c, rfl⟩) (w.heap.size + 1) (wo.heap.size + 1) k D1 left cnt rfl hrg.out ?_ ?_)
        · intro hc0 hleft
          have hfin : BestOf (PairAt l l.length) (fun u v => cntR u v l) a b n := hbest.out.congr fun u v => ⟨fun h => h.1, fun h => ⟨h, hleft _⟩⟩
          have o0 := hpr.out.cell 0
          have o1 := hpr.out.cell 1
          have d0 := hbkr.out.cell 0
          have d1 := hbkr.out.cell 1
          have z0 := hbkr.out.free 0
          have z1 := hbkr.out.free 1
          have Hfin := Lib.hid hfin; clear hfin
          clear hc0 hleft
          go_wp2
          refine bodyPost_ret (results_arr_tmp rfl _ _ _ _ _ _ rfl (blk_two hbkr.out (.int .u8 a) (.int .u8 b)) Tryd.underlying57 (by kernel_rfl)) rfl ?_
          exact ⟨a, b, n, rfl, Hfin, hfa.out, hfb.out, hn0, hn1, (hbr.out.setCell (Nat.le_refl _) _).setCell (Nat.le_refl _) _⟩
        · intro x y m kl yd yp w3 cnt' hkey hlk hR hat hrg3 hlt3 hg3 hs3 hen
          obtain ⟨⟨x', y'⟩, hv, hfx, hfy⟩ := pair_inv _ _ hkey
          obtain ⟨rfl, rfl⟩ : x = x' ∧ y = y' := by simpa [prV] using hv
          obtain rfl : kl = prL x y := by
            have h1 := pair_key hfx hfy
            have h2 := hkey.symm.trans h1
            exact Option.some.inj h2
          have hhas := hall.out _ hlk
          have hsome := mapIs_has hd1.out hfx hfy
          rw [hhas] at hsome
          obtain ⟨cc, hcf⟩ := Option.isSome_iff_exists.1 hsome.symm
          obtain ⟨m', hm1, hm2, hm3⟩ := plainElem_int_inv Tryd.underlying3 hR
          have hat' := mapIs_at hd1.out hfx hfy
          have hyd : yd = .lit (.int .i64 m') := congrArg Prod.fst hm2
          rw [hat, hyd, hcf] at hat'
          have hmm' : m = m' := by simpa using hm1
          have hmc : m = cc := by rw [hmm']; simpa using hat'
          obtain ⟨hd1', hd2'⟩ := Hdn.out x y
          have hpair := hd1'.1 (by rw [hcf]; rfl)
          have hcnt : m = cntR x y l := by rw [hmc]; exact hd2' cc hcf
          have hpos := hca.out.pos x y cc hcf
          have hm0 : 0 < m := by omega
          have hmk : m ≤ k := by omega
          have hmo := hbest.out.more (x := x) (y := y) hn0 (by show 0 < cntR x y l; omega)
          rw [← hcnt] at hmo
          obtain ⟨hmo1, hmo2⟩ := hmo
          have hcm := come_more Hfit.out (left := left) hpair
          have hnew := fun ht => (hmo1 ht).congr hcm
          have hold := fun hf => (hmo2 hf).congr hcm
          have hwy := ahead_ways a b n x y m
          have hall' : ∀ z, (left z && !z.sameKey (prL x y)) = true → Maps.has D1 z = true := fun z hz => hall.out z (by simp at hz; exact hz.1)
          have hb3 : Below w.heap.size w w3 := below_grown hbr.out hg3 (by omega) (by omega)
          have hbk3 := hbkr.out.same (hg3.block w.heap.size (by omega) (fun e => by have := Option.some.inj e; omega))
          have hp3 := hpr.out.same (hg3.block wo.heap.size (by omega) (fun e => by have := Option.some.inj e; omega))
          obtain ⟨wB, hwB⟩ : ∃ W, W = w3.alloc (.cells #[.int .u8 x, .int .u8 y] 57) := ⟨_, rfl⟩
          have hbB : Below w3.heap.size w3 wB := by rw [hwB]; exact (Below.refl _ _).alloc (Nat.le_refl _) _
          have hzB : wo.heap.size + 2 ≤ wB.heap.size := by have := hbB.size; omega
          have hbwB : Below w.heap.size w wB := hb3.trans (hbB.mono (by omega))
          have hbkB := hbk3.same (hbB.block _ (by omega))
          have hpB := hp3.same (hbB.block _ (by omega))
          have hrgB : wB.ranges Tryd.prog 57 (plainElem Tryd.prog 3) (w.heap.size + 1) (wo.heap.size + 1) k D1 (fun z => left z && !z.sameKey (prL x y)) cnt' := by rw [hwB]; exact hrg3.alloc _
          have e0 : (w3.alloc (.cells #[.int .u8 x, .int .u8 y] 57)).cell? ⟨w3.heap.size, 0, none⟩ = some (.int .u8 x) := (Blk.new w3 57 #[.int .u8 x, .int .u8 y]).cell 0
          have e1 : (w3.alloc (.cells #[.int .u8 x, .int .u8 y] 57)).cell? ⟨w3.heap.size, 1, none⟩ = some (.int .u8 y) := (Blk.new w3 57 #[.int .u8 x, .int .u8 y]).cell 1
          have o0 : (w3.alloc (.cells #[.int .u8 x, .int .u8 y] 57)).cell? ⟨wo.heap.size, 0, none⟩ = some (.int .u8 a) := by rw [← hwB]; exact hpB.cell 0
          have o1 : (w3.alloc (.cells #[.int .u8 x, .int .u8 y] 57)).cell? ⟨wo.heap.size, 1, none⟩ = some (.int .u8 b) := by rw [← hwB]; exact hpB.cell 1
          have z0 : (w3.alloc (.cells #[.int .u8 x, .int .u8 y] 57)).frozen? ⟨wo.heap.size, 0, none⟩ = false := by rw [← hwB]; exact hpB.free 0
          have z1 : (w3.alloc (.cells #[.int .u8 x, .int .u8 y] 57)).frozen? ⟨wo.heap.size, 1, none⟩ = false := by rw [← hwB]; exact hpB.free 1
          have hlow : wo.heap.size < w3.heap.size := by omega
          have o0w := hp3.cell 0
          have o1w := hp3.cell 1
          have z0w := hp3.free 0
          have z1w := hp3.free 1
          have hms : ∀ W : World, W.ranges Tryd.prog 57 (plainElem (H := Unit) Tryd.prog 3) (w.heap.size + 1) (wo.heap.size + 1) k D1 (fun z => left z && !z.sameKey (prL x y)) cnt' → W.rangeLeft (w.heap.size + 1) (wo.heap.size + 1) < wi.rangeLeft (w.heap.size + 1) (wo.heap.size + 1) := fun W hW => by
            rw [hW.left_eq, hrg.out.left_eq]; exact hlt3
          have HwB := Lib.hid hwB; clear hwB
          have HbB := Lib.hid hbB; clear hbB
          have HbwB := Lib.hid hbwB; clear hbwB
          have HbkB := Lib.hid hbkB; clear hbkB
          have HpB := Lib.hid hpB; clear hpB
          have HrgB := Lib.hid hrgB; clear hrgB
          have Hnew := Lib.hid hnew; clear hnew
          have Hold := Lib.hid hold; clear hold
          have Hall' := Lib.hid hall'; clear hall'
          have Hfx := Lib.hid hfx; clear hfx
          have Hfy := Lib.hid hfy; clear hfy
          have Hs3 := Lib.hid hs3; clear hs3
          have Hms := Lib.hid hms; clear hms
          have Hcnt := Lib.hid hcnt; clear hcnt
          clear hkey hlk hR hyd hat hrg3 hlt3 hg3 hv hhas hsome hcf hm1 hm2 hm3 hat' hmm' hmc hd1' hd2' hpair hpos hmo1 hmo2 hcm hb3 hbk3 hp3
          rcases hwy with ⟨ht, g1⟩ | ⟨g1, (⟨hf, g2⟩ | ⟨g2, (⟨ht, g3⟩ | ⟨g3, (⟨hf, g4⟩ | ⟨g4, (⟨ht, g5⟩ | ⟨hf, g5⟩)⟩)⟩)⟩)⟩
          all_goals
            first
              | (have hr := Hold.out hf
                 have hfin : ∀ W, W = wB → (∃ (left : Lit → Bool) (cnt : Nat) (a' b' n' : Int), Value.int .i64 n = .int .i64 n' ∧ 0 ≤ n' ∧ n' ≤ l.length ∧ wo.heap.size + 2 ≤ W.heap.size ∧ Hid (Fits .u8 a') ∧ Hid (Fits .u8 b') ∧ Hid (Below w.heap.size w W) ∧ Hid (Blk W w.heap.size 57 #[.int .u8 0, .int .u8 0]) ∧
                     Hid (Blk W wo.heap.size 57 #[.int .u8 a', .int .u8 b']) ∧ Hid (W.ranges Tryd.prog 57 (plainElem (H := Unit) Tryd.prog 3) (w.heap.size + 1) (wo.heap.size + 1) k D1 left cnt) ∧
                     Hid (BestOf (Come l left) (fun u v => cntR u v l) a' b' n') ∧ Hid (∀ z, left z = true → Maps.has D1 z = true)) ∧ W.rangeLeft (w.heap.size + 1) (wo.heap.size + 1) < wi.rangeLeft (w.heap.size + 1) (wo.heap.size + 1) := fun W hW => by
                   subst hW
                   exact ⟨⟨_, cnt', a, b, n, rfl, hn0, hn1, hzB, hfa, hfb, HbwB, HbkB, HpB, HrgB, hr, Hall'⟩, Hms.out _ HrgB.out⟩
                 rw [HwB.out] at hfin
                 have Hfin := Lib.hid hfin; clear hfin
                 have Hr := Lib.hid hr; clear hr
                 clear hf
                 go_wp2
                 exact Hfin.out _ rfl)
              | (have hr := Hnew.out ht
                 have hfin : ∀ W, W = (wB.setCell ⟨wo.heap.size, 0, none⟩ (.int .u8 x)).setCell ⟨wo.heap.size, 1, none⟩ (.int .u8 y) → (∃ (left : Lit → Bool) (cnt : Nat) (a b n : Int), Value.int .i64 m = .int .i64 n ∧ 0 ≤ n ∧ n ≤ l.length ∧ wo.heap.size + 2 ≤ W.heap.size ∧ Hid (Fits .u8 a) ∧ Hid (Fits .u8 b) ∧ Hid (Below w.heap.size w W) ∧ Hid (Blk W w.heap.size 57 #[.int .u8 0, .int .u8 0]) ∧
                     Hid (Blk W wo.heap.size 57 #[.int .u8 a, .int .u8 b]) ∧ Hid (W.ranges Tryd.prog 57 (plainElem (H := Unit) Tryd.prog 3) (w.heap.size + 1) (wo.heap.size + 1) k D1 left cnt) ∧
                     Hid (BestOf (Come l left) (fun u v => cntR u v l) a b n) ∧ Hid (∀ z, left z = true → Maps.has D1 z = true)) ∧ W.rangeLeft (w.heap.size + 1) (wo.heap.size + 1) < wi.rangeLeft (w.heap.size + 1) (wo.heap.size + 1) := fun W hW => by
                   have hgc : wB.grownBy W (some wo.heap.size) := by rw [hW]; exact (grown_cell _ _ _ _).trans (grown_cell _ _ _ _)
                   have hrW := HrgB.out.kept hgc (fun e => by have := Option.some.inj e; omega) (fun e => by have := Option.some.inj e; omega)
                   refine ⟨⟨_, cnt', x, y, m, rfl, by omega, by omega, Nat.le_trans hzB hgc.size, Hfx, Hfy, below_grown HbwB.out hgc (by omega) (by omega), HbkB.out.same (hgc.block _ (by omega) (fun e => by have := Option.some.inj e; omega)), ?_, hrW, ?_, Hall'⟩, Hms.out W hrW⟩
                   · rw [hW]; exact blk_two HpB.out _ _
                   · exact hr
                 rw [HwB.out] at hfin
                 have Hfin := Lib.hid hfin; clear hfin
                 have Hr := Lib.hid hr; clear hr
                 clear ht
                 go_wp2
                 exact Hfin.out _ (by rw [World.setCell_alloc_past _ _ _ _ hlow, World.setCell_alloc_past _ _ _ _ (by simpa [World.setCell] using hlow)]))
end Go.Proofs.YtckffdaomjbglaaDoor
