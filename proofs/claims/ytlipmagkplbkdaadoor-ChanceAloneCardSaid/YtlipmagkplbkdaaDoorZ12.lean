/- Texts of the proof that the statement of ChanceAlone holds, several in one. -/
import Derived.Test.YtlipmagkplbkdaaDoorZ11
import Derived.Laws.ResultCell
import Derived.Test.YtlipmagkplbkdaaDoorL6
set_option linter.unusedVariables false
set_option linter.unusedSimpArgs false
set_option linter.unusedSectionVars false
set_option maxRecDepth 100000
set_option maxHeartbeats 8000000
namespace Go.Proofs.YtlipmagkplbkdaaDoor
section
open Go.RowKit Go.Sort Go.BigFrame
theorem results_row1 {fn : Func} {p : Tmp} {ty : TypeId} (h : fn.results = #[.cell p ty]) (tmps : Array Value) (P : Program) (w : World) (g : Nat) (t : TypeId) (cs : Array Value) {fs}
  (hp : tmps.getD p undef = .pointer (some ⟨g, 0, none⟩)) (hg : Blk w g t cs) (hu : P.underlying ty = some (.struct fs)) (hi : (P.info? ty).map (·.size) = some cs.size) :
  (results fn tmps).run P w = .ok (.agg cs) w := by
 simp only [results, h]
 rw [Array.getD_eq_getD_getElem?] at hp
 simp [Sem.run_bind, Result.andThen, hp, asAddr, run_loadVar_row w g t ty cs (0, 0) _ hg hu rfl hi]
def ManyPost (num : Int) (r : List Cel × Int) (w : World) (e : Ending) (w' : World) : Prop := ∃ B c, e = .returned (.agg #[.int .i64 num, .slice B r.1.length c, .int .i64 r.2]) /\ SlAt pCel (Old w') w' B c r.1 /\ Below w.heap.size w w'
theorem many9_calls (A : Option Addr) (c : Nat) (rs : List Rul) (s : Int) (B : Option Addr) (cb : Nat) (l : List Cel) (num : Int) (w : World) (h : SlAt pRul (Old w) w A c rs) (h' : SlAt pCel (Old w) w B cb l) (hs : Fits .i64 s) (hnum : Fits .i64 num) (hv : RVal rs)
  (hl : ∀ x ∈ l, fineF x.mod = true /\ x.path.size <= 300) (hl3 : l.length <= 3000) (ht : TabAt w) (hg : GAt w) :
  Calls Tryd.prog 62 #[.slice A rs.length c, .int .i64 s, .slice B l.length cb, .int .i64 num] w (ManyPost num (manyR9 rs s l) w) := by
 have hmx := h.lenle
 have hmx' := h'.lenle
 obtain ⟨W0, hW0⟩ : ∃ W0, W0 = (w.alloc (.cells #[.int .i64 0, .slice none 0 0, .int .i64 0] 93)).alloc (.cells #[.int .i64 num, .slice none 0 0, .int .i64 0] 93) := ⟨_, rfl⟩
 have hb0 : Below w.heap.size w W0 := by rw [hW0]; exact ((Below.refl _ _).alloc (Nat.le_refl _) _).alloc (by simp) _
 have hz0 : w.heap.size + 2 <= W0.heap.size := by rw [hW0]; simp
 have hb80 : Blk W0 w.heap.size 93 #[.int .i64 0, .slice none 0 0, .int .i64 0] := by rw [hW0]; exact (Blk.new _ _ _).alloc _
 have hb90 : Blk W0 (w.heap.size + 1) 93 #[.int .i64 num, .slice none 0 0, .int .i64 0] := by
  rw [hW0]
  have := Blk.new (w.alloc (.cells #[.int .i64 0, .slice none 0 0, .int .i64 0] 93)) 93 #[.int .i64 num, .slice none 0 0, .int .i64 0]
  rwa [show (w.alloc (.cells #[.int .i64 0, .slice none 0 0, .int .i64 0] 93)).heap.size = w.heap.size + 1 from by simp] at this
 have how0 : Own pCel 51 (w.heap.size + 2) (w.heap.size + 2 <= ·) W0 (.slice none 0 0) (allL rs s (l.take 0)) := Own.nil
 have hn0 : (allL rs s (l.take 0)).length = 0 := rfl
 have he0 : errL rs s (l.take 0) = 0 := rfl
 obtain ⟨H, H', Hv, Hb0, Hb80, Hb90, Hs, Ht, Hg, How0, Hn0, He0⟩ := HH12 h h' hv hb0 hb80 hb90 hs ht hg how0 hn0 he0; clear h h' hv hb0 hb80 hb90 hs ht hg how0 hn0 he0
 have Hl := HH1 hl; clear hl
 go_enter Tryd.func62, Tryd.ntmps62
 go_wp2
 rw [<- hW0]
 have HW0 := HH1 hW0; clear hW0
 go_loopw [18] (fun i wr => ∃ (k n : Nat) (Ao : Option Addr) (co : Nat), k <= l.length /\ i = .int .i64 k /\ Hid ((allL rs s (l.take k)).length = n) /\ Hid (errL rs s (l.take k) = 0) /\ Hid (Below w.heap.size w wr) /\ w.heap.size + 2 <= wr.heap.size /\ Hid (Blk wr w.heap.size 93 #[.int .i64 0, .slice none 0 0, .int .i64 0]) /\
  Hid (Blk wr (w.heap.size + 1) 93 #[.int .i64 num, .slice Ao n co, .int .i64 0]) /\ Hid (Own pCel 51 (w.heap.size + 2) (w.heap.size + 2 <= ·) wr (.slice Ao n co) (allL rs s (l.take k)))) (fun i _ => l.length - (intOf i).toNat)
 case atStart => exact ⟨0, 0, none, 0, Nat.zero_le _, rfl, Hn0, He0, Hb0, hz0, Hb80, Hb90, How0⟩
 case round =>
  obtain ⟨k, n, Ao, co, hk, rfl, hn, he, hb, hsz, hb8, hb9, how⟩ := hrel
  obtain ⟨wo, rfl⟩ : ∃ wo : World, wo = wr := ⟨_, rfl⟩
  by_cases hlt : k < l.length
  case neg =>
   obtain rfl : k = l.length := by omega
   have hn' := hn.out
   have he' := he.out
   have how' := how.out
   rw [List.take_length] at hn' he' how'
   have hr := manyR9_ok he'
   have y0 : wo.cell? ⟨w.heap.size + 1, 0, none⟩ = some (.int .i64 num) := (hb9.out.cell 0).trans rfl
   have y1 : wo.cell? ⟨w.heap.size + 1, 1, none⟩ = some (.slice Ao n co) := (hb9.out.cell 1).trans rfl
   have y2 : wo.cell? ⟨w.heap.size + 1, 2, none⟩ = some (.int .i64 0) := (hb9.out.cell 2).trans rfl
   have hbz : Below w.heap.size w (wo.setRow w.heap.size #[.int .i64 num, .slice Ao n co, .int .i64 0]) := row_below hb.out (Nat.le_refl _) _
   have hsl : SlAt pCel (Old (wo.setRow w.heap.size #[.int .i64 num, .slice Ao n co, .int .i64 0])) (wo.setRow w.heap.size #[.int .i64 num, .slice Ao n co, .int .i64 0]) Ao co (allL rs s l) := by
    obtain ⟨A2, c2, e2, hs2⟩ := how'.fresh
    injection e2 with e21 e22 e23
    subst e21 e23
    exact (hs2.keep fun q hq => setRow_other wo _ q _ (by omega)).wide fun q hq => by show q < _; simpa using hq.2
   have hb8r : Blk (wo.setRow w.heap.size #[.int .i64 num, .slice Ao n co, .int .i64 0]) w.heap.size 93 #[.int .i64 num, .slice Ao n co, .int .i64 0] := blk_row hb8.out
   obtain ⟨Hn', He', How', Hr, Hbz, Hsl, Hb8r⟩ := HH7 hn' he' how' hr hbz hsl hb8r; clear hn' he' how' hr hbz hsl hb8r
   go_wp2_with ((with_reducible show wpList _ _ _ (Oper.mk none (.store _ _ _) _ _ _ _ :: _) _ _); refine wpList_storeAtH 93 (.tmp 8) (.tmp 40) 0 #[.int .i64 0, .slice none 0 0, .int .i64 0] #[.int .i64 num, .slice Ao n co, .int .i64 0] #[.int .i64 num, .slice Ao n co, .int .i64 0] rfl rfl rfl rfl hb8.out (by kernel_rfl) (Nat.le_refl 3) (by simp [Value.oneCell']) rfl rfl ?_)
   (try simp only [Exit.inBlock, Exit.then])
   refine bodyPost_ret (results_row1 rfl _ _ _ _ _ _ rfl Hb8r.out Tryd.underlying93 (by kernel_rfl)) rfl ?_
   refine ⟨Ao, co, ?_, ?_, Hbz.out⟩
   ·rw [Hr.out]; show Ending.returned _ = Ending.returned (.agg #[_, .slice Ao (allL rs s l).length co, _]); rw [Hn'.out]
   ·rw [Hr.out]; exact Hsl.out
  case pos =>
   obtain ⟨b, o, D, d, x, hd, rfl, hob, q0, q1, q2, hps, hf8, hxa, hxl⟩ := (H'.out.below hb.out).getCel hlt
   have hxk : l[k]? = some x := get_of_drop hd.out
   obtain ⟨hxf, hxp⟩ := Hl.out x (mem_of_drop hd.out)
   have hnl : n <= k * 20 := by have h1 := allL_len Hv.out s (l.take k); rw [hn.out, List.length_take] at h1; omega
   have hbw1 : Below w.heap.size w (wo.alloc (.cells #[.string x.path, .int .u8 x.mod.name, .slice D x.mod.args.length d] 51)) := hb.out.alloc (by omega) _
   obtain ⟨W1, hW1⟩ : ∃ W1, W1 = wo.alloc (.cells #[.string x.path, .int .u8 x.mod.name, .slice D x.mod.args.length d] 51) := ⟨_, rfl⟩
   rw [<- hW1] at hbw1
   have hb1 : Below wo.heap.size wo W1 := by rw [hW1]; exact (Below.refl _ _).alloc (Nat.le_refl _) _
   have hz1 : wo.heap.size + 1 <= W1.heap.size := by rw [hW1]; simp
   have hbl1 : Blk W1 wo.heap.size 51 #[.string x.path, .int .u8 x.mod.name, .slice D x.mod.args.length d] := by rw [hW1]; exact Blk.new _ _ _
   have z0 : W1.cell? ⟨wo.heap.size, 0, none⟩ = some (.string x.path) := (hbl1.cell 0).trans rfl
   have z1 : W1.cell? ⟨wo.heap.size, 1, none⟩ = some (.int .u8 x.mod.name) := (hbl1.cell 1).trans rfl
   have z2 : W1.cell? ⟨wo.heap.size, 2, none⟩ = some (.slice D x.mod.args.length d) := (hbl1.cell 2).trans rfl
   have hcall := successors9_calls A c rs s x D d W1 (H.out.later hbw1) ((hxa.out.keep fun q hq => hb1.block q (by have : q < w.heap.size := hq; omega)).wide fun q hq => by have : q < w.heap.size := hq; show q < _; omega) hf8 Hs.out Hv.out hxf hxp (Ht.out.later hbw1 Hg.out) (Hg.out.later hbw1)
   have hlen20 := succR_len Hv.out s x
   have hes := errL_snoc hxk he.out
   have has := allL_snoc (rs := rs) (s := s) hxk
   have hk0 : (0 : Int) <= (k : Int) := Int.natCast_nonneg _
   have hk1 : (k : Int) < (l.length : Int) := by omega
   obtain ⟨⟨sl, sv⟩, hsr⟩ : ∃ p, succR rs s x = p := ⟨_, rfl⟩
   rw [hsr] at hcall hlen20 hes has
   simp only at hlen20 hes has
   unfold CelsPost at hcall
   by_cases h0 : sv = 0
   case neg =>
    have e0 : (sv != 0) = true := by simp [h0]
    have her : errL rs s l = sv := by rw [<- hes]; exact errL_take (by rw [hes]; exact h0)
    have hr : manyR9 rs s l = ([], sv) := by rw [manyR9_err (by rw [her]; exact h0), her]
    obtain ⟨Hcall, Hes, Has, Her, Hr, Hd, Hxa, Hxk, Hb1, Hbl1, Hbw1, H0⟩ := HH12 hcall hes has her hr hd hxa hxk hb1 hbl1 hbw1 h0; clear hcall hes has her hr hd hxa hxk hb1 hbl1 hbw1 h0
    obtain ⟨Z0, Z1, Z2⟩ := HH3 z0 z1 z2; clear z0 z1 z2
    go_upto_region 5 with fail
    rw [<- hW1]
    have HW1 := HH1 hW1; clear hW1
    have z0 := Z0.out
    have z1 := Z1.out
    have z2 := Z2.out
    clear q0 q1 q2
    go_upto_region 7 with (go_at_call 53; refine Hcall.out.mono ?_; rintro e w2 ⟨A2, c2, rfl, hs2, hb2⟩)
    have hz2 := hb2.size
    have hbw2 : Below w.heap.size w w2 := Hbw1.out.trans (hb2.mono (by omega))
    have hb82 : Blk w2 w.heap.size 93 #[.int .i64 0, .slice none 0 0, .int .i64 0] := (hb8.out.same (Hb1.out.block _ (by omega))).same (hb2.block _ (by omega))
    have hbz : Below w.heap.size w (w2.setRow w.heap.size #[.int .i64 num, .slice none 0 0, .int .i64 sv]) := row_below hbw2 (Nat.le_refl _) _
    have hb8r : Blk (w2.setRow w.heap.size #[.int .i64 num, .slice none 0 0, .int .i64 sv]) w.heap.size 93 #[.int .i64 num, .slice none 0 0, .int .i64 sv] := blk_row hb82
    obtain ⟨Hbz, Hb8r, Hb82, Hbw2, Hs2, Hb2⟩ := HH6 hbz hb8r hb82 hbw2 hs2 hb2; clear hbz hb8r hb82 hbw2 hs2 hb2
    clear z0 z1 z2
    go_wp2_with ((with_reducible show wpList _ _ _ (Oper.mk none (.store _ _ _) _ _ _ _ :: _) _ _); refine wpList_storeAtH 93 (.tmp 8) (.tmp 33) 0 #[.int .i64 0, .slice none 0 0, .int .i64 0] #[.int .i64 num, .slice none 0 0, .int .i64 sv] #[.int .i64 num, .slice none 0 0, .int .i64 sv] rfl rfl rfl rfl Hb82.out (by kernel_rfl) (Nat.le_refl 3) (by simp [Value.oneCell']) rfl rfl ?_)
    (try simp only [Exit.inBlock, Exit.then])
    refine bodyPost_ret (results_row1 rfl _ _ _ _ _ _ rfl Hb8r.out Tryd.underlying93 (by kernel_rfl)) rfl ?_
    refine ⟨none, 0, by rw [Hr.out]; rfl, ?_, Hbz.out⟩
    rw [Hr.out]
    exact ⟨Nat.le_refl _, Nat.zero_le _, (fun _ => rfl), fun i x hx => by simp at hx⟩
   case pos =>
    subst h0
    obtain ⟨Hcall, Hes, Has, Hd, Hxa, Hxk, Hb1, Hbl1, Hbw1, Z0, Z1, Z2⟩ := HH12 hcall hes has hd hxa hxk hb1 hbl1 hbw1 z0 z1 z2; clear hcall hes has hd hxa hxk hb1 hbl1 hbw1 z0 z1 z2
    go_upto_region 5 with fail
    rw [<- hW1]
    have HW1 := HH1 hW1; clear hW1
    have z0 := Z0.out
    have z1 := Z1.out
    have z2 := Z2.out
    clear q0 q1 q2
    go_upto_region 8 with (go_at_call 53; refine Hcall.out.mono ?_; rintro e w2 ⟨A2, c2, rfl, hs2, hb2⟩)
    have hs2 : SlAt pCel (fun q => W1.heap.size <= q /\ q < w2.heap.size) w2 A2 c2 sl := hs2
    have hz2 := hb2.size
    have hbo2 : Below wo.heap.size wo w2 := Hb1.out.trans (hb2.mono (by omega))
    have hbw2 : Below w.heap.size w w2 := hb.out.trans (hbo2.mono (by omega))
    have hb82 := hb8.out.same (hbo2.block _ (by omega))
    have hb92 := hb9.out.same (hbo2.block _ (by omega))
    have how2 := how.out.later hbo2
    have hF : ∀ q, (W1.heap.size <= q /\ q < w2.heap.size) -> w.heap.size + 2 <= q /\ q < w2.heap.size /\ some q ≠ (Value.slice Ao n co).ownBlock := fun q hq => ⟨by omega, hq.2, fun he => by have := (how.out.lt q he.symm).2; omega⟩
    have hlk : (allL rs s (l.take k) ++ sl).length = n + sl.length := by rw [List.length_append, hn.out]
    have hrk : Room (n + sl.length) := room_of (by omega)
    have hba : w.heap.size + 2 <= w2.heap.size := by omega
    have hne8 : some w.heap.size ≠ (Value.slice Ao n co).ownBlock := fun he => by have := how.out.lt _ he.symm; omega
    have hne9 : some (w.heap.size + 1) ≠ (Value.slice Ao n co).ownBlock := fun he => by have := how.out.lt _ he.symm; omega
    have hlt8 : w.heap.size < w2.heap.size := by omega
    have hlt9 : w.heap.size + 1 < w2.heap.size := by omega
    have m1 : w2.cell? ⟨w.heap.size + 1, 1, none⟩ = some (.slice Ao n co) := (hb92.cell 1).trans rfl
    obtain ⟨Hs2, Hb2, Hbo2, Hbw2, Hb82, Hb92, How2, HF, Hlk, Hrk, Hne8, Hne9⟩ := HH12 hs2 hb2 hbo2 hbw2 hb82 hb92 how2 hF hlk hrk hne8 hne9; clear hs2 hb2 hbo2 hbw2 hb82 hb92 how2 hF hlk hrk hne8 hne9
    clear z0 z1 z2
    go_wp2_with (at_builtin; refine wpList_catG (E := pCel) (xs := allL rs s (l.take k)) (v := .slice Ao n co) (base := w.heap.size + 2) (G := (w.heap.size + 2 <= ·)) 26 51 (.agg #[.string ByteArray.empty, .int .u8 0, .slice none 0 0]) 48 (.tmp 35) (.tmp 36) rfl rfl Tryd.underlying26 info_cel rfl (by decide) rfl How2.out A2 c2 sl rfl _ Hs2.out HF.out (n + sl.length) Hlk.out Hrk.out (by decide) hba ?_; intro A6 c6 w6 hown6 hg6; have hb96 := Hb92.out.same (hg6.out.oth _ hlt9 Hne9.out); have x6 := hb96.cell 1; have f6 := hb96.free 1; have Hb96 := HH1 hb96; clear hb96)
    go_roundw
    case rel =>
     have hz6 := hg6.out.bel.size
     have hs6 : (w6.setCell ⟨w.heap.size + 1, 1, none⟩ (.slice A6 (n + sl.length) c6)).heap.size = w6.heap.size := by simp [World.setCell]
     refine ⟨k + 1, n + sl.length, A6, c6, hlt, by go_num, ?_, Hes, ?_, by omega, ?_, ?_, ?_⟩
     ·unfold Hid; rw [Has.out]; exact Hlk.out
     ·exact (Hbw2.out.trans (hg6.out.bel.mono (by omega))).setCell (by show w.heap.size <= w.heap.size + 1; omega) _
     ·exact (Hb82.out.same (hg6.out.oth _ hlt8 Hne8.out)).same (Below.heap_setCell _ _ _ _ (by show w.heap.size ≠ w.heap.size + 1; omega))
     ·have := Hb96.out.set 1 (.slice A6 (n + sl.length) c6)
      unfold Hid
      simpa using this
     ·unfold Hid
      rw [Has.out]
      refine hown6.out.keepG (fun x hx hG => Below.heap_setCell _ _ _ _ ?_) (by omega)
      rcases hG with hG | hG
      ·show x ≠ w.heap.size + 1; omega
      ·have := hown6.out.lt x hG
       show x ≠ w.heap.size + 1
       omega
    case measure => simp [intOf]; omega
end
section
open Go.RowKit Go.Sort Go.BigFrame
theorem cells_fine {l : List Cel} (h : cellsR l = 0) : l.length <= 2000 /\ (∀ x ∈ l, pathF x.path = true) /\ checkF (l.map (·.mod)) = 0 := by
 unfold cellsR at h
 by_cases h1 : 2000 < l.length
 ·rw [if_pos h1] at h; cases h
 ·rw [if_neg h1] at h
  by_cases h2 : (l.all fun x => pathF x.path) = true
  ·rw [if_pos h2] at h
   exact ⟨by omega, List.all_eq_true.1 h2, h⟩
  ·rw [if_neg h2] at h; cases h
theorem cells_each {l : List Cel} (h : cellsR l = 0) : ∀ x ∈ l, fineF x.mod = true /\ x.path.size <= 300 := fun x hx => by
 obtain ⟨_, h2, h3⟩ := cells_fine h
 refine ⟨checkF_fine h3 _ (List.mem_map.2 ⟨x, hx, rfl⟩), ?_⟩
 have := h2 x hx
 unfold pathF at this
 simp only [Bool.and_eq_true, decide_eq_true_eq] at this
 have := this.1.2
 omega
theorem stepR9_err {rs : List Rul} {s : Int} {l : List Cel} (h : errL rs s l ≠ 0) : stepR9 rs s l = ([], errL rs s l) := by unfold stepR9; rw [if_pos h]
theorem stepR9_many {rs : List Rul} {s : Int} {l : List Cel} (h : errL rs s l = 0) (h2 : 2000 < (allL rs s l).length) : stepR9 rs s l = ([], 4) := by unfold stepR9; rw [if_neg (by rw [h]; decide), if_pos h2]
theorem stepR9_ok {rs : List Rul} {s : Int} {l : List Cel} (h : errL rs s l = 0) (h2 : ¬ 2000 < (allL rs s l).length) : stepR9 rs s l = (allL rs s l, 0) := by unfold stepR9; rw [if_neg (by rw [h]; decide), if_neg h2]
end
section
open Go.RowKit Go.Sort Go.BigFrame
end
section
open Go.RowKit
theorem digits_path : ∀ (f n : Nat), n < f -> ∀ b ∈ Lib.decDigits n, pathB b = true
 | 0, n, h, b, hb => absurd h (Nat.not_lt_zero _)
 | f + 1, n, h, b, hb => by
  have hd : ∀ d, d < 10 -> pathB (UInt8.ofNat (48 + d)) = true := by decide
  rw [Lib.decDigits] at hb
  split at hb
  ·rename_i hn
   simp only [List.mem_singleton] at hb
   subst hb; exact hd n hn
  ·rename_i hn
   rcases List.mem_append.1 hb with hb | hb
   ·exact digits_path f (n / 10) (by omega) b hb
   ·simp only [List.mem_singleton] at hb
    subst hb; exact hd _ (Nat.mod_lt _ (by omega))
theorem itoaB_list (k : Nat) : (itoaB k).data.toList = Lib.decDigits k := by
 unfold itoaB Lib.itoa
 rw [if_neg (by omega)]
 simp
theorem itoaB_path (k : Nat) : (itoaB k).data.toList.all pathB = true := by
 rw [itoaB_list, List.all_eq_true]
 exact digits_path (k + 1) k (Nat.lt_succ_self _)
theorem size_list (b : ByteArray) : b.size = b.data.toList.length := by
 show b.data.size = _
 simp
theorem itoaB_pos (k : Nat) : 1 <= (itoaB k).size := by
 rw [size_list, itoaB_list, Lib.decDigits]
 split
 ·simp
 ·simp
theorem app_list (a b : ByteArray) : (a ++ b).data.toList = a.data.toList ++ b.data.toList := by simp
theorem subP_path {p : ByteArray} (h : pathF p = true) (i : Nat) (hs : (subP p i).size <= 200) : pathF (subP p i) = true := by
 unfold pathF at h ⊢
 simp only [Bool.and_eq_true, decide_eq_true_eq] at h ⊢
 refine ⟨⟨by rw [subP_size]; omega, hs⟩, ?_⟩
 unfold subP
 rw [app_list, app_list, List.all_append, List.all_append, h.2, itoaB_path]
 rfl
theorem itoaB_ok {k : Nat} (h : k <= 1000000) : pathF (itoaB k) = true := by
 unfold pathF
 simp only [Bool.and_eq_true, decide_eq_true_eq]
 exact ⟨⟨itoaB_pos k, by have := itoaB_size h; omega⟩, itoaB_path k⟩
theorem map_mapIdx {α β : Type} {f : Nat -> α -> β} {g : β -> α} (h : ∀ i a, g (f i a) = a) (l : List α) : (l.mapIdx f).map g = l := by
 apply List.ext_getElem?
 intro i
 rw [List.getElem?_map, List.getElem?_mapIdx]
 cases l[i]? with
 | none => rfl
 | some a => show some (g (f i a)) = some a; rw [h]
theorem sucL_mods (p : ByteArray) (ms : List Mod) : (sucL p ms).map (·.mod) = ms := map_mapIdx (fun _ _ => rfl) ms
theorem beginL_mods (ms : List Mod) : (beginL ms).map (·.mod) = ms := map_mapIdx (fun _ _ => rfl) ms
theorem mem_mapIdx' {α β : Type} {f : Nat -> α -> β} {l : List α} {y : β} (h : y ∈ l.mapIdx f) : ∃ i a, l[i]? = some a /\ y = f i a := by
 obtain ⟨i, hi, e⟩ := List.mem_iff_getElem.1 h
 rw [List.length_mapIdx] at hi
 refine ⟨i, l[i], List.getElem?_eq_getElem hi, ?_⟩
 rw [<- e, List.getElem_mapIdx]
theorem made_valid {r : Rul} {m : Mod} (hr : coreR r = true) (hm : fineF m = true) (hf : fitsF r m = true) (hok : madeOk r m = true) : (madeL r m).all fineF = true /\ ∀ n k, scan n [m] = some k -> scan n (madeL r m) = some k := by
 have h1 : firstF [r] m = ((0 : Nat) : Int) := by
  show firstFrom m [r] 0 = _
  unfold firstFrom
  rw [if_pos hf]
 obtain ⟨e1, e2⟩ := made_succ (rs := [r]) h1 rfl
 have := outs_ok (rs := [r]) (m := m) (by simp [hr]) hm (by rw [e1]; exact hok)
 rw [e2] at this
 exact this
theorem succR_valid {rs : List Rul} (hv : RVal rs) {s : Int} {c : Cel} (hc : fineF c.mod = true) (hp : pathF c.path = true) (h0 : (succR rs s c).2 = 0) :
  (∀ x ∈ (succR rs s c).1, pathF x.path = true) /\ ((succR rs s c).1.map (·.mod)).all fineF = true /\ ∀ n k, scan n [c.mod] = some k -> scan n ((succR rs s c).1.map (·.mod)) = some k := by
 rcases pick_cases hv s c with ⟨_, _, h⟩ | ⟨i, j, r, _, _, _, hj, hf, h⟩
 ·rw [succR_none h]
  refine ⟨fun x hx => ?_, by simpa using hc, fun n k hk => hk⟩
  simp only [List.mem_singleton] at hx
  subst hx; exact hp
 ·have e := succR_some h
  rw [e] at h0 ⊢
  cases hm : madeOk r c.mod
  ·rw [sucR_not hm] at h0; cases h0
  ·cases hs : shortL (sucL c.path (madeL r c.mod))
   ·rw [sucR_long hm hs] at h0; cases h0
   ·rw [sucR_ok hm hs]
    have hmv := made_valid (hv.c r (List.mem_of_getElem? hj)) hc hf hm
    refine ⟨fun x hx => ?_, ?_, ?_⟩
    ·have hx2 : x.path.size <= 200 := by
      have := List.all_eq_true.1 hs x hx
      simpa using this
     obtain ⟨i, m, _, rfl⟩ := mem_mapIdx' hx
     exact subP_path hp i hx2
    ·show ((sucL c.path (madeL r c.mod)).map (·.mod)).all fineF = true
     rw [sucL_mods]; exact hmv.1
    ·show ∀ n k, scan n [c.mod] = some k -> scan n ((sucL c.path (madeL r c.mod)).map (·.mod)) = some k
     rw [sucL_mods]; exact hmv.2
theorem errL_cons {rs : List Rul} {s : Int} {c : Cel} {l : List Cel} (h : errL rs s (c :: l) = 0) : (succR rs s c).2 = 0 /\ errL rs s l = 0 := by
 have e : errL rs s (c :: l) = if (succR rs s c).2 ≠ 0 then (succR rs s c).2 else errL rs s l := rfl
 rw [e] at h
 by_cases h1 : (succR rs s c).2 ≠ 0
 ·rw [if_pos h1] at h; exact absurd h h1
 ·rw [if_neg h1] at h; exact ⟨Classical.not_not.1 h1, h⟩
theorem allL_valid {rs : List Rul} (hv : RVal rs) {s : Int} : ∀ l : List Cel, (∀ x ∈ l, pathF x.path = true) -> (l.map (·.mod)).all fineF = true -> errL rs s l = 0 ->
  (∀ x ∈ allL rs s l, pathF x.path = true) /\ ((allL rs s l).map (·.mod)).all fineF = true /\ ∀ n k, scan n (l.map (·.mod)) = some k -> scan n ((allL rs s l).map (·.mod)) = some k
 | [], _, _, _ => ⟨fun x hx => by simp [allL] at hx, rfl, fun n k h => h⟩
 | c :: l, h1, h2, h3 => by
  obtain ⟨e1, e2⟩ := errL_cons h3
  rw [List.map_cons, List.all_cons, Bool.and_eq_true] at h2
  have a1 := succR_valid hv (s := s) h2.1 (h1 c (by simp)) e1
  have a2 := allL_valid hv (s := s) l (fun x hx => h1 x (by simp [hx])) h2.2 e2
  have e : allL rs s (c :: l) = (succR rs s c).1 ++ allL rs s l := rfl
  rw [e]
  refine ⟨fun x hx => ?_, ?_, fun n k h => ?_⟩
  ·rcases List.mem_append.1 hx with hx | hx
   ·exact a1.1 x hx
   ·exact a2.1 x hx
  ·rw [List.map_append, List.all_append, a1.2.1, a2.2.1]; rfl
  ·have h3 := scan_app [c.mod] (l.map (·.mod)) n
   rw [List.singleton_append, show c.mod :: l.map (·.mod) = (c :: l).map (·.mod) from rfl, h] at h3
   rw [List.map_append]
   cases h4 : scan n [c.mod] with
   | none => rw [h4] at h3; cases h3
   | some j =>
    rw [h4] at h3
    rw [scan_app, a1.2.2 n j h4]
    exact a2.2.2 j k h3.symm
theorem step9_valid {rs : List Rul} (hv : RVal rs) {s : Int} {l : List Cel} (hc : cellsR l = 0) (h : (stepR9 rs s l).2 = 0) : cellsR (stepR9 rs s l).1 = 0 := by
 obtain ⟨h1, h2, h3⟩ := cells_fine hc
 obtain ⟨_, h4, h5⟩ := checkF_iff.1 h3
 by_cases he : errL rs s l ≠ 0
 ·rw [stepR9_err he] at h; exact absurd h he
 ·have he : errL rs s l = 0 := Classical.not_not.1 he
  by_cases hn : 2000 < (allL rs s l).length
  ·rw [stepR9_many he hn] at h; cases h
  ·rw [stepR9_ok he hn]
   have hal := allL_valid hv (s := s) l h2 h4 he
   rw [cellsR_all hn (List.all_eq_true.2 hal.1)]
   exact checkF_iff.2 ⟨by simp; omega, hal.2.1, hal.2.2 0 0 h5⟩
theorem begin9_valid {ms : List Mod} (h : checkF ms = 0) : cellsR (beginL ms) = 0 := by
 have hl := checkF_le h
 have hb := beginL_len ms
 rw [cellsR_all (by omega) (List.all_eq_true.2 fun x hx => ?_), beginL_mods]
 ·exact h
 ·obtain ⟨i, m, hi, rfl⟩ := mem_mapIdx' hx
  have := (List.getElem?_eq_some_iff.1 hi).1
  exact itoaB_ok (by omega)
def iterP9 (rs : List Rul) (s : Int) : Nat -> List Cel -> List Cel × Int
 | 0, l => (l, 0)
 | n + 1, l => if (stepR9 rs s l).2 = 0 then iterP9 rs s n (stepR9 rs s l).1 else ([], (stepR9 rs s l).2)
theorem iterP9_step (rs : List Rul) (s : Int) (n : Nat) (l : List Cel) : iterP9 rs s (n + 1) l = if (stepR9 rs s l).2 = 0 then iterP9 rs s n (stepR9 rs s l).1 else ([], (stepR9 rs s l).2) := rfl
def pRun9 (rs : List Rul) (s : Int) (ms : List Mod) (n : Int) : List Cel × Int :=
 if checkC rs = 0 then (if checkF ms = 0 then (if n < 0 ∨ 30 < n then ([], 2) else iterP9 rs s n.toNat (beginL ms)) else ([], checkF ms)) else ([], checkC rs)
end
end Go.Proofs.YtlipmagkplbkdaaDoor
