/-
  Layer 9: the walks of modules and of the reference's modules.
-/
import Derived.Test.YtlipmagkplbkdaaDoorHb
import Derived.Test.YtlipmagkplbkdaaDoorLr
import Derived.Test.YtlipmagkplbkdaaDoorFc
import Derived.Test.YtlipmagkplbkdaaDoorWe
namespace Go.Proofs.YtlipmagkplbkdaaDoor
open Go.RowKit

section
variable {P : Program}
theorem wpList_storeAtH {ops : Array Oper} {rest : List Oper} {o : Oper} {a : Act} {Q : Exit → Act → World → Prop} {w : World} {g : Nat} {t : TypeId} (ty : TypeId) (p x : Operand) (off : Nat) (old cells row : Array Value) (hgd : o.guard = none) (ho : o.op = .store ty p x) (hp : a.eval p = .pointer (some ⟨g, off, none⟩)) (hx : a.eval x = .agg cells)
    (hg : Blk w g t old) (hi : (P.info? ty).map (·.size) = some cells.size) (hs : off + cells.size ≤ old.size) (h1 : cells.all (·.oneCell') = true) (hrow : (old.toList.take off ++ cells.toList ++ old.toList.drop (off + cells.size)).toArray = row) (hd : o.dst = none) (h : wpList P ops Q rest a (w.setRow g row)) : wpList P ops Q (o :: rest) a w := by
  unfold wpList
  rw [if_pos (by simp [Region.wanted, hgd])]
  exact .inl (wp_storeAtG ty p x off old cells row ho hp hx hg hi hs h1 hrow hd h)
end
/-- two cells of a row, set -/
def row2 (C : Array Value) (k : Nat) (a b : Value) : Array Value := (C.toList.take (k * 2) ++ (#[a, b] : Array Value).toList ++ C.toList.drop (k * 2 + (#[a, b] : Array Value).size)).toArray
theorem row2_size {C : Array Value} {k : Nat} {a b : Value} (h : k * 2 + 2 ≤ C.size) : (row2 C k a b).size = C.size := by
  unfold row2; simp; omega
theorem row2_get {C : Array Value} {k : Nat} {a b : Value} (h : k * 2 + 2 ≤ C.size) (i : Nat) : (row2 C k a b)[i]? = if i = k * 2 then some a else if i = k * 2 + 1 then some b else C[i]? := by
  unfold row2
  rw [List.getElem?_toArray]
  have e : C[i]? = C.toList[i]? := by simp
  by_cases h1 : i < k * 2
  · rw [if_neg (by omega), if_neg (by omega), List.append_assoc, List.getElem?_append_left (by simp; omega), List.getElem?_take_of_lt h1, e]
  · by_cases h2 : i = k * 2
    · subst h2
      rw [if_pos rfl, List.append_assoc, List.getElem?_append_right (by simp; omega), List.length_take]
      simp
      rw [show k * 2 - min (k * 2) C.size = 0 from by omega]; rfl
    · by_cases h3 : i = k * 2 + 1
      · subst h3
        rw [if_neg h2, if_pos rfl, List.append_assoc, List.getElem?_append_right (by simp; omega), List.length_take]
        simp
        rw [show k * 2 + 1 - min (k * 2) C.size = 1 from by omega]; rfl
      · rw [if_neg h2, if_neg h3, List.getElem?_append_right (by simp; omega), List.getElem?_drop, e]
        congr 1
        simp
        omega
def ModsPost (ms : List Mod) (w : World) (e : Ending) (w' : World) : Prop := ∃ A c, e = .returned (.slice A ms.length c) ∧ SlAt pMod (Old w') w' A c ms ∧ Below w.heap.size w w'
/-- the cells of a block of modules, k of them laid -/
def LaidM (w0 : World) (ms : List Mod) (k : Nat) (C : Array Value) : Prop :=
  ∀ i m, i < k → ms[i]? = some m → ∃ A' c', C[i * 2]? = some (.int .u8 m.name) ∧ C[i * 2 + 1]? = some (.slice A' m.args.length c') ∧ Fits .u8 m.name ∧ SlAt (pI .i64) (Old w0) w0 A' c' m.args
theorem laidM_set {w0 : World} {ms : List Mod} {k : Nat} {C : Array Value} {m : Mod} {A' : Option Addr} {c' : Nat} (h : LaidM w0 ms k C) (hC : C.size = ms.length * 2) (hk : ms[k]? = some m) (hf : Fits .u8 m.name) (hs : SlAt (pI .i64) (Old w0) w0 A' c' m.args) :
    LaidM w0 ms (k + 1) (row2 C k (.int .u8 m.name) (.slice A' m.args.length c')) := by
  have hlt := (List.getElem?_eq_some_iff.1 hk).1
  intro i x hi hx
  by_cases hik : i = k
  · subst hik
    rw [hk] at hx
    cases hx
    exact ⟨A', c', by rw [row2_get (by omega), if_pos rfl], by rw [row2_get (by omega), if_neg (by omega), if_pos rfl], hf, hs⟩
  · obtain ⟨A2, c2, h1, h2, h3⟩ := h i x (by omega) hx
    exact ⟨A2, c2, by rw [row2_get (by omega), if_neg (by omega), if_neg (by omega)]; exact h1, by rw [row2_get (by omega), if_neg (by omega), if_neg (by omega)]; exact h2, h3⟩
theorem laidM_sl {w0 w : World} {g : Nat} {t : TypeId} {ms : List Mod} {C : Array Value} (h : LaidM w0 ms ms.length C) (hb : Blk w g t C) (hbe : Below w0.heap.size w0 w) (hn : ms.length ≤ maxLen) : SlAt pMod (Old w) w (some ⟨g, 0, none⟩) ms.length ms := by
  refine ⟨Nat.le_refl _, hn, fun e => by simp at e, fun i m hi => ?_⟩
  have hlt := (List.getElem?_eq_some_iff.1 hi).1
  obtain ⟨A', c', h1, h2, h3, h4⟩ := h i m hlt hi
  refine ⟨g, 0, _, rfl, hb.lt, ⟨A', c', rfl, h3, h4.later hbe⟩, fun j c hc => ?_⟩
  rw [hb.cell]
  match j, hc with
  | 0, hc => simp at hc; subst hc; simpa [pMod] using h1
  | 1, hc => simp at hc; subst hc; simpa [pMod] using h2

set_option maxRecDepth 100000 in
set_option maxHeartbeats 2000000 in
theorem modules_calls (A : Option Addr) (c : Nat) (l : List Cel) (w : World) (h : SlAt pCel (Old w) w A c l) (hbd : l.length ≤ 10000) :
    Calls Tryd.prog 47 #[.slice A l.length c] w (ModsPost (l.map (·.mod)) w) := by
  have hmx := h.lenle
  have H := Lib.hid h; clear h
  have hmk := fun (wx : World) => run_make_rowN (P := Tryd.prog) (t := 23) (e := 49) Tryd.underlying23 info_mod l.length (by omega) (by omega) wx
  go_enter Tryd.func47, Tryd.ntmps47
  go_wp2
  go_loopw [11] (fun i wr => ∃ k : Nat, k ≤ l.length ∧ i = .int .i64 k ∧ Hid (Below w.heap.size w wr) ∧ w.heap.size < wr.heap.size ∧ ∃ C : Array Value, Hid (Blk wr w.heap.size 49 C) ∧ C.size = l.length * 2 ∧ Hid (LaidM w (l.map (·.mod)) k C)) (fun i _ => l.length - (intOf i).toNat)
  case atStart => exact ⟨0, Nat.zero_le _, rfl, (Below.refl _ _).alloc (Nat.le_refl _) _, by simp, _, Blk.new _ _ _, size_madeCells _ _, fun i m hi => absurd hi (Nat.not_lt_zero _)⟩
  case round =>
    obtain ⟨k, hk, rfl, hb, hsz, C, hblk, hC, hld⟩ := hrel
    obtain ⟨wo, rfl⟩ : ∃ wo : World, wo = wr := ⟨_, rfl⟩
    by_cases hlt : k < l.length
    · obtain ⟨b, o, A', c', x, hd, rfl, hob, k0, k1, k2, hps, hf8, hargs, hal⟩ := (H.out.below hb.out).getCel hlt
      have hob' : b < wo.heap.size := Nat.lt_trans hob hsz
      have hb1 : Blk (wo.alloc (.cells #[.string x.path, .int .u8 x.mod.name, .slice A' x.mod.args.length c'] 51)) w.heap.size 49 C := hblk.out.same (Below.heap_alloc _ _ _ hsz)
      have hrow : (C.toList.take (k * 2) ++ (#[.int .u8 x.mod.name, .slice A' x.mod.args.length c'] : Array Value).toList ++ C.toList.drop (k * 2 + (#[.int .u8 x.mod.name, .slice A' x.mod.args.length c'] : Array Value).size)).toArray = row2 C k (.int .u8 x.mod.name) (.slice A' x.mod.args.length c') := rfl
      have hsC : k * 2 + (#[.int .u8 x.mod.name, .slice A' x.mod.args.length c'] : Array Value).size ≤ C.size := by simp; omega
      have hget : (l.map (·.mod))[k]? = some x.mod := by rw [List.getElem?_map, get_of_drop hd.out]; rfl
      have hld2 : LaidM w (l.map (·.mod)) (k + 1) (row2 C k (.int .u8 x.mod.name) (.slice A' x.mod.args.length c')) := laidM_set hld.out (by simpa using hC) hget hf8 (hargs.out.keep fun q hq => (hb.out.block q hq).symm)
      have hz2 := row2_size (C := C) (k := k) (a := .int .u8 x.mod.name) (b := .slice A' x.mod.args.length c') (by omega)
      have Hb1 := Lib.hid hb1; clear hb1
      have Hrow := Lib.hid hrow; clear hrow
      have HsC := Lib.hid hsC; clear hsC
      have Hld2 := Lib.hid hld2; clear hld2
      have Hz2 := Lib.hid hz2; clear hz2
      clear hmk hld hargs hd hget hblk
      go_wp2_with ((with_reducible show wpList _ _ _ (Oper.mk none _ _ _ _ _ :: _) _ _); refine wpList_storeAtH 49 (.tmp 20) (.tmp 19) (k * 2) C #[.int .u8 x.mod.name, .slice A' x.mod.args.length c'] (row2 C k (.int .u8 x.mod.name) (.slice A' x.mod.args.length c')) rfl rfl rfl rfl Hb1.out (by kernel_rfl) HsC.out (by simp [Value.oneCell']) Hrow.out rfl ?_)
      go_roundw
      case rel => exact ⟨k + 1, by omega, by go_num, row_below (hb.out.alloc (Nat.le_of_lt hsz) _) (Nat.le_refl _) _, by simp; omega, _, blk_row Hb1.out, by rw [Hz2.out]; exact hC, Hld2⟩
      case measure => simp [intOf]; omega
    · obtain rfl : k = l.length := by omega
      have hf := laidM_sl (w0 := w) (g := w.heap.size) (ms := l.map (·.mod)) (by simpa using hld.out) hblk.out hb.out (by simp; unfold maxLen; omega)
      simp only [List.length_map] at hf
      clear hmk
      have Hf := Lib.hid hf; clear hf
      go_wp2
      go_ret
      exact ⟨some ⟨w.heap.size, 0, none⟩, l.length, by simp, Hf.out, hb.out⟩

set_option maxRecDepth 100000 in
set_option maxHeartbeats 2000000 in
theorem refModules_calls (A : Option Addr) (c : Nat) (l : List Cel) (w : World) (h : SlAt pCel (Old w) w A c l) (hbd : l.length ≤ 10000) :
    Calls Tryd.prog 48 #[.slice A l.length c] w (ModsPost (l.map (·.mod)) w) := by
  have hmx := h.lenle
  have H := Lib.hid h; clear h
  go_enter Tryd.func48, Tryd.ntmps48
  go_wp2
  go_loopw [4, 3] (fun i out wr => ∃ k : Nat, k ≤ l.length ∧ i = .int .i64 k ∧ Hid (Below w.heap.size w wr) ∧ w.heap.size ≤ wr.heap.size ∧ ∃ A' c', out = .slice A' k c' ∧ Hid (Own pMod 49 w.heap.size (Old w) wr out ((l.map (·.mod)).take k))) (fun i _ _ => l.length - (intOf i).toNat)
  case atStart => exact ⟨0, Nat.zero_le _, rfl, Below.refl _ _, Nat.le_refl _, none, 0, rfl, Own.nil⟩
  case round =>
    obtain ⟨k, hk, rfl, hb, hsz, Ao, co, rfl, hown⟩ := hrel
    obtain ⟨wo, rfl⟩ : ∃ wo : World, wo = wr := ⟨_, rfl⟩
    by_cases hlt : k < l.length
    · obtain ⟨b, o, A', c', x, hd, rfl, hob, k0, k1, k2, hps, hf8, hargs, hal⟩ := (H.out.below hb.out).getCel hlt
      have hob' : b < wo.heap.size := Nat.lt_of_lt_of_le hob hsz
      have hR : pMod.R (Old w) wo [.int .u8 x.mod.name, .slice A' x.mod.args.length c'] x.mod := ⟨A', c', rfl, hf8, hargs.out⟩
      have hF : ∀ q, Old w q → Old w q ∧ q < wo.heap.size ∧ some q ≠ (Value.slice Ao k co).ownBlock := fun q hq => by
        have hq' : q < w.heap.size := hq
        refine ⟨hq, by omega, fun he => ?_⟩
        have := hown.out.lt q he.symm
        omega
      have hlk : ((l.map (·.mod)).take k).length + 1 = k + 1 := by simp; omega
      have hrk : Room (k + 1) := room_of (by omega)
      have htk : (l.map (·.mod)).take (k + 1) = (l.map (·.mod)).take k ++ [x.mod] := by rw [List.take_add_one, List.getElem?_map, get_of_drop hd.out]; rfl
      have hn := x.mod
      have HR := Lib.hid hR; clear hR
      have HF := Lib.hid hF; clear hF
      have Hlk := Lib.hid hlk; clear hlk
      have Hrk := Lib.hid hrk; clear hrk
      have Htk := Lib.hid htk; clear htk
      clear hargs hd k0
      go_wp2_with ((with_reducible show wpList _ _ _ (Oper.mk (some 17) _ _ _ _ _ :: _) _ _); refine pushMod (xs := (l.map (·.mod)).take k) (base := w.heap.size) (G := Old w) 17 (.tmp 11) (.tmp 16) rfl rfl rfl rfl rfl (fun _ => rfl) (fun _ => rfl) hown.out x.mod.name A' x.mod.args.length c' rfl x.mod (Old w) HR.out HF.out (k + 1) Hlk.out Hrk.out hsz ?_; intro A6 c6 w6 hown6 hg6)
      go_roundw
      case rel =>
        have hz6 := hg6.out.bel.size
        refine ⟨k + 1, by omega, by go_num, hb.out.trans hg6.out.bel, by omega, A6, c6, rfl, ?_⟩
        unfold Hid; rw [Htk.out]; exact hown6.out
      case measure => simp [intOf]; omega
    · obtain rfl : k = l.length := by omega
      have ho := hown.out
      rw [List.take_of_length_le (by simp)] at ho
      obtain ⟨hl, hs⟩ := ho.sl'
      have hs2 : SlAt pMod (Old wo) wo Ao co (l.map (·.mod)) := hs.wide fun q hq => hq.2
      have Hs2 := Lib.hid hs2; clear hs2
      clear hs ho
      go_wp2
      go_ret
      exact ⟨Ao, co, by simp, Hs2.out, hb.out⟩
end Go.Proofs.YtlipmagkplbkdaaDoor
