/-
  Layer 6: the walks of word.Twin and of the reference's Twin.
-/
import Derived.Test.YtlipmagkplbkdaaDoorWd
import Derived.StillTailTactics
import Derived.Deep.RegionHeld3
namespace Go.Proofs.YtlipmagkplbkdaaDoor
open Go.RowKit

theorem info_mod : (Tryd.prog.info? 49).map (fun i => (i.zero, i.size, i.bytes)) = some (some (.agg #[.int .u8 0, .slice none 0 0]), 2, 32) := by kernel_rfl

/-- the cells of a block of modules, k of them twinned -/
def TwinAt (w0 : World) (g : Nat) (ms : List Mod) (k : Nat) (w : World) (C : Array Value) : Prop :=
  ∀ i m, ms[i]? = some m → ∃ A' c', C[i * 2]? = some (.int .u8 m.name) ∧ C[i * 2 + 1]? = some (.slice A' m.args.length c') ∧ Fits .u8 m.name ∧
    ((i < k ∧ SlAt (pI .i64) (fun q => g < q ∧ q < w.heap.size) w A' c' m.args ∧ (m.args ≠ [] → ∀ b o, A' = some ⟨b, o, none⟩ → Unf w b)) ∨ (k ≤ i ∧ SlAt (pI .i64) (Old w0) w A' c' m.args))

def TwinPost (ms : List Mod) (w : World) (e : Ending) (w' : World) : Prop :=
  ∃ A c, e = .returned (.slice A ms.length c) ∧ Own pModF 49 w.heap.size (w.heap.size ≤ ·) w' (.slice A ms.length c) ms ∧ Below w.heap.size w w'

theorem twinAt_own {w0 w : World} {g : Nat} {ms : List Mod} {C : Array Value} (hb : Blk w g 49 C) (hC : C.size = ms.length * 2) (hg : w0.heap.size ≤ g) (hm : ms.length ≤ maxLen) (h : TwinAt w0 g ms ms.length w C) :
    Own pModF 49 w0.heap.size (w0.heap.size ≤ ·) w (.slice (some ⟨g, 0, none⟩) ms.length ms.length) ms := by
  refine ⟨C.toList, ⟨by simpa [pModF] using hC, .inr ⟨g, ms.length, C, rfl, hg, hb, Nat.le_refl _, hm, by simpa [pModF] using hC, ?_⟩⟩, ?_⟩
  · exact List.take_of_length_le (by simp [pModF]; omega)
  · refine cellsAre_idx (by simpa [pModF] using hC) fun i m hi => ?_
    obtain ⟨A', c', h1, h2, h3, h4⟩ := h i m hi
    have hlt : i < ms.length := (List.getElem?_eq_some_iff.1 hi).1
    rcases h4 with ⟨_, h5, h6⟩ | ⟨h5, _⟩
    · refine ⟨[.int .u8 m.name, .slice A' m.args.length c'], ⟨A', c', rfl, h3, h5.wide fun q hq => ⟨by omega, hq.2, fun he => ?_⟩, h6⟩, fun j c hc => ?_⟩
      · simp [Value.ownBlock] at he; omega
      · match j, hc with
        | 0, hc => simp at hc; subst hc; simpa [pModF] using h1
        | 1, hc => simp at hc; subst hc; simpa [pModF] using h2
    · omega

theorem info_int2 : (Tryd.prog.info? 3).map (fun i => (i.zero, i.size, i.bytes)) = some (some (.int .i64 0), 1, 8) := by kernel_rfl

set_option maxRecDepth 100000 in
set_option maxHeartbeats 1000000 in
theorem twin_calls (A : Option Addr) (c : Nat) (ms : List Mod) (w : World) (h : SlAt pMod (Old w) w A c ms) (hbd : ms.length ≤ 10000) (hbd2 : ∀ m ∈ ms, m.args.length ≤ 1000) :
    Calls Tryd.prog 43 #[.slice A ms.length c] w (TwinPost ms w) := by
  have hmx := h.lenle
  have H := Lib.hid h; clear h
  have Hbd2 := Lib.hid hbd2; clear hbd2
  have hmk := fun (wx : World) => run_make_rowN (P := Tryd.prog) (t := 23) (e := 49) Tryd.underlying23 info_mod ms.length (by omega) (by omega) wx
  have hcell : ∀ q, Old w q → (w.alloc (.cells (madeCells (Value.agg #[.int .u8 0, .slice none 0 0]).cells (ms.length * 2)) 49)).heap[q]? = w.heap[q]? := fun q hq => Below.heap_alloc _ _ _ hq
  have H1 := Lib.hid (H.out.keep hcell)
  clear hcell
  go_enter Tryd.func43, Tryd.ntmps43
  go_wp2_with ((with_reducible show wpList _ _ _ (Oper.mk (some 10) _ _ _ _ _ :: _) _ _); refine wpList_copyAll (E := pMod) 23 49 (.tmp 8) (.tmp 9) rfl rfl Tryd.underlying23 (by kernel_rfl) ms.length w.heap.size 49 _ rfl (Blk.new _ _ _) (size_madeCells _ _) A c ms rfl rfl (Old w) H1.out (fun q hq => Nat.ne_of_lt hq) w.heap.size w ((Below.refl _ _).alloc (Nat.le_refl _) _) (Nat.le_refl _) ?_; intro w1 cells hblk hcells hb1 hk1 hsz1)
  have hsz1' : w.heap.size < w1.heap.size := by rw [hsz1]; simp
  have hC1 : TwinAt w w.heap.size ms 0 w1 cells.toArray ∧ cells.toArray.size = ms.length * 2 := by
    refine ⟨fun i m hi => ?_, by simpa [pMod] using hcells.out.length⟩
    obtain ⟨cs, ⟨A', c', rfl, h3, h4⟩, h5⟩ := hcells.out.get hi
    exact ⟨A', c', by simpa [pMod] using h5 0 _ rfl, by simpa [pMod] using h5 1 _ rfl, h3, .inr ⟨Nat.zero_le _, h4⟩⟩
  have HC1 := Lib.hid hC1; clear hC1 hmk hk1
  go_loopw [13] (fun i wr => ∃ k : Nat, k ≤ ms.length ∧ i = .int .i64 k ∧ Hid (Below w.heap.size w wr) ∧ w.heap.size < wr.heap.size ∧ ∃ C : Array Value, Hid (Blk wr w.heap.size 49 C) ∧ Hid (TwinAt w w.heap.size ms k wr C ∧ C.size = ms.length * 2)) (fun i _ => ms.length - (intOf i).toNat)
  case atStart => exact ⟨0, Nat.zero_le _, rfl, hb1, hsz1', _, hblk, HC1⟩
  case round =>
    obtain ⟨k, hk, rfl, hb, hsz, C, hblk2, hC⟩ := hrel
    obtain ⟨wo, rfl⟩ : ∃ wo : World, wo = wr := ⟨_, rfl⟩
    clear hblk hcells hb1 HC1 hsz1 hsz1'
    by_cases hlt : k < ms.length
    · obtain ⟨A', c', h0, h1, hf8, harr⟩ := hC.out.1 k ms[k] (List.getElem?_eq_getElem hlt)
      have hold : SlAt (pI .i64) (Old w) wo A' c' ms[k].args := by
        rcases harr with ⟨h, _⟩ | ⟨_, h⟩
        · omega
        · exact h
      have hal : ms[k].args.length ≤ 1000 := Hbd2.out _ (List.getElem_mem hlt)
      clear harr
      obtain ⟨m, hm⟩ : ∃ m, m = ms[k] := ⟨_, rfl⟩
      rw [← hm] at h0 h1 hf8 hold hal
      have Hm := Lib.hid (show ms[k]? = some m by rw [hm]; exact List.getElem?_eq_getElem hlt)
      clear hm
      have hc1 := (hblk2.out.cell (k * 2 + 1)).trans h1
      have hfz := hblk2.out.free (k * 2 + 1)
      have Hold := Lib.hid hold; clear hold
      have H0 := Lib.hid h0; clear h0
      have H1' := Lib.hid h1; clear h1
      have hnil : Own (pI .i64) 3 wo.heap.size (fun _ => True) wo (.slice none 0 0) [] := Own.nil
      have Hnil := Lib.hid hnil; clear hnil
      go_wp2_with (at_builtin; refine wpList_cat (E := pI .i64) (xs := []) (v := .slice none 0 0) (base := wo.heap.size) (G := fun _ => True) 47 3 (.int .i64 0) 8 _ (.tmp 22) rfl rfl Tryd.underlying47 info_int2 rfl (by decide) rfl Hnil.out A' c' m.args rfl (Old w) Hold.out ?a2 m.args.length rfl (room_of ?a3) (by decide) (Nat.le_refl _) ?_; rotate_right; intro A1 c1 w2 hown1 hb2 hk2; have Hown1 := Lib.hid hown1; have Hk2 := Lib.hid hk2; clear hown1 hk2; have hfz2 := (Below.frozen hb2 (p := ⟨w.heap.size, k * 2 + 1, none⟩) hsz).trans hfz; have hc2 := (Below.cell hb2 (p := ⟨w.heap.size, k * 2 + 1, none⟩) hsz).trans hc1; have Hb2 := Lib.hid hb2; have hsz2 := hb2.size; clear hb2)
      case a2 => intro q hq; exact ⟨trivial, Nat.lt_trans hq hsz, by simp [Value.ownBlock]⟩
      case a3 => omega
      go_roundw
      case rel =>
        have hW : ∀ q, q ≠ w.heap.size → q < wo.heap.size → (w2.setCell ⟨w.heap.size, k * 2 + 1, none⟩ (.slice A1 m.args.length c1)).heap[q]? = wo.heap[q]? := fun q hq hlt' => by
          rw [Below.heap_setCell _ _ _ _ hq, Hb2.out.block q hlt']
        have hW2 : ∀ q, q ≠ w.heap.size → (w2.setCell ⟨w.heap.size, k * 2 + 1, none⟩ (.slice A1 m.args.length c1)).heap[q]? = w2.heap[q]? := fun q hq => Below.heap_setCell _ _ _ _ hq
        have hbW : Below w.heap.size w (w2.setCell ⟨w.heap.size, k * 2 + 1, none⟩ (.slice A1 m.args.length c1)) := (hb.out.trans (Hb2.out.mono (Nat.le_of_lt hsz))).setCell (Nat.le_refl _) _
        have hszW : (w2.setCell ⟨w.heap.size, k * 2 + 1, none⟩ (.slice A1 m.args.length c1)).heap.size = w2.heap.size := by simp [World.setCell]
        have hB2 : Blk w2 w.heap.size 49 C := hblk2.out.same (Hb2.out.block _ hsz)
        refine ⟨k + 1, by omega, by go_num, hbW, by rw [hszW]; omega, _, hB2.set (k * 2 + 1) (.slice A1 m.args.length c1), fun i m' hi => ?_, by simpa using hC.out.2⟩
        by_cases hik : i = k
        · subst hik
          rw [Hm.out] at hi
          cases hi
          have hCs : i * 2 + 1 < C.size := (Array.getElem?_eq_some_iff.1 H1'.out).1
          refine ⟨A1, c1, ?_, ?_, hf8, .inl ⟨Nat.lt_succ_self _, ?_, ?_⟩⟩
          · rw [Array.getElem?_setIfInBounds_ne (by omega)]; exact H0.out
          · rw [Array.getElem?_setIfInBounds_self_of_lt hCs]
          · obtain ⟨A3, c3, h3, h4⟩ := (Hown1.out.flat (pI_flat _) (G' := (wo.heap.size ≤ ·))).fresh
            cases h3
            exact (h4.wide fun q hq => ⟨by omega, by rw [hszW]; exact hq.2⟩).keep fun q hq => hW2 q (by omega)
          · intro hne b o hA
            subst hA
            refine unf_same (own_unf Hown1.out) (hW2 b ?_)
            have := Hown1.out.lt b rfl
            omega
        · obtain ⟨A2, c2, g0, g1, g2, g3⟩ := hC.out.1 i m' hi
          refine ⟨A2, c2, ?_, ?_, g2, ?_⟩
          · rw [Array.getElem?_setIfInBounds_ne (by omega)]; exact g0
          · rw [Array.getElem?_setIfInBounds_ne (by omega)]; exact g1
          · rcases g3 with ⟨g3, g4, g5⟩ | ⟨g3, g4⟩
            · refine .inl ⟨by omega, (g4.keep fun q hq => hW q (by omega) hq.2).wide fun q hq => ⟨hq.1, by rw [hszW]; omega⟩, fun hne b o hA => ?_⟩
              obtain ⟨b', o', _, _, hA', hFq, _⟩ := g4.getI (i := 0) (List.length_pos_iff.2 hne)
              rw [hA] at hA'; cases hA'
              exact unf_same (g5 hne b o hA) (hW b (by omega) hFq.2)
            · exact .inr ⟨by omega, g4.keep fun q hq => hW q (Nat.ne_of_lt hq) (Nat.lt_trans hq hsz)⟩
      case measure => simp [intOf]; omega
    · obtain rfl : k = ms.length := by omega
      go_wp2
      go_ret
      exact ⟨_, _, rfl, twinAt_own hblk2.out hC.out.2 (Nat.le_refl _) (by unfold maxLen; omega) hC.out.1, hb.out⟩

end Go.Proofs.YtlipmagkplbkdaaDoor
