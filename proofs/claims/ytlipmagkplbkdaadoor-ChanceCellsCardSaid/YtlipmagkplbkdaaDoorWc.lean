/-
  Layer 6: the walks of the reference's Open and Check, of Great, Twin, Join, Same.
-/
import Derived.Test.YtlipmagkplbkdaaDoorWb
namespace Go.Proofs.YtlipmagkplbkdaaDoor
open Go.RowKit

theorem openL_open {m : Mod} {ms : List Mod} {n : Nat} (h : m.name = 91) : openL n (m :: ms) = (openL (n + 1) ms).map ((((n + 1 : Nat) : Int)) :: ·) := by
  conv => lhs; unfold openL
  rw [if_pos h]
theorem openL_close {m : Mod} {ms : List Mod} {n : Nat} (h : m.name = 93) (h0 : ¬ n = 0) : openL n (m :: ms) = (openL (n - 1) ms).map (((n - 1 : Nat) : Int) :: ·) := by
  conv => lhs; unfold openL
  rw [if_neg (by omega), if_pos h, if_neg h0]
theorem openL_no {m : Mod} {ms : List Mod} {n : Nat} (h : m.name = 93) (h0 : n = 0) : openL n (m :: ms) = none := by
  conv => lhs; unfold openL
  rw [if_neg (by omega), if_pos h, if_pos h0]
theorem openL_else {m : Mod} {ms : List Mod} {n : Nat} (h : ¬ m.name = 91) (h' : ¬ m.name = 93) : openL n (m :: ms) = (openL n ms).map ((n : Int) :: ·) := by
  conv => lhs; unfold openL
  rw [if_neg h, if_neg h']

def OpenPost (ms : List Mod) (w : World) (e : Ending) (w' : World) : Prop :=
  Below w.heap.size w w' ∧ ((openL 0 ms = none ∧ e = .returned (.tuple #[.slice none 0 0, .bool false])) ∨
    ∃ l A c, openL 0 ms = some l ∧ l.length = ms.length ∧ e = .returned (.tuple #[.slice A l.length c, .bool true]) ∧ SlAt (pI .i64) (fun k => w.heap.size ≤ k ∧ k < w'.heap.size) w' A c l)
theorem openL_length : ∀ {ms : List Mod} {n : Nat} {l : List Int}, openL n ms = some l → l.length = ms.length
  | [], n, l, h => by cases h; rfl
  | m :: ms, n, l, h => by
    unfold openL at h
    split at h
    · obtain ⟨l', h1, rfl⟩ := Option.map_eq_some_iff.1 h
      simp [openL_length h1]
    · split at h
      · split at h
        · cases h
        · obtain ⟨l', h1, rfl⟩ := Option.map_eq_some_iff.1 h
          simp [openL_length h1]
      · obtain ⟨l', h1, rfl⟩ := Option.map_eq_some_iff.1 h
        simp [openL_length h1]
section
/-- 'out = append(out, n)' over []int -/
theorem pushI {ops : Array Oper} {rest : List Oper} {o1 o2 : Oper} {a : Act} {Q : Exit → Act → World → Prop} {w : World} {base : Nat} {G : Nat → Prop} {v : Value} {xs : List Int} (tmp : Nat) (s xo : Operand)
    (hg1 : o1.guard = none) (hg2 : o2.guard = none) (hd1 : o1.dst = some tmp) (ho1 : o1.op = .buildSlice 47 1 #[(0, xo)])
    (ho2 : o2.op = .call { callee := .builtin .append, args := #[s, .tmp tmp], argTypes := #[47, 47] })
    (hs : ∀ u, (a.put (some tmp) u).eval s = v) (ht2 : ∀ u, (a.put (some tmp) u).eval (.tmp tmp) = u) (hown : Own (pI .i64) 3 base G w v xs)
    (n : Int) (hu : a.eval xo = .int .i64 n) (hf : Fits .i64 n) (hlen : Room xs.length) (hbase : base ≤ w.heap.size)
    (h : ∀ A' c' w', Hid (Own (pI .i64) 3 base G w' (.slice A' (xs.length + 1) c') (xs ++ [n])) → Below base w w' → Hid (∀ k, k < w.heap.size → some k ≠ v.ownBlock → w'.heap[k]? = w.heap[k]?) →
      wpList Tryd.prog ops Q rest ((a.put (some tmp) (.slice (some ⟨w.heap.size, 0, none⟩) 1 1)).put o2.dst (.slice A' (xs.length + 1) c')) w') : wpList Tryd.prog ops Q (o1 :: o2 :: rest) a w :=
  wpList_push (E := pI .i64) 47 3 (.int .i64 0) 8 tmp s xo hg1 hg2 hd1 ho1 ho2 Tryd.underlying47 (by kernel_rfl) rfl (by decide) hs ht2 hown (.int .i64 n) hu n (fun _ => False) ⟨rfl, hf⟩ (fun _ hk => hk.elim) hlen ⟨by decide, by decide⟩ hbase h
end

theorem info_int : (Tryd.prog.info? 3).map (fun i => (i.zero, i.size, i.bytes)) = some (some (.int .i64 0), 1, 8) := by kernel_rfl
set_option maxRecDepth 100000 in
set_option maxHeartbeats 1000000 in
theorem refOpen_calls (A : Option Addr) (c : Nat) (ms : List Mod) (w : World) (h : SlAt pMod (Old w) w A c ms) (hbd : ms.length ≤ 1000000) :
    Calls Tryd.prog 58 #[.slice A ms.length c] w (OpenPost ms w) := by
  have hmx := h.lenle
  have H := Lib.hid h; clear h
  go_enter Tryd.func58, Tryd.ntmps58
  go_wp2
  go_loopw [6, 5, 4] (fun i n out wr => ∃ k op : Nat, k ≤ ms.length ∧ op ≤ k ∧ i = .int .i64 k ∧ n = .int .i64 op ∧ Hid (Below w.heap.size w wr) ∧ w.heap.size ≤ wr.heap.size ∧ ∃ done : List Int, Hid (done.length = k) ∧
    Hid (Own (pI .i64) 3 w.heap.size (w.heap.size ≤ ·) wr out done) ∧ Hid (openL 0 ms = (openL op (ms.drop k)).map (done ++ ·))) (fun i _ _ _ => ms.length - (intOf i).toNat)
  case atStart => exact ⟨0, 0, Nat.zero_le _, Nat.le_refl _, rfl, rfl, Below.refl _ _, Nat.le_refl _, [], rfl, Own.nil, by unfold Hid; simp⟩
  case round =>
    obtain ⟨k, op, hk, hop, rfl, rfl, hb, hsz, done, hdl, hown, hgo⟩ := hrel
    obtain ⟨wo, rfl⟩ : ∃ wo : World, wo = wr := ⟨_, rfl⟩
    obtain ⟨out, rfl⟩ : ∃ out, out = u4 := ⟨_, rfl⟩
    by_cases hlt : k < ms.length
    · obtain ⟨b, o, A', c', m, hd, rfl, hob, hc0, hc1, hf8, hargs, hl⟩ := (H.out.below hb.out).getMod hlt
      have hpush : ∀ (v : Nat) (w2 : World) (A2 : Option Addr) (c2 : Nat), Own (pI .i64) 3 w.heap.size (w.heap.size ≤ ·) w2 (.slice A2 (done.length + 1) c2) (done ++ [(v : Int)]) → Below w.heap.size wo w2 → Hid (openL 0 ms = ((openL v (ms.drop (k + 1))).map ((v : Int) :: ·)).map (done ++ ·)) →
          Hid (Below w.heap.size w w2) ∧ w.heap.size ≤ w2.heap.size ∧ Hid ((done ++ [(v : Int)]).length = k + 1) ∧ Hid (Own (pI .i64) 3 w.heap.size (w.heap.size ≤ ·) w2 (.slice A2 (done.length + 1) c2) (done ++ [(v : Int)])) ∧ Hid (openL 0 ms = (openL v (ms.drop (k + 1))).map ((done ++ [(v : Int)]) ++ ·)) := by
        intro v w2 A2 c2 h1 h2 h3
        refine ⟨hb.out.trans h2, (hb.out.trans h2).size, by unfold Hid; simp [hdl.out], h1, ?_⟩
        unfold Hid; rw [h3.out, Option.map_map]; congr 1; funext l; simp
      have Hpush := Lib.hid hpush; clear hpush
      have hd12 : done.length ≤ 1000000 := by rw [hdl.out]; omega
      by_cases h91 : m.name = 91
      · have e0 : (m.name == 91) = true := by simp [h91]
        have e1 : (m.name == 93) = false := by simp [h91]
        have hg2 : Hid (openL 0 ms = ((openL (op + 1) (ms.drop (k + 1))).map (((op + 1 : Nat) : Int) :: ·)).map (done ++ ·)) := by
          unfold Hid; rw [hgo.out, hd.out, openL_open h91]
        clear h91
        have hfit : Hid (Fits .i64 ((op : Int) + 1)) := fits_i64 (by omega)
        have e2 : decide ((op : Int) + 1 < 0) = false := by simp; omega
        go_wp2_with ((with_reducible show wpList _ _ _ (Oper.mk (some 33) _ _ _ _ _ :: _) _ _); refine pushI 33 (.tmp 31) (.tmp 32) rfl rfl rfl rfl rfl (fun _ => rfl) (fun _ => rfl) hown.out ((op : Int) + 1) rfl hfit.out (room_of hd12) hsz ?_; intro A2 c2 w2 Hown2 hb2 hk2)
        obtain ⟨p1, p2, p3, p4, p5⟩ := Hpush.out (op + 1) w2 A2 c2 Hown2.out hb2 hg2
        go_roundw
        case rel => exact ⟨k + 1, op + 1, by omega, by omega, by go_num, by go_num, p1, p2, _, p3, p4, p5⟩
        case measure => simp [intOf]; omega
      · have e0 : (m.name == 91) = false := by simp [h91]
        by_cases h93 : m.name = 93
        · have e1 : (m.name == 93) = true := by simp [h93]
          by_cases h0 : op = 0
          · have hno : openL 0 ms = none := by rw [hgo.out, hd.out, openL_no h93 h0]; rfl
            have Hno := Lib.hid hno
            subst h0
            clear h91 h93 hno
            go_wp2
            go_ret2
            exact ⟨hb.out, .inl ⟨Hno.out, rfl⟩⟩
          · have hg2 : Hid (openL 0 ms = ((openL (op - 1) (ms.drop (k + 1))).map (((op - 1 : Nat) : Int) :: ·)).map (done ++ ·)) := by
              unfold Hid; rw [hgo.out, hd.out, openL_close h93 h0]
            have hop1 : (1 : Int) ≤ (op : Int) := by omega
            have hfit : Hid (Fits .i64 ((op : Int) - 1)) := fits_i64 (by omega)
            clear h91 h93 h0
            go_wp2_with ((with_reducible show wpList _ _ _ (Oper.mk (some 33) _ _ _ _ _ :: _) _ _); refine pushI 33 (.tmp 31) (.tmp 32) rfl rfl rfl rfl rfl (fun _ => rfl) (fun _ => rfl) hown.out ((op : Int) - 1) rfl hfit.out (room_of hd12) hsz ?_; intro A2 c2 w2 Hown2 hb2 hk2)
            rw [show ((op : Int) - 1) = ((op - 1 : Nat) : Int) from by omega] at Hown2
            obtain ⟨p1, p2, p3, p4, p5⟩ := Hpush.out (op - 1) w2 A2 c2 Hown2.out hb2 hg2
            go_roundw
            case rel => exact ⟨k + 1, op - 1, by omega, by omega, by go_num, by congr 1; omega, p1, p2, _, p3, p4, p5⟩
            case measure => simp [intOf]; omega
        · have e1 : (m.name == 93) = false := by simp [h93]
          have hg2 : Hid (openL 0 ms = ((openL op (ms.drop (k + 1))).map ((op : Int) :: ·)).map (done ++ ·)) := by
            unfold Hid; rw [hgo.out, hd.out, openL_else h91 h93]
          have hfit : Hid (Fits .i64 (op : Int)) := fits_i64 (by omega)
          clear h91 h93
          go_wp2_with ((with_reducible show wpList _ _ _ (Oper.mk (some 33) _ _ _ _ _ :: _) _ _); refine pushI 33 (.tmp 31) (.tmp 32) rfl rfl rfl rfl rfl (fun _ => rfl) (fun _ => rfl) hown.out (op : Int) rfl hfit.out (room_of hd12) hsz ?_; intro A2 c2 w2 Hown2 hb2 hk2)
          obtain ⟨p1, p2, p3, p4, p5⟩ := Hpush.out op w2 A2 c2 Hown2.out hb2 hg2
          go_roundw
          case rel => exact ⟨k + 1, op, by omega, by omega, by go_num, rfl, p1, p2, _, p3, p4, p5⟩
          case measure => simp [intOf]; omega
    · have hs : openL 0 ms = some done := by rw [hgo.out, drop_end hlt]; simp [openL]
      have Hs := Lib.hid hs; clear hs
      obtain ⟨A2, c2, hv2, hs2⟩ := hown.out.fresh
      subst hv2
      have Hs2 := Lib.hid hs2; clear hs2
      go_wp2
      go_ret2
      exact ⟨hb.out, .inr ⟨done, A2, c2, Hs.out, openL_length Hs.out, rfl, Hs2.out⟩⟩

end Go.Proofs.YtlipmagkplbkdaaDoor
