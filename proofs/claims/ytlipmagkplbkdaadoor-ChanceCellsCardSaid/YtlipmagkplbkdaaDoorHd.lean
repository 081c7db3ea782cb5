/-
  Layer 9: the walks of Cells and Word on both sides, of the reference's Great and Same.
-/
import Derived.Test.YtlipmagkplbkdaaDoorHc
import Derived.Test.YtlipmagkplbkdaaDoorWb
import Derived.Test.YtlipmagkplbkdaaDoorWd
import Derived.Test.YtlipmagkplbkdaaDoorWf
import Derived.Test.YtlipmagkplbkdaaDoorWg
namespace Go.Proofs.YtlipmagkplbkdaaDoor
open Go.RowKit
set_option linter.unusedVariables false

def cellsR (l : List Cel) : Int := if 2000 < l.length then 4 else if (l.all fun x => pathF x.path) = true then checkF (l.map (·.mod)) else 8
theorem cellsR_many {l : List Cel} (h : 2000 < l.length) : cellsR l = 4 := by unfold cellsR; rw [if_pos h]
theorem cellsR_bad {l : List Cel} (h : ¬ 2000 < l.length) (h2 : (l.all fun x => pathF x.path) = false) : cellsR l = 8 := by unfold cellsR; rw [if_neg h, if_neg (by rw [h2]; decide)]
theorem cellsR_all {l : List Cel} (h : ¬ 2000 < l.length) (h2 : (l.all fun x => pathF x.path) = true) : cellsR l = checkF (l.map (·.mod)) := by unfold cellsR; rw [if_neg h, if_pos h2]

set_option maxRecDepth 100000 in
set_option maxHeartbeats 2000000 in
theorem cells_calls (A : Option Addr) (c : Nat) (l : List Cel) (w : World) (h : SlAt pCel (Old w) w A c l) :
    Calls Tryd.prog 23 #[.slice A l.length c] w (IntPost (cellsR l) w) := by
  have hmx := h.lenle
  have H := Lib.hid h; clear h
  by_cases hbig : 2000 < l.length
  · have hr := cellsR_many hbig
    have Hr := Lib.hid hr; clear hr
    go_enter Tryd.func23, Tryd.ntmps23
    go_wp2
    go_ret
    exact ⟨ret_int (by rw [Hr.out]), Below.refl _ _⟩
  · have hno := fun h2 => cellsR_bad hbig h2
    have hyes := fun h2 => cellsR_all hbig h2
    have Hno := Lib.hid hno; clear hno
    have Hyes := Lib.hid hyes; clear hyes
    go_enter Tryd.func23, Tryd.ntmps23
    go_wp2
    go_loopw [10] (fun i wr => ∃ k : Nat, k ≤ l.length ∧ i = .int .i64 k ∧ Hid (Below w.heap.size w wr) ∧ w.heap.size ≤ wr.heap.size ∧ Hid ((l.all fun x => pathF x.path) = ((l.drop k).all fun x => pathF x.path))) (fun i _ => l.length - (intOf i).toNat)
    case atStart => exact ⟨0, Nat.zero_le _, rfl, Below.refl _ _, Nat.le_refl _, rfl⟩
    case round =>
      obtain ⟨k, hk, rfl, hb, hsz, hall⟩ := hrel
      obtain ⟨wo, rfl⟩ : ∃ wo : World, wo = wr := ⟨_, rfl⟩
      by_cases hlt : k < l.length
      · obtain ⟨b, o, A', c', x, hd, rfl, hob, k0, k1, k2, hps, hf8, hargs, hal⟩ := (H.out.below hb.out).getCel hlt
        have hob' : b < wo.heap.size := Nat.lt_of_lt_of_le hob hsz
        have hc := path_calls x.path (wo.alloc (.cells #[.string x.path, .int .u8 x.mod.name, .slice A' x.mod.args.length c'] 51)) hps
        have Hc := Lib.hid hc; clear hc
        clear hargs
        go_wp2_with fail
        refine Hc.out.mono ?_
        rintro e w1 ⟨rfl, hb1⟩
        have hbw : Below w.heap.size w w1 := (hb.out.alloc hsz _).trans (hb1.mono (by simp; omega))
        have Hbw := Lib.hid hbw; clear hbw
        clear hb1 k0 k1 k2
        cases hp : pathF x.path
        · have hq : cellsR l = 8 := Hno.out (by rw [hall.out, hd.out, List.all_cons, hp]; rfl)
          have Hq := Lib.hid hq; clear hq
          go_wp2
          go_ret
          exact ⟨ret_int (by rw [Hq.out]), Hbw.out⟩
        · go_wp2
          go_roundw
          case rel =>
            refine ⟨k + 1, by omega, by go_num, Hbw, Hbw.out.size, ?_⟩
            unfold Hid; rw [hall.out, hd.out, List.all_cons, hp]; rfl
          case measure => simp [intOf]; omega
      · have hq : cellsR l = checkF (l.map (·.mod)) := Hyes.out (by rw [hall.out, drop_end hlt]; rfl)
        have hm := modules_calls A c l wo (H.out.later hb.out) (by omega)
        generalize l.map (·.mod) = ms at hm hq
        have Hq := Lib.hid hq; clear hq
        have Hm := Lib.hid hm; clear hm
        clear hall
        go_wp2_with fail
        refine Hm.out.mono ?_
        rintro e w1 ⟨A1, c1, rfl, hs1, hb1⟩
        have hck := wordCheck_calls A1 c1 ms w1 hs1
        have hbw : Below w.heap.size w w1 := hb.out.trans (hb1.mono hsz)
        have hz1 := hbw.size
        have Hck := Lib.hid hck; clear hck
        have Hbw := Lib.hid hbw; clear hbw
        clear hb1 hs1
        go_wp2_with fail
        refine Hck.out.mono ?_
        rintro e w2 ⟨rfl, hb2⟩
        have hbw2 : Below w.heap.size w w2 := Hbw.out.trans (hb2.mono hz1)
        have Hbw2 := Lib.hid hbw2; clear hbw2
        clear hb2
        go_wp2
        go_ret
        exact ⟨ret_int (by rw [Hq.out]), Hbw2.out⟩

set_option maxRecDepth 100000 in
set_option maxHeartbeats 2000000 in
theorem refCells_calls (A : Option Addr) (c : Nat) (l : List Cel) (w : World) (h : SlAt pCel (Old w) w A c l) :
    Calls Tryd.prog 24 #[.slice A l.length c] w (IntPost (cellsR l) w) := by
  have hmx := h.lenle
  have H := Lib.hid h; clear h
  by_cases hbig : 2000 < l.length
  · have hr := cellsR_many hbig
    have Hr := Lib.hid hr; clear hr
    go_enter Tryd.func24, Tryd.ntmps24
    go_wp2
    go_ret
    exact ⟨ret_int (by rw [Hr.out]), Below.refl _ _⟩
  · have hno := fun h2 => cellsR_bad hbig h2
    have hyes := fun h2 => cellsR_all hbig h2
    have Hno := Lib.hid hno; clear hno
    have Hyes := Lib.hid hyes; clear hyes
    go_enter Tryd.func24, Tryd.ntmps24
    go_wp2
    go_loop [3] (fun i => ∃ k : Nat, k ≤ l.length ∧ i = .int .i64 k ∧ Hid ((l.all fun x => pathF x.path) = ((l.drop k).all fun x => pathF x.path))) (fun i => l.length - (intOf i).toNat)
    case atStart => exact ⟨0, Nat.zero_le _, rfl, rfl⟩
    case round =>
      obtain ⟨k, hk, rfl, hall⟩ := hrel
      by_cases hlt : k < l.length
      · obtain ⟨b, o, A', c', x, hd, rfl, hob, k0, k1, k2, hps, hf8, hargs, hal⟩ := H.out.getCel hlt
        have hc := refPath_calls x.path w hps
        have Hc := Lib.hid hc; clear hc
        clear hargs
        go_wp2_with fail
        refine Hc.out.mono ?_
        rintro e w1 ⟨rfl, rfl⟩
        clear k0 k1 k2
        cases hp : pathF x.path
        · have hq : cellsR l = 8 := Hno.out (by rw [hall.out, hd.out, List.all_cons, hp]; rfl)
          have Hq := Lib.hid hq; clear hq
          go_wp2
          go_ret
          exact ⟨ret_int (by rw [Hq.out]), Below.refl _ _⟩
        · go_wp2
          go_round
          case rel =>
            refine ⟨k + 1, by omega, by go_num, ?_⟩
            unfold Hid; rw [hall.out, hd.out, List.all_cons, hp]; rfl
          case measure => simp [intOf]; omega
      · have hq : cellsR l = checkF (l.map (·.mod)) := Hyes.out (by rw [hall.out, drop_end hlt]; rfl)
        have hm := refModules_calls A c l w H.out (by omega)
        generalize l.map (·.mod) = ms at hm hq
        have Hq := Lib.hid hq; clear hq
        have Hm := Lib.hid hm; clear hm
        clear hall
        go_wp2_with fail
        refine Hm.out.mono ?_
        rintro e w1 ⟨A1, c1, rfl, hs1, hb1⟩
        have hck := refCheck_calls A1 c1 ms w1 hs1
        have hz1 := hb1.size
        have Hck := Lib.hid hck; clear hck
        have Hb1 := Lib.hid hb1; clear hb1
        clear hs1
        go_wp2_with fail
        refine Hck.out.mono ?_
        rintro e w2 ⟨rfl, hb2⟩
        have hbw2 : Below w.heap.size w w2 := Hb1.out.trans (hb2.mono hz1)
        have Hbw2 := Lib.hid hbw2; clear hbw2
        clear hb2
        go_wp2
        go_ret
        exact ⟨ret_int (by rw [Hq.out]), Hbw2.out⟩

/-! ### Word -/
def wordR (l : List Cel) : List Mod × Int := if cellsR l = 0 then (l.map (·.mod), 0) else ([], cellsR l)
def WordPost (r : List Mod × Int) (w : World) (e : Ending) (w' : World) : Prop := ∃ A c, e = .returned (.tuple #[.slice A r.1.length c, .int .i64 r.2]) ∧ SlAt pMod (Old w') w' A c r.1 ∧ Below w.heap.size w w'
theorem wordPost_none {r : List Mod × Int} {x : Int} {w w' : World} (h : r = ([], x)) (hb : Below w.heap.size w w') : WordPost r w (.returned (.tuple #[.slice none 0 0, .int .i64 x])) w' := by
  subst h
  exact ⟨none, 0, rfl, (Own.nil (E := pMod) (e := 49) (base := 0) (G := fun _ => False) (w := w')).sl'.2.wide fun k hk => hk.2, hb⟩
theorem cells_bd {l : List Cel} (h : cellsR l = 0) : l.length ≤ 2000 := by
  by_cases hb : 2000 < l.length
  · rw [cellsR_many hb] at h; simp at h
  · omega
theorem slF {w : World} {A : Option Addr} {c : Nat} {ms : List Mod} {base : Nat} {t : TypeId} {G : Nat → Prop} {n : Nat} (h : Own pModF t base G w (.slice A n c) ms) : SlAt pMod (Old w) w A c ms := slAt_modF (h.sl'.2.wide fun q hq => hq.2)

set_option maxRecDepth 100000 in
set_option maxHeartbeats 2000000 in
theorem word_calls (A : Option Addr) (c : Nat) (l : List Cel) (w : World) (h : SlAt pCel (Old w) w A c l) (ha : ∀ x ∈ l, x.mod.args.length ≤ 1000) :
    Calls Tryd.prog 19 #[.slice A l.length c] w (WordPost (wordR l) w) := by
  have hmx := h.lenle
  have hc := cells_calls A c l w h
  have H := Lib.hid h; clear h
  have Hc := Lib.hid hc; clear hc
  have Ha := Lib.hid ha; clear ha
  by_cases h0 : cellsR l = 0
  · have hr : wordR l = (l.map (·.mod), 0) := by unfold wordR; rw [if_pos h0]
    have hbd := cells_bd h0
    rw [h0] at Hc
    clear h0
    have Hr := Lib.hid hr; clear hr
    go_enter Tryd.func19, Tryd.ntmps19
    go_wp2_with fail
    refine Hc.out.mono ?_
    rintro e w1 ⟨rfl, hb1⟩
    have hm := modules_calls A c l w1 (H.out.later hb1) (by omega)
    have hml : (l.map (·.mod)).length ≤ 2000 := by simp; omega
    have hma : ∀ m ∈ l.map (·.mod), m.args.length ≤ 1000 := by simpa using Ha.out
    have hr := Hr.out
    have hz1 := hb1.size
    clear Hr
    generalize l.map (·.mod) = ms at hm hr hml hma
    have Hm := Lib.hid hm; clear hm
    have Hb1 := Lib.hid hb1; clear hb1
    have Hr := Lib.hid hr; clear hr
    have Hma := Lib.hid hma; clear hma
    go_wp2_with fail
    refine Hm.out.mono ?_
    rintro e w2 ⟨A2, c2, rfl, hs2, hb2⟩
    have ht := twin_calls A2 c2 ms w2 hs2 (by omega) Hma.out
    have hbw := Hb1.out.trans (hb2.mono hz1)
    have hz2 := hbw.size
    have Ht := Lib.hid ht; clear ht
    have Hbw := Lib.hid hbw; clear hbw
    clear hs2 hb2
    go_wp2_with fail
    refine Ht.out.mono ?_
    rintro e w3 ⟨A3, c3, rfl, hs3, hb3⟩
    have hf : SlAt pMod (Old w3) w3 A3 c3 ms := slF hs3
    have hbw3 := Hbw.out.trans (hb3.mono hz2)
    have Hf := Lib.hid hf; clear hf
    have Hbw3 := Lib.hid hbw3; clear hbw3
    clear hs3 hb3
    go_wp2
    go_ret2
    rw [Hr.out]
    exact ⟨A3, c3, rfl, Hf.out, Hbw3.out⟩
  · have hr : wordR l = ([], cellsR l) := by unfold wordR; rw [if_neg h0]
    have e0 : (cellsR l != 0) = true := by simp [h0]
    generalize cellsR l = x at Hc hr e0
    clear h0
    have Hr := Lib.hid hr; clear hr
    go_enter Tryd.func19, Tryd.ntmps19
    go_wp2_with fail
    refine Hc.out.mono ?_
    rintro e w1 ⟨rfl, hb1⟩
    have Hb1 := Lib.hid hb1; clear hb1
    go_wp2
    go_ret2
    exact wordPost_none Hr.out Hb1.out

set_option maxRecDepth 100000 in
set_option maxHeartbeats 2000000 in
theorem refWord_calls (A : Option Addr) (c : Nat) (l : List Cel) (w : World) (h : SlAt pCel (Old w) w A c l) (ha : ∀ x ∈ l, x.mod.args.length ≤ 1000) :
    Calls Tryd.prog 20 #[.slice A l.length c] w (WordPost (wordR l) w) := by
  have hmx := h.lenle
  have hc := fun W (hb : Below w.heap.size w W) => refCells_calls A c l W (h.later hb)
  have H := Lib.hid h; clear h
  have Hc := Lib.hid hc; clear hc
  have Ha := Lib.hid ha; clear ha
  by_cases h0 : cellsR l = 0
  · have hr : wordR l = (l.map (·.mod), 0) := by unfold wordR; rw [if_pos h0]
    have hbd := cells_bd h0
    rw [h0] at Hc
    clear h0
    have Hr := Lib.hid hr; clear hr
    go_enter Tryd.func20, Tryd.ntmps20
    go_wp2_with fail
    refine (Hc.out _ (Below.refl _ _)).mono ?_
    rintro e w1 ⟨rfl, hb1⟩
    have hm := refModules_calls A c l w1 (H.out.later hb1) (by omega)
    have hml : (l.map (·.mod)).length ≤ 2000 := by simp; omega
    have hma : ∀ m ∈ l.map (·.mod), m.args.length ≤ 1000 := by simpa using Ha.out
    have hr := Hr.out
    have hz1 := hb1.size
    clear Hr
    generalize l.map (·.mod) = ms at hm hr hml hma
    have Hm := Lib.hid hm; clear hm
    have Hb1 := Lib.hid hb1; clear hb1
    have Hr := Lib.hid hr; clear hr
    have Hma := Lib.hid hma; clear hma
    go_wp2_with fail
    refine Hm.out.mono ?_
    rintro e w2 ⟨A2, c2, rfl, hs2, hb2⟩
    have ht := refTwin_calls A2 c2 ms w2 hs2 (by omega) Hma.out
    have hbw := Hb1.out.trans (hb2.mono hz1)
    have hz2 := hbw.size
    have Ht := Lib.hid ht; clear ht
    have Hbw := Lib.hid hbw; clear hbw
    clear hs2 hb2
    go_wp2_with fail
    refine Ht.out.mono ?_
    rintro e w3 ⟨A3, c3, rfl, hs3, hb3⟩
    have hf : SlAt pMod (Old w3) w3 A3 c3 ms := hs3.sl'.2.wide fun q hq => hq.2
    have hbw3 := Hbw.out.trans (hb3.mono hz2)
    have Hf := Lib.hid hf; clear hf
    have Hbw3 := Lib.hid hbw3; clear hbw3
    clear hs3 hb3
    go_wp2
    go_ret2
    rw [Hr.out]
    exact ⟨A3, c3, rfl, Hf.out, Hbw3.out⟩
  · have hr : wordR l = ([], cellsR l) := by unfold wordR; rw [if_neg h0]
    have e0 : (cellsR l != 0) = true := by simp [h0]
    generalize cellsR l = x at Hc hr e0
    clear h0
    have Hr := Lib.hid hr; clear hr
    go_enter Tryd.func20, Tryd.ntmps20
    go_wp2_with fail
    refine (Hc.out _ (Below.refl _ _)).mono ?_
    rintro e w1 ⟨rfl, hb1⟩
    have hc2 := Hc.out w1 hb1
    have hz1 := hb1.size
    have Hb1 := Lib.hid hb1; clear hb1
    have Hc2 := Lib.hid hc2; clear hc2
    go_wp2_with fail
    refine Hc2.out.mono ?_
    rintro e w2 ⟨rfl, hb2⟩
    have hbw := Hb1.out.trans (hb2.mono hz1)
    have Hbw := Lib.hid hbw; clear hbw
    go_wp2
    go_ret2
    exact wordPost_none Hr.out Hbw.out

/-! ### Great -/
def greatB (x : Cel) : Bool := decide (300 < x.path.size) || decide (10 < x.mod.args.length)
def greatL (l : List Cel) : Bool := l.any greatB || decide (2100 < l.length)
set_option maxRecDepth 100000 in
set_option maxHeartbeats 2000000 in
theorem greatC_calls {F : Nat → Prop} (A : Option Addr) (c : Nat) (l : List Cel) (w : World) (h : SlAt pCel F w A c l) :
    Calls Tryd.prog 16 #[.slice A l.length c] w fun e w' => e = .returned (.bool (greatL l)) ∧ w = w' := by
  have hmx := h.lenle
  have H := Lib.hid h; clear h
  go_enter Tryd.func16, Tryd.ntmps16
  go_wp2
  go_loop [3] (fun i => ∃ k : Nat, k ≤ l.length ∧ i = .int .i64 k ∧ Hid (l.any greatB = (l.drop k).any greatB)) (fun i => l.length - (intOf i).toNat)
  case atStart => exact ⟨0, Nat.zero_le _, rfl, rfl⟩
  case round =>
    obtain ⟨k, hk, rfl, hall⟩ := hrel
    by_cases hlt : k < l.length
    · obtain ⟨b, o, A', c', x, hd, rfl, hob, k0, k1, k2, hps, hf8, hargs, hal⟩ := H.out.getCel hlt
      clear k1 hargs
      by_cases h1 : 300 < x.path.size
      · have hy : greatL l = true := by unfold greatL; rw [hall.out, hd.out, List.any_cons, show greatB x = true from by unfold greatB; simp [h1]]; rfl
        have Hy := Lib.hid hy; clear hy
        clear hall
        go_wp2
        go_ret
        exact ⟨ret_bool Hy.out.symm, rfl⟩
      · by_cases h2 : 10 < x.mod.args.length
        · have hy : greatL l = true := by unfold greatL; rw [hall.out, hd.out, List.any_cons, show greatB x = true from by unfold greatB; simp [h2]]; rfl
          have Hy := Lib.hid hy; clear hy
          clear hall
          go_wp2
          go_ret
          exact ⟨ret_bool Hy.out.symm, rfl⟩
        · go_wp2
          go_round
          case rel =>
            refine ⟨k + 1, by omega, by go_num, ?_⟩
            unfold Hid; rw [hall.out, hd.out, List.any_cons, show greatB x = false from by unfold greatB; simp; omega]; rfl
          case measure => simp [intOf]; omega
    · have hy : greatL l = decide (2100 < l.length) := by unfold greatL; rw [hall.out, drop_end hlt]; rfl
      have Hy := Lib.hid hy; clear hy
      clear hall
      by_cases h1 : 2100 < l.length
      · go_wp2
        go_ret
        exact ⟨ret_bool (by rw [Hy.out]; simp; omega), rfl⟩
      · go_wp2
        go_ret
        exact ⟨ret_bool (by rw [Hy.out]; simp; omega), rfl⟩
theorem greatL_no {l : List Cel} (h : greatL l = false) : l.length ≤ 2100 ∧ (∀ x ∈ l, x.path.size ≤ 300) ∧ ∀ x ∈ l, x.mod.args.length ≤ 10 := by
  unfold greatL at h
  rw [Bool.or_eq_false_iff, List.any_eq_false] at h
  refine ⟨by have := h.2; simp at this; omega, fun x hx => ?_, fun x hx => ?_⟩
  all_goals
    have := h.1 x hx
    unfold greatB at this
    simp at this
    omega
end Go.Proofs.YtlipmagkplbkdaaDoor
