/-
  Layer 9: the walks of Check on both sides.
-/
import Derived.Test.YtlipmagkplbkdaaDoorHd
import Derived.Test.YtlipmagkplbkdaaDoorFe
namespace Go.Proofs.YtlipmagkplbkdaaDoor
open Go.RowKit Go.Sort
set_option linter.unusedVariables false

section
variable {α : Type} {E : Rp α} {w : World} {e : TypeId} {base : Nat} {G : Nat → Prop}
/-- one cell of element i is written -/
theorem CellsAre.setZ {F : Nat → Prop} {x x' : α} {j : Nat} {u : Value} (hj : j < E.n) (hR : ∀ cs, E.R F w cs x → E.R F w (cs.set j u) x') : ∀ {xs : List α} {cells : List Value} {i : Nat}, CellsAre E F w cells xs → xs[i]? = some x → CellsAre E F w (cells.set (i * E.n + j) u) (xs.set i x')
  | [], _, i, _, h => by simp at h
  | y :: ys, cells, 0, ⟨cs, rest, h1, h2, h3⟩, h => by
    simp only [List.getElem?_cons_zero, Option.some.injEq] at h
    subst h
    rw [Nat.zero_mul, Nat.zero_add, List.set_cons_zero]
    refine ⟨cs.set j u, rest, ?_, hR cs h2, h3⟩
    rw [h1, List.set_append_left _ _ (by rw [E.len h2]; exact hj)]
  | y :: ys, cells, i + 1, ⟨cs, rest, h1, h2, h3⟩, h => by
    simp only [List.getElem?_cons_succ] at h
    rw [List.set_cons_succ]
    refine ⟨cs, rest.set (i * E.n + j) u, ?_, h2, CellsAre.setZ hj hR h3 h⟩
    rw [h1, List.set_append_right _ _ (by rw [E.len h2, Nat.add_mul]; omega), E.len h2]
    congr 2
    rw [Nat.add_mul]; omega
theorem Own.setZ {g : Nat} {n c : Nat} {xs : List α} (h : Own E e base G w (.slice (some ⟨g, 0, none⟩) n c) xs) {i j : Nat} {x x' : α} {u : Value} (hx : xs[i]? = some x) (hj : j < E.n) (hR : ∀ F w cs, E.R F w cs x → E.R F w (cs.set j u) x') :
    Own E e base G (w.setCell ⟨g, i * E.n + j, none⟩ u) (.slice (some ⟨g, 0, none⟩) n c) (xs.set i x') := by
  obtain ⟨cells, ⟨h1, h2⟩, h3⟩ := h
  have h3' := h3
  rcases h2 with ⟨hv', h0⟩ | ⟨g', cap, cur, hv', hb, hg, hnc, hcm, hsz, htake⟩
  · cases hv'
  · injection hv' with e1 e2 e3
    injection e1 with e1
    injection e1 with e1 _ _
    subst e1 e2 e3
    refine ⟨cells.set (i * E.n + j) u, ⟨by rw [List.length_set, List.length_set]; exact h1, .inr ⟨g, c, cur.setIfInBounds (i * E.n + j) u, by rw [List.length_set], hb, Blk.set (t := e) (cs := cur) hg (i * E.n + j) _, by simpa using hnc, hcm, by simpa using hsz, ?_⟩⟩, ?_⟩
    · rw [Array.toList_setIfInBounds, ← htake, List.take_set]
      simp
    · refine (CellsAre.keep (fun k hk => Below.heap_setCell _ _ _ _ fun he => ?_) (CellsAre.setZ hj (fun cs => hR _ _ cs) h3' hx)).wide fun k hk => ⟨hk.1, by simpa [World.setCell] using hk.2.1, hk.2.2⟩
      subst he
      exact hk.2.2 rfl
/-- the cells of element i -/
theorem Own.atZ {A : Option Addr} {n c : Nat} {xs : List α} (h : Own E e base G w (.slice A n c) xs) {i : Nat} {x : α} (hx : xs[i]? = some x) (hn : 0 < E.n) :
    ∃ g cs F, A = some ⟨g, 0, none⟩ ∧ base ≤ g ∧ g < w.heap.size ∧ E.R F w cs x ∧ (∀ j u, cs[j]? = some u → w.cell? ⟨g, i * E.n + j, none⟩ = some u) ∧ (∀ k, w.frozen? ⟨g, k, none⟩ = false) ∧ n ≤ c := by
  obtain ⟨cells, ⟨h1, h2⟩, h3⟩ := h
  rcases h2 with ⟨hv, h0⟩ | ⟨g, cap, cur, hv, hb, hg, hnc, hcm, hsz, htake⟩
  · rw [List.eq_nil_of_length_eq_zero h0] at hx; simp at hx
  · cases hv
    obtain ⟨cs, h4, h5⟩ := h3.get hx
    refine ⟨g, cs, _, rfl, hb, (Array.getElem?_eq_some_iff.1 hg).1, h4, fun j u hu => ?_, fun k => Blk.free (t := e) (cs := cur) hg k, hnc⟩
    have h6 := h5 j u hu
    rw [← htake, List.getElem?_take] at h6
    split at h6
    · rw [Blk.cell (t := e) (cs := cur) hg]; simpa using h6
    · cases h6
end

/-- a rule, its weight taken away -/
def zeroW (r : Rul) : Rul := { r with weight := 0 }
theorem pRul_set5 {r : Rul} : ∀ F w cs, pRul.R F w cs r → pRul.R F w (cs.set 5 (.int .i64 0)) (zeroW r) := by
  rintro F w cs ⟨A, c, A', c', rfl, ⟨f1, f2, f3, f4, f5⟩, h1, h2⟩
  exact ⟨A, c, A', c', rfl, ⟨f1, f2, f3, f4, fits_i64 (n := 0) (by decide)⟩, h1, h2⟩
def halfZ (rs : List Rul) (k : Nat) : List Rul := (rs.take k).map zeroW ++ rs.drop k
theorem halfZ_get {rs : List Rul} {k : Nat} {r : Rul} (h : rs[k]? = some r) : (halfZ rs k)[k]? = some r := by
  have hk : k < rs.length := (List.getElem?_eq_some_iff.1 h).1
  unfold halfZ
  rw [List.getElem?_append_right (by rw [List.length_map, List.length_take]; omega), List.length_map, List.length_take, Nat.min_eq_left (Nat.le_of_lt hk), Nat.sub_self, List.getElem?_drop, Nat.add_zero, h]
theorem halfZ_next {rs : List Rul} {k : Nat} {r : Rul} (h : rs[k]? = some r) : (halfZ rs k).set k (zeroW r) = halfZ rs (k + 1) := by
  have hk : k < rs.length := (List.getElem?_eq_some_iff.1 h).1
  have hd := drop_cons h
  have hl : ((rs.take k).map zeroW).length = k := by rw [List.length_map, List.length_take]; omega
  unfold halfZ
  rw [List.set_append_right _ _ (by omega), hl, Nat.sub_self, hd, List.set_cons_zero, take_of_drop hd, List.map_append, List.append_assoc]
  rfl
theorem halfZ_len (rs : List Rul) (k : Nat) : (halfZ rs k).length = rs.length := by
  unfold halfZ; simp; omega
theorem halfZ_all (rs : List Rul) : halfZ rs rs.length = rs.map zeroW := by unfold halfZ; simp

/-! ### plain -/
def okW (r : Rul) : Bool := decide (1 ≤ r.weight) && decide (r.weight ≤ 1000000)
def checkC (rs : List Rul) : Int := if manyR rs = true then 4 else if rs.all (fun r => coreR r && (r.left == 0) && (r.right == 0) && okW r) = true then 0 else 8
theorem manyR_zero (rs : List Rul) : manyR (rs.map zeroW) = manyR rs := by
  unfold manyR
  rw [List.length_map, List.any_map]
  rfl
theorem fineR_zero (r : Rul) : fineR (zeroW r) = (coreR r && (r.left == 0) && (r.right == 0)) := by
  unfold fineR bareR
  show (coreR r && (r.left == 0 && r.right == 0 && (0 : Int) == 0)) = _
  simp [Bool.and_assoc]
theorem checkR_zero (rs : List Rul) : checkR (rs.map zeroW) = if manyR rs = true then 4 else if rs.all (fun r => coreR r && (r.left == 0) && (r.right == 0)) = true then 0 else 8 := by
  unfold checkR
  rw [manyR_zero, List.all_map]
  congr 2
  rw [show (fineR ∘ zeroW) = fun r => coreR r && (r.left == 0) && (r.right == 0) from funext fineR_zero]
theorem checkC_eq (rs : List Rul) : checkC rs = if checkR (rs.map zeroW) = 0 then (if rs.all okW = true then 0 else 8) else checkR (rs.map zeroW) := by
  rw [checkR_zero]
  unfold checkC
  have hall : rs.all (fun r => coreR r && (r.left == 0) && (r.right == 0) && okW r) = (rs.all (fun r => coreR r && (r.left == 0) && (r.right == 0)) && rs.all okW) := by
    induction rs with
    | nil => rfl
    | cons a t ih => simp only [List.all_cons, ih]; cases coreR a <;> cases (a.left == 0) <;> cases (a.right == 0) <;> cases okW a <;> simp
  rw [hall]
  cases manyR rs
  · cases rs.all (fun r => coreR r && (r.left == 0) && (r.right == 0))
    · simp
    · cases rs.all okW <;> simp
  · simp

set_option maxRecDepth 100000 in
set_option maxHeartbeats 8000000 in
theorem checkC_calls (A : Option Addr) (c : Nat) (rs : List Rul) (w : World) (h : SlAt pRul (Old w) w A c rs) (hs : Small rs) :
    Calls Tryd.prog 21 #[.slice A rs.length c] w (IntPost (checkC rs) w) := by
  have hmx := h.lenle
  have hl50 := hs.l
  have hem : Own pRul 60 w.heap.size (Old w) w (.slice none 0 0) ([] : List Rul) := Own.nil
  have hF1 : ∀ q, Old w q → Old w q ∧ q < w.heap.size ∧ some q ≠ (Value.slice none 0 0).ownBlock := fun q hq => ⟨hq, hq, fun he => by cases he⟩
  have hn1 : (([] : List Rul) ++ rs).length = rs.length := rfl
  have hr1 : Room rs.length := room_of (by omega)
  have hba : w.heap.size ≤ w.heap.size := Nat.le_refl _
  have H := Lib.hid h; clear h
  have Hs := Lib.hid hs; clear hs
  have Hem := Lib.hid hem; clear hem
  have HF1 := Lib.hid hF1; clear hF1
  have Hn1 := Lib.hid hn1; clear hn1
  have Hr1 := Lib.hid hr1; clear hr1
  have Hba := Lib.hid hba; clear hba
  go_enter Tryd.func21, Tryd.ntmps21
  go_wp2_with (at_builtin; (refine wpList_catG (E := pRul) (xs := []) (v := .slice none 0 0) (base := w.heap.size) (G := Old w) 22 60 (.agg #[.int .u8 0, .int .i64 0, .int .u8 0, .int .u8 0, .slice none 0 0, .int .i64 0, .slice none 0 0]) 80 _ (.tmp 8) rfl rfl Tryd.underlying22 (by kernel_rfl) rfl (by decide) rfl Hem.out A c rs rfl (Old w) H.out HF1.out rs.length Hn1.out Hr1.out (by decide) Hba.out ?_); intro A2 c2 w2 hown2 hg2)
  rw [List.nil_append] at hown2
  have hb2 : Below w.heap.size w w2 := hg2.out.bel
  have z2 : w.heap.size ≤ w2.heap.size := hb2.size
  have hst : Own pRul 60 w.heap.size (Old w) w2 (.slice A2 rs.length c2) (halfZ rs 0) := hown2.out
  have Hst := Lib.hid hst; clear hst
  have Hb2 := Lib.hid hb2; clear hb2
  clear hg2 hown2 Hem HF1
  go_loopw [12, 4] (fun i v wr => ∃ k : Nat, k ≤ rs.length ∧ i = .int .i64 k ∧ ∃ b : Bool, v = .bool b ∧ Hid (b = (rs.take k).all okW) ∧ w.heap.size ≤ wr.heap.size ∧ Hid (Below w.heap.size w wr) ∧ Hid (Own pRul 60 w.heap.size (Old w) wr (.slice A2 rs.length c2) (halfZ rs k))) (fun i _ _ => rs.length - (intOf i).toNat)
  case atStart => exact ⟨0, Nat.zero_le _, rfl, true, rfl, rfl, z2, Hb2, Hst⟩
  case round =>
    obtain ⟨k, hk, rfl, b, rfl, hbk, hsz, hb, hown⟩ := hrel
    obtain ⟨wo, rfl⟩ : ∃ wo : World, wo = wr := ⟨_, rfl⟩
    by_cases hlt : k < rs.length
    case pos =>
      have hxk : rs[k]? = some rs[k] := List.getElem?_eq_getElem hlt
      obtain ⟨r, hr⟩ : ∃ r, rs[k] = r := ⟨_, rfl⟩
      rw [hr] at hxk
      have htk : (rs.take (k + 1)).all okW = ((rs.take k).all okW && okW r) := by
        rw [take_of_drop (drop_cons hxk), List.all_append]; simp
      obtain ⟨g, cs, F, rfl, hg1, hg2, hRr, hcell, hfz, hnc⟩ := hown.out.atZ (halfZ_get hxk) (by decide)
      have hRr' := hRr
      obtain ⟨Ag, cg, Ao, co, hcs, ⟨_, _, _, _, hf5⟩, hgl, hol⟩ := hRr'
      have k0 : wo.cell? ⟨g, k * 7, none⟩ = some (.int .u8 r.name) := hcell 0 _ (by rw [hcs]; rfl)
      have k1 : wo.cell? ⟨g, k * 7 + 1, none⟩ = some (.int .i64 r.arity) := hcell 1 _ (by rw [hcs]; rfl)
      have k2 : wo.cell? ⟨g, k * 7 + 2, none⟩ = some (.int .u8 r.left) := hcell 2 _ (by rw [hcs]; rfl)
      have k3 : wo.cell? ⟨g, k * 7 + 3, none⟩ = some (.int .u8 r.right) := hcell 3 _ (by rw [hcs]; rfl)
      have k4 : wo.cell? ⟨g, k * 7 + 4, none⟩ = some (.slice Ag r.guards.length cg) := hcell 4 _ (by rw [hcs]; rfl)
      have k5 : wo.cell? ⟨g, k * 7 + 5, none⟩ = some (.int .i64 r.weight) := hcell 5 _ (by rw [hcs]; rfl)
      have k6 : wo.cell? ⟨g, k * 7 + 6, none⟩ = some (.slice Ao r.out.length co) := hcell 6 _ (by rw [hcs]; rfl)
      have hlg := hgl.lenle.1
      have hlo := hol.lenle.1
      obtain ⟨W1, hW1⟩ : ∃ W1, W1 = wo.alloc (.cells #[.int .u8 r.name, .int .i64 r.arity, .int .u8 r.left, .int .u8 r.right, .slice Ag r.guards.length cg, .int .i64 r.weight, .slice Ao r.out.length co] 60) := ⟨_, rfl⟩
      have hb1 : Below wo.heap.size wo W1 := by rw [hW1]; exact (Below.refl _ _).alloc (Nat.le_refl _) _
      have f5 : (wo.alloc (.cells #[.int .u8 r.name, .int .i64 r.arity, .int .u8 r.left, .int .u8 r.right, .slice Ag r.guards.length cg, .int .i64 r.weight, .slice Ao r.out.length co] 60)).frozen? ⟨g, k * 7 + 5, none⟩ = false := by
        rw [← hW1]
        have e := hb1.block g hg2
        have := hfz (k * 7 + 5)
        unfold World.frozen? at this ⊢
        rw [e]; exact this
      have o0 := hown.out.setZ (i := k) (j := 5) (u := .int .i64 0) (halfZ_get hxk) (by decide) (fun F w cs hh => pRul_set5 F w cs hh)
      rw [halfZ_next hxk] at o0
      have o1 := o0.alloc (.cells #[.int .u8 r.name, .int .i64 r.arity, .int .u8 r.left, .int .u8 r.right, .slice Ag r.guards.length cg, .int .i64 r.weight, .slice Ao r.out.length co] 60)
      have hb3 : Below w.heap.size w ((wo.setCell ⟨g, k * 7 + 5, none⟩ (.int .i64 0)).alloc (.cells #[.int .u8 r.name, .int .i64 r.arity, .int .u8 r.left, .int .u8 r.right, .slice Ag r.guards.length cg, .int .i64 r.weight, .slice Ao r.out.length co] 60)) := (hb.out.setCell (by show w.heap.size ≤ g; exact hg1) _).alloc (by simp [World.setCell]; exact hsz) _
      have hz3 := hb3.size
      have k0' : (0 : Int) ≤ (k : Int) := Int.natCast_nonneg _
      have k1' : (k : Int) < (rs.length : Int) := by omega
      have hf5' := hf5.i64
      have Hxk := Lib.hid hxk; clear hxk
      have HRr := Lib.hid hRr; clear hRr
      have Hcs := Lib.hid hcs; clear hcs
      have O0 := Lib.hid o0; clear o0
      have O1 := Lib.hid o1; clear o1
      have Hb3 := Lib.hid hb3; clear hb3
      have Hown := Lib.hid hown; clear hown
      have Hr := Lib.hid hr; clear hr
      have Hcell := Lib.hid hcell; clear hcell
      have Hfz := Lib.hid hfz; clear hfz
      have Htk := Lib.hid htk; clear htk
      have Hb1 := Lib.hid hb1; clear hb1
      have Hgl := Lib.hid hgl; clear hgl
      have Hol := Lib.hid hol; clear hol
      have Hf5 := Lib.hid hf5; clear hf5
      clear hW1
      cases b
      · go_wp2
        go_roundw
        case rel => exact ⟨k + 1, hlt, by go_num, false, rfl, by unfold Hid; rw [Htk.out, ← hbk.out]; rfl, hz3, Hb3, O1⟩
        case measure => simp [intOf]; omega
      · by_cases hw1 : r.weight < 1
        · have hno : okW r = false := by unfold okW; simp; omega
          have Hno := Lib.hid hno; clear hno
          go_wp2
          go_roundw
          case rel => exact ⟨k + 1, hlt, by go_num, false, by first | rfl | (simp; omega), by unfold Hid; rw [Htk.out, Hno.out]; simp, hz3, Hb3, O1⟩
          case measure => simp [intOf]; omega
        · by_cases hw2 : 1000000 < r.weight
          · have hno : okW r = false := by unfold okW; simp; omega
            have Hno := Lib.hid hno; clear hno
            go_wp2
            go_roundw
            case rel => exact ⟨k + 1, hlt, by go_num, false, by first | rfl | (simp; omega), by unfold Hid; rw [Htk.out, Hno.out]; simp, hz3, Hb3, O1⟩
            case measure => simp [intOf]; omega
          · have hyes : okW r = true := by unfold okW; simp; omega
            have Hyes := Lib.hid hyes; clear hyes
            go_wp2
            go_roundw
            case rel => exact ⟨k + 1, hlt, by go_num, true, by first | rfl | (simp; omega), by unfold Hid; rw [Htk.out, Hyes.out, ← hbk.out]; rfl, hz3, Hb3, O1⟩
            case measure => simp [intOf]; omega
    case neg =>
      obtain rfl : k = rs.length := by omega
      have ho := hown.out
      rw [halfZ_all] at ho
      have hln : (rs.map zeroW).length = rs.length := List.length_map _
      obtain ⟨_, hsl⟩ := ho.sl'
      have S3 := Lib.hid ((hsl.wide (F' := Old wo) fun q hq => hq.2))
      have hsb : Small (rs.map zeroW) := ⟨by rw [hln]; exact Hs.out.l, fun x hx => by obtain ⟨y, hy, rfl⟩ := List.mem_map.1 hx; exact Hs.out.g y hy, fun x hx => by obtain ⟨y, hy, rfl⟩ := List.mem_map.1 hx; exact Hs.out.o y hy, fun x hx => by obtain ⟨y, hy, rfl⟩ := List.mem_map.1 hx; exact Hs.out.a y hy⟩
      have c1 := rCheck_calls A2 c2 (rs.map zeroW) wo S3.out hsb
      rw [hln] at c1
      have hq := checkC_eq rs
      have hbk' := hbk.out
      rw [List.take_length] at hbk'
      rw [← hbk'] at hq
      generalize checkR (rs.map zeroW) = y at c1 hq
      have C1 := Lib.hid c1; clear c1
      have Hsb := Lib.hid hsb; clear hsb
      have Ho := Lib.hid ho; clear ho
      have Hsl := Lib.hid hsl; clear hsl
      have Hln := Lib.hid hln; clear hln
      clear hown hbk hbk'
      by_cases hy : y = 0
      · subst hy
        rw [if_pos rfl] at hq
        cases b
        · have hq2 : checkC rs = 8 := hq
          have Hq2 := Lib.hid hq2; clear hq2
          clear hq
          go_wp2_with fail
          refine C1.out.mono ?_
          rintro e w4 ⟨rfl, b4⟩
          have hbz := hb.out.trans (b4.mono hsz)
          have Hbz := Lib.hid hbz; clear hbz
          clear b4
          go_wp2
          go_ret
          exact ⟨ret_int (by rw [Hq2.out]), Hbz.out⟩
        · have hq2 : checkC rs = 0 := hq
          have Hq2 := Lib.hid hq2; clear hq2
          clear hq
          go_wp2_with fail
          refine C1.out.mono ?_
          rintro e w4 ⟨rfl, b4⟩
          have hbz := hb.out.trans (b4.mono hsz)
          have Hbz := Lib.hid hbz; clear hbz
          clear b4
          go_wp2
          go_ret
          exact ⟨ret_int (by rw [Hq2.out]), Hbz.out⟩
      · rw [if_neg hy] at hq
        have e0 : (y != 0) = true := by simp [hy]
        have Hq := Lib.hid hq; clear hq
        have Hy := Lib.hid hy; clear hy
        go_wp2_with fail
        refine C1.out.mono ?_
        rintro e w4 ⟨rfl, b4⟩
        have hbz := hb.out.trans (b4.mono hsz)
        have Hbz := Lib.hid hbz; clear hbz
        clear b4
        go_wp2
        go_ret
        exact ⟨ret_int (by rw [Hq.out]), Hbz.out⟩
end Go.Proofs.YtlipmagkplbkdaaDoor
