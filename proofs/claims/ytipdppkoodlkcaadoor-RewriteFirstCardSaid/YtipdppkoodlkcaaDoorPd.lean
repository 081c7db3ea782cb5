/-
  Layer 6: what of Go's library's variables the walks of texts read (LibAt), and the walk of Text.
-/
import Derived.Test.YtipdppkoodlkcaaDoorPb
import Derived.Test.YtipdppkoodlkcaaDoorPc
import Derived.Test.YtipdppkoodlkcaaDoorM1
import Derived.Test.YtipdppkoodlkcaaDoorShelf
import Derived.Lib.AppendIntMem
import Derived.Lib.VarintMem
namespace Go.Proofs.YtipdppkoodlkcaaDoor
open Go.RowKit Go.Sort
set_option linter.unusedVariables false

theorem below_grow' (w : World) (k : Nat) (os : Array Obj) : Below w.heap.size w (grow (w.drewN k) os) :=
  ⟨rfl, rfl, rfl, by show w.heap.size ≤ (w.heap ++ os).size; simp, fun i hi => by show (w.heap ++ os)[i]? = _; rw [Array.getElem?_append_left hi]⟩
theorem var_later {w w' : World} {n : String} {cs : Array Value} (h : w.var? Tryd.prog n = some cs) (hb : Below w.heap.size w w') : w'.var? Tryd.prog n = some cs := by
  unfold World.var? at h ⊢
  cases hg : Tryd.prog.globalNamed n with
  | none => rw [hg] at h; cases h
  | some g =>
    rw [hg] at h
    simp only [Option.bind_some] at h ⊢
    have hlt : g < w.heap.size := by
      rcases Nat.lt_or_ge g w.heap.size with hl | hl
      · exact hl
      · rw [Array.getElem?_eq_none hl] at h; cases h
    rw [hb.block g hlt]; exact h
/-- what the walks of texts read of the library's variables -/
structure LibAt (w : World) : Prop where
  tab : Lib.TabIs Tryd.prog w "internal/strconv.uint64pow10" .u64 Lib.pow10Tab
  syn : ∃ tp p, w.var? Tryd.prog "strconv.ErrSyntax" = some #[.iface tp p]
  rng : ∃ tp p, w.var? Tryd.prog "strconv.ErrRange" = some #[.iface tp p]
  mx : ∃ m, w.cell? ⟨0, 0, none⟩ = some (.int .i64 m)
theorem LibAt.later {w w' : World} (h : LibAt w) (hb : Below w.heap.size w w') : LibAt w' := by
  obtain ⟨h1, ⟨t2, p2, h2⟩, ⟨t3, p3, h3⟩, ⟨m, h4⟩⟩ := h
  refine ⟨var_later h1 hb, ⟨t2, p2, var_later h2 hb⟩, ⟨t3, p3, var_later h3 hb⟩, ⟨m, ?_⟩⟩
  rw [cell_keep (hb.block _ (World.block_lt_of_cell? _ _ h4))]; exact h4

theorem builder_later {T e : TypeId} {B b : Nat} {bs : List Value} {w w' : World} (h : Lib.IsBuilderF T e B b bs w) (hb : Below w.heap.size w w') : Lib.IsBuilderF T e B b bs w' := by
  have one : ∀ p, Lib.BuilderAtF T e B b p bs w → Lib.BuilderAtF T e B b p bs w' := fun p hp => by
    have hlt := hp.lt
    obtain ⟨hB, v, hbk, hown, hne⟩ := hp
    refine ⟨hB, v, (hb.block b hlt).trans hbk, ?_, hne⟩
    obtain ⟨h1, h2⟩ := hown
    refine ⟨h1, ?_⟩
    rcases h2 with h2 | ⟨g, cap, cur, fz, k1, k2, k3, k4⟩
    · exact .inl h2
    · exact .inr ⟨g, cap, cur, fz, k1, k2, (hb.block g (by
        rcases Nat.lt_or_ge g w.heap.size with hl | hl
        · exact hl
        · rw [Array.getElem?_eq_none hl] at k3; cases k3)).trans k3, k4⟩
  exact h.elim (fun h => .inl (one _ h)) (fun h => .inr (one _ h))
theorem blk_kept {e T : TypeId} {b g : Nat} {cs : Array Value} {w w' : World} (h : Blk w g T cs) (hk : Lib.OthersKept e (some b) w w') (hb : g ≠ b) (hT : T ≠ e) : Blk w' g T cs :=
  hk g _ h (by simpa using hb) (fun c fz he => by cases he; exact hT rfl)

/-! ### the text so far -/
def argP : List Int → List UInt8
  | [] => []
  | n :: ns => 40 :: (Lib.itoa n ++ bodyA ns)
theorem argP_snoc (n : Int) : ∀ ns : List Int, argP (ns ++ [n]) = argP ns ++ (if ns.length = 0 then 40 else 44) :: Lib.itoa n
  | [] => by show 40 :: (Lib.itoa n ++ bodyA []) = _; unfold bodyA; simp; rfl
  | k :: ns => by
    show 40 :: (Lib.itoa k ++ bodyA (ns ++ [n])) = 40 :: (Lib.itoa k ++ bodyA ns) ++ 44 :: Lib.itoa n
    unfold bodyA
    rw [List.flatMap_append]; simp
theorem argL_argP (ns : List Int) : argL ns = argP ns ++ (if 0 < ns.length then [41] else []) := by
  cases ns with
  | nil => rfl
  | cons n ns => show 40 :: (Lib.itoa n ++ bodyA ns ++ [41]) = 40 :: (Lib.itoa n ++ bodyA ns) ++ [41]; simp
theorem argP_len : ∀ {ns : List Int}, ns.all argOk = true → (argP ns).length ≤ 12 * ns.length := by
  have hb : ∀ ns : List Int, ns.all argOk = true → (bodyA ns).length ≤ 12 * ns.length := by
    intro ns
    induction ns with
    | nil => intro _; exact Nat.le_refl _
    | cons n ns ih =>
      intro h
      rw [List.all_cons, Bool.and_eq_true] at h
      have := ih h.2
      have h2 := argOk_le h.1
      have h3 := itoa_len h2.1 h2.2
      rw [bodyA_cons]; simp; omega
  intro ns h
  cases ns with
  | nil => exact Nat.le_refl _
  | cons n ns =>
    rw [List.all_cons, Bool.and_eq_true] at h
    have := hb ns h.2
    have h2 := argOk_le h.1
    have h3 := itoa_len h2.1 h2.2
    show (40 :: (Lib.itoa n ++ bodyA ns)).length ≤ _
    simp; omega
theorem fineP_args {m : Mod} (h : fineF m = true) : m.args.all argOk = true ∧ m.args.length ≤ 4 := by
  unfold fineF shapeOk at h
  simp only [Bool.and_eq_true, Bool.or_eq_true, beq_iff_eq, decide_eq_true_eq] at h
  refine ⟨h.1.2, ?_⟩
  rcases h.2 with h | h
  · omega
  · exact h.1.1
theorem modL_len {m : Mod} (h : fineF m = true) : (modL m).length ≤ 50 := by
  obtain ⟨h1, h2⟩ := fineP_args h
  unfold modL
  rw [argL_argP]
  have := argP_len h1
  split <;> simp <;> omega
theorem textL_len : ∀ {ms : List Mod}, ms.all fineF = true → (textL ms).length ≤ 50 * ms.length
  | [], _ => Nat.le_refl _
  | m :: ms, h => by
    rw [List.all_cons, Bool.and_eq_true] at h
    have := textL_len h.2
    have := modL_len h.1
    rw [textL_cons]; simp; omega
theorem textL_take {ms : List Mod} {k : Nat} {m : Mod} {rest : List Mod} (h : ms.drop k = m :: rest) : textL (ms.take (k + 1)) = textL (ms.take k) ++ modL m := by
  rw [take_of_drop h]; unfold textL; rw [List.flatMap_append]; simp
theorem check_len {w : List Mod} (h : checkF w = 0) : w.length ≤ 2000 := by
  unfold checkF at h
  by_cases h1 : 2000 < w.length
  · rw [if_pos h1] at h; cases h
  · omega
theorem cells_name {c : Int} (l : List UInt8) (h : letterB c = true) : Lib.byteCells l ++ [.int .u8 c] = Lib.byteCells (l ++ [c.toNat.toUInt8]) := by
  rw [Lib.byteCells_append]
  unfold Lib.byteCells
  rw [List.map_cons, List.map_nil, name_byte h]
theorem cells_lit (l : List UInt8) (c : UInt8) : Lib.byteCells l ++ [.int .u8 (c.toNat : Int)] = Lib.byteCells (l ++ [c]) := by
  rw [Lib.byteCells_append]; rfl

def TextPost (ms : List Mod) (w : World) (e : Ending) (w' : World) : Prop := e = .returned (.tuple #[.string ⟨(textF ms).1.toArray⟩, .int .i64 (textF ms).2]) ∧ Below w.heap.size w w'
set_option maxRecDepth 100000 in
set_option maxHeartbeats 4000000 in
theorem text_calls (A : Option Addr) (c : Nat) (ms : List Mod) (w : World) (h : SlAt pMod (Old w) w A c ms) (hL : LibAt w) :
    Calls Tryd.prog 30 #[.slice A ms.length c] w (TextPost ms w) := by
  have hmx := h.lenle
  have H := Lib.hid h; clear h
  have HL := Lib.hid hL; clear hL
  by_cases hck : checkF ms = 0
  · have e0 : (checkF ms != 0) = false := by simp [hck]
    have hall := check_all hck
    have hlen := check_len hck
    have htl := textL_len hall
    have hres : textF ms = if 50000 < (textL ms).length then ([], 4) else (textL ms, 0) := by unfold textF; rw [if_pos hck]
    have Hall := Lib.hid hall; clear hall
    have Hres := Lib.hid hres; clear hres
    have Hck := Lib.hid hck; clear hck
    go_enter Tryd.func30, Tryd.ntmps30
    go_wp2_with fail
    refine (wordCheck_calls A c ms w H.out).mono ?_
    rintro e w1 ⟨rfl, hb1⟩
    have z1 := hb1.size
    have Hb1 := Lib.hid hb1; clear hb1
    have hbld := Lib.IsBuilderF.of (Lib.fresh_isBuilder 85 5 w1)
    have hbb := Hb1.out.trans ((Below.refl w1.heap.size w1).alloc (Nat.le_refl _) (.cells #[.pointer none, .slice none 0 0] 85) |>.mono z1)
    have Hbld := Lib.hid hbld; clear hbld
    have Hbb := Lib.hid hbb; clear hbb
    go_wp2
    clear e0
    go_loopw [17] (fun i wr => ∃ k : Nat, k ≤ ms.length ∧ i = .int .i64 k ∧ Hid (Below w.heap.size w wr) ∧ w1.heap.size < wr.heap.size ∧ Hid (Lib.IsBuilderF 85 5 w1.heap.size w1.heap.size (Lib.byteCells (textL (ms.take k))) wr)) (fun i _ => ms.length - (intOf i).toNat)
    case atStart => exact ⟨0, Nat.zero_le _, rfl, Hbb, by simp, Hbld⟩
    case round =>
      obtain ⟨k, hk, rfl, hb, hsz, hbl⟩ := hrel
      obtain ⟨wo, rfl⟩ : ∃ wo : World, wo = wr := ⟨_, rfl⟩
      by_cases hlt : k < ms.length
      · obtain ⟨b, o, A1, c1, m, hd, rfl, hob, hc0, hc1, hm8, hargs, hal⟩ := (H.out.below hb.out).getMod hlt
        have hfm : fineF m = true := List.all_eq_true.1 Hall.out m (mem_of_drop hd.out)
        have hlet := letter_fine hfm
        obtain ⟨hao, hal4⟩ := fineP_args hfm
        have hpl : (textL (ms.take k)).length ≤ 100000 := by
          have := textL_len (ms := ms.take k) (by
            rw [List.all_eq_true]
            exact fun x hx => List.all_eq_true.1 Hall.out x (List.mem_of_mem_take hx))
          rw [List.length_take] at this; omega
        have htk := textL_take hd.out
        obtain ⟨T, hT⟩ : ∃ T, textL (ms.take k) = T := ⟨_, rfl⟩
        rw [hT] at htk hpl hbl
        obtain ⟨W1, hW1⟩ : ∃ W : World, W = wo.alloc (.cells #[.int .u8 m.name, .slice A1 m.args.length c1] 38) := ⟨_, rfl⟩
        have hblk : Blk W1 wo.heap.size 38 #[.int .u8 m.name, .slice A1 m.args.length c1] := by rw [hW1]; exact Blk.new _ _ _
        have hbw1 : Below wo.heap.size wo W1 := by rw [hW1]; exact (Below.refl _ _).alloc (Nat.le_refl _) _
        have hbld1 : Lib.IsBuilderF 85 5 w1.heap.size w1.heap.size (Lib.byteCells T) W1 := builder_later hbl.out hbw1
        have hz1 : wo.heap.size < W1.heap.size := by rw [hW1]; simp
        have hwb := writeByte_calls w1.heap.size w1.heap.size (Lib.byteCells T) m.name W1 hbld1 (by rw [Lib.byteCells_length]; omega) (by omega)
        rw [cells_name T hlet] at hwb
        have hsep : wo.heap.size ≠ w1.heap.size := by omega
        have x0 := (hblk.cell 0).trans rfl
        have kz := hb.out.size
        have Hblk := Lib.hid hblk; clear hblk
        have Hbw1 := Lib.hid hbw1; clear hbw1
        have Hbld1 := Lib.hid hbld1; clear hbld1
        have Hwb := Lib.hid hwb; clear hwb
        have Htk := Lib.hid htk; clear htk
        have HT := Lib.hid hT; clear hT
        have HW1 := Lib.hid hW1; clear hW1
        have Hpl := Lib.hid hpl; clear hpl
        clear hbl
        go_wp2_with fail
        rw [← HW1.out]
        refine Hwb.out.mono ?_
        rintro e w2 ⟨rfl, hbd2, hb2, hk2⟩
        have hblk2 := blk_kept Hblk.out hk2 hsep (by decide)
        have hargs2 : SlAt (pI .i64) (Old w) w2 A1 c1 m.args := hargs.out.keep fun q hq => by
          have hq1 : q < w.heap.size := hq
          exact (hb2.block q (by omega)).trans (Hbw1.out.block q (by omega))
        have hbw2 : Below w.heap.size w w2 := (hb.out.trans (Hbw1.out.mono kz)).trans (hb2.mono z1)
        have hz2 : wo.heap.size < w2.heap.size := by have := hb2.size; omega
        have y1 := (hblk2.cell 1).trans rfl
        obtain ⟨P0, hP0⟩ : ∃ P0, T ++ [m.name.toNat.toUInt8] = P0 := ⟨_, rfl⟩
        rw [hP0] at hbd2
        have hP0l : P0.length ≤ 100001 := by rw [← hP0, List.length_append]; have := Hpl.out; simp; omega
        have Hblk2 := Lib.hid hblk2; clear hblk2
        have Hargs2 := Lib.hid hargs2; clear hargs2
        have Hbw2 := Lib.hid hbw2; clear hbw2
        have Hbd2 := Lib.hid hbd2; clear hbd2
        have HP0 := Lib.hid hP0; clear hP0
        clear hargs x0 hk2 hb2
        go_wp2
        go_loopw [27] (fun i wr => ∃ j : Nat, j ≤ m.args.length ∧ i = .int .i64 j ∧ Hid (Below w2.heap.size w2 w2) ∧ Hid (Below w.heap.size w wr) ∧ wo.heap.size < wr.heap.size ∧ Hid (Blk wr wo.heap.size 38 #[.int .u8 m.name, .slice A1 m.args.length c1]) ∧ Hid (SlAt (pI .i64) (Old w) wr A1 c1 m.args) ∧ Hid (Lib.IsBuilderF 85 5 w1.heap.size w1.heap.size (Lib.byteCells (P0 ++ argP (m.args.take j))) wr)) (fun i _ => m.args.length - (intOf i).toNat)
        case atStart => exact ⟨0, Nat.zero_le _, rfl, Below.refl _ _, Hbw2, hz2, Hblk2, Hargs2, by unfold Hid; simp only [List.take_zero]; show Lib.IsBuilderF _ _ _ _ (Lib.byteCells (P0 ++ [])) _; rw [List.append_nil]; exact Hbd2.out⟩
        case round =>
          obtain ⟨j, hj, rfl, _, hb3, hsz3, hblk3, hargs3, hbd3⟩ := hrel
          obtain ⟨wp, rfl⟩ : ∃ wp : World, wp = wr := ⟨_, rfl⟩
          have hjl : (argP (m.args.take j)).length ≤ 48 := by
            have := argP_len (ns := m.args.take j) (by
              rw [List.all_eq_true]
              exact fun x hx => List.all_eq_true.1 hao x (List.mem_of_mem_take hx))
            rw [List.length_take] at this; omega
          by_cases hlt3 : j < m.args.length
          · obtain ⟨b4, o4, x, hdx, rfl, hob4, hcx, hfx⟩ := hargs3.out.getI hlt3
            have hxo : argOk x = true := List.all_eq_true.1 hao x (mem_of_drop hdx.out)
            obtain ⟨hx0, hx1⟩ := argOk_le hxo
            have hsn := argP_snoc x (m.args.take j)
            rw [← take_of_drop hdx.out, List.length_take, Nat.min_eq_left (Nat.le_of_lt hlt3)] at hsn
            have hil := itoa_len hx0 hx1
            obtain ⟨Q, hQ⟩ : ∃ Q, P0 ++ argP (m.args.take j) = Q := ⟨_, rfl⟩
            have hQl : Q.length ≤ 100100 := by rw [← hQ, List.length_append]; omega
            rw [hQ] at hbd3
            obtain ⟨sp, hsp⟩ : ∃ sp : UInt8, (if j = 0 then (40 : UInt8) else 44) = sp := ⟨_, rfl⟩
            rw [hsp] at hsn
            have hw4 := writeByte_calls w1.heap.size w1.heap.size (Lib.byteCells Q) (sp.toNat : Int) wp hbd3.out (by rw [Lib.byteCells_length]; omega) (by omega)
            rw [cells_lit] at hw4
            have y1 := (hblk3.out.cell 1).trans rfl
            have hnx : P0 ++ argP (m.args.take (j + 1)) = Q ++ [sp] ++ Lib.itoa x := by rw [hsn, ← hQ]; simp
            have Hw4 := Lib.hid hw4; clear hw4
            have Hnx := Lib.hid hnx; clear hnx
            have HQ := Lib.hid hQ; clear hQ
            have Hsn := Lib.hid hsn; clear hsn
            have Hao := Lib.hid hao; clear hao
            clear hjl hbd3
            by_cases hj0 : j = 0
            · subst hj0
              obtain rfl : sp = 40 := by rw [← hsp]; rfl
              rw [Nat.add_zero] at hcx
              go_wp2_with fail
              refine Hw4.out.mono ?_
              rintro e w5 ⟨rfl, hbd5, hb5, hk5⟩
              have hblk5 := blk_kept hblk3.out hk5 hsep (by decide)
              have hz5 := hb5.size
              have hb05 : Below w.heap.size w w5 := hb3.out.trans (hb5.mono z1)
              have hL5 := HL.out.later hb05
              have hit := Tryd.strconv_Itoa x (by omega) (by omega) w5 hL5.tab
              have hargs5 : SlAt (pI .i64) (Old w) w5 (some ⟨b4, o4, none⟩) c1 m.args := hargs3.out.keep fun q hq => hb5.block q (by have : q < w.heap.size := hq; omega)
              have Hit := Lib.hid hit; clear hit
              have Hblk5 := Lib.hid hblk5; clear hblk5
              have Hbd5 := Lib.hid hbd5; clear hbd5
              have Hb05 := Lib.hid hb05; clear hb05
              have Hargs5 := Lib.hid hargs5; clear hargs5
              clear hk5 hb5 hL5
              go_wp2_with fail
              refine Hit.out.mono ?_
              rintro e w6 ⟨rfl, kk, oss, hw6⟩
              have hb6 : Below w5.heap.size w5 w6 := by rw [hw6]; exact below_grow' _ _ _
              clear hw6
              have hz6 := hb6.size
              have hblk6 : Blk w6 wo.heap.size 38 #[.int .u8 m.name, .slice (some ⟨b4, o4, none⟩) m.args.length c1] := by
                have := Hblk5.out
                unfold Blk at this ⊢
                rw [hb6.block _ (by omega)]; exact this
              have hbd6 := builder_later Hbd5.out hb6
              have hb06 : Below w.heap.size w w6 := Hb05.out.trans (hb6.mono (by omega))
              have hargs6 : SlAt (pI .i64) (Old w) w6 (some ⟨b4, o4, none⟩) c1 m.args := Hargs5.out.keep fun q hq => hb6.block q (by have : q < w.heap.size := hq; omega)
              have hsz6 : (⟨(Lib.itoa x).toArray⟩ : ByteArray).size = (Lib.itoa x).length := by show (Lib.itoa x).toArray.size = _; simp
              have hw7 := writeString_calls w1.heap.size w1.heap.size _ ⟨(Lib.itoa x).toArray⟩ w6 hbd6 (by rw [Lib.byteCells_length, hsz6]; simp; omega) (by omega)
              rw [Lib.strCells_toArray, ← Lib.byteCells_append, ← Hnx.out] at hw7
              have Hw7 := Lib.hid hw7; clear hw7
              have Hblk6 := Lib.hid hblk6; clear hblk6
              have Hb06 := Lib.hid hb06; clear hb06
              have Hargs6 := Lib.hid hargs6; clear hargs6
              clear hb6 hbd6
              go_wp2_with fail
              refine Hw7.out.mono ?_
              rintro e w7 ⟨rfl, hbd7, hb7, hk7⟩
              have hblk7 := blk_kept Hblk6.out hk7 hsep (by decide)
              have hz7 := hb7.size
              have hb07 : Below w.heap.size w w7 := Hb06.out.trans (hb7.mono z1)
              have hargs7 : SlAt (pI .i64) (Old w) w7 (some ⟨b4, o4, none⟩) c1 m.args := Hargs6.out.keep fun q hq => hb7.block q (by have : q < w.heap.size := hq; omega)
              have Hbd7 := Lib.hid hbd7; clear hbd7
              have Hblk7 := Lib.hid hblk7; clear hblk7
              have Hb07 := Lib.hid hb07; clear hb07
              have Hargs7 := Lib.hid hargs7; clear hargs7
              clear hk7 hb7
              go_wp2
              go_roundw
              case rel => exact ⟨0 + 1, by omega, by go_num, Below.refl _ _, Hb07, by omega, Hblk7, Hargs7, Hbd7⟩
              case measure => simp [intOf]; omega
            · obtain rfl : sp = 44 := by rw [← hsp, if_neg hj0]
              have hmin : min (j : Int) 1 = 1 := by omega
              go_wp2_with fail
              refine Hw4.out.mono ?_
              rintro e w5 ⟨rfl, hbd5, hb5, hk5⟩
              have hblk5 := blk_kept hblk3.out hk5 hsep (by decide)
              have hz5 := hb5.size
              have hb05 : Below w.heap.size w w5 := hb3.out.trans (hb5.mono z1)
              have hL5 := HL.out.later hb05
              have hit := Tryd.strconv_Itoa x (by omega) (by omega) w5 hL5.tab
              have hargs5 : SlAt (pI .i64) (Old w) w5 (some ⟨b4, o4, none⟩) c1 m.args := hargs3.out.keep fun q hq => hb5.block q (by have : q < w.heap.size := hq; omega)
              have Hit := Lib.hid hit; clear hit
              have Hblk5 := Lib.hid hblk5; clear hblk5
              have Hbd5 := Lib.hid hbd5; clear hbd5
              have Hb05 := Lib.hid hb05; clear hb05
              have Hargs5 := Lib.hid hargs5; clear hargs5
              clear hk5 hb5 hL5
              go_wp2_with fail
              refine Hit.out.mono ?_
              rintro e w6 ⟨rfl, kk, oss, hw6⟩
              have hb6 : Below w5.heap.size w5 w6 := by rw [hw6]; exact below_grow' _ _ _
              clear hw6
              have hz6 := hb6.size
              have hblk6 : Blk w6 wo.heap.size 38 #[.int .u8 m.name, .slice (some ⟨b4, o4, none⟩) m.args.length c1] := by
                have := Hblk5.out
                unfold Blk at this ⊢
                rw [hb6.block _ (by omega)]; exact this
              have hbd6 := builder_later Hbd5.out hb6
              have hb06 : Below w.heap.size w w6 := Hb05.out.trans (hb6.mono (by omega))
              have hargs6 : SlAt (pI .i64) (Old w) w6 (some ⟨b4, o4, none⟩) c1 m.args := Hargs5.out.keep fun q hq => hb6.block q (by have : q < w.heap.size := hq; omega)
              have hsz6 : (⟨(Lib.itoa x).toArray⟩ : ByteArray).size = (Lib.itoa x).length := by show (Lib.itoa x).toArray.size = _; simp
              have hw7 := writeString_calls w1.heap.size w1.heap.size _ ⟨(Lib.itoa x).toArray⟩ w6 hbd6 (by rw [Lib.byteCells_length, hsz6]; simp; omega) (by omega)
              rw [Lib.strCells_toArray, ← Lib.byteCells_append, ← Hnx.out] at hw7
              have Hw7 := Lib.hid hw7; clear hw7
              have Hblk6 := Lib.hid hblk6; clear hblk6
              have Hb06 := Lib.hid hb06; clear hb06
              have Hargs6 := Lib.hid hargs6; clear hargs6
              clear hb6 hbd6
              go_wp2_with fail
              refine Hw7.out.mono ?_
              rintro e w7 ⟨rfl, hbd7, hb7, hk7⟩
              have hblk7 := blk_kept Hblk6.out hk7 hsep (by decide)
              have hz7 := hb7.size
              have hb07 : Below w.heap.size w w7 := Hb06.out.trans (hb7.mono z1)
              have hargs7 : SlAt (pI .i64) (Old w) w7 (some ⟨b4, o4, none⟩) c1 m.args := Hargs6.out.keep fun q hq => hb7.block q (by have : q < w.heap.size := hq; omega)
              have Hbd7 := Lib.hid hbd7; clear hbd7
              have Hblk7 := Lib.hid hblk7; clear hblk7
              have Hb07 := Lib.hid hb07; clear hb07
              have Hargs7 := Lib.hid hargs7; clear hargs7
              clear hk7 hb7
              go_wp2
              go_roundw
              case rel => exact ⟨j + 1, by omega, by go_num, Below.refl _ _, Hb07, by omega, Hblk7, Hargs7, Hbd7⟩
              case measure => simp [intOf]; omega
          · have hjt : m.args.take j = m.args := List.take_of_length_le (by omega)
            rw [hjt] at hbd3 hjl
            have hml : T ++ modL m = P0 ++ argL m.args := by rw [← HP0.out]; unfold modL; simp
            rw [argL_argP] at hml
            have y1 := (hblk3.out.cell 1).trans rfl
            by_cases hl0 : 0 < m.args.length
            · rw [if_pos hl0] at hml
              have hw8 := writeByte_calls w1.heap.size w1.heap.size (Lib.byteCells (P0 ++ argP m.args)) ((41 : UInt8).toNat : Int) wp hbd3.out (by rw [Lib.byteCells_length, List.length_append]; omega) (by omega)
              rw [cells_lit, List.append_assoc, ← hml, ← Htk.out] at hw8
              have Hw8 := Lib.hid hw8; clear hw8
              clear hml
              go_wp2_with fail
              refine Hw8.out.mono ?_
              rintro e w8 ⟨rfl, hbd8, hb8, hk8⟩
              have hb08 : Below w.heap.size w w8 := hb3.out.trans (hb8.mono z1)
              have hz8 := hb8.size
              have Hbd8 := Lib.hid hbd8; clear hbd8
              have Hb08 := Lib.hid hb08; clear hb08
              clear hk8 hb8
              go_wp2
              go_roundw
              case rel => exact ⟨k + 1, by omega, by go_num, Hb08, by omega, Hbd8⟩
              case measure => simp [intOf]; omega
            · rw [if_neg hl0, List.append_nil] at hml
              have hbd8 : Lib.IsBuilderF 85 5 w1.heap.size w1.heap.size (Lib.byteCells (textL (ms.take (k + 1)))) wp := by rw [Htk.out, hml]; exact hbd3.out
              have Hbd8 := Lib.hid hbd8; clear hbd8
              clear hml
              go_wp2
              go_roundw
              case rel => exact ⟨k + 1, by omega, by go_num, hb3, by omega, Hbd8⟩
              case measure => simp [intOf]; omega
      · have hkt : ms.take k = ms := List.take_of_length_le (by omega)
        rw [hkt] at hbl
        have hln := Tryd.Builder_Len_f w1.heap.size w1.heap.size _ wo hbl.out
        rw [Lib.byteCells_length] at hln
        have hst := Tryd.Builder_String_any_k w1.heap.size w1.heap.size _ wo hbl.out (by omega)
        have hr := Hres.out
        have Hln := Lib.hid hln; clear hln
        have Hst := Lib.hid hst; clear hst
        by_cases hbig : 50000 < (textL ms).length
        · rw [if_pos hbig] at hr
          have hbig' : (50000 : Int) < ((textL ms).length : Int) := by omega
          have Hr := Lib.hid hr; clear hr
          go_wp2_with fail
          refine Hln.out.mono ?_
          rintro e w9 ⟨rfl, rfl⟩
          go_wp2
          go_ret2
          exact ⟨by rw [Hr.out]; rfl, hb.out⟩
        · rw [if_neg hbig] at hr
          have hbig' : ¬ (50000 : Int) < ((textL ms).length : Int) := by omega
          have Hr := Lib.hid hr; clear hr
          go_wp2_with fail
          refine Hln.out.mono ?_
          rintro e w9 ⟨rfl, rfl⟩
          go_wp2_with fail
          refine Hst.out.mono ?_
          rintro e w10 ⟨rfl, _, hb10, _⟩
          have hb11 := hb.out.trans (hb10.mono z1)
          have Hb11 := Lib.hid hb11; clear hb11
          clear hb10
          go_wp2
          go_ret2
          exact ⟨by rw [Hr.out]; rfl, Hb11.out⟩
  · have e0 : (checkF ms != 0) = true := by simp [hck]
    have hres : textF ms = ([], checkF ms) := by unfold textF; rw [if_neg hck]
    have Hres := Lib.hid hres; clear hres
    have Hck := Lib.hid hck; clear hck
    go_enter Tryd.func30, Tryd.ntmps30
    go_wp2_with fail
    refine (wordCheck_calls A c ms w H.out).mono ?_
    rintro e w1 ⟨rfl, hb1⟩
    have z1 := hb1.size
    have Hb1 := Lib.hid hb1; clear hb1
    go_wp2
    go_ret2
    exact ⟨by rw [Hres.out]; rfl, Hb1.out⟩
end Go.Proofs.YtipdppkoodlkcaaDoor
