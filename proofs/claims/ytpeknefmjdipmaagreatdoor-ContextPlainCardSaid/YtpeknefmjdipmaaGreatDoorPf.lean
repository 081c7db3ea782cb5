/-
  Layer 6, plain: what strings.Cut, strings.Split and strconv.Atoi give, in the words of the readings; contracts of the library in the form that the walk of Parse takes.
-/
import Derived.Test.YtpeknefmjdipmaaGreatDoorPd
import Derived.Lib.CutLaws
import Derived.Lib.SplitLaws
import Derived.Lib.IndexBytes
import Derived.Lib.AtoiErrMem
namespace Go.Proofs.YtpeknefmjdipmaaGreatDoor
open Go.RowKit Go.Sort

theorem index_cut (c : UInt8) : ∀ l : List UInt8, Lib.index l [c] = match cutC c l with
    | none => -1
    | some (p, _) => (p.length : Int)
  | [] => rfl
  | b :: r => by
    have ih := index_cut c r
    unfold Lib.index cutC
    by_cases h : b = c
    · subst h
      simp [List.isPrefixOf]
    · have h1 : ([c] : List UInt8).isPrefixOf (b :: r) = false := by simp [List.isPrefixOf, Ne.symm h]
      rw [h1, if_neg (by decide), if_neg h, ih]
      cases cutC c r with
      | none => rfl
      | some x => obtain ⟨p, q⟩ := x; simp
theorem lib_cut (c : UInt8) (l : List UInt8) : Lib.cut l [c] = match cutC c l with
    | none => (l, [], false)
    | some (p, q) => (p, q, true) := by
  have h := index_cut c l
  unfold Lib.cut
  cases hc : cutC c l with
  | none =>
    rw [hc] at h
    dsimp only at h ⊢
    rw [h, if_neg (by decide)]
  | some x =>
    obtain ⟨p, q⟩ := x
    rw [hc] at h
    dsimp only at h ⊢
    have hl := cutC_text hc
    rw [h, if_pos (Int.natCast_nonneg _), Int.toNat_natCast, hl]
    simp
theorem splitC_none {c : UInt8} : ∀ {l : List UInt8}, cutC c l = none → splitC c l = [l]
  | [], _ => rfl
  | b :: r, h => by
    unfold cutC at h
    unfold splitC
    by_cases hb : b = c
    · rw [if_pos hb] at h; cases h
    · rw [if_neg hb] at h ⊢
      have : cutC c r = none := by
        cases hc : cutC c r with
        | none => rfl
        | some x => rw [hc] at h; cases h
      rw [splitC_none this]
theorem splitC_some {c : UInt8} : ∀ {l p q : List UInt8}, cutC c l = some (p, q) → splitC c l = p :: splitC c q
  | [], _, _, h => by cases h
  | b :: r, p, q, h => by
    unfold cutC at h
    conv => lhs; unfold splitC
    by_cases hb : b = c
    · rw [if_pos hb] at h ⊢; cases h; rfl
    · rw [if_neg hb] at h ⊢
      cases hc : cutC c r with
      | none => rw [hc] at h; cases h
      | some x =>
        rw [hc] at h; cases h
        rw [splitC_some hc]
theorem lib_split (c : UInt8) : ∀ (n : Nat) (l : List UInt8), l.length ≤ n → Lib.splitK [c] 0 (Lib.count l [c]) l = splitC c l
  | n, l, hn => by
    have h := index_cut c l
    cases hc : cutC c l with
    | none =>
      rw [hc] at h
      rw [Lib.count_miss h, splitC_none hc]; rfl
    | some x =>
      obtain ⟨p, q⟩ := x
      rw [hc] at h
      have hl := cutC_text hc
      rw [Lib.count_hit (by simp) h, Nat.add_comm]
      unfold Lib.splitK
      rw [if_neg (by rw [h]; simp), h, Int.toNat_natCast, splitC_some hc]
      have e1 : l.take (p.length + 0) = p := by rw [hl]; simp
      have e2 : l.drop (p.length + [c].length) = q := by rw [hl]; simp
      rw [e1, e2]
      cases n with
      | zero => rw [hl] at hn; simp at hn
      | succ n => rw [lib_split c n q (by rw [hl] at hn; simp at hn; omega)]
theorem pieces_data (l : List UInt8) : (Lib.splitB ⟨#[44]⟩ 0 (Lib.countB ⟨l.toArray⟩ ⟨#[44]⟩) ⟨l.toArray⟩).map (·.data.toList) = splitC 44 l := by
  rw [Lib.splitB_data]
  exact lib_split 44 _ l (Nat.le_refl _)
theorem pieces_len (l : List UInt8) : (Lib.splitB ⟨#[44]⟩ 0 (Lib.countB ⟨l.toArray⟩ ⟨#[44]⟩) ⟨l.toArray⟩).length = Lib.countB ⟨l.toArray⟩ ⟨#[44]⟩ + 1 := Lib.splitB_all _ (by decide) 0 _ _ rfl
theorem splitC_len (c : UInt8) : ∀ l : List UInt8, (splitC c l).length ≤ l.length + 1
  | [] => Nat.le_refl _
  | b :: r => by
    have ih := splitC_len c r
    unfold splitC
    split
    · simp; omega
    · split
      · simp
      · rename_i h; rw [h] at ih; simp at ih ⊢; omega
theorem splitC_piece (c : UInt8) : ∀ l : List UInt8, ∀ p ∈ splitC c l, p.length ≤ l.length
  | [], p, h => by
    have := List.mem_singleton.1 (show p ∈ [[]] from h)
    rw [this]; simp
  | b :: r, p, h => by
    have ih := splitC_piece c r
    unfold splitC at h
    split at h
    · rcases List.mem_cons.1 h with h | h
      · rw [h]; simp
      · have := ih p h; simp; omega
    · split at h
      · have := List.mem_singleton.1 h
        rw [this]; simp
      · rename_i q qs hs
        rcases List.mem_cons.1 h with h | h
        · have := ih q (by rw [hs]; simp)
          rw [h]; simp; omega
        · have := ih p (by rw [hs]; simp [h])
          simp; omega

/-! ### the library's functions, as Parse calls them -/
theorem cut_calls (s : ByteArray) (w : World) (hL : LibAt w) (hs : s.size ≤ 60000) : Calls Tryz.prog 57 #[.string s, .string ⟨#[41]⟩] w fun e w' => (∃ p q : ByteArray, ∃ ok, e = .returned (.tuple #[.string p, .string q, .bool ok]) ∧ Hid (match cutC 41 s.data.toList with
    | none => ok = false
    | some (a, b) => p.data.toList = a ∧ q.data.toList = b ∧ ok = true)) ∧ Below w.heap.size w w' := by
  obtain ⟨m, hm⟩ := hL.mx
  refine (Tryz.strings_Cut s ⟨#[41]⟩ m w (by omega) hm).mono ?_
  rintro e w' ⟨rfl, n, rfl⟩
  refine ⟨⟨_, _, _, rfl, ?_⟩, below_drewN (Below.refl _ _) n⟩
  unfold Hid
  have h : Lib.cut s.data.toList (ByteArray.mk #[41]).data.toList = _ := lib_cut 41 s.data.toList
  rw [h]
  cases cutC 41 s.data.toList with
  | none => rfl
  | some x => obtain ⟨a, b⟩ := x; exact ⟨rfl, rfl, rfl⟩
def PiecesPost (s : ByteArray) (w : World) (e : Ending) (w' : World) : Prop :=
  ∃ ps : List ByteArray, e = .returned (.slice (some ⟨w.heap.size, 0, none⟩) ps.length ps.length) ∧ w' = w.alloc (.cells (ps.map Value.string).toArray 9) ∧ Hid (ps.map (·.data.toList) = splitC 44 s.data.toList) ∧ ps.length ≤ s.size + 1
theorem split_calls (s : ByteArray) (w : World) (hL : LibAt w) (hs : s.size ≤ 60000) : Calls Tryz.prog 58 #[.string s, .string ⟨#[44]⟩] w (PiecesPost s w) := by
  obtain ⟨m, hm⟩ := hL.mx
  obtain ⟨l, rfl⟩ : ∃ l : List UInt8, s = ⟨l.toArray⟩ := ⟨s.data.toList, rfl⟩
  refine (Tryz.strings_Split ⟨l.toArray⟩ ⟨#[44]⟩ m w (by omega) hm (by decide)).mono ?_
  rintro e w' ⟨rfl, rfl⟩
  have h1 := pieces_len l
  refine ⟨_, ?_, rfl, pieces_data l, ?_⟩
  · rw [h1]
  · have h2 := congrArg List.length (pieces_data l)
    rw [List.length_map] at h2
    rw [h2]
    have h3 := splitC_len 44 l
    have h4 : (⟨l.toArray⟩ : ByteArray).size = l.length := by show l.toArray.size = _; simp
    omega
def AtoiPost (t : ByteArray) (w : World) (e : Ending) (w' : World) : Prop :=
  ((∃ v, e = .returned (.tuple #[.int .i64 v, .nilIface]) ∧ Hid (Lib.atoiAll t.data.toList = .ok v) ∧ -9223372036854775808 ≤ v ∧ v ≤ 9223372036854775807) ∨
   (∃ v T p, e = .returned (.tuple #[.int .i64 v, .iface T (.pointer p)]) ∧ Hid (numP t.data.toList = none))) ∧ Below w.heap.size w w'
theorem atoi_calls (t : ByteArray) (w : World) (hL : LibAt w) (hs : t.size ≤ 60000) : Calls Tryz.prog 59 #[.string t] w (AtoiPost t w) := by
  rcases h : Lib.atoiAll t.data.toList with v | _ | _
  · have hb := Lib.atoiAll_bounds h
    refine (Tryz.strconv_Atoi_ok t (by omega) v h w).mono ?_
    rintro e w' ⟨rfl, hw⟩
    refine ⟨.inl ⟨v, rfl, h, hb.1, hb.2⟩, ?_⟩
    rcases hw with rfl | ⟨u, rfl⟩
    · exact Below.refl _ _
    · exact Lib.bytesWorld_below _ _ _
  · obtain ⟨tp, p, hv⟩ := hL.syn
    refine (Tryz.strconv_Atoi_syntax_var t (by omega) h tp p w hv).mono ?_
    rintro e w' ⟨N, rfl, _, _, hb⟩
    exact ⟨.inr ⟨_, _, _, rfl, by unfold Hid numP; rw [h]⟩, hb⟩
  · obtain ⟨tp, p, hv⟩ := hL.rng
    refine (Tryz.strconv_Atoi_range_var t (by omega) h tp p w hv).mono ?_
    rintro e w' ⟨N, rfl, _, _, hb⟩
    exact ⟨.inr ⟨_, _, _, rfl, by unfold Hid numP; rw [h]⟩, hb⟩
theorem itoaB_calls (n : Int) (w : World) (hL : LibAt w) (h0 : -9223372036854775808 ≤ n) (h1 : n ≤ 9223372036854775807) : Calls Tryz.prog 60 #[.int .i64 n] w fun e w' => e = .returned (.string ⟨(Lib.itoa n).toArray⟩) ∧ Below w.heap.size w w' := by
  refine (Tryz.strconv_Itoa n h0 h1 w hL.tab).mono ?_
  rintro e w' ⟨rfl, k, os, rfl⟩
  exact ⟨rfl, below_grow' _ _ _⟩
end Go.Proofs.YtpeknefmjdipmaaGreatDoor
