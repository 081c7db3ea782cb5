/-
  Several texts in one.
-/
import Derived.Test.YtlipmagkplbkdaaDoorZ14
import Derived.Test.YtlipmagkplbkdaaDoorZ15
/-! Nf9 -/
namespace Go.Proofs.YtlipmagkplbkdaaDoor
open Go.RowKit
set_option linter.unusedVariables false
set_option linter.unusedSimpArgs false
theorem fitP_fst (m : Mod) : ∀ (rs : List Rul) (k : Nat), (((rs.zipIdx k).filter fun p => fitsF p.1 m).map (·.1)) = rs.filter fun r => fitsF r m
  | [], _ => rfl
  | r :: rs, k => by
    have ih := fitP_fst m rs (k + 1)
    rw [List.zipIdx_cons, List.filter_cons, List.filter_cons]
    by_cases h : fitsF r m = true
    · rw [if_pos h, if_pos h, List.map_cons, ih]
    · rw [if_neg h, if_neg h, ih]
theorem fitP_nil_iff {m : Mod} {rs : List Rul} : fitP m rs = [] ↔ ∀ r ∈ rs, fitsF r m = false := by
  have h1 := fitP_fst m rs 0
  constructor
  · intro h r hr
    cases hf : fitsF r m
    · rfl
    · have : r ∈ rs.filter fun r => fitsF r m := List.mem_filter.2 ⟨hr, hf⟩
      rw [← h1] at this
      unfold fitP at h
      rw [h] at this
      cases this
  · intro h
    have : (fitP m rs).map (·.1) = [] := by
      unfold fitP
      rw [h1, List.filter_eq_nil_iff]
      intro r hr
      rw [h r hr]; decide
    exact List.map_eq_nil_iff.1 this
theorem succR_one {r : Rul} (hv : RVal [r]) (s : Int) {c : Cel} (h : fitsF r c.mod = true) : succR [r] s c = sucR r c := by
  rcases pick_cases hv s c with ⟨hn, _, _⟩ | ⟨i, j, r', _, _, _, hj, _, hp⟩
  · have := fitP_nil_iff.1 hn r (by simp)
    rw [h] at this; cases this
  · have hr : r' = r := by have := List.mem_of_getElem? hj; simpa using this
    rw [succR_some hp, hr]
theorem succR_pick {rs : List Rul} (hv : RVal rs) (s : Int) (c : Cel) : ((∀ r ∈ rs, fitsF r c.mod = false) ∧ succR rs s c = ([c], 0)) ∨ ∃ r ∈ rs, fitsF r c.mod = true ∧ succR rs s c = sucR r c := by
  rcases pick_cases hv s c with ⟨hn, _, hp⟩ | ⟨i, j, r, _, _, _, hj, hf, hp⟩
  · exact .inl ⟨fitP_nil_iff.1 hn, succR_none hp⟩
  · exact .inr ⟨r, List.mem_of_getElem? hj, hf, succR_some hp⟩
theorem oneR_of {rs : List Rul} (hc : checkC rs = 0) {c : Cel} (hp : pathF c.path = true) (hf : fineF c.mod = true) (s : Int) : oneR rs s c = succR rs s c := by
  unfold oneR
  rw [if_pos hc, if_pos (by rw [hp, hf]; rfl)]
end Go.Proofs.YtlipmagkplbkdaaDoor

/-! Nk9 -/
namespace Go.Proofs.YtlipmagkplbkdaaDoor
open Go.RowKit
set_option linter.unusedVariables false
set_option linter.unusedSimpArgs false
def nrR (l w : Int) : List Rul := [⟨65, 0, l, 0, [], w, [⟨66, []⟩, ⟨67, []⟩]⟩]
theorem nrH_c : checkC (nrR 0 1000001) = 8 := by decide +kernel
theorem nrN_c : checkC (nrR 0 0) = 8 := by decide +kernel
theorem nrL_c : checkC (nrR 65 1) = 8 := by decide +kernel
theorem nrR_small (l w : Int) : Small (nrR l w) := small_of (by unfold greatR nrR; simp)
def zeroRul : Rul := ⟨0, 0, 0, 0, [], 0, []⟩
def bigR9 : List Rul := List.replicate 41 zeroRul
theorem bigR9_c : checkC bigR9 = 4 := by decide +kernel
theorem bigR9_small : Small bigR9 := small_of (by decide +kernel)
theorem nilR_c : checkC [] = 0 := by decide +kernel
theorem nilR_small : Small [] := small_of (by decide +kernel)
def longB (n : Nat) : ByteArray := ⟨(List.replicate n (48 : UInt8)).toArray⟩
theorem longB_size (n : Nat) : (longB n).size = n := by unfold longB ByteArray.size; simp
theorem longB_succ (n : Nat) : longB n ++ ⟨#[48]⟩ = longB (n + 1) := by
  apply ByteArray.ext
  rw [ByteArray.data_append]
  unfold longB
  refine Array.toList_inj.1 ?_
  rw [List.replicate_succ']
  simp
theorem longB_two (n : Nat) : longB n ++ ⟨#[48, 48]⟩ = longB (n + 2) := by
  apply ByteArray.ext
  rw [ByteArray.data_append]
  unfold longB
  rw [List.replicate_succ', List.replicate_succ']
  simp
theorem oneA : oneR exRs 1 (cellN (longB 199) 65) = ([], 4) := by
  rw [oneR_of exRs_ok (by decide +kernel) (by decide +kernel)]
  rw [show exRs = [ruleBC] from rfl, succR_one (rval_of exRs_ok) 1 (by decide +kernel)]
  refine sucR_long (by decide +kernel) ?_
  show shortL [(⟨subP (longB 199) 0, _⟩ : Cel), ⟨subP (longB 199) 1, _⟩] = false
  unfold shortL
  rw [List.all_cons, show decide ((subP (longB 199) 0).size ≤ 200) = false from by
    rw [subP_size, itoaB_one (by decide), longB_size]; rfl]
  rfl
theorem oneB : oneR exRs 1 (cellN (longB 201) 66) = ([], 8) := by unfold oneR; rw [if_pos exRs_ok, if_neg (by decide +kernel)]
theorem one_stay {c : Cel} (hp : pathF c.path = true) (hf : fineF c.mod = true) (h : fitsF ruleBC c.mod = false) (s : Int) : oneR exRs s c = ([c], 0) := by
  rw [oneR_of exRs_ok hp hf]
  rcases succR_pick (rval_of exRs_ok) s c with ⟨_, h2⟩ | ⟨r, hr, hf, _⟩
  · exact h2
  · rw [show r = ruleBC by simpa [exRs] using hr, h] at hf; cases hf
theorem oneC : oneR exRs 1 (cellN (longB 200) 66) = ([cellN (longB 200) 66], 0) := one_stay (by decide +kernel) (by decide +kernel) (by decide +kernel) 1
theorem oneD : oneR exRs 1 (cellN ⟨#[]⟩ 65) = ([], 8) := by unfold oneR; rw [if_pos exRs_ok, if_neg (by decide +kernel)]
theorem oneE : oneR exRs 1 (cellN ⟨#[97]⟩ 65) = ([], 8) := by unfold oneR; rw [if_pos exRs_ok, if_neg (by decide +kernel)]
theorem oneF : oneR exRs 1 (cellN ⟨#[55]⟩ 93) = ([cellN ⟨#[55]⟩ 93], 0) := one_stay (by decide +kernel) (by decide +kernel) (by decide +kernel) 1
def bigRule : Rul := ⟨70, 1, 0, 0, [], 3, [⟨70, [⟨0, [2]⟩]⟩]⟩
def bigW : List Mod := [⟨70, [500000001]⟩]
theorem bigRule_c : checkC [bigRule] = 0 := by decide +kernel
theorem bigRule_small : Small [bigRule] := small_of (by decide +kernel)
theorem bigW_small : bigW.length ≤ 10000 ∧ ∀ m ∈ bigW, m.args.length ≤ 1000 := by decide +kernel
theorem runG : pRun9 [bigRule] 0 bigW 1 = ([], 16) := by
  unfold pRun9
  rw [if_pos bigRule_c, if_pos (by decide +kernel), if_neg (by decide)]
  obtain ⟨p, hp⟩ : ∃ p, beginL bigW = [⟨p, ⟨70, [500000001]⟩⟩] := ⟨_, rfl⟩
  rw [hp]
  have hs : succR [bigRule] 0 ⟨p, ⟨70, [500000001]⟩⟩ = ([], 16) := by
    rw [succR_one (rval_of bigRule_c) 0 (by show fitsF bigRule ⟨70, [500000001]⟩ = true; decide +kernel)]
    exact sucR_not (by show madeOk bigRule ⟨70, [500000001]⟩ = false; decide +kernel)
  have he : errL [bigRule] 0 [⟨p, ⟨70, [500000001]⟩⟩] = 16 := by
    show (if (succR [bigRule] 0 ⟨p, ⟨70, [500000001]⟩⟩).2 ≠ 0 then (succR [bigRule] 0 ⟨p, ⟨70, [500000001]⟩⟩).2 else (0 : Int)) = 16
    rw [hs]; rfl
  have hst := stepR9_err (rs := [bigRule]) (s := 0) (l := [⟨p, ⟨70, [500000001]⟩⟩]) (by rw [he]; decide)
  rw [he] at hst
  show (if (stepR9 [bigRule] 0 [⟨p, ⟨70, [500000001]⟩⟩]).2 = 0 then ((stepR9 [bigRule] 0 [⟨p, ⟨70, [500000001]⟩⟩]).1, 0) else _) = _
  rw [hst]
  rfl
theorem runH : pRun9 [bigRule] 0 [] 31 = ([], 2) := by
  unfold pRun9
  rw [if_pos bigRule_c, if_pos (by decide +kernel), if_pos (by decide)]
theorem cel1 : cellsR [cellN ⟨#[48]⟩ 91] = 28 := by decide +kernel
theorem cel2 : cellsR [cellN ⟨#[]⟩ 91] = 8 := by decide +kernel
def zeroCel : Cel := ⟨ByteArray.empty, ⟨0, []⟩⟩
def manyCel : List Cel := List.replicate 2001 zeroCel
theorem cel3 : cellsR manyCel = 4 := by unfold cellsR manyCel; rw [if_pos (by rw [List.length_replicate]; decide)]
theorem cel4 : cellsR [cellN ⟨#[48]⟩ 0] = 8 := by decide +kernel
theorem cel5 : cellsR [cellN ⟨#[47]⟩ 70, cellN ⟨#[47]⟩ 70] = 0 := by decide +kernel
end Go.Proofs.YtlipmagkplbkdaaDoor

/-! Nl9 -/
namespace Go.Proofs.YtlipmagkplbkdaaDoor
open Go Go.Conc Go.RowKit
set_option linter.unusedVariables false
set_option linter.unusedSimpArgs false
set_option maxRecDepth 100000 in
set_option maxHeartbeats 4000000 in
theorem act_lit212 {a : Act} (hd : a.defers = []) (hz : a.tmps.size = 212) : a = { tmps := #[a.tmps.getD 0 undef, a.tmps.getD 1 undef, a.tmps.getD 2 undef, a.tmps.getD 3 undef, a.tmps.getD 4 undef, a.tmps.getD 5 undef, a.tmps.getD 6 undef, a.tmps.getD 7 undef, a.tmps.getD 8 undef, a.tmps.getD 9 undef, a.tmps.getD 10 undef, a.tmps.getD 11 undef, a.tmps.getD 12 undef, a.tmps.getD 13 undef, a.tmps.getD 14 undef, a.tmps.getD 15 undef, a.tmps.getD 16 undef, a.tmps.getD 17 undef, a.tmps.getD 18 undef, a.tmps.getD 19 undef, a.tmps.getD 20 undef, a.tmps.getD 21 undef, a.tmps.getD 22 undef, a.tmps.getD 23 undef, a.tmps.getD 24 undef, a.tmps.getD 25 undef, a.tmps.getD 26 undef, a.tmps.getD 27 undef, a.tmps.getD 28 undef, a.tmps.getD 29 undef, a.tmps.getD 30 undef, a.tmps.getD 31 undef, a.tmps.getD 32 undef, a.tmps.getD 33 undef, a.tmps.getD 34 undef, a.tmps.getD 35 undef, a.tmps.getD 36 undef, a.tmps.getD 37 undef, a.tmps.getD 38 undef, a.tmps.getD 39 undef, a.tmps.getD 40 undef, a.tmps.getD 41 undef, a.tmps.getD 42 undef, a.tmps.getD 43 undef, a.tmps.getD 44 undef, a.tmps.getD 45 undef, a.tmps.getD 46 undef, a.tmps.getD 47 undef, a.tmps.getD 48 undef, a.tmps.getD 49 undef, a.tmps.getD 50 undef, a.tmps.getD 51 undef, a.tmps.getD 52 undef, a.tmps.getD 53 undef, a.tmps.getD 54 undef, a.tmps.getD 55 undef, a.tmps.getD 56 undef, a.tmps.getD 57 undef, a.tmps.getD 58 undef, a.tmps.getD 59 undef, a.tmps.getD 60 undef, a.tmps.getD 61 undef, a.tmps.getD 62 undef, a.tmps.getD 63 undef, a.tmps.getD 64 undef, a.tmps.getD 65 undef, a.tmps.getD 66 undef, a.tmps.getD 67 undef, a.tmps.getD 68 undef, a.tmps.getD 69 undef, a.tmps.getD 70 undef, a.tmps.getD 71 undef, a.tmps.getD 72 undef, a.tmps.getD 73 undef, a.tmps.getD 74 undef, a.tmps.getD 75 undef, a.tmps.getD 76 undef, a.tmps.getD 77 undef, a.tmps.getD 78 undef, a.tmps.getD 79 undef, a.tmps.getD 80 undef, a.tmps.getD 81 undef, a.tmps.getD 82 undef, a.tmps.getD 83 undef, a.tmps.getD 84 undef, a.tmps.getD 85 undef, a.tmps.getD 86 undef, a.tmps.getD 87 undef, a.tmps.getD 88 undef, a.tmps.getD 89 undef, a.tmps.getD 90 undef, a.tmps.getD 91 undef, a.tmps.getD 92 undef, a.tmps.getD 93 undef, a.tmps.getD 94 undef, a.tmps.getD 95 undef, a.tmps.getD 96 undef, a.tmps.getD 97 undef, a.tmps.getD 98 undef, a.tmps.getD 99 undef, a.tmps.getD 100 undef, a.tmps.getD 101 undef, a.tmps.getD 102 undef, a.tmps.getD 103 undef, a.tmps.getD 104 undef, a.tmps.getD 105 undef, a.tmps.getD 106 undef, a.tmps.getD 107 undef, a.tmps.getD 108 undef, a.tmps.getD 109 undef, a.tmps.getD 110 undef, a.tmps.getD 111 undef, a.tmps.getD 112 undef, a.tmps.getD 113 undef, a.tmps.getD 114 undef, a.tmps.getD 115 undef, a.tmps.getD 116 undef, a.tmps.getD 117 undef, a.tmps.getD 118 undef, a.tmps.getD 119 undef, a.tmps.getD 120 undef, a.tmps.getD 121 undef, a.tmps.getD 122 undef, a.tmps.getD 123 undef, a.tmps.getD 124 undef, a.tmps.getD 125 undef, a.tmps.getD 126 undef, a.tmps.getD 127 undef, a.tmps.getD 128 undef, a.tmps.getD 129 undef, a.tmps.getD 130 undef, a.tmps.getD 131 undef, a.tmps.getD 132 undef, a.tmps.getD 133 undef, a.tmps.getD 134 undef, a.tmps.getD 135 undef, a.tmps.getD 136 undef, a.tmps.getD 137 undef, a.tmps.getD 138 undef, a.tmps.getD 139 undef, a.tmps.getD 140 undef, a.tmps.getD 141 undef, a.tmps.getD 142 undef, a.tmps.getD 143 undef, a.tmps.getD 144 undef, a.tmps.getD 145 undef, a.tmps.getD 146 undef, a.tmps.getD 147 undef, a.tmps.getD 148 undef, a.tmps.getD 149 undef, a.tmps.getD 150 undef, a.tmps.getD 151 undef, a.tmps.getD 152 undef, a.tmps.getD 153 undef, a.tmps.getD 154 undef, a.tmps.getD 155 undef, a.tmps.getD 156 undef, a.tmps.getD 157 undef, a.tmps.getD 158 undef, a.tmps.getD 159 undef, a.tmps.getD 160 undef, a.tmps.getD 161 undef, a.tmps.getD 162 undef, a.tmps.getD 163 undef, a.tmps.getD 164 undef, a.tmps.getD 165 undef, a.tmps.getD 166 undef, a.tmps.getD 167 undef, a.tmps.getD 168 undef, a.tmps.getD 169 undef, a.tmps.getD 170 undef, a.tmps.getD 171 undef, a.tmps.getD 172 undef, a.tmps.getD 173 undef, a.tmps.getD 174 undef, a.tmps.getD 175 undef, a.tmps.getD 176 undef, a.tmps.getD 177 undef, a.tmps.getD 178 undef, a.tmps.getD 179 undef, a.tmps.getD 180 undef, a.tmps.getD 181 undef, a.tmps.getD 182 undef, a.tmps.getD 183 undef, a.tmps.getD 184 undef, a.tmps.getD 185 undef, a.tmps.getD 186 undef, a.tmps.getD 187 undef, a.tmps.getD 188 undef, a.tmps.getD 189 undef, a.tmps.getD 190 undef, a.tmps.getD 191 undef, a.tmps.getD 192 undef, a.tmps.getD 193 undef, a.tmps.getD 194 undef, a.tmps.getD 195 undef, a.tmps.getD 196 undef, a.tmps.getD 197 undef, a.tmps.getD 198 undef, a.tmps.getD 199 undef, a.tmps.getD 200 undef, a.tmps.getD 201 undef, a.tmps.getD 202 undef, a.tmps.getD 203 undef, a.tmps.getD 204 undef, a.tmps.getD 205 undef, a.tmps.getD 206 undef, a.tmps.getD 207 undef, a.tmps.getD 208 undef, a.tmps.getD 209 undef, a.tmps.getD 210 undef, a.tmps.getD 211 undef], defers := [] } := by
  obtain ⟨tm, df⟩ := a
  obtain rfl : df = [] := hd
  have hz : tm.size = 212 := hz
  refine congrArg (fun t => ({ tmps := t, defers := [] } : Act)) ?_
  apply Array.ext
  · rw [hz]; rfl
  · intro i h1 h2
    rw [hz] at h1
    rw [show tm[i] = tm.getD i undef by rw [Array.getD_eq_getD_getElem?, Array.getElem?_eq_getElem (by omega)]; rfl]
    match i, h1 with
    | 0, _ => rfl
    | 1, _ => rfl
    | 2, _ => rfl
    | 3, _ => rfl
    | 4, _ => rfl
    | 5, _ => rfl
    | 6, _ => rfl
    | 7, _ => rfl
    | 8, _ => rfl
    | 9, _ => rfl
    | 10, _ => rfl
    | 11, _ => rfl
    | 12, _ => rfl
    | 13, _ => rfl
    | 14, _ => rfl
    | 15, _ => rfl
    | 16, _ => rfl
    | 17, _ => rfl
    | 18, _ => rfl
    | 19, _ => rfl
    | 20, _ => rfl
    | 21, _ => rfl
    | 22, _ => rfl
    | 23, _ => rfl
    | 24, _ => rfl
    | 25, _ => rfl
    | 26, _ => rfl
    | 27, _ => rfl
    | 28, _ => rfl
    | 29, _ => rfl
    | 30, _ => rfl
    | 31, _ => rfl
    | 32, _ => rfl
    | 33, _ => rfl
    | 34, _ => rfl
    | 35, _ => rfl
    | 36, _ => rfl
    | 37, _ => rfl
    | 38, _ => rfl
    | 39, _ => rfl
    | 40, _ => rfl
    | 41, _ => rfl
    | 42, _ => rfl
    | 43, _ => rfl
    | 44, _ => rfl
    | 45, _ => rfl
    | 46, _ => rfl
    | 47, _ => rfl
    | 48, _ => rfl
    | 49, _ => rfl
    | 50, _ => rfl
    | 51, _ => rfl
    | 52, _ => rfl
    | 53, _ => rfl
    | 54, _ => rfl
    | 55, _ => rfl
    | 56, _ => rfl
    | 57, _ => rfl
    | 58, _ => rfl
    | 59, _ => rfl
    | 60, _ => rfl
    | 61, _ => rfl
    | 62, _ => rfl
    | 63, _ => rfl
    | 64, _ => rfl
    | 65, _ => rfl
    | 66, _ => rfl
    | 67, _ => rfl
    | 68, _ => rfl
    | 69, _ => rfl
    | 70, _ => rfl
    | 71, _ => rfl
    | 72, _ => rfl
    | 73, _ => rfl
    | 74, _ => rfl
    | 75, _ => rfl
    | 76, _ => rfl
    | 77, _ => rfl
    | 78, _ => rfl
    | 79, _ => rfl
    | 80, _ => rfl
    | 81, _ => rfl
    | 82, _ => rfl
    | 83, _ => rfl
    | 84, _ => rfl
    | 85, _ => rfl
    | 86, _ => rfl
    | 87, _ => rfl
    | 88, _ => rfl
    | 89, _ => rfl
    | 90, _ => rfl
    | 91, _ => rfl
    | 92, _ => rfl
    | 93, _ => rfl
    | 94, _ => rfl
    | 95, _ => rfl
    | 96, _ => rfl
    | 97, _ => rfl
    | 98, _ => rfl
    | 99, _ => rfl
    | 100, _ => rfl
    | 101, _ => rfl
    | 102, _ => rfl
    | 103, _ => rfl
    | 104, _ => rfl
    | 105, _ => rfl
    | 106, _ => rfl
    | 107, _ => rfl
    | 108, _ => rfl
    | 109, _ => rfl
    | 110, _ => rfl
    | 111, _ => rfl
    | 112, _ => rfl
    | 113, _ => rfl
    | 114, _ => rfl
    | 115, _ => rfl
    | 116, _ => rfl
    | 117, _ => rfl
    | 118, _ => rfl
    | 119, _ => rfl
    | 120, _ => rfl
    | 121, _ => rfl
    | 122, _ => rfl
    | 123, _ => rfl
    | 124, _ => rfl
    | 125, _ => rfl
    | 126, _ => rfl
    | 127, _ => rfl
    | 128, _ => rfl
    | 129, _ => rfl
    | 130, _ => rfl
    | 131, _ => rfl
    | 132, _ => rfl
    | 133, _ => rfl
    | 134, _ => rfl
    | 135, _ => rfl
    | 136, _ => rfl
    | 137, _ => rfl
    | 138, _ => rfl
    | 139, _ => rfl
    | 140, _ => rfl
    | 141, _ => rfl
    | 142, _ => rfl
    | 143, _ => rfl
    | 144, _ => rfl
    | 145, _ => rfl
    | 146, _ => rfl
    | 147, _ => rfl
    | 148, _ => rfl
    | 149, _ => rfl
    | 150, _ => rfl
    | 151, _ => rfl
    | 152, _ => rfl
    | 153, _ => rfl
    | 154, _ => rfl
    | 155, _ => rfl
    | 156, _ => rfl
    | 157, _ => rfl
    | 158, _ => rfl
    | 159, _ => rfl
    | 160, _ => rfl
    | 161, _ => rfl
    | 162, _ => rfl
    | 163, _ => rfl
    | 164, _ => rfl
    | 165, _ => rfl
    | 166, _ => rfl
    | 167, _ => rfl
    | 168, _ => rfl
    | 169, _ => rfl
    | 170, _ => rfl
    | 171, _ => rfl
    | 172, _ => rfl
    | 173, _ => rfl
    | 174, _ => rfl
    | 175, _ => rfl
    | 176, _ => rfl
    | 177, _ => rfl
    | 178, _ => rfl
    | 179, _ => rfl
    | 180, _ => rfl
    | 181, _ => rfl
    | 182, _ => rfl
    | 183, _ => rfl
    | 184, _ => rfl
    | 185, _ => rfl
    | 186, _ => rfl
    | 187, _ => rfl
    | 188, _ => rfl
    | 189, _ => rfl
    | 190, _ => rfl
    | 191, _ => rfl
    | 192, _ => rfl
    | 193, _ => rfl
    | 194, _ => rfl
    | 195, _ => rfl
    | 196, _ => rfl
    | 197, _ => rfl
    | 198, _ => rfl
    | 199, _ => rfl
    | 200, _ => rfl
    | 201, _ => rfl
    | 202, _ => rfl
    | 203, _ => rfl
    | 204, _ => rfl
    | 205, _ => rfl
    | 206, _ => rfl
    | 207, _ => rfl
    | 208, _ => rfl
    | 209, _ => rfl
    | 210, _ => rfl
    | 211, _ => rfl
    | j + 212, h => exact absurd h (by omega)
noncomputable def naB : Code := match Tryd.f7.body with | some c => c | none => .skip
theorem naBody : Tryd.f7.body = some naB := by kernel_rfl
noncomputable def naR0 : Code := match naB with | .seq a _ => a | _ => .skip
noncomputable def naR1 : Code := match naB with | .seq _ (.seq a _) => a | _ => .skip
noncomputable def naR2 : Code := match naB with | .seq _ (.seq _ (.seq a _)) => a | _ => .skip
noncomputable def naR3 : Code := match naB with | .seq _ (.seq _ (.seq _ (.seq a _))) => a | _ => .skip
noncomputable def naR4 : Code := match naB with | .seq _ (.seq _ (.seq _ (.seq _ (.seq a _)))) => a | _ => .skip
noncomputable def naR5 : Code := match naB with | .seq _ (.seq _ (.seq _ (.seq _ (.seq _ (.seq a _))))) => a | _ => .skip
noncomputable def naR6 : Code := match naB with | .seq _ (.seq _ (.seq _ (.seq _ (.seq _ (.seq _ (.seq a _)))))) => a | _ => .skip
noncomputable def naL : Code := match naB with | .seq _ (.seq _ (.seq _ (.seq _ (.seq _ (.seq _ (.seq _ (.seq a _))))))) => a | _ => .skip
noncomputable def naR9 : Code := match naB with | .seq _ (.seq _ (.seq _ (.seq _ (.seq _ (.seq _ (.seq _ (.seq _ (.seq a _)))))))) => a | _ => .skip
noncomputable def naR10 : Code := match naB with | .seq _ (.seq _ (.seq _ (.seq _ (.seq _ (.seq _ (.seq _ (.seq _ (.seq _ (.seq a _))))))))) => a | _ => .skip
noncomputable def naR11 : Code := match naB with | .seq _ (.seq _ (.seq _ (.seq _ (.seq _ (.seq _ (.seq _ (.seq _ (.seq _ (.seq _ (.seq a _)))))))))) => a | _ => .skip
noncomputable def naR12 : Code := match naB with | .seq _ (.seq _ (.seq _ (.seq _ (.seq _ (.seq _ (.seq _ (.seq _ (.seq _ (.seq _ (.seq _ (.seq a _))))))))))) => a | _ => .skip
noncomputable def naR13 : Code := match naB with | .seq _ (.seq _ (.seq _ (.seq _ (.seq _ (.seq _ (.seq _ (.seq _ (.seq _ (.seq _ (.seq _ (.seq _ (.seq a _)))))))))))) => a | _ => .skip
noncomputable def naR14 : Code := match naB with | .seq _ (.seq _ (.seq _ (.seq _ (.seq _ (.seq _ (.seq _ (.seq _ (.seq _ (.seq _ (.seq _ (.seq _ (.seq _ (.seq a _))))))))))))) => a | _ => .skip
noncomputable def naR15 : Code := match naB with | .seq _ (.seq _ (.seq _ (.seq _ (.seq _ (.seq _ (.seq _ (.seq _ (.seq _ (.seq _ (.seq _ (.seq _ (.seq _ (.seq _ (.seq a _)))))))))))))) => a | _ => .skip
noncomputable def naR16 : Code := match naB with | .seq _ (.seq _ (.seq _ (.seq _ (.seq _ (.seq _ (.seq _ (.seq _ (.seq _ (.seq _ (.seq _ (.seq _ (.seq _ (.seq _ (.seq _ (.seq a _))))))))))))))) => a | _ => .skip
noncomputable def naO17 : Array Oper := match naB with | .seq _ (.seq _ (.seq _ (.seq _ (.seq _ (.seq _ (.seq _ (.seq _ (.seq _ (.seq _ (.seq _ (.seq _ (.seq _ (.seq _ (.seq _ (.seq _ (.seq (.region _ a _) _)))))))))))))))) => a | _ => #[]
noncomputable def naO18 : Array Oper := match naB with | .seq _ (.seq _ (.seq _ (.seq _ (.seq _ (.seq _ (.seq _ (.seq _ (.seq _ (.seq _ (.seq _ (.seq _ (.seq _ (.seq _ (.seq _ (.seq _ (.seq _ (.seq (.region _ a _) _))))))))))))))))) => a | _ => #[]
noncomputable def naR19 : Code := match naB with | .seq _ (.seq _ (.seq _ (.seq _ (.seq _ (.seq _ (.seq _ (.seq _ (.seq _ (.seq _ (.seq _ (.seq _ (.seq _ (.seq _ (.seq _ (.seq _ (.seq _ (.seq _ (.seq a _)))))))))))))))))) => a | _ => .skip
noncomputable def naO20 : Array Oper := match naB with | .seq _ (.seq _ (.seq _ (.seq _ (.seq _ (.seq _ (.seq _ (.seq _ (.seq _ (.seq _ (.seq _ (.seq _ (.seq _ (.seq _ (.seq _ (.seq _ (.seq _ (.seq _ (.seq _ (.seq (.region _ a _) _))))))))))))))))))) => a | _ => #[]
noncomputable def naT3 : Code := .seq (.region 17 naO17 false) (.seq (.region 18 naO18 false) (.seq naR19 (.seq (.region 20 naO20 false) .ret)))
noncomputable def naT2 : Code := .seq naR15 (.seq naR16 naT3)
noncomputable def naT1 : Code := .seq naR9 (.seq naR10 (.seq naR11 (.seq naR12 (.seq naR13 (.seq naR14 (naT2))))))
theorem naB_eq : naB = .seq naR0 (.seq naR1 (.seq naR2 (.seq naR3 (.seq naR4 (.seq naR5 (.seq naR6 (.seq naL (naT1)))))))) := by kernel_rfl
theorem naTm : (#[] ++ Array.replicate (Tryd.f7.ntmps - (#[] : Array Value).size) undef : Array Value) = #[undef, undef, undef, undef, undef, undef, undef, undef, undef, undef, undef, undef, undef, undef, undef, undef, undef, undef, undef, undef, undef, undef, undef, undef, undef, undef, undef, undef, undef, undef, undef, undef, undef, undef, undef, undef, undef, undef, undef, undef, undef, undef, undef, undef, undef, undef, undef, undef, undef, undef, undef, undef, undef, undef, undef, undef, undef, undef, undef, undef, undef, undef, undef, undef, undef, undef, undef, undef, undef, undef, undef, undef, undef, undef, undef, undef, undef, undef, undef, undef, undef, undef, undef, undef, undef, undef, undef, undef, undef, undef, undef, undef, undef, undef, undef, undef, undef, undef, undef, undef, undef, undef, undef, undef, undef, undef, undef, undef, undef, undef, undef, undef, undef, undef, undef, undef, undef, undef, undef, undef, undef, undef, undef, undef, undef, undef, undef, undef, undef, undef, undef, undef, undef, undef, undef, undef, undef, undef, undef, undef, undef, undef, undef, undef, undef, undef, undef, undef, undef, undef, undef, undef, undef, undef, undef, undef, undef, undef, undef, undef, undef, undef, undef, undef, undef, undef, undef, undef, undef, undef, undef, undef, undef, undef, undef, undef, undef, undef, undef, undef, undef, undef, undef, undef, undef, undef, undef, undef, undef, undef, undef, undef, undef, undef, undef, undef, undef, undef, undef, undef, undef, undef, undef, undef, undef, undef, undef, undef, undef, undef, undef, undef] := by kernel_rfl
theorem nokR0 : okC Tryd.prog gR sR naR0 = true := by kernel_rfl
theorem nokR1 : okC Tryd.prog gR sR naR1 = true := by kernel_rfl
theorem nokR2 : okC Tryd.prog gR sR naR2 = true := by kernel_rfl
theorem nokR3 : okC Tryd.prog gR sR naR3 = true := by kernel_rfl
theorem nokR4 : okC Tryd.prog gR sR naR4 = true := by kernel_rfl
theorem nokR5 : okC Tryd.prog gR sR naR5 = true := by kernel_rfl
theorem nokR6 : okC Tryd.prog gR sR naR6 = true := by kernel_rfl
theorem nokL : okC Tryd.prog gR sR naL = true := by kernel_rfl
theorem nokR9 : okC Tryd.prog gR sR naR9 = true := by kernel_rfl
theorem nokR10 : okC Tryd.prog gR sR naR10 = true := by kernel_rfl
theorem nokR11 : okC Tryd.prog gR sR naR11 = true := by kernel_rfl
theorem nokR12 : okC Tryd.prog gR sR naR12 = true := by kernel_rfl
theorem nokR13 : okC Tryd.prog gR sR naR13 = true := by kernel_rfl
theorem nokR14 : okC Tryd.prog gR sR naR14 = true := by kernel_rfl
theorem nokR15 : okC Tryd.prog gR sR naR15 = true := by kernel_rfl
theorem nokR16 : okC Tryd.prog gR sR naR16 = true := by kernel_rfl
theorem nokR19 : okC Tryd.prog gR sR naR19 = true := by kernel_rfl
theorem naz17 : List.range naO17.size = [0, 1, 2, 3, 4, 5, 6, 7, 8, 9] := by kernel_rfl
theorem naz18 : List.range naO18.size = [0, 1, 2, 3, 4, 5, 6] := by kernel_rfl
theorem naz20 : List.range naO20.size = [0, 1, 2, 3, 4, 5, 6, 7, 8, 9, 10, 11, 12, 13, 14, 15, 16, 17, 18, 19, 20] := by kernel_rfl
def bNa : Frame := { (default : Frame) with fn := 7, kind := .normal }
theorem bNa_fn : ∃ fn, Tryd.prog.funcs[bNa.fn]? = some fn := ⟨Tryd.f7, Tryd.func7⟩
theorem na_fin {ch : Option Nat} {a : Act} {v : World} {todo : List Item} (hd : a.defers = []) (h0 : slot a 0 (.bool true)) : MS Tryd.prog SR gR sR (· = .bool true) [] ch { bNa.at a todo with mode := .returning } [] v := by
  refine MS.fin (x := .bool true) rfl hd rfl Tryd.func7 (fun τ d => ?_) (by kernel_rfl) rfl
  refine (results_one (p := 0) rfl _).trans ?_
  show Result.ok (a.tmps.getD 0 undef) _ = _
  rw [show (a.tmps.getD 0 undef) = _ from h0]
theorem Kp.setC9 {v w : World} {g j : Nat} {x : Value} (h : Kp v w) (hg : v.heap.size ≤ g) : Kp v (w.setCell ⟨g, j, none⟩ x) := by
  refine ⟨by have := h.size; unfold World.setCell; simpa using this, fun a ha => (World.cell?_of_block ?_).trans (h.cell a ha)⟩
  unfold World.setCell
  rw [Array.getElem?_modify, if_neg (by simp; omega)]
structure Gv (w : World) (g h : Nat) (l wt : Int) : Prop where
  top : Blk w g 60 #[.int .u8 65, .int .i64 0, .int .u8 l, .int .u8 0, .slice none 0 0, .int .i64 wt, .slice (some ⟨h, 0, none⟩) 2 2]
  out : Blk w h 72 #[.int .u8 66, .slice none 0 0, .int .u8 67, .slice none 0 0]
section
variable {w w' : World} {g h : Nat} {l wt : Int}
theorem Gv.later (x : Gv w g h l wt) (hb : Below w.heap.size w w') : Gv w' g h l wt := ⟨x.top.same (hb.block _ x.top.lt), x.out.same (hb.block _ x.out.lt)⟩
theorem Gv.at2 (x : Gv w g h l wt) (τ : Nat → Question → Nat) (t : Nat) : Gv (Go.Proofs.YtlipmagkplbkdaaDoor.at2 w τ t) g h l wt := ⟨x.top.same rfl, x.out.same rfl⟩
theorem set_ne9 {w : World} {g i k : Nat} {u : Value} (h : g ≠ k) : (w.setCell ⟨g, i, none⟩ u).heap[k]? = w.heap[k]? := by
  unfold World.setCell; rw [Array.getElem?_modify, if_neg h]
theorem Gv.other (x : Gv w g h l wt) {k i : Nat} {u : Value} (h1 : k ≠ g) (h2 : k ≠ h) : Gv (w.setCell ⟨k, i, none⟩ u) g h l wt := ⟨x.top.same (set_ne9 h1), x.out.same (set_ne9 h2)⟩
theorem Gv.setW (x : Gv w g h l wt) (hn : g ≠ h) (n : Int) : Gv (w.setCell ⟨g, 5, none⟩ (.int .i64 n)) g h l n := ⟨by have := x.top.set 5 (.int .i64 n); simpa using this, x.out.same (set_ne9 hn)⟩
theorem Gv.setL (x : Gv w g h l wt) (hn : g ≠ h) (n : Int) : Gv (w.setCell ⟨g, 2, none⟩ (.int .u8 n)) g h n wt := ⟨by have := x.top.set 2 (.int .u8 n); simpa using this, x.out.same (set_ne9 hn)⟩
theorem Gv.sl (x : Gv w g h l wt) (hl : Fits .u8 l) (hw : Fits .i64 wt) : SlAt pRul (Old w) w (some ⟨g, 0, none⟩) 1 (nrR l wt) := by
  have h1 : SlAt pShp (Old w) w (some ⟨h, 0, none⟩) 2 [⟨66, []⟩, ⟨67, []⟩] := sl_lit (E := pShp) x.out (xs := [⟨66, []⟩, ⟨67, []⟩]) ⟨[_, _], _, rfl, shp_R9 (fits_u8 (by decide)), [_, _], [], rfl, shp_R9 (fits_u8 (by decide)), rfl⟩ x.out.lt (by decide) rfl
  exact sl_lit (E := pRul) x.top (xs := nrR l wt) ⟨[_, _, _, _, _, _, _], [], rfl, ⟨none, 0, some ⟨h, 0, none⟩, 2, rfl, ⟨fits_u8 (n := 65) (by decide), fits_i64 (n := 0) (by decide), hl, fits_u8 (n := 0) (by decide), hw⟩, sl_none, h1⟩, rfl⟩ x.top.lt (by show 1 ≤ maxLen; unfold maxLen; omega) rfl
end
set_option maxRecDepth 100000 in
set_option maxHeartbeats 1000000 in
theorem given9b_calls (w : World) : Calls Tryd.prog 35 #[] w fun e w' => ∃ g h, e = .returned (.slice (some ⟨g, 0, none⟩) 1 1) ∧ Hid (Gv w' g h 0 1) ∧ (w.heap.size ≤ h ∧ h < g ∧ g < w'.heap.size) ∧ Hid (Below w.heap.size w w') := by
  have hb : Below w.heap.size w ((w.alloc (.cells #[.int .u8 66, .slice none 0 0, .int .u8 67, .slice none 0 0] 72)).alloc (.cells #[.int .u8 65, .int .i64 0, .int .u8 0, .int .u8 0, .slice none 0 0, .int .i64 1, .slice (some ⟨w.heap.size, 0, none⟩) 2 2] 60)) := ((Below.refl _ _).alloc (Nat.le_refl _) _).alloc (by simp) _
  have hG : Gv ((w.alloc (.cells #[.int .u8 66, .slice none 0 0, .int .u8 67, .slice none 0 0] 72)).alloc (.cells #[.int .u8 65, .int .i64 0, .int .u8 0, .int .u8 0, .slice none 0 0, .int .i64 1, .slice (some ⟨w.heap.size, 0, none⟩) 2 2] 60)) (w.heap.size + 1) w.heap.size 0 1 := by
    refine ⟨?_, (Blk.new _ _ _).alloc _⟩
    have := Blk.new (w.alloc (.cells #[.int .u8 66, .slice none 0 0, .int .u8 67, .slice none 0 0] 72)) 60 #[.int .u8 65, .int .i64 0, .int .u8 0, .int .u8 0, .slice none 0 0, .int .i64 1, .slice (some ⟨w.heap.size, 0, none⟩) 2 2]
    simpa using this
  have hz : w.heap.size + 1 < ((w.alloc (.cells #[.int .u8 66, .slice none 0 0, .int .u8 67, .slice none 0 0] 72)).alloc (.cells #[.int .u8 65, .int .i64 0, .int .u8 0, .int .u8 0, .slice none 0 0, .int .i64 1, .slice (some ⟨w.heap.size, 0, none⟩) 2 2] 60)).heap.size := hG.top.lt
  have Hb := Lib.hid hb; clear hb
  have HG := Lib.hid hG; clear hG
  have Hz := Lib.hid hz; clear hz
  go_enter Tryd.func35, Tryd.ntmps35
  go_wp2
  go_ret
  exact ⟨_, _, rfl, HG, ⟨Nat.le_refl _, Nat.lt_succ_self _, Hz.out⟩, Hb⟩
theorem zeroR_R9 {F : Nat → Prop} {w : World} : pRul.R F w [.int .u8 0, .int .i64 0, .int .u8 0, .int .u8 0, .slice none 0 0, .int .i64 0, .slice none 0 0] zeroRul :=
  ⟨none, 0, none, 0, rfl, ⟨fits_u8 (n := 0) (by decide), fits_i64 (n := 0) (by decide), fits_u8 (n := 0) (by decide), fits_u8 (n := 0) (by decide), fits_i64 (n := 0) (by decide)⟩, sl_none, sl_none⟩
theorem made9 {α : Type} {E : Rp α} {F : Nat → Prop} {w : World} {g n : Nat} {t : TypeId} {z : Value} {x : α} (h : Blk w g t (madeCells z.cells (n * E.n))) (hR : E.R F w z.cells.toList x) (hF : F g) (hn : n ≤ maxLen) : SlAt E F w (some ⟨g, 0, none⟩) n (List.replicate n x) := by
  refine ⟨by simp, hn, (fun e => by cases e), fun i y hy => ?_⟩
  obtain ⟨hi, hye⟩ := List.getElem?_eq_some_iff.1 hy
  simp at hi hye
  subst hye
  refine ⟨g, 0, z.cells.toList, rfl, hF, hR, fun j c hj => ?_⟩
  have hj2 : j < z.cells.toList.length := (List.getElem?_eq_some_iff.1 hj).1
  have hl := E.len hR
  rw [h.cell]
  have hm : 0 + i * E.n + j < n * E.n := by
    have : (i + 1) * E.n ≤ n * E.n := Nat.mul_le_mul_right _ hi
    rw [Nat.add_mul] at this; omega
  have hz : z.cells[(0 + i * E.n + j) % z.cells.size]! = c := by
    have hs : z.cells.size = E.n := by simpa using hl
    rw [hs, Nat.zero_add, Nat.add_comm, Nat.add_mul_mod_self_right, Nat.mod_eq_of_lt (by omega)]
    have hj3 : z.cells[j]? = some c := by simpa using hj
    rw [getElem!_def, hj3]
  unfold madeCells
  rw [Array.getElem?_map, Array.getElem?_range, if_pos hm]
  exact congrArg some hz
def zeroRv : Value := .agg #[.int .u8 0, .int .i64 0, .int .u8 0, .int .u8 0, .slice none 0 0, .int .i64 0, .slice none 0 0]
def bigRv : Array Value := madeCells zeroRv.cells (41 * 7)
theorem info_rulZ : (Tryd.prog.info? 60).map (fun i => (i.zero, i.size, i.bytes)) = some (some zeroRv, 7, 80) := by kernel_rfl
theorem make_bigR9 (wx : World) : (Instr.makeSlice 22 (.int .i64 41) (.int .i64 41)).run Tryd.prog wx = .ok (.slice (some ⟨wx.heap.size, 0, none⟩) 41 41) (wx.alloc (.cells bigRv 60)) :=
  run_make_rowN Tryd.underlying22 info_rulZ 41 (by omega) (by omega) wx
theorem big_sl9 {w : World} {g : Nat} (h : Blk w g 60 bigRv) : SlAt pRul (Old w) w (some ⟨g, 0, none⟩) 41 bigR9 :=
  made9 (E := pRul) (z := zeroRv) h zeroR_R9 h.lt (by unfold maxLen; omega)
def zeroCv : Value := .agg #[.string ByteArray.empty, .int .u8 0, .slice none 0 0]
def bigCv : Array Value := madeCells zeroCv.cells (2001 * 3)
theorem make_bigC9 (wx : World) : (Instr.makeSlice 26 (.int .i64 2001) (.int .i64 2001)).run Tryd.prog wx = .ok (.slice (some ⟨wx.heap.size, 0, none⟩) 2001 2001) (wx.alloc (.cells bigCv 51)) :=
  run_make_rowN Tryd.underlying26 info_cel 2001 (by omega) (by omega) wx
theorem many_sl9 {w : World} {g : Nat} (h : Blk w g 51 bigCv) : SlAt pCel (Old w) w (some ⟨g, 0, none⟩) 2001 manyCel :=
  made9 (E := pCel) (z := zeroCv) h (cel_R9 (p := ByteArray.empty) (n := 0) (by decide) (fits_u8 (by decide))) h.lt (by unfold maxLen; omega)
section
variable {v0 : World}
set_option maxRecDepth 100000 in
set_option maxHeartbeats 4000000 in
theorem na_a (ht : TabAt v0) (hg : GAt v0)
    (hk : ∀ a v, a.tmps.size = 212 → a.defers = [] → slot a 4 (.bool true) → slot a 5 (.string (longB 199)) → Kp v0 v → MS Tryd.prog SR gR sR (· = .bool true) [] none (bNa.at a [.code naT1]) [] v) :
    MS Tryd.prog SR gR sR (· = .bool true) [] none (Frame.enter Tryd.prog 7 #[] .normal) [] v0 := by
  have hX : Walk Tryd.prog SR gR sR (MS Tryd.prog SR gR sR (· = .bool true) [] none) := MS.walk ctxR
  rw [enter_eq Tryd.func7 naBody, naB_eq, naTm]
  show MS Tryd.prog SR gR sR (· = .bool true) [] none (bNa.at _ _) [] v0
  refine hX.seq (hX.wp ctxR rfl bNa_fn nokR0 fun τ t => ?_)
  have k1 : Kp v0 (Go.Proofs.YtlipmagkplbkdaaDoor.at2 v0 τ t) := Kp.at2 _ _ _
  generalize Go.Proofs.YtlipmagkplbkdaaDoor.at2 v0 τ t = v1 at k1 ⊢
  have Hk := Lib.hid hk; clear hk
  have HX := Lib.hid hX; clear hX
  dsimp only [naR0, naB, Tryd.f7]
  go_wp2
  refine HX.out.seq (HX.out.wp ctxR rfl bNa_fn nokR1 fun τ t => ?_)
  have k2 : Kp v0 (Go.Proofs.YtlipmagkplbkdaaDoor.at2 v1 τ t) := k1.trans (Kp.at2 _ _ _)
  generalize Go.Proofs.YtlipmagkplbkdaaDoor.at2 v1 τ t = v2 at k2 ⊢
  clear k1
  dsimp only [naR1, naB, Tryd.f7]
  go_wp2_with fail
  refine (given9b_calls _).mono ?_
  rintro e w1 ⟨g1, h1, rfl, hG1, ⟨z1, y1, x1⟩, hb1⟩
  go_wp2_with fail
  refine (given9b_calls _).mono ?_
  rintro e w2 ⟨g2, h2, rfl, hG2, ⟨z2, y2, x2⟩, hb2⟩
  go_wp2_with fail
  refine (given9b_calls _).mono ?_
  rintro e w3 ⟨g3, h3, rfl, hG3, ⟨z3, y3, x3⟩, hb3⟩
  have k3 := ((k2.trans (Kp.below hb1.out)).trans (Kp.below hb2.out)).trans (Kp.below hb3.out)
  have q1 := (hG1.out.later hb2.out).later hb3.out
  have q2 := hG2.out.later hb3.out
  have q3 := hG3.out
  have hv0 := k2.size
  clear hG1 hG2 hG3 hb1 hb2 hb3 k2
  have K3 := Lib.hid k3; clear k3
  have Q1 := Lib.hid q1; clear q1
  have Q2 := Lib.hid q2; clear q2
  have Q3 := Lib.hid q3; clear q3
  go_wp2
  refine HX.out.seq (HX.out.wp ctxR rfl bNa_fn nokR2 fun τ t => ?_)
  have k4 : Kp v0 (Go.Proofs.YtlipmagkplbkdaaDoor.at2 w3 τ t) := K3.out.trans (Kp.at2 _ _ _)
  have r1 := Q1.out.at2 τ t
  have r2 := Q2.out.at2 τ t
  have r3 := Q3.out.at2 τ t
  generalize Go.Proofs.YtlipmagkplbkdaaDoor.at2 w3 τ t = v4 at k4 r1 r2 r3 ⊢
  clear K3 Q1 Q2 Q3
  have hcm : v4.cell? ⟨g1, 5, none⟩ = some (.int .i64 1) := (r1.top.cell 5).trans rfl
  have hfz : v4.frozen? ⟨g1, 5, none⟩ = false := r1.top.free 5
  have k5 : Kp v0 (v4.setCell ⟨g1, 5, none⟩ (.int .i64 1000001)) := k4.setC9 (by omega)
  have q1 := r1.setW (by omega) 1000001
  have q2 := r2.other (k := g1) (i := 5) (u := .int .i64 1000001) (by omega) (by omega)
  have q3 := r3.other (k := g1) (i := 5) (u := .int .i64 1000001) (by omega) (by omega)
  have K5 := Lib.hid k5; clear k5
  have Q1 := Lib.hid q1; clear q1
  have Q2 := Lib.hid q2; clear q2
  have Q3 := Lib.hid q3; clear q3
  clear k4 r1 r2 r3
  dsimp only [naR2, naB, Tryd.f7]
  go_wp2
  generalize v4.setCell ⟨g1, 5, none⟩ (.int .i64 1000001) = v5 at K5 Q1 Q2 Q3 ⊢
  refine HX.out.seq (HX.out.wp ctxR rfl bNa_fn nokR3 fun τ t => ?_)
  have k6 : Kp v0 (Go.Proofs.YtlipmagkplbkdaaDoor.at2 v5 τ t) := K5.out.trans (Kp.at2 _ _ _)
  have r1 := Q1.out.at2 τ t
  have r2 := Q2.out.at2 τ t
  have r3 := Q3.out.at2 τ t
  generalize Go.Proofs.YtlipmagkplbkdaaDoor.at2 v5 τ t = v6 at k6 r1 r2 r3 ⊢
  clear K5 Q1 Q2 Q3 hcm hfz
  have hcm : v6.cell? ⟨g2, 5, none⟩ = some (.int .i64 1) := (r2.top.cell 5).trans rfl
  have hfz : v6.frozen? ⟨g2, 5, none⟩ = false := r2.top.free 5
  have k7 : Kp v0 (v6.setCell ⟨g2, 5, none⟩ (.int .i64 0)) := k6.setC9 (by omega)
  have q2 := r2.setW (by omega) 0
  have q1 := r1.other (k := g2) (i := 5) (u := .int .i64 0) (by omega) (by omega)
  have q3 := r3.other (k := g2) (i := 5) (u := .int .i64 0) (by omega) (by omega)
  have K7 := Lib.hid k7; clear k7
  have Q1 := Lib.hid q1; clear q1
  have Q2 := Lib.hid q2; clear q2
  have Q3 := Lib.hid q3; clear q3
  clear k6 r1 r2 r3
  dsimp only [naR3, naB, Tryd.f7]
  go_wp2
  generalize v6.setCell ⟨g2, 5, none⟩ (.int .i64 0) = v7 at K7 Q1 Q2 Q3 ⊢
  refine HX.out.seq (HX.out.wp ctxR rfl bNa_fn nokR4 fun τ t => ?_)
  have k8 : Kp v0 (Go.Proofs.YtlipmagkplbkdaaDoor.at2 v7 τ t) := K7.out.trans (Kp.at2 _ _ _)
  have r1 := Q1.out.at2 τ t
  have r2 := Q2.out.at2 τ t
  have r3 := Q3.out.at2 τ t
  generalize Go.Proofs.YtlipmagkplbkdaaDoor.at2 v7 τ t = v8 at k8 r1 r2 r3 ⊢
  clear K7 Q1 Q2 Q3 hcm hfz
  have hcm : v8.cell? ⟨g3, 2, none⟩ = some (.int .u8 0) := (r3.top.cell 2).trans rfl
  have hfz : v8.frozen? ⟨g3, 2, none⟩ = false := r3.top.free 2
  have k9 : Kp v0 (v8.setCell ⟨g3, 2, none⟩ (.int .u8 65)) := k8.setC9 (by omega)
  have q3 := r3.setL (by omega) 65
  have q1 := r1.other (k := g3) (i := 2) (u := .int .u8 65) (by omega) (by omega)
  have q2 := r2.other (k := g3) (i := 2) (u := .int .u8 65) (by omega) (by omega)
  have K9 := Lib.hid k9; clear k9
  have Q1 := Lib.hid q1; clear q1
  have Q2 := Lib.hid q2; clear q2
  have Q3 := Lib.hid q3; clear q3
  clear k8 r1 r2 r3
  dsimp only [naR4, naB, Tryd.f7]
  go_wp2
  generalize v8.setCell ⟨g3, 2, none⟩ (.int .u8 65) = v9 at K9 Q1 Q2 Q3 ⊢
  refine HX.out.seq (HX.out.wp ctxR rfl bNa_fn nokR5 fun τ t => ?_)
  have k10 : Kp v0 (Go.Proofs.YtlipmagkplbkdaaDoor.at2 v9 τ t) := K9.out.trans (Kp.at2 _ _ _)
  have r1 := Q1.out.at2 τ t
  have r2 := Q2.out.at2 τ t
  have r3 := Q3.out.at2 τ t
  generalize Go.Proofs.YtlipmagkplbkdaaDoor.at2 v9 τ t = v10 at k10 r1 r2 r3 ⊢
  clear K9 Q1 Q2 Q3 hcm hfz z1 y1 x1 z2 y2 x2 z3 y3 x3 hv0
  have c1 : ∀ w, Below v10.heap.size v10 w → Calls Tryd.prog 21 #[.slice (some ⟨g1, 0, none⟩) 1 1] w fun e w' => e = .returned (.int .i64 8) ∧ Hid (Below w.heap.size w w') := fun w hb => (checkC_calls (some ⟨g1, 0, none⟩) 1 (nrR 0 1000001) w ((r1.later hb).sl (fits_u8 (n := 0) (by decide)) (fits_i64 (n := 1000001) (by decide))) (nrR_small _ _)).mono fun e w' hh => by have h := hh; unfold IntPost at h; rw [nrH_c] at h; exact h
  have c2 : ∀ w, Below v10.heap.size v10 w → Calls Tryd.prog 21 #[.slice (some ⟨g2, 0, none⟩) 1 1] w fun e w' => e = .returned (.int .i64 8) ∧ Hid (Below w.heap.size w w') := fun w hb => (checkC_calls (some ⟨g2, 0, none⟩) 1 (nrR 0 0) w ((r2.later hb).sl (fits_u8 (n := 0) (by decide)) (fits_i64 (n := 0) (by decide))) (nrR_small _ _)).mono fun e w' hh => by have h := hh; unfold IntPost at h; rw [nrN_c] at h; exact h
  have c3 : ∀ w, Below v10.heap.size v10 w → Calls Tryd.prog 21 #[.slice (some ⟨g3, 0, none⟩) 1 1] w fun e w' => e = .returned (.int .i64 8) ∧ Hid (Below w.heap.size w w') := fun w hb => (checkC_calls (some ⟨g3, 0, none⟩) 1 (nrR 65 1) w ((r3.later hb).sl (fits_u8 (n := 65) (by decide)) (fits_i64 (n := 1) (by decide))) (nrR_small _ _)).mono fun e w' hh => by have h := hh; unfold IntPost at h; rw [nrL_c] at h; exact h
  have c4 : ∀ w, Calls Tryd.prog 21 #[.slice (some ⟨w.heap.size, 0, none⟩) 41 41] (w.alloc (.cells bigRv 60)) fun e w' => e = .returned (.int .i64 4) ∧ Hid (Below w.heap.size w w') := fun w => (checkC_calls (some ⟨w.heap.size, 0, none⟩) 41 bigR9 (w.alloc (.cells bigRv 60)) (big_sl9 (Blk.new _ _ _)) bigR9_small).mono fun e w' hh => by have h := hh; unfold IntPost at h; rw [bigR9_c] at h; exact ⟨h.1, ((Below.refl _ w).alloc (Nat.le_refl _) _).trans (h.2.mono (by simp))⟩
  have c5 : ∀ w, Calls Tryd.prog 21 #[.slice none 0 0] w fun e w' => e = .returned (.int .i64 0) ∧ Hid (Below w.heap.size w w') := fun w => (checkC_calls none 0 [] w sl_none nilR_small).mono fun e w' hh => by have h := hh; unfold IntPost at h; rw [nilR_c] at h; exact h
  have mb := make_bigR9
  have K10 := Lib.hid k10; clear k10
  have C1 := Lib.hid c1; clear c1
  have C2 := Lib.hid c2; clear c2
  have C3 := Lib.hid c3; clear c3
  have C4 := Lib.hid c4; clear c4
  have C5 := Lib.hid c5; clear c5
  clear r1 r2 r3
  dsimp only [naR5, naB, Tryd.f7]
  go_wp2_with fail
  refine (C1.out _ (Below.refl _ _)).mono ?_
  rintro e u1 ⟨rfl, hb1⟩
  go_wp2_with fail
  refine (C2.out _ hb1.out).mono ?_
  rintro e u2 ⟨rfl, hb2⟩
  have b2 := Lib.hid (hb1.out.trans (hb2.out.mono hb1.out.size))
  go_wp2_with fail
  refine (C3.out _ b2.out).mono ?_
  rintro e u3 ⟨rfl, hb3⟩
  have b3 := Lib.hid (b2.out.trans (hb3.out.mono b2.out.size))
  go_wp2_with fail
  refine (C4.out _).mono ?_
  rintro e u4 ⟨rfl, hb4⟩
  have b4 := Lib.hid (b3.out.trans (hb4.out.mono b3.out.size))
  go_wp2_with fail
  refine (C5.out _).mono ?_
  rintro e u5 ⟨rfl, hb5⟩
  have k11 := K10.out.trans (Kp.below (b4.out.trans (hb5.out.mono b4.out.size)))
  clear C1 C2 C3 C4 C5 mb hb1 hb2 hb3 hb4 hb5 b2 b3 b4 K10
  have K11 := Lib.hid k11; clear k11
  go_wp2
  refine HX.out.seq (HX.out.wp ctxR rfl bNa_fn nokR6 fun τ t => ?_)
  have k12 : Kp v0 (Go.Proofs.YtlipmagkplbkdaaDoor.at2 u5 τ t) := K11.out.trans (Kp.at2 _ _ _)
  generalize Go.Proofs.YtlipmagkplbkdaaDoor.at2 u5 τ t = v12 at k12 ⊢
  clear K11
  dsimp only [naR6, naB, Tryd.f7]
  go_wp2
  refine HX.out.seq (HX.out.wp ctxR rfl bNa_fn nokL fun τ t => ?_)
  have k13 : Kp v0 (Go.Proofs.YtlipmagkplbkdaaDoor.at2 v12 τ t) := k12.trans (Kp.at2 _ _ _)
  generalize Go.Proofs.YtlipmagkplbkdaaDoor.at2 v12 τ t = v13 at k13 ⊢
  clear k12
  have hl0 : longB 0 = ⟨#[]⟩ := rfl
  have K13 := Lib.hid k13; clear k13
  have Hl0 := Lib.hid hl0; clear hl0
  dsimp only [naL, naB, Tryd.f7]
  go_wp2
  go_loopw [5] (fun s wr => ∃ k : Nat, k ≤ 199 ∧ s = .string (longB k) ∧ wr = v13) (fun s _ => match s with | .string b => 199 - b.size | _ => 0)
  case atStart => exact ⟨0, Nat.zero_le _, by rw [Hl0.out], rfl⟩
  case round =>
    obtain ⟨k, hk', rfl, rfl⟩ := hrel
    have hsz := longB_size k
    have hsu := longB_succ k
    by_cases hlt : k < 199
    · have h1 : (k : Int) < 199 := by omega
      have hs63 : ¬ (9223372036854775807 < (longB k).size + 1) := by omega
      obtain ⟨lk, hlk⟩ : ∃ lk, longB k = lk := ⟨_, rfl⟩
      obtain ⟨lk1, hlk1⟩ : ∃ lk1, longB (k + 1) = lk1 := ⟨_, rfl⟩
      have hsz1 := longB_size (k + 1)
      rw [hlk] at hsz hsu hs63
      rw [hlk1] at hsu hsz1
      rw [hlk]
      have Hlk := Lib.hid hlk; clear hlk
      have Hlk1 := Lib.hid hlk1; clear hlk1
      go_wp2
      go_roundw
      case rel => exact ⟨k + 1, by omega, by rw [Hlk1.out], by first | rfl | trivial⟩
      case measure => first | omega | (simp only []; omega) | (simp; omega)
    · obtain rfl : k = 199 := by omega
      go_wp2
      exact Hk.out _ _ rfl rfl rfl rfl K13.out
end
end Go.Proofs.YtlipmagkplbkdaaDoor

/-! Nm9 -/
namespace Go.Proofs.YtlipmagkplbkdaaDoor
open Go Go.Conc Go.RowKit
set_option linter.unusedVariables false
set_option linter.unusedSimpArgs false
theorem one9_calls {w : World} {g h : Nat} (p : ByteArray) (n : Int) (l : List Cel) (k : Nat) (e : Int) (hr : oneR exRs 1 (cellN p n) = (l, e)) (hl : l.length = k) (hG : Gv w g h 0 1) (hn : Fits .u8 n) (hp : p.size ≤ 300) (ht : TabAt w) (hg : GAt w) :
    Calls Tryd.prog 27 #[.slice (some ⟨g, 0, none⟩) 1 1, .int .i64 1, .agg #[.string p, .int .u8 n, .slice none 0 0]] w fun x w' => ∃ A c, x = .returned (.tuple #[.slice A k c, .int .i64 e]) ∧ Hid (SlAt pCel (Old w') w' A c l) ∧ Hid (Below w.heap.size w w') := by
  subst hl
  have h := one_calls (some ⟨g, 0, none⟩) 1 exRs 1 (cellN p n) none 0 w (hG.sl (fits_u8 (n := 0) (by decide)) (fits_i64 (n := 1) (by decide))) sl_none hn (fits_i64 (n := 1) (by decide)) (nrR_small 0 1) hp ht hg
  rw [hr] at h
  refine Calls.mono h ?_
  rintro x w' ⟨A, c, hx, hs, hb⟩
  exact ⟨A, c, hx, hs.wide fun q hq => hq.2, hb⟩
theorem cells1_calls (p : ByteArray) (n r : Int) (w : World) (hp : p.size ≤ maxLen) (hn : Fits .u8 n) (hr : cellsR [cellN p n] = r) :
    Calls Tryd.prog 23 #[.slice (some ⟨w.heap.size, 0, none⟩) 1 1] (w.alloc (.cells #[.string p, .int .u8 n, .slice none 0 0] 51)) fun e w' => e = .returned (.int .i64 r) ∧ Hid (Below w.heap.size w w') := by
  have h := cells_calls (some ⟨w.heap.size, 0, none⟩) 1 [cellN p n] (w.alloc (.cells #[.string p, .int .u8 n, .slice none 0 0] 51)) (lit9 (E := pCel) (cells := #[.string p, .int .u8 n, .slice none 0 0]) (xs := [cellN p n]) ⟨[_, _, _], [], rfl, cel_R9 hp hn, rfl⟩ (by show 1 ≤ maxLen; unfold maxLen; omega) rfl)
  rw [hr] at h
  refine Calls.mono h ?_
  rintro e w' ⟨hx, hb⟩
  exact ⟨hx, ((Below.refl _ w).alloc (Nat.le_refl _) _).trans (hb.mono (by simp))⟩
theorem cells2_calls (w : World) : Calls Tryd.prog 23 #[.slice (some ⟨w.heap.size, 0, none⟩) 2 2] (w.alloc (.cells #[.string ⟨#[47]⟩, .int .u8 70, .slice none 0 0, .string ⟨#[47]⟩, .int .u8 70, .slice none 0 0] 51)) fun e w' => e = .returned (.int .i64 0) ∧ Hid (Below w.heap.size w w') := by
  have h := cells_calls (some ⟨w.heap.size, 0, none⟩) 2 [cellN ⟨#[47]⟩ 70, cellN ⟨#[47]⟩ 70] (w.alloc (.cells #[.string ⟨#[47]⟩, .int .u8 70, .slice none 0 0, .string ⟨#[47]⟩, .int .u8 70, .slice none 0 0] 51)) (lit9 (E := pCel) (cells := #[.string ⟨#[47]⟩, .int .u8 70, .slice none 0 0, .string ⟨#[47]⟩, .int .u8 70, .slice none 0 0]) (xs := [cellN ⟨#[47]⟩ 70, cellN ⟨#[47]⟩ 70]) ⟨[_, _, _], _, rfl, cel_R9 (by decide) (fits_u8 (by decide)), [_, _, _], [], rfl, cel_R9 (by decide) (fits_u8 (by decide)), rfl⟩ (by show 2 ≤ maxLen; unfold maxLen; omega) rfl)
  rw [cel5] at h
  refine Calls.mono h ?_
  rintro e w' ⟨hx, hb⟩
  exact ⟨hx, ((Below.refl _ w).alloc (Nat.le_refl _) _).trans (hb.mono (by simp))⟩
theorem cellsM_calls (w : World) : Calls Tryd.prog 23 #[.slice (some ⟨w.heap.size, 0, none⟩) 2001 2001] (w.alloc (.cells bigCv 51)) fun e w' => e = .returned (.int .i64 4) ∧ Hid (Below w.heap.size w w') := by
  have h := cells_calls (some ⟨w.heap.size, 0, none⟩) 2001 manyCel (w.alloc (.cells bigCv 51)) (many_sl9 (Blk.new _ _ _))
  rw [cel3, show manyCel.length = 2001 from List.length_replicate] at h
  refine Calls.mono h ?_
  rintro e w' ⟨hx, hb⟩
  exact ⟨hx, ((Below.refl _ w).alloc (Nat.le_refl _) _).trans (hb.mono (by simp))⟩
theorem big_lit9 (v w : World) (hw : w = (((v.alloc (.cells #[.int .i64 2] 3)).alloc (.cells #[.int .i64 0, .slice (some ⟨v.heap.size, 0, none⟩) 1 1] 70)).alloc (.cells #[.int .u8 70, .slice (some ⟨v.heap.size + 1, 0, none⟩) 1 1] 72)).alloc (.cells #[.int .u8 70, .int .i64 1, .int .u8 0, .int .u8 0, .slice none 0 0, .int .i64 3, .slice (some ⟨v.heap.size + 1 + 1, 0, none⟩) 1 1] 60)) :
    SlAt pRul (Old w) w (some ⟨v.heap.size + 1 + 1 + 1, 0, none⟩) 1 [bigRule] ∧ Below v.heap.size v w := by
  subst hw
  have h0 := lit9 (E := pI .i64) (w := v) (t := 3) (cells := #[.int .i64 2]) (xs := [2]) ⟨[_], [], rfl, ⟨rfl, fits_i64 (n := 2) (by decide)⟩, rfl⟩ (by show 1 ≤ maxLen; unfold maxLen; omega) (n := 1) rfl
  have e1 : (v.alloc (.cells #[.int .i64 2] 3)).heap.size = v.heap.size + 1 := by simp
  have b1 : Below v.heap.size v (v.alloc (.cells #[.int .i64 2] 3)) := (Below.refl _ v).alloc (Nat.le_refl _) _
  generalize v.alloc (.cells #[.int .i64 2] 3) = v1 at h0 e1 b1 ⊢
  have h1 := lit9 (E := pFrm) (w := v1) (t := 70) (cells := #[.int .i64 0, .slice (some ⟨v.heap.size, 0, none⟩) 1 1]) (xs := [⟨0, [2]⟩]) ⟨[_, _], [], rfl, ⟨some ⟨v.heap.size, 0, none⟩, 1, rfl, fits_i64 (n := 0) (by decide), h0⟩, rfl⟩ (by show 1 ≤ maxLen; unfold maxLen; omega) (n := 1) rfl
  have e2 : (v1.alloc (.cells #[.int .i64 0, .slice (some ⟨v.heap.size, 0, none⟩) 1 1] 70)).heap.size = v.heap.size + 1 + 1 := by simp [e1]
  have b2 : Below v.heap.size v (v1.alloc (.cells #[.int .i64 0, .slice (some ⟨v.heap.size, 0, none⟩) 1 1] 70)) := b1.alloc b1.size _
  rw [e1] at h1
  generalize v1.alloc (.cells #[.int .i64 0, .slice (some ⟨v.heap.size, 0, none⟩) 1 1] 70) = v2 at h1 e2 b2 ⊢
  have h2 := lit9 (E := pShp) (w := v2) (t := 72) (cells := #[.int .u8 70, .slice (some ⟨v.heap.size + 1, 0, none⟩) 1 1]) (xs := [⟨70, [⟨0, [2]⟩]⟩]) ⟨[_, _], [], rfl, ⟨some ⟨v.heap.size + 1, 0, none⟩, 1, rfl, fits_u8 (n := 70) (by decide), h1⟩, rfl⟩ (by show 1 ≤ maxLen; unfold maxLen; omega) (n := 1) rfl
  have e3 : (v2.alloc (.cells #[.int .u8 70, .slice (some ⟨v.heap.size + 1, 0, none⟩) 1 1] 72)).heap.size = v.heap.size + 1 + 1 + 1 := by simp [e2]
  have b3 : Below v.heap.size v (v2.alloc (.cells #[.int .u8 70, .slice (some ⟨v.heap.size + 1, 0, none⟩) 1 1] 72)) := b2.alloc b2.size _
  rw [e2] at h2
  generalize v2.alloc (.cells #[.int .u8 70, .slice (some ⟨v.heap.size + 1, 0, none⟩) 1 1] 72) = v3 at h2 e3 b3 ⊢
  have h3 := lit9 (E := pRul) (w := v3) (t := 60) (cells := #[.int .u8 70, .int .i64 1, .int .u8 0, .int .u8 0, .slice none 0 0, .int .i64 3, .slice (some ⟨v.heap.size + 1 + 1, 0, none⟩) 1 1]) (xs := [bigRule]) ⟨[_, _, _, _, _, _, _], [], rfl, ⟨none, 0, some ⟨v.heap.size + 1 + 1, 0, none⟩, 1, rfl, ⟨fits_u8 (n := 70) (by decide), fits_i64 (n := 1) (by decide), fits_u8 (n := 0) (by decide), fits_u8 (n := 0) (by decide), fits_i64 (n := 3) (by decide)⟩, sl_none, h2⟩, rfl⟩ (by show 1 ≤ maxLen; unfold maxLen; omega) (n := 1) rfl
  rw [e3] at h3
  exact ⟨h3, b3.alloc b3.size _⟩
section
variable {v0 : World}
set_option maxRecDepth 100000 in
set_option maxHeartbeats 8000000 in
theorem na_b {a : Act} {v : World} (ht : TabAt v0) (hg : GAt v0) (hz : a.tmps.size = 212) (hd : a.defers = []) (s4 : slot a 4 (.bool true)) (s5 : slot a 5 (.string (longB 199))) (k0 : Kp v0 v)
    (hk : ∀ a v C cc X xc, a.tmps.size = 212 → a.defers = [] → slot a 4 (.bool true) → slot a 7 (.int .i64 4) → slot a 9 (.int .i64 8) → slot a 10 (.slice C 1 cc) → slot a 11 (.int .i64 0) → slot a 13 (.int .i64 8) → slot a 15 (.int .i64 8) → slot a 16 (.slice X 1 xc) → slot a 17 (.int .i64 0) →
      SlAt pCel (Old v) v X xc [cellN ⟨#[55]⟩ 93] → Kp v0 v → MS Tryd.prog SR gR sR (· = .bool true) [] none (bNa.at a [.code naT2]) [] v) :
    MS Tryd.prog SR gR sR (· = .bool true) [] none (bNa.at a [.code naT1]) [] v := by
  have hX : Walk Tryd.prog SR gR sR (MS Tryd.prog SR gR sR (· = .bool true) [] none) := MS.walk ctxR
  rw [act_lit212 hd hz]
  rw [show (a.tmps.getD 4 undef) = _ from s4, show (a.tmps.getD 5 undef) = _ from s5]
  clear s4 s5 hd
  generalize (a.tmps.getD 0 undef) = j0
  generalize (a.tmps.getD 1 undef) = j1
  generalize (a.tmps.getD 2 undef) = j2
  generalize (a.tmps.getD 3 undef) = j3
  generalize (a.tmps.getD 6 undef) = j6
  generalize (a.tmps.getD 7 undef) = j7
  generalize (a.tmps.getD 8 undef) = j8
  generalize (a.tmps.getD 9 undef) = j9
  generalize (a.tmps.getD 10 undef) = j10
  generalize (a.tmps.getD 11 undef) = j11
  generalize (a.tmps.getD 12 undef) = j12
  generalize (a.tmps.getD 13 undef) = j13
  generalize (a.tmps.getD 14 undef) = j14
  generalize (a.tmps.getD 15 undef) = j15
  generalize (a.tmps.getD 16 undef) = j16
  generalize (a.tmps.getD 17 undef) = j17
  generalize (a.tmps.getD 18 undef) = j18
  generalize (a.tmps.getD 19 undef) = j19
  generalize (a.tmps.getD 20 undef) = j20
  generalize (a.tmps.getD 21 undef) = j21
  generalize (a.tmps.getD 22 undef) = j22
  generalize (a.tmps.getD 23 undef) = j23
  generalize (a.tmps.getD 24 undef) = j24
  generalize (a.tmps.getD 25 undef) = j25
  generalize (a.tmps.getD 26 undef) = j26
  generalize (a.tmps.getD 27 undef) = j27
  generalize (a.tmps.getD 28 undef) = j28
  generalize (a.tmps.getD 29 undef) = j29
  generalize (a.tmps.getD 30 undef) = j30
  generalize (a.tmps.getD 31 undef) = j31
  generalize (a.tmps.getD 32 undef) = j32
  generalize (a.tmps.getD 33 undef) = j33
  generalize (a.tmps.getD 34 undef) = j34
  generalize (a.tmps.getD 35 undef) = j35
  generalize (a.tmps.getD 36 undef) = j36
  generalize (a.tmps.getD 37 undef) = j37
  generalize (a.tmps.getD 38 undef) = j38
  generalize (a.tmps.getD 39 undef) = j39
  generalize (a.tmps.getD 40 undef) = j40
  generalize (a.tmps.getD 41 undef) = j41
  generalize (a.tmps.getD 42 undef) = j42
  generalize (a.tmps.getD 43 undef) = j43
  generalize (a.tmps.getD 44 undef) = j44
  generalize (a.tmps.getD 45 undef) = j45
  generalize (a.tmps.getD 46 undef) = j46
  generalize (a.tmps.getD 47 undef) = j47
  generalize (a.tmps.getD 48 undef) = j48
  generalize (a.tmps.getD 49 undef) = j49
  generalize (a.tmps.getD 50 undef) = j50
  generalize (a.tmps.getD 51 undef) = j51
  generalize (a.tmps.getD 52 undef) = j52
  generalize (a.tmps.getD 53 undef) = j53
  generalize (a.tmps.getD 54 undef) = j54
  generalize (a.tmps.getD 55 undef) = j55
  generalize (a.tmps.getD 56 undef) = j56
  generalize (a.tmps.getD 57 undef) = j57
  generalize (a.tmps.getD 58 undef) = j58
  generalize (a.tmps.getD 59 undef) = j59
  generalize (a.tmps.getD 60 undef) = j60
  generalize (a.tmps.getD 61 undef) = j61
  generalize (a.tmps.getD 62 undef) = j62
  generalize (a.tmps.getD 63 undef) = j63
  generalize (a.tmps.getD 64 undef) = j64
  generalize (a.tmps.getD 65 undef) = j65
  generalize (a.tmps.getD 66 undef) = j66
  generalize (a.tmps.getD 67 undef) = j67
  generalize (a.tmps.getD 68 undef) = j68
  generalize (a.tmps.getD 69 undef) = j69
  generalize (a.tmps.getD 70 undef) = j70
  generalize (a.tmps.getD 71 undef) = j71
  generalize (a.tmps.getD 72 undef) = j72
  generalize (a.tmps.getD 73 undef) = j73
  generalize (a.tmps.getD 74 undef) = j74
  generalize (a.tmps.getD 75 undef) = j75
  generalize (a.tmps.getD 76 undef) = j76
  generalize (a.tmps.getD 77 undef) = j77
  generalize (a.tmps.getD 78 undef) = j78
  generalize (a.tmps.getD 79 undef) = j79
  generalize (a.tmps.getD 80 undef) = j80
  generalize (a.tmps.getD 81 undef) = j81
  generalize (a.tmps.getD 82 undef) = j82
  generalize (a.tmps.getD 83 undef) = j83
  generalize (a.tmps.getD 84 undef) = j84
  generalize (a.tmps.getD 85 undef) = j85
  generalize (a.tmps.getD 86 undef) = j86
  generalize (a.tmps.getD 87 undef) = j87
  generalize (a.tmps.getD 88 undef) = j88
  generalize (a.tmps.getD 89 undef) = j89
  generalize (a.tmps.getD 90 undef) = j90
  generalize (a.tmps.getD 91 undef) = j91
  generalize (a.tmps.getD 92 undef) = j92
  generalize (a.tmps.getD 93 undef) = j93
  generalize (a.tmps.getD 94 undef) = j94
  generalize (a.tmps.getD 95 undef) = j95
  generalize (a.tmps.getD 96 undef) = j96
  generalize (a.tmps.getD 97 undef) = j97
  generalize (a.tmps.getD 98 undef) = j98
  generalize (a.tmps.getD 99 undef) = j99
  generalize (a.tmps.getD 100 undef) = j100
  generalize (a.tmps.getD 101 undef) = j101
  generalize (a.tmps.getD 102 undef) = j102
  generalize (a.tmps.getD 103 undef) = j103
  generalize (a.tmps.getD 104 undef) = j104
  generalize (a.tmps.getD 105 undef) = j105
  generalize (a.tmps.getD 106 undef) = j106
  generalize (a.tmps.getD 107 undef) = j107
  generalize (a.tmps.getD 108 undef) = j108
  generalize (a.tmps.getD 109 undef) = j109
  generalize (a.tmps.getD 110 undef) = j110
  generalize (a.tmps.getD 111 undef) = j111
  generalize (a.tmps.getD 112 undef) = j112
  generalize (a.tmps.getD 113 undef) = j113
  generalize (a.tmps.getD 114 undef) = j114
  generalize (a.tmps.getD 115 undef) = j115
  generalize (a.tmps.getD 116 undef) = j116
  generalize (a.tmps.getD 117 undef) = j117
  generalize (a.tmps.getD 118 undef) = j118
  generalize (a.tmps.getD 119 undef) = j119
  generalize (a.tmps.getD 120 undef) = j120
  generalize (a.tmps.getD 121 undef) = j121
  generalize (a.tmps.getD 122 undef) = j122
  generalize (a.tmps.getD 123 undef) = j123
  generalize (a.tmps.getD 124 undef) = j124
  generalize (a.tmps.getD 125 undef) = j125
  generalize (a.tmps.getD 126 undef) = j126
  generalize (a.tmps.getD 127 undef) = j127
  generalize (a.tmps.getD 128 undef) = j128
  generalize (a.tmps.getD 129 undef) = j129
  generalize (a.tmps.getD 130 undef) = j130
  generalize (a.tmps.getD 131 undef) = j131
  generalize (a.tmps.getD 132 undef) = j132
  generalize (a.tmps.getD 133 undef) = j133
  generalize (a.tmps.getD 134 undef) = j134
  generalize (a.tmps.getD 135 undef) = j135
  generalize (a.tmps.getD 136 undef) = j136
  generalize (a.tmps.getD 137 undef) = j137
  generalize (a.tmps.getD 138 undef) = j138
  generalize (a.tmps.getD 139 undef) = j139
  generalize (a.tmps.getD 140 undef) = j140
  generalize (a.tmps.getD 141 undef) = j141
  generalize (a.tmps.getD 142 undef) = j142
  generalize (a.tmps.getD 143 undef) = j143
  generalize (a.tmps.getD 144 undef) = j144
  generalize (a.tmps.getD 145 undef) = j145
  generalize (a.tmps.getD 146 undef) = j146
  generalize (a.tmps.getD 147 undef) = j147
  generalize (a.tmps.getD 148 undef) = j148
  generalize (a.tmps.getD 149 undef) = j149
  generalize (a.tmps.getD 150 undef) = j150
  generalize (a.tmps.getD 151 undef) = j151
  generalize (a.tmps.getD 152 undef) = j152
  generalize (a.tmps.getD 153 undef) = j153
  generalize (a.tmps.getD 154 undef) = j154
  generalize (a.tmps.getD 155 undef) = j155
  generalize (a.tmps.getD 156 undef) = j156
  generalize (a.tmps.getD 157 undef) = j157
  generalize (a.tmps.getD 158 undef) = j158
  generalize (a.tmps.getD 159 undef) = j159
  generalize (a.tmps.getD 160 undef) = j160
  generalize (a.tmps.getD 161 undef) = j161
  generalize (a.tmps.getD 162 undef) = j162
  generalize (a.tmps.getD 163 undef) = j163
  generalize (a.tmps.getD 164 undef) = j164
  generalize (a.tmps.getD 165 undef) = j165
  generalize (a.tmps.getD 166 undef) = j166
  generalize (a.tmps.getD 167 undef) = j167
  generalize (a.tmps.getD 168 undef) = j168
  generalize (a.tmps.getD 169 undef) = j169
  generalize (a.tmps.getD 170 undef) = j170
  generalize (a.tmps.getD 171 undef) = j171
  generalize (a.tmps.getD 172 undef) = j172
  generalize (a.tmps.getD 173 undef) = j173
  generalize (a.tmps.getD 174 undef) = j174
  generalize (a.tmps.getD 175 undef) = j175
  generalize (a.tmps.getD 176 undef) = j176
  generalize (a.tmps.getD 177 undef) = j177
  generalize (a.tmps.getD 178 undef) = j178
  generalize (a.tmps.getD 179 undef) = j179
  generalize (a.tmps.getD 180 undef) = j180
  generalize (a.tmps.getD 181 undef) = j181
  generalize (a.tmps.getD 182 undef) = j182
  generalize (a.tmps.getD 183 undef) = j183
  generalize (a.tmps.getD 184 undef) = j184
  generalize (a.tmps.getD 185 undef) = j185
  generalize (a.tmps.getD 186 undef) = j186
  generalize (a.tmps.getD 187 undef) = j187
  generalize (a.tmps.getD 188 undef) = j188
  generalize (a.tmps.getD 189 undef) = j189
  generalize (a.tmps.getD 190 undef) = j190
  generalize (a.tmps.getD 191 undef) = j191
  generalize (a.tmps.getD 192 undef) = j192
  generalize (a.tmps.getD 193 undef) = j193
  generalize (a.tmps.getD 194 undef) = j194
  generalize (a.tmps.getD 195 undef) = j195
  generalize (a.tmps.getD 196 undef) = j196
  generalize (a.tmps.getD 197 undef) = j197
  generalize (a.tmps.getD 198 undef) = j198
  generalize (a.tmps.getD 199 undef) = j199
  generalize (a.tmps.getD 200 undef) = j200
  generalize (a.tmps.getD 201 undef) = j201
  generalize (a.tmps.getD 202 undef) = j202
  generalize (a.tmps.getD 203 undef) = j203
  generalize (a.tmps.getD 204 undef) = j204
  generalize (a.tmps.getD 205 undef) = j205
  generalize (a.tmps.getD 206 undef) = j206
  generalize (a.tmps.getD 207 undef) = j207
  generalize (a.tmps.getD 208 undef) = j208
  generalize (a.tmps.getD 209 undef) = j209
  generalize (a.tmps.getD 210 undef) = j210
  generalize (a.tmps.getD 211 undef) = j211
  clear hz
  obtain ⟨p0, hp0⟩ : ∃ p, longB 199 = p := ⟨_, rfl⟩
  obtain ⟨p1, hp1⟩ : ∃ p, longB 200 = p := ⟨_, rfl⟩
  obtain ⟨p2, hp2⟩ : ∃ p, longB 201 = p := ⟨_, rfl⟩
  have a1 : p0 ++ ⟨#[48]⟩ = p1 := by rw [← hp0, ← hp1]; exact longB_succ 199
  have a2 : p0 ++ ⟨#[48, 48]⟩ = p2 := by rw [← hp0, ← hp2]; exact longB_two 199
  have z0 : p0.size = 199 := by rw [← hp0]; exact longB_size 199
  have z1 : p1.size = 200 := by rw [← hp1]; exact longB_size 200
  have z2 : p2.size = 201 := by rw [← hp2]; exact longB_size 201
  have z3 : ¬ (9223372036854775807 < p0.size + 1) := by omega
  have z4 : ¬ (9223372036854775807 < p0.size + 2) := by omega
  have o1 := oneA
  have o2 := oneB
  have o3 := oneC
  rw [hp0] at o1
  rw [hp2] at o2
  rw [hp1] at o3
  rw [hp0]
  clear hp0 hp1 hp2
  unfold naT1
  have Hk := Lib.hid hk; clear hk
  have HX := Lib.hid hX; clear hX
  have O1 := Lib.hid o1; clear o1
  have O2 := Lib.hid o2; clear o2
  have O3 := Lib.hid o3; clear o3
  have Ht := Lib.hid ht; clear ht
  have Hg := Lib.hid hg; clear hg
  refine HX.out.seq (HX.out.wp ctxR rfl bNa_fn nokR9 fun τ t => ?_)
  have ka9 : Kp v0 (Go.Proofs.YtlipmagkplbkdaaDoor.at2 v τ t) := k0.trans (Kp.at2 _ _ _)
  generalize Go.Proofs.YtlipmagkplbkdaaDoor.at2 v τ t = va9 at ka9 ⊢
  clear k0
  have Ka9 := Lib.hid ka9; clear ka9
  dsimp only [naR9, naB, Tryd.f7]
  go_wp2_with fail
  refine (given9b_calls _).mono ?_
  rintro e wa9 ⟨g9, h9, rfl, hG, -, hb⟩
  have kb9 := Lib.hid (Ka9.out.trans (Kp.below hb.out))
  clear hb Ka9
  go_wp2_with fail
  refine (cell9_calls _ _ _).mono ?_
  rintro e wb9 ⟨rfl, hb⟩
  have kc9 := Lib.hid (kb9.out.trans (Kp.below hb))
  have hG2 := Lib.hid (hG.out.later hb)
  clear hb kb9 hG
  go_wp2_with fail
  refine (one9_calls p0 65 [] 0 4 O1.out rfl hG2.out (fits_u8 (by decide)) (by omega) (Ht.out.kp kc9.out Hg.out) (Hg.out.kp kc9.out)).mono ?_
  rintro e wc9 ⟨C9, cc9, rfl, hs9, hb⟩
  have kd9 := kc9.out.trans (Kp.below hb.out)
  clear hb kc9 hG2 hs9
  have Kd9 := Lib.hid kd9; clear kd9
  go_wp2
  refine HX.out.seq (HX.out.wp ctxR rfl bNa_fn nokR10 fun τ t => ?_)
  have ka10 : Kp v0 (Go.Proofs.YtlipmagkplbkdaaDoor.at2 wc9 τ t) := Kd9.out.trans (Kp.at2 _ _ _)
  generalize Go.Proofs.YtlipmagkplbkdaaDoor.at2 wc9 τ t = va10 at ka10 ⊢
  clear Kd9
  have Ka10 := Lib.hid ka10; clear ka10
  dsimp only [naR10, naB, Tryd.f7]
  go_wp2_with fail
  refine (given9b_calls _).mono ?_
  rintro e wa10 ⟨g10, h10, rfl, hG, -, hb⟩
  have kb10 := Lib.hid (Ka10.out.trans (Kp.below hb.out))
  clear hb Ka10
  go_wp2_with fail
  refine (cell9_calls _ _ _).mono ?_
  rintro e wb10 ⟨rfl, hb⟩
  have kc10 := Lib.hid (kb10.out.trans (Kp.below hb))
  have hG2 := Lib.hid (hG.out.later hb)
  clear hb kb10 hG
  go_wp2_with fail
  refine (one9_calls p2 66 [] 0 8 O2.out rfl hG2.out (fits_u8 (by decide)) (by omega) (Ht.out.kp kc10.out Hg.out) (Hg.out.kp kc10.out)).mono ?_
  rintro e wc10 ⟨C10, cc10, rfl, hs10, hb⟩
  have kd10 := kc10.out.trans (Kp.below hb.out)
  clear hb kc10 hG2 hs10
  have Kd10 := Lib.hid kd10; clear kd10
  go_wp2
  refine HX.out.seq (HX.out.wp ctxR rfl bNa_fn nokR11 fun τ t => ?_)
  have ka11 : Kp v0 (Go.Proofs.YtlipmagkplbkdaaDoor.at2 wc10 τ t) := Kd10.out.trans (Kp.at2 _ _ _)
  generalize Go.Proofs.YtlipmagkplbkdaaDoor.at2 wc10 τ t = va11 at ka11 ⊢
  clear Kd10
  have Ka11 := Lib.hid ka11; clear ka11
  dsimp only [naR11, naB, Tryd.f7]
  go_wp2_with fail
  refine (given9b_calls _).mono ?_
  rintro e wa11 ⟨g11, h11, rfl, hG, -, hb⟩
  have kb11 := Lib.hid (Ka11.out.trans (Kp.below hb.out))
  clear hb Ka11
  go_wp2_with fail
  refine (cell9_calls _ _ _).mono ?_
  rintro e wb11 ⟨rfl, hb⟩
  have kc11 := Lib.hid (kb11.out.trans (Kp.below hb))
  have hG2 := Lib.hid (hG.out.later hb)
  clear hb kb11 hG
  go_wp2_with fail
  refine (one9_calls p1 66 [cellN p1 66] 1 0 O3.out rfl hG2.out (fits_u8 (by decide)) (by omega) (Ht.out.kp kc11.out Hg.out) (Hg.out.kp kc11.out)).mono ?_
  rintro e wc11 ⟨C11, cc11, rfl, hs11, hb⟩
  have kd11 := kc11.out.trans (Kp.below hb.out)
  clear hb kc11 hG2 hs11
  have Kd11 := Lib.hid kd11; clear kd11
  go_wp2
  refine HX.out.seq (HX.out.wp ctxR rfl bNa_fn nokR12 fun τ t => ?_)
  have ka12 : Kp v0 (Go.Proofs.YtlipmagkplbkdaaDoor.at2 wc11 τ t) := Kd11.out.trans (Kp.at2 _ _ _)
  generalize Go.Proofs.YtlipmagkplbkdaaDoor.at2 wc11 τ t = va12 at ka12 ⊢
  clear Kd11
  have Ka12 := Lib.hid ka12; clear ka12
  dsimp only [naR12, naB, Tryd.f7]
  go_wp2_with fail
  refine (given9b_calls _).mono ?_
  rintro e wa12 ⟨g12, h12, rfl, hG, -, hb⟩
  have kb12 := Lib.hid (Ka12.out.trans (Kp.below hb.out))
  clear hb Ka12
  go_wp2_with fail
  refine (cell9_calls _ _ _).mono ?_
  rintro e wb12 ⟨rfl, hb⟩
  have kc12 := Lib.hid (kb12.out.trans (Kp.below hb))
  have hG2 := Lib.hid (hG.out.later hb)
  clear hb kb12 hG
  go_wp2_with fail
  refine (one9_calls ⟨#[]⟩ 65 [] 0 8 oneD rfl hG2.out (fits_u8 (by decide)) (by decide) (Ht.out.kp kc12.out Hg.out) (Hg.out.kp kc12.out)).mono ?_
  rintro e wc12 ⟨C12, cc12, rfl, hs12, hb⟩
  have kd12 := kc12.out.trans (Kp.below hb.out)
  clear hb kc12 hG2 hs12
  have Kd12 := Lib.hid kd12; clear kd12
  go_wp2
  refine HX.out.seq (HX.out.wp ctxR rfl bNa_fn nokR13 fun τ t => ?_)
  have ka13 : Kp v0 (Go.Proofs.YtlipmagkplbkdaaDoor.at2 wc12 τ t) := Kd12.out.trans (Kp.at2 _ _ _)
  generalize Go.Proofs.YtlipmagkplbkdaaDoor.at2 wc12 τ t = va13 at ka13 ⊢
  clear Kd12
  have Ka13 := Lib.hid ka13; clear ka13
  dsimp only [naR13, naB, Tryd.f7]
  go_wp2_with fail
  refine (given9b_calls _).mono ?_
  rintro e wa13 ⟨g13, h13, rfl, hG, -, hb⟩
  have kb13 := Lib.hid (Ka13.out.trans (Kp.below hb.out))
  clear hb Ka13
  go_wp2_with fail
  refine (cell9_calls _ _ _).mono ?_
  rintro e wb13 ⟨rfl, hb⟩
  have kc13 := Lib.hid (kb13.out.trans (Kp.below hb))
  have hG2 := Lib.hid (hG.out.later hb)
  clear hb kb13 hG
  go_wp2_with fail
  refine (one9_calls ⟨#[97]⟩ 65 [] 0 8 oneE rfl hG2.out (fits_u8 (by decide)) (by decide) (Ht.out.kp kc13.out Hg.out) (Hg.out.kp kc13.out)).mono ?_
  rintro e wc13 ⟨C13, cc13, rfl, hs13, hb⟩
  have kd13 := kc13.out.trans (Kp.below hb.out)
  clear hb kc13 hG2 hs13
  have Kd13 := Lib.hid kd13; clear kd13
  go_wp2
  refine HX.out.seq (HX.out.wp ctxR rfl bNa_fn nokR14 fun τ t => ?_)
  have ka14 : Kp v0 (Go.Proofs.YtlipmagkplbkdaaDoor.at2 wc13 τ t) := Kd13.out.trans (Kp.at2 _ _ _)
  generalize Go.Proofs.YtlipmagkplbkdaaDoor.at2 wc13 τ t = va14 at ka14 ⊢
  clear Kd13
  have Ka14 := Lib.hid ka14; clear ka14
  dsimp only [naR14, naB, Tryd.f7]
  go_wp2_with fail
  refine (given9b_calls _).mono ?_
  rintro e wa14 ⟨g14, h14, rfl, hG, -, hb⟩
  have kb14 := Lib.hid (Ka14.out.trans (Kp.below hb.out))
  clear hb Ka14
  go_wp2_with fail
  refine (cell9_calls _ _ _).mono ?_
  rintro e wb14 ⟨rfl, hb⟩
  have kc14 := Lib.hid (kb14.out.trans (Kp.below hb))
  have hG2 := Lib.hid (hG.out.later hb)
  clear hb kb14 hG
  go_wp2_with fail
  refine (one9_calls ⟨#[55]⟩ 93 [cellN ⟨#[55]⟩ 93] 1 0 oneF rfl hG2.out (fits_u8 (by decide)) (by decide) (Ht.out.kp kc14.out Hg.out) (Hg.out.kp kc14.out)).mono ?_
  rintro e wc14 ⟨C14, cc14, rfl, hs14, hb⟩
  have kd14 := kc14.out.trans (Kp.below hb.out)
  clear hb kc14 hG2
  have Kd14 := Lib.hid kd14; clear kd14
  go_wp2
  exact Hk.out _ _ C11 _ C14 _ rfl rfl rfl rfl rfl rfl rfl rfl rfl rfl rfl hs14.out Kd14.out
set_option maxRecDepth 100000 in
set_option maxHeartbeats 8000000 in
theorem na_c {a : Act} {v : World} {C X : Option Addr} {cc xc : Nat} (ht : TabAt v0) (hg : GAt v0) (hz : a.tmps.size = 212) (hd : a.defers = []) (s4 : slot a 4 (.bool true)) (s7 : slot a 7 (.int .i64 4)) (s9 : slot a 9 (.int .i64 8)) (s10 : slot a 10 (.slice C 1 cc)) (s11 : slot a 11 (.int .i64 0)) (s13 : slot a 13 (.int .i64 8)) (s15 : slot a 15 (.int .i64 8)) (s16 : slot a 16 (.slice X 1 xc)) (s17 : slot a 17 (.int .i64 0)) (hx : SlAt pCel (Old v) v X xc [cellN ⟨#[55]⟩ 93]) (k0 : Kp v0 v)
    (hk : ∀ a v G, a.tmps.size = 212 → a.defers = [] → slot a 4 (.bool true) → slot a 7 (.int .i64 4) → slot a 9 (.int .i64 8) → slot a 10 (.slice C 1 cc) → slot a 11 (.int .i64 0) → slot a 13 (.int .i64 8) → slot a 15 (.int .i64 8) → slot a 16 (.slice X 1 xc) → slot a 17 (.int .i64 0) → slot a 18 (.bool true) → slot a 19 (.slice G 1 1) →
      SlAt pCel (Old v) v X xc [cellN ⟨#[55]⟩ 93] → SlAt pRul (Old v) v G 1 [bigRule] → Kp v0 v → MS Tryd.prog SR gR sR (· = .bool true) [] none (bNa.at a [.code naT3]) [] v) :
    MS Tryd.prog SR gR sR (· = .bool true) [] none (bNa.at a [.code naT2]) [] v := by
  have hX : Walk Tryd.prog SR gR sR (MS Tryd.prog SR gR sR (· = .bool true) [] none) := MS.walk ctxR
  rw [act_lit212 hd hz]
  rw [show (a.tmps.getD 4 undef) = _ from s4, show (a.tmps.getD 7 undef) = _ from s7, show (a.tmps.getD 9 undef) = _ from s9, show (a.tmps.getD 10 undef) = _ from s10, show (a.tmps.getD 11 undef) = _ from s11, show (a.tmps.getD 13 undef) = _ from s13, show (a.tmps.getD 15 undef) = _ from s15, show (a.tmps.getD 16 undef) = _ from s16, show (a.tmps.getD 17 undef) = _ from s17]
  clear s4 s7 s9 s10 s11 s13 s15 s16 s17 hd
  generalize (a.tmps.getD 0 undef) = j0
  generalize (a.tmps.getD 1 undef) = j1
  generalize (a.tmps.getD 2 undef) = j2
  generalize (a.tmps.getD 3 undef) = j3
  generalize (a.tmps.getD 5 undef) = j5
  generalize (a.tmps.getD 6 undef) = j6
  generalize (a.tmps.getD 8 undef) = j8
  generalize (a.tmps.getD 12 undef) = j12
  generalize (a.tmps.getD 14 undef) = j14
  generalize (a.tmps.getD 18 undef) = j18
  generalize (a.tmps.getD 19 undef) = j19
  generalize (a.tmps.getD 20 undef) = j20
  generalize (a.tmps.getD 21 undef) = j21
  generalize (a.tmps.getD 22 undef) = j22
  generalize (a.tmps.getD 23 undef) = j23
  generalize (a.tmps.getD 24 undef) = j24
  generalize (a.tmps.getD 25 undef) = j25
  generalize (a.tmps.getD 26 undef) = j26
  generalize (a.tmps.getD 27 undef) = j27
  generalize (a.tmps.getD 28 undef) = j28
  generalize (a.tmps.getD 29 undef) = j29
  generalize (a.tmps.getD 30 undef) = j30
  generalize (a.tmps.getD 31 undef) = j31
  generalize (a.tmps.getD 32 undef) = j32
  generalize (a.tmps.getD 33 undef) = j33
  generalize (a.tmps.getD 34 undef) = j34
  generalize (a.tmps.getD 35 undef) = j35
  generalize (a.tmps.getD 36 undef) = j36
  generalize (a.tmps.getD 37 undef) = j37
  generalize (a.tmps.getD 38 undef) = j38
  generalize (a.tmps.getD 39 undef) = j39
  generalize (a.tmps.getD 40 undef) = j40
  generalize (a.tmps.getD 41 undef) = j41
  generalize (a.tmps.getD 42 undef) = j42
  generalize (a.tmps.getD 43 undef) = j43
  generalize (a.tmps.getD 44 undef) = j44
  generalize (a.tmps.getD 45 undef) = j45
  generalize (a.tmps.getD 46 undef) = j46
  generalize (a.tmps.getD 47 undef) = j47
  generalize (a.tmps.getD 48 undef) = j48
  generalize (a.tmps.getD 49 undef) = j49
  generalize (a.tmps.getD 50 undef) = j50
  generalize (a.tmps.getD 51 undef) = j51
  generalize (a.tmps.getD 52 undef) = j52
  generalize (a.tmps.getD 53 undef) = j53
  generalize (a.tmps.getD 54 undef) = j54
  generalize (a.tmps.getD 55 undef) = j55
  generalize (a.tmps.getD 56 undef) = j56
  generalize (a.tmps.getD 57 undef) = j57
  generalize (a.tmps.getD 58 undef) = j58
  generalize (a.tmps.getD 59 undef) = j59
  generalize (a.tmps.getD 60 undef) = j60
  generalize (a.tmps.getD 61 undef) = j61
  generalize (a.tmps.getD 62 undef) = j62
  generalize (a.tmps.getD 63 undef) = j63
  generalize (a.tmps.getD 64 undef) = j64
  generalize (a.tmps.getD 65 undef) = j65
  generalize (a.tmps.getD 66 undef) = j66
  generalize (a.tmps.getD 67 undef) = j67
  generalize (a.tmps.getD 68 undef) = j68
  generalize (a.tmps.getD 69 undef) = j69
  generalize (a.tmps.getD 70 undef) = j70
  generalize (a.tmps.getD 71 undef) = j71
  generalize (a.tmps.getD 72 undef) = j72
  generalize (a.tmps.getD 73 undef) = j73
  generalize (a.tmps.getD 74 undef) = j74
  generalize (a.tmps.getD 75 undef) = j75
  generalize (a.tmps.getD 76 undef) = j76
  generalize (a.tmps.getD 77 undef) = j77
  generalize (a.tmps.getD 78 undef) = j78
  generalize (a.tmps.getD 79 undef) = j79
  generalize (a.tmps.getD 80 undef) = j80
  generalize (a.tmps.getD 81 undef) = j81
  generalize (a.tmps.getD 82 undef) = j82
  generalize (a.tmps.getD 83 undef) = j83
  generalize (a.tmps.getD 84 undef) = j84
  generalize (a.tmps.getD 85 undef) = j85
  generalize (a.tmps.getD 86 undef) = j86
  generalize (a.tmps.getD 87 undef) = j87
  generalize (a.tmps.getD 88 undef) = j88
  generalize (a.tmps.getD 89 undef) = j89
  generalize (a.tmps.getD 90 undef) = j90
  generalize (a.tmps.getD 91 undef) = j91
  generalize (a.tmps.getD 92 undef) = j92
  generalize (a.tmps.getD 93 undef) = j93
  generalize (a.tmps.getD 94 undef) = j94
  generalize (a.tmps.getD 95 undef) = j95
  generalize (a.tmps.getD 96 undef) = j96
  generalize (a.tmps.getD 97 undef) = j97
  generalize (a.tmps.getD 98 undef) = j98
  generalize (a.tmps.getD 99 undef) = j99
  generalize (a.tmps.getD 100 undef) = j100
  generalize (a.tmps.getD 101 undef) = j101
  generalize (a.tmps.getD 102 undef) = j102
  generalize (a.tmps.getD 103 undef) = j103
  generalize (a.tmps.getD 104 undef) = j104
  generalize (a.tmps.getD 105 undef) = j105
  generalize (a.tmps.getD 106 undef) = j106
  generalize (a.tmps.getD 107 undef) = j107
  generalize (a.tmps.getD 108 undef) = j108
  generalize (a.tmps.getD 109 undef) = j109
  generalize (a.tmps.getD 110 undef) = j110
  generalize (a.tmps.getD 111 undef) = j111
  generalize (a.tmps.getD 112 undef) = j112
  generalize (a.tmps.getD 113 undef) = j113
  generalize (a.tmps.getD 114 undef) = j114
  generalize (a.tmps.getD 115 undef) = j115
  generalize (a.tmps.getD 116 undef) = j116
  generalize (a.tmps.getD 117 undef) = j117
  generalize (a.tmps.getD 118 undef) = j118
  generalize (a.tmps.getD 119 undef) = j119
  generalize (a.tmps.getD 120 undef) = j120
  generalize (a.tmps.getD 121 undef) = j121
  generalize (a.tmps.getD 122 undef) = j122
  generalize (a.tmps.getD 123 undef) = j123
  generalize (a.tmps.getD 124 undef) = j124
  generalize (a.tmps.getD 125 undef) = j125
  generalize (a.tmps.getD 126 undef) = j126
  generalize (a.tmps.getD 127 undef) = j127
  generalize (a.tmps.getD 128 undef) = j128
  generalize (a.tmps.getD 129 undef) = j129
  generalize (a.tmps.getD 130 undef) = j130
  generalize (a.tmps.getD 131 undef) = j131
  generalize (a.tmps.getD 132 undef) = j132
  generalize (a.tmps.getD 133 undef) = j133
  generalize (a.tmps.getD 134 undef) = j134
  generalize (a.tmps.getD 135 undef) = j135
  generalize (a.tmps.getD 136 undef) = j136
  generalize (a.tmps.getD 137 undef) = j137
  generalize (a.tmps.getD 138 undef) = j138
  generalize (a.tmps.getD 139 undef) = j139
  generalize (a.tmps.getD 140 undef) = j140
  generalize (a.tmps.getD 141 undef) = j141
  generalize (a.tmps.getD 142 undef) = j142
  generalize (a.tmps.getD 143 undef) = j143
  generalize (a.tmps.getD 144 undef) = j144
  generalize (a.tmps.getD 145 undef) = j145
  generalize (a.tmps.getD 146 undef) = j146
  generalize (a.tmps.getD 147 undef) = j147
  generalize (a.tmps.getD 148 undef) = j148
  generalize (a.tmps.getD 149 undef) = j149
  generalize (a.tmps.getD 150 undef) = j150
  generalize (a.tmps.getD 151 undef) = j151
  generalize (a.tmps.getD 152 undef) = j152
  generalize (a.tmps.getD 153 undef) = j153
  generalize (a.tmps.getD 154 undef) = j154
  generalize (a.tmps.getD 155 undef) = j155
  generalize (a.tmps.getD 156 undef) = j156
  generalize (a.tmps.getD 157 undef) = j157
  generalize (a.tmps.getD 158 undef) = j158
  generalize (a.tmps.getD 159 undef) = j159
  generalize (a.tmps.getD 160 undef) = j160
  generalize (a.tmps.getD 161 undef) = j161
  generalize (a.tmps.getD 162 undef) = j162
  generalize (a.tmps.getD 163 undef) = j163
  generalize (a.tmps.getD 164 undef) = j164
  generalize (a.tmps.getD 165 undef) = j165
  generalize (a.tmps.getD 166 undef) = j166
  generalize (a.tmps.getD 167 undef) = j167
  generalize (a.tmps.getD 168 undef) = j168
  generalize (a.tmps.getD 169 undef) = j169
  generalize (a.tmps.getD 170 undef) = j170
  generalize (a.tmps.getD 171 undef) = j171
  generalize (a.tmps.getD 172 undef) = j172
  generalize (a.tmps.getD 173 undef) = j173
  generalize (a.tmps.getD 174 undef) = j174
  generalize (a.tmps.getD 175 undef) = j175
  generalize (a.tmps.getD 176 undef) = j176
  generalize (a.tmps.getD 177 undef) = j177
  generalize (a.tmps.getD 178 undef) = j178
  generalize (a.tmps.getD 179 undef) = j179
  generalize (a.tmps.getD 180 undef) = j180
  generalize (a.tmps.getD 181 undef) = j181
  generalize (a.tmps.getD 182 undef) = j182
  generalize (a.tmps.getD 183 undef) = j183
  generalize (a.tmps.getD 184 undef) = j184
  generalize (a.tmps.getD 185 undef) = j185
  generalize (a.tmps.getD 186 undef) = j186
  generalize (a.tmps.getD 187 undef) = j187
  generalize (a.tmps.getD 188 undef) = j188
  generalize (a.tmps.getD 189 undef) = j189
  generalize (a.tmps.getD 190 undef) = j190
  generalize (a.tmps.getD 191 undef) = j191
  generalize (a.tmps.getD 192 undef) = j192
  generalize (a.tmps.getD 193 undef) = j193
  generalize (a.tmps.getD 194 undef) = j194
  generalize (a.tmps.getD 195 undef) = j195
  generalize (a.tmps.getD 196 undef) = j196
  generalize (a.tmps.getD 197 undef) = j197
  generalize (a.tmps.getD 198 undef) = j198
  generalize (a.tmps.getD 199 undef) = j199
  generalize (a.tmps.getD 200 undef) = j200
  generalize (a.tmps.getD 201 undef) = j201
  generalize (a.tmps.getD 202 undef) = j202
  generalize (a.tmps.getD 203 undef) = j203
  generalize (a.tmps.getD 204 undef) = j204
  generalize (a.tmps.getD 205 undef) = j205
  generalize (a.tmps.getD 206 undef) = j206
  generalize (a.tmps.getD 207 undef) = j207
  generalize (a.tmps.getD 208 undef) = j208
  generalize (a.tmps.getD 209 undef) = j209
  generalize (a.tmps.getD 210 undef) = j210
  generalize (a.tmps.getD 211 undef) = j211
  clear hz
  unfold naT2
  refine hX.seq (hX.wp ctxR rfl bNa_fn nokR15 fun τ t => ?_)
  have k1 : Kp v (Go.Proofs.YtlipmagkplbkdaaDoor.at2 v τ t) := Kp.at2 _ _ _
  generalize Go.Proofs.YtlipmagkplbkdaaDoor.at2 v τ t = v1 at k1 ⊢
  have mc := make_bigC9
  have c1 := fun w => cells1_calls ⟨#[48]⟩ 91 28 w (by decide) (fits_u8 (by decide)) cel1
  have c2 := fun w => cells1_calls ⟨#[]⟩ 91 8 w (by decide) (fits_u8 (by decide)) cel2
  have c4 := fun w => cells1_calls ⟨#[48]⟩ 0 8 w (by decide) (fits_u8 (by decide)) cel4
  have Hk := Lib.hid hk; clear hk
  have HX := Lib.hid hX; clear hX
  have K1 := Lib.hid k1; clear k1
  have C1 := Lib.hid c1; clear c1
  have C2 := Lib.hid c2; clear c2
  have C4 := Lib.hid c4; clear c4
  have Hx := Lib.hid hx; clear hx
  have K0 := Lib.hid k0; clear k0
  dsimp only [naR15, naB, Tryd.f7]
  go_wp2_with fail
  refine (cell9_calls _ _ _).mono ?_
  rintro e w1 ⟨rfl, hb⟩
  have k2 := Lib.hid (K1.out.trans (Kp.below hb))
  clear hb K1
  go_wp2_with fail
  refine (C1.out _).mono ?_
  rintro e w2 ⟨rfl, hb⟩
  have k3 := Lib.hid (k2.out.trans (Kp.below hb.out))
  clear hb k2
  go_wp2_with fail
  refine (cell9_calls _ _ _).mono ?_
  rintro e w3 ⟨rfl, hb⟩
  have k4 := Lib.hid (k3.out.trans (Kp.below hb))
  clear hb k3
  go_wp2_with fail
  refine (C2.out _).mono ?_
  rintro e w4 ⟨rfl, hb⟩
  have k5 := Lib.hid (k4.out.trans (Kp.below hb.out))
  clear hb k4
  go_wp2_with fail
  refine (cellsM_calls _).mono ?_
  rintro e w5 ⟨rfl, hb⟩
  have k6 := Lib.hid (k5.out.trans (Kp.below hb.out))
  clear hb k5
  go_wp2_with fail
  refine (cell9_calls _ _ _).mono ?_
  rintro e w6 ⟨rfl, hb⟩
  have k7 := Lib.hid (k6.out.trans (Kp.below hb))
  clear hb k6
  go_wp2_with fail
  refine (C4.out _).mono ?_
  rintro e w7 ⟨rfl, hb⟩
  have k8 := Lib.hid (k7.out.trans (Kp.below hb.out))
  clear hb k7
  go_wp2_with fail
  refine (cell9_calls _ _ _).mono ?_
  rintro e w8 ⟨rfl, hb⟩
  have k9 := Lib.hid (k8.out.trans (Kp.below hb))
  clear hb k8
  go_wp2_with fail
  refine (cell9_calls _ _ _).mono ?_
  rintro e w9 ⟨rfl, hb⟩
  have k10 := Lib.hid (k9.out.trans (Kp.below hb))
  clear hb k9
  go_wp2_with fail
  refine (cells2_calls _).mono ?_
  rintro e w10 ⟨rfl, hb⟩
  have k11 := k10.out.trans (Kp.below hb.out)
  clear hb k10 C1 C2 C4 mc
  have hx2 := Hx.out.kp eqv_cel k11
  have k12 := K0.out.trans k11
  clear Hx K0 k11
  have Hx2 := Lib.hid hx2; clear hx2
  have K12 := Lib.hid k12; clear k12
  go_wp2
  refine HX.out.seq (HX.out.wp ctxR rfl bNa_fn nokR16 fun τ t => ?_)
  have k13 : Kp v0 (Go.Proofs.YtlipmagkplbkdaaDoor.at2 w10 τ t) := K12.out.trans (Kp.at2 _ _ _)
  have hx3 := Hx2.out.kp eqv_cel (Kp.at2 w10 τ t)
  generalize Go.Proofs.YtlipmagkplbkdaaDoor.at2 w10 τ t = v13 at k13 hx3 ⊢
  clear K12 Hx2
  have hbl := fun w hw => big_lit9 v13 w hw
  have K13 := Lib.hid k13; clear k13
  have Hx3 := Lib.hid hx3; clear hx3
  have Hbl := Lib.hid hbl; clear hbl
  dsimp only [naR16, naB, Tryd.f7]
  go_wp2
  obtain ⟨hb1, hb2⟩ := Hbl.out _ rfl
  exact Hk.out _ _ _ rfl rfl rfl rfl rfl rfl rfl rfl rfl rfl rfl rfl rfl (Hx3.out.kp eqv_cel (Kp.below hb2)) hb1 (K13.out.trans (Kp.below hb2))
end
end Go.Proofs.YtlipmagkplbkdaaDoor

/-! Nn9 -/
namespace Go.Proofs.YtlipmagkplbkdaaDoor
open Go Go.Conc Go.RowKit
set_option linter.unusedVariables false
set_option linter.unusedSimpArgs false
theorem dec16 : decide ((16 : Int) = 16) = true := rfl
theorem dec2 : decide ((2 : Int) = 2) = true := rfl
theorem run_buildM9 {o : Oper} {w : World} (ev : Operand → Value) (x y : Operand) (ho : o.op = .build 49 #[(0, x), (1, y)]) {n : Int} {A : Option Addr} {m c : Nat} (hx : ev x = .int .u8 n) (hy : ev y = .slice A m c) :
    (execOp ev o).run Tryd.prog w = .ok (.value (.agg #[.int .u8 n, .slice A m c])) w := by
  unfold execOp
  simp only [ho, List.map_toArray, List.map_cons, List.map_nil, hx, hy]
  kernel_rfl
theorem info_intN9 : (Tryd.prog.info? 3).map (fun i => (i.zero, i.size, i.bytes)) = some (some (.int .i64 0), 1, 8) := by kernel_rfl
theorem info_modN9 : (Tryd.prog.info? 49).map (fun i => (i.zero, i.size, i.bytes)) = some (some (.agg #[.int .u8 0, .slice none 0 0]), 2, 32) := by kernel_rfl
theorem bigRule_R : Fits .i64 (500000001 : Int) := fits_i64 (n := 500000001) (by decide)
set_option maxRecDepth 100000 in
set_option maxHeartbeats 4000000 in
theorem na_17 {ch : Option Nat} {v v0 : World} {a : Act} {C X G : Option Addr} {cc xc : Nat} (hz : a.tmps.size = 212) (hd : a.defers = []) (s4 : slot a 4 (.bool true)) (s7 : slot a 7 (.int .i64 4)) (s9 : slot a 9 (.int .i64 8)) (s10 : slot a 10 (.slice C 1 cc)) (s11 : slot a 11 (.int .i64 0)) (s13 : slot a 13 (.int .i64 8)) (s15 : slot a 15 (.int .i64 8)) (s16 : slot a 16 (.slice X 1 xc)) (s17 : slot a 17 (.int .i64 0)) (s18 : slot a 18 (.bool true)) (s19 : slot a 19 (.slice G 1 1)) (hx : SlAt pCel (Old v) v X xc [cellN ⟨#[55]⟩ 93]) (hr : SlAt pRul (Old v) v G 1 [bigRule]) (ht : TabAt v0) (hg : GAt v0) (k0 : Kp v0 v)
    (hk : ∀ ch a v, a.tmps.size = 212 → a.defers = [] → slot a 4 (.bool true) → slot a 7 (.int .i64 4) → slot a 9 (.int .i64 8) → slot a 10 (.slice C 1 cc) → slot a 11 (.int .i64 0) → slot a 13 (.int .i64 8) → slot a 15 (.int .i64 8) → slot a 16 (.slice X 1 xc) → slot a 17 (.int .i64 0) → slot a 18 (.bool true) → slot a 19 (.slice G 1 1) → slot a 21 (.int .i64 16) → SlAt pCel (Old v) v X xc [cellN ⟨#[55]⟩ 93] → SlAt pRul (Old v) v G 1 [bigRule] → Kp v0 v → MS Tryd.prog SR gR sR (· = .bool true) [] ch (bNa.at a [.code (.seq (.region 18 naO18 false) (.seq naR19 (.seq (.region 20 naO20 false) .ret)))]) [] v) :
    MS Tryd.prog SR gR sR (· = .bool true) [] ch (bNa.at a [.code (.seq (.region 17 naO17 false) (.seq (.region 18 naO18 false) (.seq naR19 (.seq (.region 20 naO20 false) .ret))))]) [] v := by
  have hXX : ∀ ch, Walk Tryd.prog SR gR sR (MS Tryd.prog SR gR sR (· = .bool true) [] ch) := fun ch => MS.walk ctxR
  have hX := hXX ch
  refine hX.seq (hX.region ?_)
  rw [naz17]
  refine hX.val (v' := v) (some 141) (.slice G 1 1) (show naO17[0]? = some _ from rfl) (by kernel_rfl) rfl rfl (fun τ d => run_moveX a.eval (.tmp 19) (.inl rfl) s19) ?_
  have hd : (a.put (some 141) (.slice G 1 1)).defers = [] := hd
  have s4 := slot_ne (d := 141) (x := .slice G 1 1) s4 (by decide)
  have s7 := slot_ne (d := 141) (x := .slice G 1 1) s7 (by decide)
  have s9 := slot_ne (d := 141) (x := .slice G 1 1) s9 (by decide)
  have s10 := slot_ne (d := 141) (x := .slice G 1 1) s10 (by decide)
  have s11 := slot_ne (d := 141) (x := .slice G 1 1) s11 (by decide)
  have s13 := slot_ne (d := 141) (x := .slice G 1 1) s13 (by decide)
  have s15 := slot_ne (d := 141) (x := .slice G 1 1) s15 (by decide)
  have s16 := slot_ne (d := 141) (x := .slice G 1 1) s16 (by decide)
  have s17 := slot_ne (d := 141) (x := .slice G 1 1) s17 (by decide)
  have s18 := slot_ne (d := 141) (x := .slice G 1 1) s18 (by decide)
  have s19 := slot_ne (d := 141) (x := .slice G 1 1) s19 (by decide)
  have s141 := slot_same (a := a) (d := 141) (x := .slice G 1 1) (by rw [hz]; decide)
  have hz : (a.put (some 141) (.slice G 1 1)).tmps.size = 212 := size_put hz
  generalize (a.put (some 141) (.slice G 1 1)) = y1 at hz hd s4 s7 s9 s10 s11 s13 s15 s16 s17 s18 s19 s141 ⊢
  refine hX.valG (v' := v.alloc (.cells #[.int .i64 500000001] 3)) (some 142) (.slice (some ⟨v.heap.size, 0, none⟩) 1 1) (show naO17[1]? = some _ from rfl) (by kernel_rfl) rfl rfl (fun τ d => run_bsL9 y1.eval (.const (.int .i64 500000001)) rfl rfl (run_buildSlice1 Tryd.underlying47 info_intN9 rfl (by decide) (by decide) _ rfl (Go.Proofs.YtlipmagkplbkdaaDoor.at2 v τ d))) ?_
  have hi : SlAt (pI .i64) (Old (v.alloc (.cells #[.int .i64 500000001] 3))) (v.alloc (.cells #[.int .i64 500000001] 3)) (some ⟨v.heap.size, 0, none⟩) 1 [500000001] := lit9 (E := pI .i64) (xs := [500000001]) ⟨[_], [], rfl, ⟨rfl, bigRule_R⟩, rfl⟩ (by show 1 ≤ maxLen; unfold maxLen; omega) rfl
  have hx := hx.kp eqv_cel (Kp.alloc v (.cells #[.int .i64 500000001] 3))
  have hr := hr.kp eqv_rul (Kp.alloc v (.cells #[.int .i64 500000001] 3))
  have k0 := k0.trans (Kp.alloc v (.cells #[.int .i64 500000001] 3))
  generalize v.alloc (.cells #[.int .i64 500000001] 3) = vb at hi hx hr k0 ⊢
  generalize v.heap.size = gb at hi ⊢
  have hd : (y1.put (some 142) (.slice (some ⟨gb, 0, none⟩) 1 1)).defers = [] := hd
  have s4 := slot_ne (d := 142) (x := .slice (some ⟨gb, 0, none⟩) 1 1) s4 (by decide)
  have s7 := slot_ne (d := 142) (x := .slice (some ⟨gb, 0, none⟩) 1 1) s7 (by decide)
  have s9 := slot_ne (d := 142) (x := .slice (some ⟨gb, 0, none⟩) 1 1) s9 (by decide)
  have s10 := slot_ne (d := 142) (x := .slice (some ⟨gb, 0, none⟩) 1 1) s10 (by decide)
  have s11 := slot_ne (d := 142) (x := .slice (some ⟨gb, 0, none⟩) 1 1) s11 (by decide)
  have s13 := slot_ne (d := 142) (x := .slice (some ⟨gb, 0, none⟩) 1 1) s13 (by decide)
  have s15 := slot_ne (d := 142) (x := .slice (some ⟨gb, 0, none⟩) 1 1) s15 (by decide)
  have s16 := slot_ne (d := 142) (x := .slice (some ⟨gb, 0, none⟩) 1 1) s16 (by decide)
  have s17 := slot_ne (d := 142) (x := .slice (some ⟨gb, 0, none⟩) 1 1) s17 (by decide)
  have s18 := slot_ne (d := 142) (x := .slice (some ⟨gb, 0, none⟩) 1 1) s18 (by decide)
  have s19 := slot_ne (d := 142) (x := .slice (some ⟨gb, 0, none⟩) 1 1) s19 (by decide)
  have s141 := slot_ne (d := 142) (x := .slice (some ⟨gb, 0, none⟩) 1 1) s141 (by decide)
  have s142 := slot_same (a := y1) (d := 142) (x := .slice (some ⟨gb, 0, none⟩) 1 1) (by rw [hz]; decide)
  have hz : (y1.put (some 142) (.slice (some ⟨gb, 0, none⟩) 1 1)).tmps.size = 212 := size_put hz
  generalize (y1.put (some 142) (.slice (some ⟨gb, 0, none⟩) 1 1)) = y2 at hz hd s4 s7 s9 s10 s11 s13 s15 s16 s17 s18 s19 s141 s142 ⊢
  refine hX.val (v' := vb) (some 143) (.agg #[.int .u8 70, .slice (some ⟨gb, 0, none⟩) 1 1]) (show naO17[2]? = some _ from rfl) (by kernel_rfl) rfl rfl (fun τ d => run_buildM9 y2.eval (.const (.int .u8 70)) (.tmp 142) rfl rfl s142) ?_
  have hd : (y2.put (some 143) (.agg #[.int .u8 70, .slice (some ⟨gb, 0, none⟩) 1 1])).defers = [] := hd
  have s4 := slot_ne (d := 143) (x := .agg #[.int .u8 70, .slice (some ⟨gb, 0, none⟩) 1 1]) s4 (by decide)
  have s7 := slot_ne (d := 143) (x := .agg #[.int .u8 70, .slice (some ⟨gb, 0, none⟩) 1 1]) s7 (by decide)
  have s9 := slot_ne (d := 143) (x := .agg #[.int .u8 70, .slice (some ⟨gb, 0, none⟩) 1 1]) s9 (by decide)
  have s10 := slot_ne (d := 143) (x := .agg #[.int .u8 70, .slice (some ⟨gb, 0, none⟩) 1 1]) s10 (by decide)
  have s11 := slot_ne (d := 143) (x := .agg #[.int .u8 70, .slice (some ⟨gb, 0, none⟩) 1 1]) s11 (by decide)
  have s13 := slot_ne (d := 143) (x := .agg #[.int .u8 70, .slice (some ⟨gb, 0, none⟩) 1 1]) s13 (by decide)
  have s15 := slot_ne (d := 143) (x := .agg #[.int .u8 70, .slice (some ⟨gb, 0, none⟩) 1 1]) s15 (by decide)
  have s16 := slot_ne (d := 143) (x := .agg #[.int .u8 70, .slice (some ⟨gb, 0, none⟩) 1 1]) s16 (by decide)
  have s17 := slot_ne (d := 143) (x := .agg #[.int .u8 70, .slice (some ⟨gb, 0, none⟩) 1 1]) s17 (by decide)
  have s18 := slot_ne (d := 143) (x := .agg #[.int .u8 70, .slice (some ⟨gb, 0, none⟩) 1 1]) s18 (by decide)
  have s19 := slot_ne (d := 143) (x := .agg #[.int .u8 70, .slice (some ⟨gb, 0, none⟩) 1 1]) s19 (by decide)
  have s141 := slot_ne (d := 143) (x := .agg #[.int .u8 70, .slice (some ⟨gb, 0, none⟩) 1 1]) s141 (by decide)
  clear s142
  have s143 := slot_same (a := y2) (d := 143) (x := .agg #[.int .u8 70, .slice (some ⟨gb, 0, none⟩) 1 1]) (by rw [hz]; decide)
  have hz : (y2.put (some 143) (.agg #[.int .u8 70, .slice (some ⟨gb, 0, none⟩) 1 1])).tmps.size = 212 := size_put hz
  generalize (y2.put (some 143) (.agg #[.int .u8 70, .slice (some ⟨gb, 0, none⟩) 1 1])) = y3 at hz hd s4 s7 s9 s10 s11 s13 s15 s16 s17 s18 s19 s141 s143 ⊢
  refine hX.valG (v' := vb.alloc (.cells #[.int .u8 70, .slice (some ⟨gb, 0, none⟩) 1 1] 49)) (some 144) (.slice (some ⟨vb.heap.size, 0, none⟩) 1 1) (show naO17[3]? = some _ from rfl) (by kernel_rfl) rfl rfl (fun τ d => run_bsL9 y3.eval (.tmp 143) rfl s143 (run_buildSlice1 Tryd.underlying23 info_modN9 rfl (by decide) (by decide) _ rfl (Go.Proofs.YtlipmagkplbkdaaDoor.at2 vb τ d))) ?_
  have hm : SlAt pMod (Old (vb.alloc (.cells #[.int .u8 70, .slice (some ⟨gb, 0, none⟩) 1 1] 49))) (vb.alloc (.cells #[.int .u8 70, .slice (some ⟨gb, 0, none⟩) 1 1] 49)) (some ⟨vb.heap.size, 0, none⟩) 1 bigW := lit9 (E := pMod) (xs := bigW) ⟨[_, _], [], rfl, ⟨some ⟨gb, 0, none⟩, 1, rfl, fits_u8 (n := 70) (by decide), hi⟩, rfl⟩ (by show 1 ≤ maxLen; unfold maxLen; omega) rfl
  have hx := hx.kp eqv_cel (Kp.alloc vb (.cells #[.int .u8 70, .slice (some ⟨gb, 0, none⟩) 1 1] 49))
  have hr := hr.kp eqv_rul (Kp.alloc vb (.cells #[.int .u8 70, .slice (some ⟨gb, 0, none⟩) 1 1] 49))
  have k0 := k0.trans (Kp.alloc vb (.cells #[.int .u8 70, .slice (some ⟨gb, 0, none⟩) 1 1] 49))
  clear hi
  generalize vb.alloc (.cells #[.int .u8 70, .slice (some ⟨gb, 0, none⟩) 1 1] 49) = vc at hm hx hr k0 ⊢
  generalize vb.heap.size = gc at hm ⊢
  have hd : (y3.put (some 144) (.slice (some ⟨gc, 0, none⟩) 1 1)).defers = [] := hd
  have s4 := slot_ne (d := 144) (x := .slice (some ⟨gc, 0, none⟩) 1 1) s4 (by decide)
  have s7 := slot_ne (d := 144) (x := .slice (some ⟨gc, 0, none⟩) 1 1) s7 (by decide)
  have s9 := slot_ne (d := 144) (x := .slice (some ⟨gc, 0, none⟩) 1 1) s9 (by decide)
  have s10 := slot_ne (d := 144) (x := .slice (some ⟨gc, 0, none⟩) 1 1) s10 (by decide)
  have s11 := slot_ne (d := 144) (x := .slice (some ⟨gc, 0, none⟩) 1 1) s11 (by decide)
  have s13 := slot_ne (d := 144) (x := .slice (some ⟨gc, 0, none⟩) 1 1) s13 (by decide)
  have s15 := slot_ne (d := 144) (x := .slice (some ⟨gc, 0, none⟩) 1 1) s15 (by decide)
  have s16 := slot_ne (d := 144) (x := .slice (some ⟨gc, 0, none⟩) 1 1) s16 (by decide)
  have s17 := slot_ne (d := 144) (x := .slice (some ⟨gc, 0, none⟩) 1 1) s17 (by decide)
  have s18 := slot_ne (d := 144) (x := .slice (some ⟨gc, 0, none⟩) 1 1) s18 (by decide)
  have s19 := slot_ne (d := 144) (x := .slice (some ⟨gc, 0, none⟩) 1 1) s19 (by decide)
  have s141 := slot_ne (d := 144) (x := .slice (some ⟨gc, 0, none⟩) 1 1) s141 (by decide)
  clear s143
  have s144 := slot_same (a := y3) (d := 144) (x := .slice (some ⟨gc, 0, none⟩) 1 1) (by rw [hz]; decide)
  have hz : (y3.put (some 144) (.slice (some ⟨gc, 0, none⟩) 1 1)).tmps.size = 212 := size_put hz
  generalize (y3.put (some 144) (.slice (some ⟨gc, 0, none⟩) 1 1)) = y4 at hz hd s4 s7 s9 s10 s11 s13 s15 s16 s17 s18 s19 s141 s144 ⊢
  refine MS.enter ctxR (show naO17[4]? = some _ from rfl) rfl rfl (by kernel_rfl) ⟨_, _, Tryd.func13, runBody, by kernel_rfl⟩ ?_
  have hargs : (#[.tmp 141, .const (.int .i64 0), .tmp 144, .const (.int .i64 1)] : Array Operand).map y4.eval = #[.slice G 1 1, .int .i64 0, .slice (some ⟨gc, 0, none⟩) 1 1, .int .i64 1] := by
    simp only [List.map_toArray, List.map_cons, List.map_nil]
    rw [show y4.eval (.tmp 141) = _ from s141, show y4.eval (.tmp 144) = _ from s144]
    rfl
  show MS Tryd.prog SR gR sR (· = .bool true) [] _ (Frame.enter Tryd.prog 13 ((#[.tmp 141, .const (.int .i64 0), .tmp 144, .const (.int .i64 1)] : Array Operand).map y4.eval) .normal) _ vc
  rw [hargs]
  refine run_ms (rs := [bigRule]) (ms := bigW) (s := 0) (n := 1) hr hm bigRule_small (fits_i64 (by decide)) (fits_i64 (by decide)) bigW_small.1 bigW_small.2 (ht.kp k0 hg) (hg.kp k0) ?_
  rw [runG]
  intro ch a' v' todo Dq dq hd' q8 q9 hsl kk
  have hX := hXX ch
  refine hX.back' (x := .tuple #[.slice Dq 0 dq, .int .i64 16]) rfl rfl Tryd.func13 (show naO17[4]? = some _ from rfl) (fun τ d => ?_) ?_
  · refine (results_two (p := 8) (q := 9) rfl _).trans ?_
    show Result.ok (Value.tuple #[a'.tmps.getD 8 undef, a'.tmps.getD 9 undef]) _ = _
    rw [show (a'.tmps.getD 8 undef) = _ from q8, show (a'.tmps.getD 9 undef) = _ from q9]
    rfl
  clear hsl q8 q9
  have hx := hx.kp eqv_cel kk
  have hr := hr.kp eqv_rul kk
  have k0 := k0.trans kk
  show MS Tryd.prog SR gR sR (· = .bool true) [] ch (bNa.at (y4.put (some 145) (.tuple #[.slice Dq 0 dq, .int .i64 16])) _) [] v'
  have hd : (y4.put (some 145) (.tuple #[.slice Dq 0 dq, .int .i64 16])).defers = [] := hd
  have s4 := slot_ne (d := 145) (x := .tuple #[.slice Dq 0 dq, .int .i64 16]) s4 (by decide)
  have s7 := slot_ne (d := 145) (x := .tuple #[.slice Dq 0 dq, .int .i64 16]) s7 (by decide)
  have s9 := slot_ne (d := 145) (x := .tuple #[.slice Dq 0 dq, .int .i64 16]) s9 (by decide)
  have s10 := slot_ne (d := 145) (x := .tuple #[.slice Dq 0 dq, .int .i64 16]) s10 (by decide)
  have s11 := slot_ne (d := 145) (x := .tuple #[.slice Dq 0 dq, .int .i64 16]) s11 (by decide)
  have s13 := slot_ne (d := 145) (x := .tuple #[.slice Dq 0 dq, .int .i64 16]) s13 (by decide)
  have s15 := slot_ne (d := 145) (x := .tuple #[.slice Dq 0 dq, .int .i64 16]) s15 (by decide)
  have s16 := slot_ne (d := 145) (x := .tuple #[.slice Dq 0 dq, .int .i64 16]) s16 (by decide)
  have s17 := slot_ne (d := 145) (x := .tuple #[.slice Dq 0 dq, .int .i64 16]) s17 (by decide)
  have s18 := slot_ne (d := 145) (x := .tuple #[.slice Dq 0 dq, .int .i64 16]) s18 (by decide)
  have s19 := slot_ne (d := 145) (x := .tuple #[.slice Dq 0 dq, .int .i64 16]) s19 (by decide)
  clear s141
  clear s144
  have s145 := slot_same (a := y4) (d := 145) (x := .tuple #[.slice Dq 0 dq, .int .i64 16]) (by rw [hz]; decide)
  have hz : (y4.put (some 145) (.tuple #[.slice Dq 0 dq, .int .i64 16])).tmps.size = 212 := size_put hz
  generalize (y4.put (some 145) (.tuple #[.slice Dq 0 dq, .int .i64 16])) = y5 at hz hd s4 s7 s9 s10 s11 s13 s15 s16 s17 s18 s19 s145 ⊢
  refine hX.val (v' := v') (some 140) (.tuple #[.slice Dq 0 dq, .int .i64 16]) (show naO17[5]? = some _ from rfl) (by kernel_rfl) rfl rfl (fun τ d => run_moveX y5.eval (.tmp 145) (.inl rfl) s145) ?_
  have hd : (y5.put (some 140) (.tuple #[.slice Dq 0 dq, .int .i64 16])).defers = [] := hd
  have s4 := slot_ne (d := 140) (x := .tuple #[.slice Dq 0 dq, .int .i64 16]) s4 (by decide)
  have s7 := slot_ne (d := 140) (x := .tuple #[.slice Dq 0 dq, .int .i64 16]) s7 (by decide)
  have s9 := slot_ne (d := 140) (x := .tuple #[.slice Dq 0 dq, .int .i64 16]) s9 (by decide)
  have s10 := slot_ne (d := 140) (x := .tuple #[.slice Dq 0 dq, .int .i64 16]) s10 (by decide)
  have s11 := slot_ne (d := 140) (x := .tuple #[.slice Dq 0 dq, .int .i64 16]) s11 (by decide)
  have s13 := slot_ne (d := 140) (x := .tuple #[.slice Dq 0 dq, .int .i64 16]) s13 (by decide)
  have s15 := slot_ne (d := 140) (x := .tuple #[.slice Dq 0 dq, .int .i64 16]) s15 (by decide)
  have s16 := slot_ne (d := 140) (x := .tuple #[.slice Dq 0 dq, .int .i64 16]) s16 (by decide)
  have s17 := slot_ne (d := 140) (x := .tuple #[.slice Dq 0 dq, .int .i64 16]) s17 (by decide)
  have s18 := slot_ne (d := 140) (x := .tuple #[.slice Dq 0 dq, .int .i64 16]) s18 (by decide)
  have s19 := slot_ne (d := 140) (x := .tuple #[.slice Dq 0 dq, .int .i64 16]) s19 (by decide)
  clear s145
  have s140 := slot_same (a := y5) (d := 140) (x := .tuple #[.slice Dq 0 dq, .int .i64 16]) (by rw [hz]; decide)
  have hz : (y5.put (some 140) (.tuple #[.slice Dq 0 dq, .int .i64 16])).tmps.size = 212 := size_put hz
  generalize (y5.put (some 140) (.tuple #[.slice Dq 0 dq, .int .i64 16])) = y6 at hz hd s4 s7 s9 s10 s11 s13 s15 s16 s17 s18 s19 s140 ⊢
  refine hX.val (v' := v') (some 146) (.slice Dq 0 dq) (show naO17[6]? = some _ from rfl) (by kernel_rfl) rfl rfl (fun τ d => run_extractX y6.eval (.tmp 140) 0 rfl s140 rfl) ?_
  have hd : (y6.put (some 146) (.slice Dq 0 dq)).defers = [] := hd
  have s4 := slot_ne (d := 146) (x := .slice Dq 0 dq) s4 (by decide)
  have s7 := slot_ne (d := 146) (x := .slice Dq 0 dq) s7 (by decide)
  have s9 := slot_ne (d := 146) (x := .slice Dq 0 dq) s9 (by decide)
  have s10 := slot_ne (d := 146) (x := .slice Dq 0 dq) s10 (by decide)
  have s11 := slot_ne (d := 146) (x := .slice Dq 0 dq) s11 (by decide)
  have s13 := slot_ne (d := 146) (x := .slice Dq 0 dq) s13 (by decide)
  have s15 := slot_ne (d := 146) (x := .slice Dq 0 dq) s15 (by decide)
  have s16 := slot_ne (d := 146) (x := .slice Dq 0 dq) s16 (by decide)
  have s17 := slot_ne (d := 146) (x := .slice Dq 0 dq) s17 (by decide)
  have s18 := slot_ne (d := 146) (x := .slice Dq 0 dq) s18 (by decide)
  have s19 := slot_ne (d := 146) (x := .slice Dq 0 dq) s19 (by decide)
  have s140 := slot_ne (d := 146) (x := .slice Dq 0 dq) s140 (by decide)
  have s146 := slot_same (a := y6) (d := 146) (x := .slice Dq 0 dq) (by rw [hz]; decide)
  have hz : (y6.put (some 146) (.slice Dq 0 dq)).tmps.size = 212 := size_put hz
  generalize (y6.put (some 146) (.slice Dq 0 dq)) = y7 at hz hd s4 s7 s9 s10 s11 s13 s15 s16 s17 s18 s19 s140 s146 ⊢
  refine hX.val (v' := v') (some 147) (.int .i64 16) (show naO17[7]? = some _ from rfl) (by kernel_rfl) rfl rfl (fun τ d => run_extractX y7.eval (.tmp 140) 1 rfl s140 rfl) ?_
  have hd : (y7.put (some 147) (.int .i64 16)).defers = [] := hd
  have s4 := slot_ne (d := 147) (x := .int .i64 16) s4 (by decide)
  have s7 := slot_ne (d := 147) (x := .int .i64 16) s7 (by decide)
  have s9 := slot_ne (d := 147) (x := .int .i64 16) s9 (by decide)
  have s10 := slot_ne (d := 147) (x := .int .i64 16) s10 (by decide)
  have s11 := slot_ne (d := 147) (x := .int .i64 16) s11 (by decide)
  have s13 := slot_ne (d := 147) (x := .int .i64 16) s13 (by decide)
  have s15 := slot_ne (d := 147) (x := .int .i64 16) s15 (by decide)
  have s16 := slot_ne (d := 147) (x := .int .i64 16) s16 (by decide)
  have s17 := slot_ne (d := 147) (x := .int .i64 16) s17 (by decide)
  have s18 := slot_ne (d := 147) (x := .int .i64 16) s18 (by decide)
  have s19 := slot_ne (d := 147) (x := .int .i64 16) s19 (by decide)
  clear s140
  have s146 := slot_ne (d := 147) (x := .int .i64 16) s146 (by decide)
  have s147 := slot_same (a := y7) (d := 147) (x := .int .i64 16) (by rw [hz]; decide)
  have hz : (y7.put (some 147) (.int .i64 16)).tmps.size = 212 := size_put hz
  generalize (y7.put (some 147) (.int .i64 16)) = y8 at hz hd s4 s7 s9 s10 s11 s13 s15 s16 s17 s18 s19 s146 s147 ⊢
  refine hX.val (v' := v') (some 20) (.slice Dq 0 dq) (show naO17[8]? = some _ from rfl) (by kernel_rfl) rfl rfl (fun τ d => run_moveX y8.eval (.tmp 146) (.inr rfl) s146) ?_
  have hd : (y8.put (some 20) (.slice Dq 0 dq)).defers = [] := hd
  have s4 := slot_ne (d := 20) (x := .slice Dq 0 dq) s4 (by decide)
  have s7 := slot_ne (d := 20) (x := .slice Dq 0 dq) s7 (by decide)
  have s9 := slot_ne (d := 20) (x := .slice Dq 0 dq) s9 (by decide)
  have s10 := slot_ne (d := 20) (x := .slice Dq 0 dq) s10 (by decide)
  have s11 := slot_ne (d := 20) (x := .slice Dq 0 dq) s11 (by decide)
  have s13 := slot_ne (d := 20) (x := .slice Dq 0 dq) s13 (by decide)
  have s15 := slot_ne (d := 20) (x := .slice Dq 0 dq) s15 (by decide)
  have s16 := slot_ne (d := 20) (x := .slice Dq 0 dq) s16 (by decide)
  have s17 := slot_ne (d := 20) (x := .slice Dq 0 dq) s17 (by decide)
  have s18 := slot_ne (d := 20) (x := .slice Dq 0 dq) s18 (by decide)
  have s19 := slot_ne (d := 20) (x := .slice Dq 0 dq) s19 (by decide)
  clear s146
  have s147 := slot_ne (d := 20) (x := .slice Dq 0 dq) s147 (by decide)
  have hz : (y8.put (some 20) (.slice Dq 0 dq)).tmps.size = 212 := size_put hz
  generalize (y8.put (some 20) (.slice Dq 0 dq)) = y9 at hz hd s4 s7 s9 s10 s11 s13 s15 s16 s17 s18 s19 s147 ⊢
  refine hX.val (v' := v') (some 21) (.int .i64 16) (show naO17[9]? = some _ from rfl) (by kernel_rfl) rfl rfl (fun τ d => run_moveX y9.eval (.tmp 147) (.inr rfl) s147) ?_
  have hd : (y9.put (some 21) (.int .i64 16)).defers = [] := hd
  have s4 := slot_ne (d := 21) (x := .int .i64 16) s4 (by decide)
  have s7 := slot_ne (d := 21) (x := .int .i64 16) s7 (by decide)
  have s9 := slot_ne (d := 21) (x := .int .i64 16) s9 (by decide)
  have s10 := slot_ne (d := 21) (x := .int .i64 16) s10 (by decide)
  have s11 := slot_ne (d := 21) (x := .int .i64 16) s11 (by decide)
  have s13 := slot_ne (d := 21) (x := .int .i64 16) s13 (by decide)
  have s15 := slot_ne (d := 21) (x := .int .i64 16) s15 (by decide)
  have s16 := slot_ne (d := 21) (x := .int .i64 16) s16 (by decide)
  have s17 := slot_ne (d := 21) (x := .int .i64 16) s17 (by decide)
  have s18 := slot_ne (d := 21) (x := .int .i64 16) s18 (by decide)
  have s19 := slot_ne (d := 21) (x := .int .i64 16) s19 (by decide)
  clear s147
  have s21 := slot_same (a := y9) (d := 21) (x := .int .i64 16) (by rw [hz]; decide)
  have hz : (y9.put (some 21) (.int .i64 16)).tmps.size = 212 := size_put hz
  generalize (y9.put (some 21) (.int .i64 16)) = y10 at hz hd s4 s7 s9 s10 s11 s13 s15 s16 s17 s18 s19 s21 ⊢
  exact hX.done (hk _ _ _ hz hd s4 s7 s9 s10 s11 s13 s15 s16 s17 s18 s19 s21 hx hr k0)
theorem nilW_small : ([] : List Mod).length ≤ 10000 ∧ ∀ m ∈ ([] : List Mod), m.args.length ≤ 1000 := by decide +kernel
set_option maxRecDepth 100000 in
set_option maxHeartbeats 4000000 in
theorem na_18 {ch : Option Nat} {v v0 : World} {a : Act} {C X G : Option Addr} {cc xc : Nat} (hz : a.tmps.size = 212) (hd : a.defers = []) (s4 : slot a 4 (.bool true)) (s7 : slot a 7 (.int .i64 4)) (s9 : slot a 9 (.int .i64 8)) (s10 : slot a 10 (.slice C 1 cc)) (s11 : slot a 11 (.int .i64 0)) (s13 : slot a 13 (.int .i64 8)) (s15 : slot a 15 (.int .i64 8)) (s16 : slot a 16 (.slice X 1 xc)) (s17 : slot a 17 (.int .i64 0)) (s18 : slot a 18 (.bool true)) (s19 : slot a 19 (.slice G 1 1)) (s21 : slot a 21 (.int .i64 16)) (hx : SlAt pCel (Old v) v X xc [cellN ⟨#[55]⟩ 93]) (hr : SlAt pRul (Old v) v G 1 [bigRule]) (ht : TabAt v0) (hg : GAt v0) (k0 : Kp v0 v)
    (hk : ∀ ch a v, a.tmps.size = 212 → a.defers = [] → slot a 4 (.bool true) → slot a 7 (.int .i64 4) → slot a 9 (.int .i64 8) → slot a 10 (.slice C 1 cc) → slot a 11 (.int .i64 0) → slot a 13 (.int .i64 8) → slot a 15 (.int .i64 8) → slot a 16 (.slice X 1 xc) → slot a 17 (.int .i64 0) → slot a 18 (.bool true) → slot a 19 (.slice G 1 1) → slot a 21 (.int .i64 16) → slot a 23 (.int .i64 2) → SlAt pCel (Old v) v X xc [cellN ⟨#[55]⟩ 93] → SlAt pRul (Old v) v G 1 [bigRule] → Kp v0 v → MS Tryd.prog SR gR sR (· = .bool true) [] ch (bNa.at a [.code (.seq naR19 (.seq (.region 20 naO20 false) .ret))]) [] v) :
    MS Tryd.prog SR gR sR (· = .bool true) [] ch (bNa.at a [.code (.seq (.region 18 naO18 false) (.seq naR19 (.seq (.region 20 naO20 false) .ret)))]) [] v := by
  have hXX : ∀ ch, Walk Tryd.prog SR gR sR (MS Tryd.prog SR gR sR (· = .bool true) [] ch) := fun ch => MS.walk ctxR
  have hX := hXX ch
  refine hX.seq (hX.region ?_)
  rw [naz18]
  refine hX.val (v' := v) (some 149) (.slice G 1 1) (show naO18[0]? = some _ from rfl) (by kernel_rfl) rfl rfl (fun τ d => run_moveX a.eval (.tmp 19) (.inl rfl) s19) ?_
  have hd : (a.put (some 149) (.slice G 1 1)).defers = [] := hd
  have s4 := slot_ne (d := 149) (x := .slice G 1 1) s4 (by decide)
  have s7 := slot_ne (d := 149) (x := .slice G 1 1) s7 (by decide)
  have s9 := slot_ne (d := 149) (x := .slice G 1 1) s9 (by decide)
  have s10 := slot_ne (d := 149) (x := .slice G 1 1) s10 (by decide)
  have s11 := slot_ne (d := 149) (x := .slice G 1 1) s11 (by decide)
  have s13 := slot_ne (d := 149) (x := .slice G 1 1) s13 (by decide)
  have s15 := slot_ne (d := 149) (x := .slice G 1 1) s15 (by decide)
  have s16 := slot_ne (d := 149) (x := .slice G 1 1) s16 (by decide)
  have s17 := slot_ne (d := 149) (x := .slice G 1 1) s17 (by decide)
  have s18 := slot_ne (d := 149) (x := .slice G 1 1) s18 (by decide)
  have s19 := slot_ne (d := 149) (x := .slice G 1 1) s19 (by decide)
  have s21 := slot_ne (d := 149) (x := .slice G 1 1) s21 (by decide)
  have s149 := slot_same (a := a) (d := 149) (x := .slice G 1 1) (by rw [hz]; decide)
  have hz : (a.put (some 149) (.slice G 1 1)).tmps.size = 212 := size_put hz
  generalize (a.put (some 149) (.slice G 1 1)) = y1 at hz hd s4 s7 s9 s10 s11 s13 s15 s16 s17 s18 s19 s21 s149 ⊢
  refine MS.enter ctxR (show naO18[1]? = some _ from rfl) rfl rfl (by kernel_rfl) ⟨_, _, Tryd.func13, runBody, by kernel_rfl⟩ ?_
  have hargs : (#[.tmp 149, .const (.int .i64 0), .const (.slice none 0 0), .const (.int .i64 31)] : Array Operand).map y1.eval = #[.slice G 1 1, .int .i64 0, .slice none 0 0, .int .i64 31] := by
    simp only [List.map_toArray, List.map_cons, List.map_nil]
    rw [show y1.eval (.tmp 149) = _ from s149]
    rfl
  show MS Tryd.prog SR gR sR (· = .bool true) [] _ (Frame.enter Tryd.prog 13 ((#[.tmp 149, .const (.int .i64 0), .const (.slice none 0 0), .const (.int .i64 31)] : Array Operand).map y1.eval) .normal) _ v
  rw [hargs]
  refine run_ms (rs := [bigRule]) (ms := []) (s := 0) (n := 31) hr sl_none bigRule_small (fits_i64 (by decide)) (fits_i64 (by decide)) nilW_small.1 nilW_small.2 (ht.kp k0 hg) (hg.kp k0) ?_
  rw [runH]
  intro ch a' v' todo Dq dq hd' q8 q9 hsl kk
  have hX := hXX ch
  refine hX.back' (x := .tuple #[.slice Dq 0 dq, .int .i64 2]) rfl rfl Tryd.func13 (show naO18[1]? = some _ from rfl) (fun τ d => ?_) ?_
  · refine (results_two (p := 8) (q := 9) rfl _).trans ?_
    show Result.ok (Value.tuple #[a'.tmps.getD 8 undef, a'.tmps.getD 9 undef]) _ = _
    rw [show (a'.tmps.getD 8 undef) = _ from q8, show (a'.tmps.getD 9 undef) = _ from q9]
    rfl
  clear hsl q8 q9
  have hx := hx.kp eqv_cel kk
  have hr := hr.kp eqv_rul kk
  have k0 := k0.trans kk
  show MS Tryd.prog SR gR sR (· = .bool true) [] ch (bNa.at (y1.put (some 150) (.tuple #[.slice Dq 0 dq, .int .i64 2])) _) [] v'
  have hd : (y1.put (some 150) (.tuple #[.slice Dq 0 dq, .int .i64 2])).defers = [] := hd
  have s4 := slot_ne (d := 150) (x := .tuple #[.slice Dq 0 dq, .int .i64 2]) s4 (by decide)
  have s7 := slot_ne (d := 150) (x := .tuple #[.slice Dq 0 dq, .int .i64 2]) s7 (by decide)
  have s9 := slot_ne (d := 150) (x := .tuple #[.slice Dq 0 dq, .int .i64 2]) s9 (by decide)
  have s10 := slot_ne (d := 150) (x := .tuple #[.slice Dq 0 dq, .int .i64 2]) s10 (by decide)
  have s11 := slot_ne (d := 150) (x := .tuple #[.slice Dq 0 dq, .int .i64 2]) s11 (by decide)
  have s13 := slot_ne (d := 150) (x := .tuple #[.slice Dq 0 dq, .int .i64 2]) s13 (by decide)
  have s15 := slot_ne (d := 150) (x := .tuple #[.slice Dq 0 dq, .int .i64 2]) s15 (by decide)
  have s16 := slot_ne (d := 150) (x := .tuple #[.slice Dq 0 dq, .int .i64 2]) s16 (by decide)
  have s17 := slot_ne (d := 150) (x := .tuple #[.slice Dq 0 dq, .int .i64 2]) s17 (by decide)
  have s18 := slot_ne (d := 150) (x := .tuple #[.slice Dq 0 dq, .int .i64 2]) s18 (by decide)
  have s19 := slot_ne (d := 150) (x := .tuple #[.slice Dq 0 dq, .int .i64 2]) s19 (by decide)
  have s21 := slot_ne (d := 150) (x := .tuple #[.slice Dq 0 dq, .int .i64 2]) s21 (by decide)
  clear s149
  have s150 := slot_same (a := y1) (d := 150) (x := .tuple #[.slice Dq 0 dq, .int .i64 2]) (by rw [hz]; decide)
  have hz : (y1.put (some 150) (.tuple #[.slice Dq 0 dq, .int .i64 2])).tmps.size = 212 := size_put hz
  generalize (y1.put (some 150) (.tuple #[.slice Dq 0 dq, .int .i64 2])) = y2 at hz hd s4 s7 s9 s10 s11 s13 s15 s16 s17 s18 s19 s21 s150 ⊢
  refine hX.val (v' := v') (some 148) (.tuple #[.slice Dq 0 dq, .int .i64 2]) (show naO18[2]? = some _ from rfl) (by kernel_rfl) rfl rfl (fun τ d => run_moveX y2.eval (.tmp 150) (.inl rfl) s150) ?_
  have hd : (y2.put (some 148) (.tuple #[.slice Dq 0 dq, .int .i64 2])).defers = [] := hd
  have s4 := slot_ne (d := 148) (x := .tuple #[.slice Dq 0 dq, .int .i64 2]) s4 (by decide)
  have s7 := slot_ne (d := 148) (x := .tuple #[.slice Dq 0 dq, .int .i64 2]) s7 (by decide)
  have s9 := slot_ne (d := 148) (x := .tuple #[.slice Dq 0 dq, .int .i64 2]) s9 (by decide)
  have s10 := slot_ne (d := 148) (x := .tuple #[.slice Dq 0 dq, .int .i64 2]) s10 (by decide)
  have s11 := slot_ne (d := 148) (x := .tuple #[.slice Dq 0 dq, .int .i64 2]) s11 (by decide)
  have s13 := slot_ne (d := 148) (x := .tuple #[.slice Dq 0 dq, .int .i64 2]) s13 (by decide)
  have s15 := slot_ne (d := 148) (x := .tuple #[.slice Dq 0 dq, .int .i64 2]) s15 (by decide)
  have s16 := slot_ne (d := 148) (x := .tuple #[.slice Dq 0 dq, .int .i64 2]) s16 (by decide)
  have s17 := slot_ne (d := 148) (x := .tuple #[.slice Dq 0 dq, .int .i64 2]) s17 (by decide)
  have s18 := slot_ne (d := 148) (x := .tuple #[.slice Dq 0 dq, .int .i64 2]) s18 (by decide)
  have s19 := slot_ne (d := 148) (x := .tuple #[.slice Dq 0 dq, .int .i64 2]) s19 (by decide)
  have s21 := slot_ne (d := 148) (x := .tuple #[.slice Dq 0 dq, .int .i64 2]) s21 (by decide)
  clear s150
  have s148 := slot_same (a := y2) (d := 148) (x := .tuple #[.slice Dq 0 dq, .int .i64 2]) (by rw [hz]; decide)
  have hz : (y2.put (some 148) (.tuple #[.slice Dq 0 dq, .int .i64 2])).tmps.size = 212 := size_put hz
  generalize (y2.put (some 148) (.tuple #[.slice Dq 0 dq, .int .i64 2])) = y3 at hz hd s4 s7 s9 s10 s11 s13 s15 s16 s17 s18 s19 s21 s148 ⊢
  refine hX.val (v' := v') (some 151) (.slice Dq 0 dq) (show naO18[3]? = some _ from rfl) (by kernel_rfl) rfl rfl (fun τ d => run_extractX y3.eval (.tmp 148) 0 rfl s148 rfl) ?_
  have hd : (y3.put (some 151) (.slice Dq 0 dq)).defers = [] := hd
  have s4 := slot_ne (d := 151) (x := .slice Dq 0 dq) s4 (by decide)
  have s7 := slot_ne (d := 151) (x := .slice Dq 0 dq) s7 (by decide)
  have s9 := slot_ne (d := 151) (x := .slice Dq 0 dq) s9 (by decide)
  have s10 := slot_ne (d := 151) (x := .slice Dq 0 dq) s10 (by decide)
  have s11 := slot_ne (d := 151) (x := .slice Dq 0 dq) s11 (by decide)
  have s13 := slot_ne (d := 151) (x := .slice Dq 0 dq) s13 (by decide)
  have s15 := slot_ne (d := 151) (x := .slice Dq 0 dq) s15 (by decide)
  have s16 := slot_ne (d := 151) (x := .slice Dq 0 dq) s16 (by decide)
  have s17 := slot_ne (d := 151) (x := .slice Dq 0 dq) s17 (by decide)
  have s18 := slot_ne (d := 151) (x := .slice Dq 0 dq) s18 (by decide)
  have s19 := slot_ne (d := 151) (x := .slice Dq 0 dq) s19 (by decide)
  have s21 := slot_ne (d := 151) (x := .slice Dq 0 dq) s21 (by decide)
  have s148 := slot_ne (d := 151) (x := .slice Dq 0 dq) s148 (by decide)
  have s151 := slot_same (a := y3) (d := 151) (x := .slice Dq 0 dq) (by rw [hz]; decide)
  have hz : (y3.put (some 151) (.slice Dq 0 dq)).tmps.size = 212 := size_put hz
  generalize (y3.put (some 151) (.slice Dq 0 dq)) = y4 at hz hd s4 s7 s9 s10 s11 s13 s15 s16 s17 s18 s19 s21 s148 s151 ⊢
  refine hX.val (v' := v') (some 152) (.int .i64 2) (show naO18[4]? = some _ from rfl) (by kernel_rfl) rfl rfl (fun τ d => run_extractX y4.eval (.tmp 148) 1 rfl s148 rfl) ?_
  have hd : (y4.put (some 152) (.int .i64 2)).defers = [] := hd
  have s4 := slot_ne (d := 152) (x := .int .i64 2) s4 (by decide)
  have s7 := slot_ne (d := 152) (x := .int .i64 2) s7 (by decide)
  have s9 := slot_ne (d := 152) (x := .int .i64 2) s9 (by decide)
  have s10 := slot_ne (d := 152) (x := .int .i64 2) s10 (by decide)
  have s11 := slot_ne (d := 152) (x := .int .i64 2) s11 (by decide)
  have s13 := slot_ne (d := 152) (x := .int .i64 2) s13 (by decide)
  have s15 := slot_ne (d := 152) (x := .int .i64 2) s15 (by decide)
  have s16 := slot_ne (d := 152) (x := .int .i64 2) s16 (by decide)
  have s17 := slot_ne (d := 152) (x := .int .i64 2) s17 (by decide)
  have s18 := slot_ne (d := 152) (x := .int .i64 2) s18 (by decide)
  have s19 := slot_ne (d := 152) (x := .int .i64 2) s19 (by decide)
  have s21 := slot_ne (d := 152) (x := .int .i64 2) s21 (by decide)
  clear s148
  have s151 := slot_ne (d := 152) (x := .int .i64 2) s151 (by decide)
  have s152 := slot_same (a := y4) (d := 152) (x := .int .i64 2) (by rw [hz]; decide)
  have hz : (y4.put (some 152) (.int .i64 2)).tmps.size = 212 := size_put hz
  generalize (y4.put (some 152) (.int .i64 2)) = y5 at hz hd s4 s7 s9 s10 s11 s13 s15 s16 s17 s18 s19 s21 s151 s152 ⊢
  refine hX.val (v' := v') (some 22) (.slice Dq 0 dq) (show naO18[5]? = some _ from rfl) (by kernel_rfl) rfl rfl (fun τ d => run_moveX y5.eval (.tmp 151) (.inr rfl) s151) ?_
  have hd : (y5.put (some 22) (.slice Dq 0 dq)).defers = [] := hd
  have s4 := slot_ne (d := 22) (x := .slice Dq 0 dq) s4 (by decide)
  have s7 := slot_ne (d := 22) (x := .slice Dq 0 dq) s7 (by decide)
  have s9 := slot_ne (d := 22) (x := .slice Dq 0 dq) s9 (by decide)
  have s10 := slot_ne (d := 22) (x := .slice Dq 0 dq) s10 (by decide)
  have s11 := slot_ne (d := 22) (x := .slice Dq 0 dq) s11 (by decide)
  have s13 := slot_ne (d := 22) (x := .slice Dq 0 dq) s13 (by decide)
  have s15 := slot_ne (d := 22) (x := .slice Dq 0 dq) s15 (by decide)
  have s16 := slot_ne (d := 22) (x := .slice Dq 0 dq) s16 (by decide)
  have s17 := slot_ne (d := 22) (x := .slice Dq 0 dq) s17 (by decide)
  have s18 := slot_ne (d := 22) (x := .slice Dq 0 dq) s18 (by decide)
  have s19 := slot_ne (d := 22) (x := .slice Dq 0 dq) s19 (by decide)
  have s21 := slot_ne (d := 22) (x := .slice Dq 0 dq) s21 (by decide)
  clear s151
  have s152 := slot_ne (d := 22) (x := .slice Dq 0 dq) s152 (by decide)
  have hz : (y5.put (some 22) (.slice Dq 0 dq)).tmps.size = 212 := size_put hz
  generalize (y5.put (some 22) (.slice Dq 0 dq)) = y6 at hz hd s4 s7 s9 s10 s11 s13 s15 s16 s17 s18 s19 s21 s152 ⊢
  refine hX.val (v' := v') (some 23) (.int .i64 2) (show naO18[6]? = some _ from rfl) (by kernel_rfl) rfl rfl (fun τ d => run_moveX y6.eval (.tmp 152) (.inr rfl) s152) ?_
  have hd : (y6.put (some 23) (.int .i64 2)).defers = [] := hd
  have s4 := slot_ne (d := 23) (x := .int .i64 2) s4 (by decide)
  have s7 := slot_ne (d := 23) (x := .int .i64 2) s7 (by decide)
  have s9 := slot_ne (d := 23) (x := .int .i64 2) s9 (by decide)
  have s10 := slot_ne (d := 23) (x := .int .i64 2) s10 (by decide)
  have s11 := slot_ne (d := 23) (x := .int .i64 2) s11 (by decide)
  have s13 := slot_ne (d := 23) (x := .int .i64 2) s13 (by decide)
  have s15 := slot_ne (d := 23) (x := .int .i64 2) s15 (by decide)
  have s16 := slot_ne (d := 23) (x := .int .i64 2) s16 (by decide)
  have s17 := slot_ne (d := 23) (x := .int .i64 2) s17 (by decide)
  have s18 := slot_ne (d := 23) (x := .int .i64 2) s18 (by decide)
  have s19 := slot_ne (d := 23) (x := .int .i64 2) s19 (by decide)
  have s21 := slot_ne (d := 23) (x := .int .i64 2) s21 (by decide)
  clear s152
  have s23 := slot_same (a := y6) (d := 23) (x := .int .i64 2) (by rw [hz]; decide)
  have hz : (y6.put (some 23) (.int .i64 2)).tmps.size = 212 := size_put hz
  generalize (y6.put (some 23) (.int .i64 2)) = y7 at hz hd s4 s7 s9 s10 s11 s13 s15 s16 s17 s18 s19 s21 s23 ⊢
  exact hX.done (hk _ _ _ hz hd s4 s7 s9 s10 s11 s13 s15 s16 s17 s18 s19 s21 s23 hx hr k0)
set_option maxRecDepth 100000 in
set_option maxHeartbeats 8000000 in
theorem na_19 {ch : Option Nat} {v v0 : World} {a : Act} {C X G : Option Addr} {cc xc : Nat} {rest : Code} (hz : a.tmps.size = 212) (hd : a.defers = []) (s4 : slot a 4 (.bool true)) (s7 : slot a 7 (.int .i64 4)) (s9 : slot a 9 (.int .i64 8)) (s10 : slot a 10 (.slice C 1 cc)) (s11 : slot a 11 (.int .i64 0)) (s13 : slot a 13 (.int .i64 8)) (s15 : slot a 15 (.int .i64 8)) (s16 : slot a 16 (.slice X 1 xc)) (s17 : slot a 17 (.int .i64 0)) (s18 : slot a 18 (.bool true)) (s19 : slot a 19 (.slice G 1 1)) (s21 : slot a 21 (.int .i64 16)) (s23 : slot a 23 (.int .i64 2)) (hx : SlAt pCel (Old v) v X xc [cellN ⟨#[55]⟩ 93]) (k0 : Kp v0 v)
    (hk : ∀ a v, a.tmps.size = 212 → a.defers = [] → slot a 4 (.bool true) → slot a 18 (.bool true) → slot a 21 (.int .i64 16) → slot a 23 (.int .i64 2) → slot a 24 (.bool true) → Kp v0 v → MS Tryd.prog SR gR sR (· = .bool true) [] ch (bNa.at a [.code rest]) [] v) :
    MS Tryd.prog SR gR sR (· = .bool true) [] ch (bNa.at a [.code (.seq naR19 rest)]) [] v := by
  have hX : Walk Tryd.prog SR gR sR (MS Tryd.prog SR gR sR (· = .bool true) [] ch) := MS.walk ctxR
  rw [act_lit212 hd hz]
  rw [show (a.tmps.getD 4 undef) = _ from s4, show (a.tmps.getD 7 undef) = _ from s7, show (a.tmps.getD 9 undef) = _ from s9, show (a.tmps.getD 10 undef) = _ from s10, show (a.tmps.getD 11 undef) = _ from s11, show (a.tmps.getD 13 undef) = _ from s13, show (a.tmps.getD 15 undef) = _ from s15, show (a.tmps.getD 16 undef) = _ from s16, show (a.tmps.getD 17 undef) = _ from s17, show (a.tmps.getD 18 undef) = _ from s18, show (a.tmps.getD 19 undef) = _ from s19, show (a.tmps.getD 21 undef) = _ from s21, show (a.tmps.getD 23 undef) = _ from s23]
  clear s4 s7 s9 s10 s11 s13 s15 s16 s17 s18 s19 s21 s23 hd
  generalize (a.tmps.getD 0 undef) = j0
  generalize (a.tmps.getD 1 undef) = j1
  generalize (a.tmps.getD 2 undef) = j2
  generalize (a.tmps.getD 3 undef) = j3
  generalize (a.tmps.getD 5 undef) = j5
  generalize (a.tmps.getD 6 undef) = j6
  generalize (a.tmps.getD 8 undef) = j8
  generalize (a.tmps.getD 12 undef) = j12
  generalize (a.tmps.getD 14 undef) = j14
  generalize (a.tmps.getD 20 undef) = j20
  generalize (a.tmps.getD 22 undef) = j22
  generalize (a.tmps.getD 24 undef) = j24
  generalize (a.tmps.getD 25 undef) = j25
  generalize (a.tmps.getD 26 undef) = j26
  generalize (a.tmps.getD 27 undef) = j27
  generalize (a.tmps.getD 28 undef) = j28
  generalize (a.tmps.getD 29 undef) = j29
  generalize (a.tmps.getD 30 undef) = j30
  generalize (a.tmps.getD 31 undef) = j31
  generalize (a.tmps.getD 32 undef) = j32
  generalize (a.tmps.getD 33 undef) = j33
  generalize (a.tmps.getD 34 undef) = j34
  generalize (a.tmps.getD 35 undef) = j35
  generalize (a.tmps.getD 36 undef) = j36
  generalize (a.tmps.getD 37 undef) = j37
  generalize (a.tmps.getD 38 undef) = j38
  generalize (a.tmps.getD 39 undef) = j39
  generalize (a.tmps.getD 40 undef) = j40
  generalize (a.tmps.getD 41 undef) = j41
  generalize (a.tmps.getD 42 undef) = j42
  generalize (a.tmps.getD 43 undef) = j43
  generalize (a.tmps.getD 44 undef) = j44
  generalize (a.tmps.getD 45 undef) = j45
  generalize (a.tmps.getD 46 undef) = j46
  generalize (a.tmps.getD 47 undef) = j47
  generalize (a.tmps.getD 48 undef) = j48
  generalize (a.tmps.getD 49 undef) = j49
  generalize (a.tmps.getD 50 undef) = j50
  generalize (a.tmps.getD 51 undef) = j51
  generalize (a.tmps.getD 52 undef) = j52
  generalize (a.tmps.getD 53 undef) = j53
  generalize (a.tmps.getD 54 undef) = j54
  generalize (a.tmps.getD 55 undef) = j55
  generalize (a.tmps.getD 56 undef) = j56
  generalize (a.tmps.getD 57 undef) = j57
  generalize (a.tmps.getD 58 undef) = j58
  generalize (a.tmps.getD 59 undef) = j59
  generalize (a.tmps.getD 60 undef) = j60
  generalize (a.tmps.getD 61 undef) = j61
  generalize (a.tmps.getD 62 undef) = j62
  generalize (a.tmps.getD 63 undef) = j63
  generalize (a.tmps.getD 64 undef) = j64
  generalize (a.tmps.getD 65 undef) = j65
  generalize (a.tmps.getD 66 undef) = j66
  generalize (a.tmps.getD 67 undef) = j67
  generalize (a.tmps.getD 68 undef) = j68
  generalize (a.tmps.getD 69 undef) = j69
  generalize (a.tmps.getD 70 undef) = j70
  generalize (a.tmps.getD 71 undef) = j71
  generalize (a.tmps.getD 72 undef) = j72
  generalize (a.tmps.getD 73 undef) = j73
  generalize (a.tmps.getD 74 undef) = j74
  generalize (a.tmps.getD 75 undef) = j75
  generalize (a.tmps.getD 76 undef) = j76
  generalize (a.tmps.getD 77 undef) = j77
  generalize (a.tmps.getD 78 undef) = j78
  generalize (a.tmps.getD 79 undef) = j79
  generalize (a.tmps.getD 80 undef) = j80
  generalize (a.tmps.getD 81 undef) = j81
  generalize (a.tmps.getD 82 undef) = j82
  generalize (a.tmps.getD 83 undef) = j83
  generalize (a.tmps.getD 84 undef) = j84
  generalize (a.tmps.getD 85 undef) = j85
  generalize (a.tmps.getD 86 undef) = j86
  generalize (a.tmps.getD 87 undef) = j87
  generalize (a.tmps.getD 88 undef) = j88
  generalize (a.tmps.getD 89 undef) = j89
  generalize (a.tmps.getD 90 undef) = j90
  generalize (a.tmps.getD 91 undef) = j91
  generalize (a.tmps.getD 92 undef) = j92
  generalize (a.tmps.getD 93 undef) = j93
  generalize (a.tmps.getD 94 undef) = j94
  generalize (a.tmps.getD 95 undef) = j95
  generalize (a.tmps.getD 96 undef) = j96
  generalize (a.tmps.getD 97 undef) = j97
  generalize (a.tmps.getD 98 undef) = j98
  generalize (a.tmps.getD 99 undef) = j99
  generalize (a.tmps.getD 100 undef) = j100
  generalize (a.tmps.getD 101 undef) = j101
  generalize (a.tmps.getD 102 undef) = j102
  generalize (a.tmps.getD 103 undef) = j103
  generalize (a.tmps.getD 104 undef) = j104
  generalize (a.tmps.getD 105 undef) = j105
  generalize (a.tmps.getD 106 undef) = j106
  generalize (a.tmps.getD 107 undef) = j107
  generalize (a.tmps.getD 108 undef) = j108
  generalize (a.tmps.getD 109 undef) = j109
  generalize (a.tmps.getD 110 undef) = j110
  generalize (a.tmps.getD 111 undef) = j111
  generalize (a.tmps.getD 112 undef) = j112
  generalize (a.tmps.getD 113 undef) = j113
  generalize (a.tmps.getD 114 undef) = j114
  generalize (a.tmps.getD 115 undef) = j115
  generalize (a.tmps.getD 116 undef) = j116
  generalize (a.tmps.getD 117 undef) = j117
  generalize (a.tmps.getD 118 undef) = j118
  generalize (a.tmps.getD 119 undef) = j119
  generalize (a.tmps.getD 120 undef) = j120
  generalize (a.tmps.getD 121 undef) = j121
  generalize (a.tmps.getD 122 undef) = j122
  generalize (a.tmps.getD 123 undef) = j123
  generalize (a.tmps.getD 124 undef) = j124
  generalize (a.tmps.getD 125 undef) = j125
  generalize (a.tmps.getD 126 undef) = j126
  generalize (a.tmps.getD 127 undef) = j127
  generalize (a.tmps.getD 128 undef) = j128
  generalize (a.tmps.getD 129 undef) = j129
  generalize (a.tmps.getD 130 undef) = j130
  generalize (a.tmps.getD 131 undef) = j131
  generalize (a.tmps.getD 132 undef) = j132
  generalize (a.tmps.getD 133 undef) = j133
  generalize (a.tmps.getD 134 undef) = j134
  generalize (a.tmps.getD 135 undef) = j135
  generalize (a.tmps.getD 136 undef) = j136
  generalize (a.tmps.getD 137 undef) = j137
  generalize (a.tmps.getD 138 undef) = j138
  generalize (a.tmps.getD 139 undef) = j139
  generalize (a.tmps.getD 140 undef) = j140
  generalize (a.tmps.getD 141 undef) = j141
  generalize (a.tmps.getD 142 undef) = j142
  generalize (a.tmps.getD 143 undef) = j143
  generalize (a.tmps.getD 144 undef) = j144
  generalize (a.tmps.getD 145 undef) = j145
  generalize (a.tmps.getD 146 undef) = j146
  generalize (a.tmps.getD 147 undef) = j147
  generalize (a.tmps.getD 148 undef) = j148
  generalize (a.tmps.getD 149 undef) = j149
  generalize (a.tmps.getD 150 undef) = j150
  generalize (a.tmps.getD 151 undef) = j151
  generalize (a.tmps.getD 152 undef) = j152
  generalize (a.tmps.getD 153 undef) = j153
  generalize (a.tmps.getD 154 undef) = j154
  generalize (a.tmps.getD 155 undef) = j155
  generalize (a.tmps.getD 156 undef) = j156
  generalize (a.tmps.getD 157 undef) = j157
  generalize (a.tmps.getD 158 undef) = j158
  generalize (a.tmps.getD 159 undef) = j159
  generalize (a.tmps.getD 160 undef) = j160
  generalize (a.tmps.getD 161 undef) = j161
  generalize (a.tmps.getD 162 undef) = j162
  generalize (a.tmps.getD 163 undef) = j163
  generalize (a.tmps.getD 164 undef) = j164
  generalize (a.tmps.getD 165 undef) = j165
  generalize (a.tmps.getD 166 undef) = j166
  generalize (a.tmps.getD 167 undef) = j167
  generalize (a.tmps.getD 168 undef) = j168
  generalize (a.tmps.getD 169 undef) = j169
  generalize (a.tmps.getD 170 undef) = j170
  generalize (a.tmps.getD 171 undef) = j171
  generalize (a.tmps.getD 172 undef) = j172
  generalize (a.tmps.getD 173 undef) = j173
  generalize (a.tmps.getD 174 undef) = j174
  generalize (a.tmps.getD 175 undef) = j175
  generalize (a.tmps.getD 176 undef) = j176
  generalize (a.tmps.getD 177 undef) = j177
  generalize (a.tmps.getD 178 undef) = j178
  generalize (a.tmps.getD 179 undef) = j179
  generalize (a.tmps.getD 180 undef) = j180
  generalize (a.tmps.getD 181 undef) = j181
  generalize (a.tmps.getD 182 undef) = j182
  generalize (a.tmps.getD 183 undef) = j183
  generalize (a.tmps.getD 184 undef) = j184
  generalize (a.tmps.getD 185 undef) = j185
  generalize (a.tmps.getD 186 undef) = j186
  generalize (a.tmps.getD 187 undef) = j187
  generalize (a.tmps.getD 188 undef) = j188
  generalize (a.tmps.getD 189 undef) = j189
  generalize (a.tmps.getD 190 undef) = j190
  generalize (a.tmps.getD 191 undef) = j191
  generalize (a.tmps.getD 192 undef) = j192
  generalize (a.tmps.getD 193 undef) = j193
  generalize (a.tmps.getD 194 undef) = j194
  generalize (a.tmps.getD 195 undef) = j195
  generalize (a.tmps.getD 196 undef) = j196
  generalize (a.tmps.getD 197 undef) = j197
  generalize (a.tmps.getD 198 undef) = j198
  generalize (a.tmps.getD 199 undef) = j199
  generalize (a.tmps.getD 200 undef) = j200
  generalize (a.tmps.getD 201 undef) = j201
  generalize (a.tmps.getD 202 undef) = j202
  generalize (a.tmps.getD 203 undef) = j203
  generalize (a.tmps.getD 204 undef) = j204
  generalize (a.tmps.getD 205 undef) = j205
  generalize (a.tmps.getD 206 undef) = j206
  generalize (a.tmps.getD 207 undef) = j207
  generalize (a.tmps.getD 208 undef) = j208
  generalize (a.tmps.getD 209 undef) = j209
  generalize (a.tmps.getD 210 undef) = j210
  generalize (a.tmps.getD 211 undef) = j211
  clear hz
  refine hX.seq (hX.wp ctxR rfl bNa_fn nokR19 fun τ t => ?_)
  have k1 := k0.trans (Kp.at2 v τ t)
  have hx1 := hx.kp eqv_cel (Kp.at2 v τ t)
  generalize Go.Proofs.YtlipmagkplbkdaaDoor.at2 v τ t = v1 at k1 hx1 ⊢
  obtain ⟨b, o, A5, c5, m, hdx, rfl, _, y0, y1, y2, _, _, _, _⟩ := hx1.getCel (i := 0) (by simp)
  obtain rfl : m = cellN ⟨#[55]⟩ 93 := by have := hdx.out; simp at this; exact this.symm
  have y0 : v1.cell? ⟨b, o, none⟩ = some (.string ⟨#[55]⟩) := by
    have h : v1.cell? ⟨b, o + 0 * 3, none⟩ = some (.string ⟨#[55]⟩) := y0
    rwa [Nat.zero_mul, Nat.add_zero] at h
  clear y1 y2 hdx hx hx1 k0
  have Hk := Lib.hid hk; clear hk
  have HX := Lib.hid hX; clear hX
  have K1 := Lib.hid k1; clear k1
  dsimp only [naR19, naB, Tryd.f7]
  go_wp2
  exact Hk.out _ _ rfl rfl rfl rfl rfl rfl rfl K1.out
set_option maxRecDepth 100000 in
set_option maxHeartbeats 4000000 in
theorem na_20 {ch : Option Nat} {v v0 : World} {a : Act} (hz : a.tmps.size = 212) (hd : a.defers = []) (s4 : slot a 4 (.bool true)) (s18 : slot a 18 (.bool true)) (s21 : slot a 21 (.int .i64 16)) (s23 : slot a 23 (.int .i64 2)) (s24 : slot a 24 (.bool true)) (ht : TabAt v0) (hg : GAt v0) (k0 : Kp v0 v) :
    MS Tryd.prog SR gR sR (· = .bool true) [] ch (bNa.at a [.code (.seq (.region 20 naO20 false) .ret)]) [] v := by
  have hXX : ∀ ch, Walk Tryd.prog SR gR sR (MS Tryd.prog SR gR sR (· = .bool true) [] ch) := fun ch => MS.walk ctxR
  have hX := hXX ch
  refine hX.seq (hX.region ?_)
  rw [naz20]
  refine hX.val (v' := v) (some 192) (.bool true) (show naO20[0]? = some _ from rfl) (by kernel_rfl) rfl rfl (fun τ d => run_moveX a.eval _ (.inl rfl) rfl) ?_
  have hd : (a.put (some 192) (.bool true)).defers = [] := hd
  have s4 := slot_ne (d := 192) (x := .bool true) s4 (by decide)
  have s18 := slot_ne (d := 192) (x := .bool true) s18 (by decide)
  have s21 := slot_ne (d := 192) (x := .bool true) s21 (by decide)
  have s23 := slot_ne (d := 192) (x := .bool true) s23 (by decide)
  have s24 := slot_ne (d := 192) (x := .bool true) s24 (by decide)
  have s192 := slot_same (a := a) (d := 192) (x := .bool true) (by rw [hz]; decide)
  have hz : (a.put (some 192) (.bool true)).tmps.size = 212 := size_put hz
  generalize (a.put (some 192) (.bool true)) = y1 at hz hd s4 s18 s21 s23 s24 s192 ⊢
  refine hX.valG (v' := v) (some 193) (.bool true) (show naO20[1]? = some _ from rfl) (by kernel_rfl) (wanted_yes rfl (show naO20[0]? = some _ from rfl) rfl s192) rfl (fun τ d => run_moveX y1.eval (.tmp 4) (.inl rfl) s4) ?_
  have hd : (y1.put (some 193) (.bool true)).defers = [] := hd
  clear s4
  have s18 := slot_ne (d := 193) (x := .bool true) s18 (by decide)
  have s21 := slot_ne (d := 193) (x := .bool true) s21 (by decide)
  have s23 := slot_ne (d := 193) (x := .bool true) s23 (by decide)
  have s24 := slot_ne (d := 193) (x := .bool true) s24 (by decide)
  have s192 := slot_ne (d := 193) (x := .bool true) s192 (by decide)
  have s193 := slot_same (a := y1) (d := 193) (x := .bool true) (by rw [hz]; decide)
  have hz : (y1.put (some 193) (.bool true)).tmps.size = 212 := size_put hz
  generalize (y1.put (some 193) (.bool true)) = y2 at hz hd s18 s21 s23 s24 s192 s193 ⊢
  refine hX.val (v' := v) (some 194) (.bool true) (show naO20[2]? = some _ from rfl) (by kernel_rfl) rfl rfl (fun τ d => run_pickT y2.eval (.tmp 192) (.tmp 193) _ rfl s192 s193) ?_
  have hd : (y2.put (some 194) (.bool true)).defers = [] := hd
  have s18 := slot_ne (d := 194) (x := .bool true) s18 (by decide)
  have s21 := slot_ne (d := 194) (x := .bool true) s21 (by decide)
  have s23 := slot_ne (d := 194) (x := .bool true) s23 (by decide)
  have s24 := slot_ne (d := 194) (x := .bool true) s24 (by decide)
  clear s192
  clear s193
  have s194 := slot_same (a := y2) (d := 194) (x := .bool true) (by rw [hz]; decide)
  have hz : (y2.put (some 194) (.bool true)).tmps.size = 212 := size_put hz
  generalize (y2.put (some 194) (.bool true)) = y3 at hz hd s18 s21 s23 s24 s194 ⊢
  refine hX.val (v' := v) (some 195) (.bool true) (show naO20[3]? = some _ from rfl) (by kernel_rfl) rfl rfl (fun τ d => run_moveX y3.eval (.tmp 194) (.inl rfl) s194) ?_
  have hd : (y3.put (some 195) (.bool true)).defers = [] := hd
  have s18 := slot_ne (d := 195) (x := .bool true) s18 (by decide)
  have s21 := slot_ne (d := 195) (x := .bool true) s21 (by decide)
  have s23 := slot_ne (d := 195) (x := .bool true) s23 (by decide)
  have s24 := slot_ne (d := 195) (x := .bool true) s24 (by decide)
  clear s194
  have s195 := slot_same (a := y3) (d := 195) (x := .bool true) (by rw [hz]; decide)
  have hz : (y3.put (some 195) (.bool true)).tmps.size = 212 := size_put hz
  generalize (y3.put (some 195) (.bool true)) = y4 at hz hd s18 s21 s23 s24 s195 ⊢
  refine hX.valG (v' := v) (some 196) (.bool true) (show naO20[4]? = some _ from rfl) (by kernel_rfl) (wanted_yes rfl (show naO20[3]? = some _ from rfl) rfl s195) rfl (fun τ d => run_moveX y4.eval (.tmp 18) (.inl rfl) s18) ?_
  have hd : (y4.put (some 196) (.bool true)).defers = [] := hd
  clear s18
  have s21 := slot_ne (d := 196) (x := .bool true) s21 (by decide)
  have s23 := slot_ne (d := 196) (x := .bool true) s23 (by decide)
  have s24 := slot_ne (d := 196) (x := .bool true) s24 (by decide)
  have s195 := slot_ne (d := 196) (x := .bool true) s195 (by decide)
  have s196 := slot_same (a := y4) (d := 196) (x := .bool true) (by rw [hz]; decide)
  have hz : (y4.put (some 196) (.bool true)).tmps.size = 212 := size_put hz
  generalize (y4.put (some 196) (.bool true)) = y5 at hz hd s21 s23 s24 s195 s196 ⊢
  refine hX.val (v' := v) (some 197) (.bool true) (show naO20[5]? = some _ from rfl) (by kernel_rfl) rfl rfl (fun τ d => run_pickT y5.eval (.tmp 195) (.tmp 196) _ rfl s195 s196) ?_
  have hd : (y5.put (some 197) (.bool true)).defers = [] := hd
  have s21 := slot_ne (d := 197) (x := .bool true) s21 (by decide)
  have s23 := slot_ne (d := 197) (x := .bool true) s23 (by decide)
  have s24 := slot_ne (d := 197) (x := .bool true) s24 (by decide)
  clear s195
  clear s196
  have s197 := slot_same (a := y5) (d := 197) (x := .bool true) (by rw [hz]; decide)
  have hz : (y5.put (some 197) (.bool true)).tmps.size = 212 := size_put hz
  generalize (y5.put (some 197) (.bool true)) = y6 at hz hd s21 s23 s24 s197 ⊢
  refine hX.val (v' := v) (some 198) (.bool true) (show naO20[6]? = some _ from rfl) (by kernel_rfl) rfl rfl (fun τ d => run_moveX y6.eval (.tmp 197) (.inl rfl) s197) ?_
  have hd : (y6.put (some 198) (.bool true)).defers = [] := hd
  have s21 := slot_ne (d := 198) (x := .bool true) s21 (by decide)
  have s23 := slot_ne (d := 198) (x := .bool true) s23 (by decide)
  have s24 := slot_ne (d := 198) (x := .bool true) s24 (by decide)
  clear s197
  have s198 := slot_same (a := y6) (d := 198) (x := .bool true) (by rw [hz]; decide)
  have hz : (y6.put (some 198) (.bool true)).tmps.size = 212 := size_put hz
  generalize (y6.put (some 198) (.bool true)) = y7 at hz hd s21 s23 s24 s198 ⊢
  refine hX.valG (v' := v) (some 199) (.bool true) (show naO20[7]? = some _ from rfl) (by kernel_rfl) (wanted_yes rfl (show naO20[6]? = some _ from rfl) rfl s198) rfl (fun τ d => run_moveX y7.eval (.tmp 24) (.inl rfl) s24) ?_
  have hd : (y7.put (some 199) (.bool true)).defers = [] := hd
  have s21 := slot_ne (d := 199) (x := .bool true) s21 (by decide)
  have s23 := slot_ne (d := 199) (x := .bool true) s23 (by decide)
  clear s24
  have s198 := slot_ne (d := 199) (x := .bool true) s198 (by decide)
  have s199 := slot_same (a := y7) (d := 199) (x := .bool true) (by rw [hz]; decide)
  have hz : (y7.put (some 199) (.bool true)).tmps.size = 212 := size_put hz
  generalize (y7.put (some 199) (.bool true)) = y8 at hz hd s21 s23 s198 s199 ⊢
  refine hX.val (v' := v) (some 200) (.bool true) (show naO20[8]? = some _ from rfl) (by kernel_rfl) rfl rfl (fun τ d => run_pickT y8.eval (.tmp 198) (.tmp 199) _ rfl s198 s199) ?_
  have hd : (y8.put (some 200) (.bool true)).defers = [] := hd
  have s21 := slot_ne (d := 200) (x := .bool true) s21 (by decide)
  have s23 := slot_ne (d := 200) (x := .bool true) s23 (by decide)
  clear s198
  clear s199
  have s200 := slot_same (a := y8) (d := 200) (x := .bool true) (by rw [hz]; decide)
  have hz : (y8.put (some 200) (.bool true)).tmps.size = 212 := size_put hz
  generalize (y8.put (some 200) (.bool true)) = y9 at hz hd s21 s23 s200 ⊢
  refine hX.val (v' := v) (some 201) (.bool true) (show naO20[9]? = some _ from rfl) (by kernel_rfl) rfl rfl (fun τ d => run_moveX y9.eval (.tmp 200) (.inl rfl) s200) ?_
  have hd : (y9.put (some 201) (.bool true)).defers = [] := hd
  have s21 := slot_ne (d := 201) (x := .bool true) s21 (by decide)
  have s23 := slot_ne (d := 201) (x := .bool true) s23 (by decide)
  clear s200
  have s201 := slot_same (a := y9) (d := 201) (x := .bool true) (by rw [hz]; decide)
  have hz : (y9.put (some 201) (.bool true)).tmps.size = 212 := size_put hz
  generalize (y9.put (some 201) (.bool true)) = y10 at hz hd s21 s23 s201 ⊢
  refine hX.valG (v' := v) (some 202) (.int .i64 16) (show naO20[10]? = some _ from rfl) (by kernel_rfl) (wanted_yes rfl (show naO20[9]? = some _ from rfl) rfl s201) rfl (fun τ d => run_moveX y10.eval (.tmp 21) (.inl rfl) s21) ?_
  have hd : (y10.put (some 202) (.int .i64 16)).defers = [] := hd
  clear s21
  have s23 := slot_ne (d := 202) (x := .int .i64 16) s23 (by decide)
  have s201 := slot_ne (d := 202) (x := .int .i64 16) s201 (by decide)
  have s202 := slot_same (a := y10) (d := 202) (x := .int .i64 16) (by rw [hz]; decide)
  have hz : (y10.put (some 202) (.int .i64 16)).tmps.size = 212 := size_put hz
  generalize (y10.put (some 202) (.int .i64 16)) = y11 at hz hd s23 s201 s202 ⊢
  refine hX.valG (v' := v) (some 203) (.bool true) (show naO20[11]? = some _ from rfl) (by kernel_rfl) (wanted_yes rfl (show naO20[9]? = some _ from rfl) rfl s201) rfl (fun τ d => (run_eql y11.eval 27 27 (.tmp 202) _ rfl Tryd.underlying27 (m := 16) s202 (n := 16) rfl).trans (by rw [dec16])) ?_
  have hd : (y11.put (some 203) (.bool true)).defers = [] := hd
  have s23 := slot_ne (d := 203) (x := .bool true) s23 (by decide)
  have s201 := slot_ne (d := 203) (x := .bool true) s201 (by decide)
  clear s202
  have s203 := slot_same (a := y11) (d := 203) (x := .bool true) (by rw [hz]; decide)
  have hz : (y11.put (some 203) (.bool true)).tmps.size = 212 := size_put hz
  generalize (y11.put (some 203) (.bool true)) = y12 at hz hd s23 s201 s203 ⊢
  refine hX.val (v' := v) (some 204) (.bool true) (show naO20[12]? = some _ from rfl) (by kernel_rfl) rfl rfl (fun τ d => run_pickT y12.eval (.tmp 201) (.tmp 203) _ rfl s201 s203) ?_
  have hd : (y12.put (some 204) (.bool true)).defers = [] := hd
  have s23 := slot_ne (d := 204) (x := .bool true) s23 (by decide)
  clear s201
  clear s203
  have s204 := slot_same (a := y12) (d := 204) (x := .bool true) (by rw [hz]; decide)
  have hz : (y12.put (some 204) (.bool true)).tmps.size = 212 := size_put hz
  generalize (y12.put (some 204) (.bool true)) = y13 at hz hd s23 s204 ⊢
  refine hX.val (v' := v) (some 205) (.bool true) (show naO20[13]? = some _ from rfl) (by kernel_rfl) rfl rfl (fun τ d => run_moveX y13.eval (.tmp 204) (.inl rfl) s204) ?_
  have hd : (y13.put (some 205) (.bool true)).defers = [] := hd
  have s23 := slot_ne (d := 205) (x := .bool true) s23 (by decide)
  clear s204
  have s205 := slot_same (a := y13) (d := 205) (x := .bool true) (by rw [hz]; decide)
  have hz : (y13.put (some 205) (.bool true)).tmps.size = 212 := size_put hz
  generalize (y13.put (some 205) (.bool true)) = y14 at hz hd s23 s205 ⊢
  refine hX.valG (v' := v) (some 206) (.int .i64 2) (show naO20[14]? = some _ from rfl) (by kernel_rfl) (wanted_yes rfl (show naO20[13]? = some _ from rfl) rfl s205) rfl (fun τ d => run_moveX y14.eval (.tmp 23) (.inl rfl) s23) ?_
  have hd : (y14.put (some 206) (.int .i64 2)).defers = [] := hd
  clear s23
  have s205 := slot_ne (d := 206) (x := .int .i64 2) s205 (by decide)
  have s206 := slot_same (a := y14) (d := 206) (x := .int .i64 2) (by rw [hz]; decide)
  have hz : (y14.put (some 206) (.int .i64 2)).tmps.size = 212 := size_put hz
  generalize (y14.put (some 206) (.int .i64 2)) = y15 at hz hd s205 s206 ⊢
  refine hX.valG (v' := v) (some 207) (.bool true) (show naO20[15]? = some _ from rfl) (by kernel_rfl) (wanted_yes rfl (show naO20[13]? = some _ from rfl) rfl s205) rfl (fun τ d => (run_eql y15.eval 27 27 (.tmp 206) _ rfl Tryd.underlying27 (m := 2) s206 (n := 2) rfl).trans (by rw [dec2])) ?_
  have hd : (y15.put (some 207) (.bool true)).defers = [] := hd
  have s205 := slot_ne (d := 207) (x := .bool true) s205 (by decide)
  clear s206
  have s207 := slot_same (a := y15) (d := 207) (x := .bool true) (by rw [hz]; decide)
  have hz : (y15.put (some 207) (.bool true)).tmps.size = 212 := size_put hz
  generalize (y15.put (some 207) (.bool true)) = y16 at hz hd s205 s207 ⊢
  refine hX.val (v' := v) (some 208) (.bool true) (show naO20[16]? = some _ from rfl) (by kernel_rfl) rfl rfl (fun τ d => run_pickT y16.eval (.tmp 205) (.tmp 207) _ rfl s205 s207) ?_
  have hd : (y16.put (some 208) (.bool true)).defers = [] := hd
  clear s205
  clear s207
  have s208 := slot_same (a := y16) (d := 208) (x := .bool true) (by rw [hz]; decide)
  have hz : (y16.put (some 208) (.bool true)).tmps.size = 212 := size_put hz
  generalize (y16.put (some 208) (.bool true)) = y17 at hz hd s208 ⊢
  refine hX.val (v' := v) (some 209) (.bool true) (show naO20[17]? = some _ from rfl) (by kernel_rfl) rfl rfl (fun τ d => run_moveX y17.eval (.tmp 208) (.inl rfl) s208) ?_
  have hd : (y17.put (some 209) (.bool true)).defers = [] := hd
  clear s208
  have s209 := slot_same (a := y17) (d := 209) (x := .bool true) (by rw [hz]; decide)
  have hz : (y17.put (some 209) (.bool true)).tmps.size = 212 := size_put hz
  generalize (y17.put (some 209) (.bool true)) = y18 at hz hd s209 ⊢
  refine MS.enter ctxR (show naO20[18]? = some _ from rfl) (wanted_yes rfl (show naO20[17]? = some _ from rfl) rfl s209) rfl (by kernel_rfl) ⟨_, _, Tryd.func33, alBody, by kernel_rfl⟩ ?_
  show MS Tryd.prog SR gR sR (· = .bool true) [] _ (Frame.enter Tryd.prog 33 ((#[] : Array Operand).map y18.eval) .normal) _ v
  rw [map_none]
  refine alive_ms (ht.kp k0 hg) (hg.kp k0) ?_
  intro ch a' va19 todo hd' q0 kk
  have hX := hXX ch
  refine hX.back' (x := .bool true) rfl rfl Tryd.func33 (show naO20[18]? = some _ from rfl) (fun τ d => (results_one (p := 0) rfl _).trans (congrArg (fun z => Result.ok z _) (show (a'.tmps.getD 0 undef) = _ from q0))) ?_
  show MS Tryd.prog SR gR sR (· = .bool true) [] ch (bNa.at (y18.put (some 210) (.bool true)) _) [] va19
  have k0 := k0.trans kk
  clear kk
  have hd : (y18.put (some 210) (.bool true)).defers = [] := hd
  have s209 := slot_ne (d := 210) (x := .bool true) s209 (by decide)
  have s210 := slot_same (a := y18) (d := 210) (x := .bool true) (by rw [hz]; decide)
  have hz : (y18.put (some 210) (.bool true)).tmps.size = 212 := size_put hz
  generalize (y18.put (some 210) (.bool true)) = y20 at hz hd s209 s210 ⊢
  refine hX.val (v' := va19) (some 211) (.bool true) (show naO20[19]? = some _ from rfl) (by kernel_rfl) rfl rfl (fun τ d => run_pickT y20.eval (.tmp 209) (.tmp 210) _ rfl s209 s210) ?_
  have hd : (y20.put (some 211) (.bool true)).defers = [] := hd
  clear s209
  clear s210
  have s211 := slot_same (a := y20) (d := 211) (x := .bool true) (by rw [hz]; decide)
  have hz : (y20.put (some 211) (.bool true)).tmps.size = 212 := size_put hz
  generalize (y20.put (some 211) (.bool true)) = y21 at hz hd s211 ⊢
  refine hX.val (v' := va19) (some 0) (.bool true) (show naO20[20]? = some _ from rfl) (by kernel_rfl) rfl rfl (fun τ d => run_moveX y21.eval (.tmp 211) (.inr rfl) s211) ?_
  have hd : (y21.put (some 0) (.bool true)).defers = [] := hd
  clear s211
  have s0 := slot_same (a := y21) (d := 0) (x := .bool true) (by rw [hz]; decide)
  have hz : (y21.put (some 0) (.bool true)).tmps.size = 212 := size_put hz
  generalize (y21.put (some 0) (.bool true)) = y22 at hz hd s0 ⊢
  exact hX.done (hX.ret (na_fin hd s0))
theorem na_ms {v0 : World} (ht : TabAt v0) (hg : GAt v0) : MS Tryd.prog SR gR sR (· = .bool true) [] none (Frame.enter Tryd.prog 7 #[] .normal) [] v0 := by
  refine na_a ht hg ?_
  intro a v hz hd s4 s5 k0
  refine na_b ht hg hz hd s4 s5 k0 ?_
  clear hz hd s4 s5 k0
  intro a v C cc X xc hz hd s4 s7 s9 s10 s11 s13 s15 s16 s17 hx k0
  refine na_c ht hg hz hd s4 s7 s9 s10 s11 s13 s15 s16 s17 hx k0 ?_
  clear hz hd s4 s7 s9 s10 s11 s13 s15 s16 s17 hx k0
  intro a v G hz hd s4 s7 s9 s10 s11 s13 s15 s16 s17 s18 s19 hx hr k0
  unfold naT3
  refine na_17 hz hd s4 s7 s9 s10 s11 s13 s15 s16 s17 s18 s19 hx hr ht hg k0 ?_
  clear hz hd s4 s7 s9 s10 s11 s13 s15 s16 s17 s18 s19 hx hr k0
  intro ch a v hz hd s4 s7 s9 s10 s11 s13 s15 s16 s17 s18 s19 s21 hx hr k0
  refine na_18 hz hd s4 s7 s9 s10 s11 s13 s15 s16 s17 s18 s19 s21 hx hr ht hg k0 ?_
  clear hz hd s4 s7 s9 s10 s11 s13 s15 s16 s17 s18 s19 s21 hx hr k0
  intro ch a v hz hd s4 s7 s9 s10 s11 s13 s15 s16 s17 s18 s19 s21 s23 hx hr k0
  refine na_19 (G := G) hz hd s4 s7 s9 s10 s11 s13 s15 s16 s17 s18 s19 s21 s23 hx k0 ?_
  clear hz hd s4 s7 s9 s10 s11 s13 s15 s16 s17 s18 s19 s21 s23 hx hr k0
  intro a v hz hd s4 s18 s21 s23 s24 k0
  exact na_20 hz hd s4 s18 s21 s23 s24 ht hg k0
end Go.Proofs.YtlipmagkplbkdaaDoor
