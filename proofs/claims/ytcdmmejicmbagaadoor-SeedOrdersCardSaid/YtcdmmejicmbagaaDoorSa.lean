/-
  Layer 5: the walks of Of.
-/
import Derived.Test.YtcdmmejicmbagaaDoorProg
import Derived.Test.YtcdmmejicmbagaaDoorBase
import Derived.Laws.IdiomStrings
import Derived.OpenShut
namespace Go.Proofs.YtcdmmejicmbagaaDoor
open Go.RowKit

def ofStep (h : Int) (b : UInt8) : Int := IntKind.u64.wrap (bits .xor .u64 h (IntKind.u64.wrap (b.toNat : Int)) * 1099511628211)
def ofStart (s : Int) : Int := bits .xor .u64 (IntKind.u64.wrap s) 11400714819323198485
def ofEnd (x : Int) : Int :=
  bits .xor .u64
    (IntKind.u64.wrap (bits .xor .u64 (IntKind.u64.wrap (bits .xor .u64 x (x / 1073741824) * 13787848793156543929)) (IntKind.u64.wrap (bits .xor .u64 x (x / 1073741824) * 13787848793156543929) / 134217728) * 10723151780598845931))
    (IntKind.u64.wrap (bits .xor .u64 (IntKind.u64.wrap (bits .xor .u64 x (x / 1073741824) * 13787848793156543929)) (IntKind.u64.wrap (bits .xor .u64 x (x / 1073741824) * 13787848793156543929) / 134217728) * 10723151780598845931) / 2147483648)
def ofFold (s : Int) (p : ByteArray) : Int := p.data.toList.foldl ofStep (ofStart s)
def ofF (s : Int) (p : ByteArray) : Int := ofEnd (ofFold s p)
theorem ofF_range (s : Int) (p : ByteArray) : 0 ≤ ofF s p ∧ ofF s p ≤ 18446744073709551615 := by
  have := wf_bits .xor .u64 (IntKind.u64.wrap (bits .xor .u64 (IntKind.u64.wrap (bits .xor .u64 (ofFold s p) (ofFold s p / 1073741824) * 13787848793156543929)) (IntKind.u64.wrap (bits .xor .u64 (ofFold s p) (ofFold s p / 1073741824) * 13787848793156543929) / 134217728) * 10723151780598845931))
    (IntKind.u64.wrap (bits .xor .u64 (IntKind.u64.wrap (bits .xor .u64 (ofFold s p) (ofFold s p / 1073741824) * 13787848793156543929)) (IntKind.u64.wrap (bits .xor .u64 (ofFold s p) (ofFold s p / 1073741824) * 13787848793156543929) / 134217728) * 10723151780598845931) / 2147483648)
  simpa [ofF, ofEnd, Lit.wf, IntKind.min, IntKind.max, IntKind.signed, IntKind.bits] using this


theorem drop_bytes {p : ByteArray} {k : Nat} (h : k < p.size) : p.data.toList.drop k = p[k] :: p.data.toList.drop (k + 1) := by
  have hk : k < p.data.toList.length := by simpa using h
  rw [List.drop_eq_getElem_cons hk]
  rfl

set_option maxHeartbeats 1000000 in
theorem refOf_calls (s : Int) (p : ByteArray) (w : World) (hs : Fits .i64 s) (hp : p.size ≤ 500) :
    Calls Tryd.prog 20 #[.int .i64 s, .string p] w (U64Post (ofF s p) w) := by
  have hs' := hs.i64
  go_enter Tryd.func20, Tryd.ntmps20
  go_wp2
  go_loop [6, 5] (fun i h => ∃ k : Nat, k ≤ p.size ∧ i = .int .i64 k ∧ ∃ x : Int, h = .int .u64 x ∧ Hid (ofFold s p = (p.data.toList.drop k).foldl ofStep x)) (fun i _ => p.size - (intOf i).toNat)
  case atStart => exact ⟨0, Nat.zero_le _, rfl, _, rfl, rfl⟩
  case round =>
    obtain ⟨k, hk, rfl, x, rfl, hf⟩ := hrel
    by_cases hlt : k < p.size
    · go_wp2
      go_round
      case rel =>
        refine ⟨k + 1, by omega, by go_num, _, rfl, ?_⟩
        unfold Hid; rw [hf.out, drop_bytes hlt]; rfl
      case measure => simp [intOf]; omega
    · have hx : ofFold s p = x := by rw [hf.out, List.drop_eq_nil_of_le (by simpa using hlt)]; rfl
      have Hx := Lib.hid hx; clear hx
      go_wp2
      go_ret
      exact ⟨ret_u64 (by unfold ofF; rw [Hx.out]; rfl), Below.refl _ _⟩

theorem bytes_conv (w : World) (p : ByteArray) : ∃ wb cap, (convert 9 38 (.string p)).run Tryd.prog w = .ok (.slice (some ⟨w.heap.size, 0, none⟩) p.size cap) wb ∧ Below w.heap.size w wb ∧
    ∀ (i : Nat) (h : i < p.size), wb.cell? ⟨w.heap.size, i, none⟩ = some (.int .u8 (p[i].toNat : Int)) := by
  refine ⟨_, _, run_bytes_of_string w 9 38 5 p Tryd.underlying9 Tryd.underlying38 Tryd.underlying5, ?_, ?_⟩
  · exact (Below.refl w.heap.size w.drew |> fun h => (show Below w.heap.size w w.drew from ⟨rfl, rfl, rfl, Nat.le_refl _, fun _ _ => rfl⟩).alloc (Nat.le_refl _) _)
  · intro i hi
    have hget : (bytesRow p (grownCap w p.size 0 5))[i]? = some (.int .u8 (p[i].toNat : Int)) := by
      unfold bytesRow
      rw [Array.getElem?_append_left (by simpa using hi)]
      simp [Array.getElem?_eq_getElem (show i < p.data.size from hi)]
      rfl
    rw [← hget]
    exact cell_of_row _ w.heap.size i _ _ _ (heap_alloc_new w.drew _)

set_option maxHeartbeats 1000000 in
theorem of_calls (s : Int) (p : ByteArray) (w : World) (hs : Fits .i64 s) (hp : p.size ≤ 500) :
    Calls Tryd.prog 15 #[.int .i64 s, .string p] w (U64Post (ofF s p) w) := by
  have hs' := hs.i64
  obtain ⟨wb, cap, hcv, hb, hcells⟩ := bytes_conv w p
  have Hcells := Lib.hid hcells; clear hcells
  have Hb := Lib.hid hb; clear hb
  go_enter Tryd.func15, Tryd.ntmps15
  go_wp2
  go_loop [14, 5] (fun i h => ∃ k : Nat, k ≤ p.size ∧ i = .int .i64 k ∧ ∃ x : Int, h = .int .u64 x ∧ Hid (ofFold s p = (p.data.toList.drop k).foldl ofStep x)) (fun i _ => p.size - (intOf i).toNat)
  case atStart => exact ⟨0, Nat.zero_le _, rfl, _, rfl, rfl⟩
  case round =>
    obtain ⟨k, hk, rfl, x, rfl, hf⟩ := hrel
    by_cases hlt : k < p.size
    · have hc := Hcells.out k hlt
      go_wp2
      go_round
      case rel =>
        refine ⟨k + 1, by omega, by go_num, _, rfl, ?_⟩
        unfold Hid; rw [hf.out, drop_bytes hlt]; rfl
      case measure => simp [intOf]; omega
    · have hx : ofFold s p = x := by rw [hf.out, List.drop_eq_nil_of_le (by simpa using hlt)]; rfl
      have Hx := Lib.hid hx; clear hx
      go_wp2
      go_ret
      exact ⟨ret_u64 (by unfold ofF; rw [Hx.out]; rfl), Hb.out⟩
end Go.Proofs.YtcdmmejicmbagaaDoor
