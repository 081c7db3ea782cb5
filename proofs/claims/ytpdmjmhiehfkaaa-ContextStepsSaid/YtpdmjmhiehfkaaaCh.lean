/-
  Layer 8: the walk of the reference's search for a rule that fits.
-/
import Derived.Test.YtpdmjmhiehfkaaaCg
namespace Go.Proofs.Ytpdmjmhiehfkaaa
open Go.RowKit Go.Sort Go.BigFrame

theorem firstC_none {q : Rul → Bool} : ∀ {rs : List Rul} {k : Nat}, (∀ r ∈ rs, q r = false) → firstC q rs k = -1
  | [], _, _ => rfl
  | r :: rs, k, h => by rw [firstC_no (h r (by simp))]; exact firstC_none fun x hx => h x (by simp [hx])
theorem core_plain {r : Rul} (h : coreR r = true) : plainC r.name = true := by
  unfold coreR at h; unfold plainC
  simp only [Bool.and_eq_true] at h ⊢
  exact h.1.1.1.1.1
theorem findC_bracket {p : ByteArray} {rs : List Rul} {ms : List Mod} {i : Nat} {m : Mod} (hm : ms[i]? = some m) (h : rs.all coreR = true) (hp : plainC m.name = false) : findC p rs ms i = -1 :=
  firstC_none fun r hr => by
    rw [fitC_of hm]
    have hc := core_plain (List.all_eq_true.1 h r hr)
    have hn : (r.name != m.name) = true := by
      cases hx : (r.name != m.name)
      · have he : r.name = m.name := by simpa using hx
        rw [he, hp] at hc; cases hc
      · rfl
    rw [fitsF_name hn]; rfl
theorem plainC_brk {c : Int} (h : plainC c = true) : brkB c = false := by
  unfold plainC at h; unfold brkB
  simp only [Bool.and_eq_true, bne_iff_ne] at h
  simp [h.1.2, h.2]
theorem below_same {P : Program} {f : FuncId} {args : Array Value} {v : Value} {w : World} (h : Calls P f args w fun e w' => e = .returned v ∧ w = w') : Calls P f args w fun e w' => e = .returned v ∧ Below w.heap.size w w' :=
  h.mono fun _ _ ⟨he, hw⟩ => ⟨he, by rw [← hw]; exact Below.refl _ _⟩
theorem fitC_steps (p : ByteArray) (ms : List Mod) (i : Nat) (m : Mod) (r : Rul) (hm : ms[i]? = some m) :
    (fitC p ms i r = false ∧ fitsF r m = false) ∨ (fitsF r m = true ∧ ((fitC p ms i r = false ∧ atB ms (leftF p ms i) r.left = false) ∨
      (atB ms (leftF p ms i) r.left = true ∧ ((fitC p ms i r = false ∧ atB ms (rightF p ms i) r.right = false) ∨ (fitC p ms i r = true ∧ atB ms (rightF p ms i) r.right = true))))) := by
  rw [fitC_of hm]
  cases fitsF r m <;> cases atB ms (leftF p ms i) r.left <;> cases atB ms (rightF p ms i) r.right <;> simp

set_option maxRecDepth 100000 in
set_option maxHeartbeats 4000000 in
theorem cFirst_calls (A : Option Addr) (c : Nat) (rs : List Rul) (B : Option Addr) (cb : Nat) (ms : List Mod) (p : ByteArray) (i : Nat) (w : World)
    (h : SlAt pRul (Old w) w A c rs) (h' : SlAt pMod (Old w) w B cb ms) (hco : rs.all coreR = true) (hfine : ∀ m ∈ ms, fineF m = true) (hi : i < ms.length) (hl : ms.length ≤ 100000) (hp : p.size ≤ 1000) :
    Calls Try.prog 30 #[.slice A rs.length c, .string p, .slice B ms.length cb, .int .i64 i] w (IntPost (findC p rs ms i) w) := by
  have hmx := h.lenle
  have hmx' := h'.lenle
  obtain ⟨b, o, D, d, m, hd, rfl, hob, q0, q1, hx8, hxa, hxl⟩ := h'.getMod hi
  have hob' : b < w.heap.size := hob
  have hmi := get_of_drop hd.out
  have hargs := fine_args (hfine m (mem_of_drop hd.out))
  have hnm := nameAt_drop hd.out
  have hi0 : (0 : Int) ≤ (i : Int) := Int.natCast_nonneg _
  have hi1 : (i : Int) < (ms.length : Int) := by omega
  have hst : findC p rs ms i = firstC (fitC p ms i) (rs.drop 0) 0 := rfl
  have hcas := fun r => fitC_steps p ms i m r hmi
  cases hpl : plainC m.name
  case false =>
    have hno := findC_bracket (p := p) hmi hco hpl
    have hcp := fun W => refPlain_calls m.name W
    rw [hpl] at hcp
    have H := Lib.hid h; clear h
    have H' := Lib.hid h'; clear h'
    have Hno := Lib.hid hno; clear hno
    have Hcp := Lib.hid hcp; clear hcp
    have Hpl := Lib.hid hpl; clear hpl
    have Hcas := Lib.hid hcas; clear hcas
    have Hst := Lib.hid hst; clear hst
    have Hd := Lib.hid hd; clear hd
    have Hxa := Lib.hid hxa; clear hxa
    have Hargs := Lib.hid hargs; clear hargs
    have Hmi := Lib.hid hmi; clear hmi
    have Hco := Lib.hid hco; clear hco
    have Hnm := Lib.hid hnm; clear hnm
    clear hfine
    go_enter Try.func30, Try.ntmps30
    go_wp2
    go_loop [9] (fun z => ∃ k : Nat, k ≤ rs.length ∧ z = .int .i64 k) (fun z => rs.length - (intOf z).toNat)
    case atStart => exact ⟨0, Nat.zero_le _, rfl⟩
    case round =>
      obtain ⟨k, hk, rfl⟩ := hrel
      by_cases hlt : k < rs.length
      · go_wp2_with (go_at_call 36; refine (Hcp.out _).mono ?_; rintro e w' ⟨rfl, rfl⟩)
        go_ret
        exact ⟨ret_int Hno.out.symm, Below.refl _ _⟩
      · go_wp2
        go_ret
        exact ⟨ret_int Hno.out.symm, Below.refl _ _⟩
  case true =>
  have hbk := plainC_brk hpl
  have hll : leftF p ms i = befAt p ms i 0 := by unfold leftF; rw [hnm, hbk]; rfl
  have hrr : rightF p ms i = behAt p (ms.drop (i + 1)) (i + 1) 0 := by unfold rightF; rw [hnm, hbk]; rfl
  have hlg := leftF_rng p ms i
  have hrg := rightF_rng p ms i hi
  have hbe := fun W hW => before_calls (some ⟨b, o, none⟩) cb ms i p W hW (Nat.le_of_lt hi) hl hp
  have hbh := fun W hW => behind_calls (some ⟨b, o, none⟩) cb ms i p W hW hi hl hp
  have hcp := fun W => refPlain_calls m.name W
  obtain ⟨lv, hlv⟩ : ∃ lv, leftF p ms i = lv := ⟨_, rfl⟩
  obtain ⟨rv, hrv⟩ : ∃ rv, rightF p ms i = rv := ⟨_, rfl⟩
  rw [hpl] at hcp
  simp only [← hll, hlv] at hbe
  simp only [← hrr, hrv] at hbh
  simp only [hlv, hrv] at hcas
  rw [hlv] at hlg
  rw [hrv] at hrg
  have hll1 : lv < ms.length := by omega
  have H := Lib.hid h; clear h
  have H' := Lib.hid h'; clear h'
  have Hcp := Lib.hid hcp; clear hcp
  have Hpl := Lib.hid hpl; clear hpl
  have Hcas := Lib.hid hcas; clear hcas
  have Hst := Lib.hid hst; clear hst
  have Hd := Lib.hid hd; clear hd
  have Hxa := Lib.hid hxa; clear hxa
  have Hargs := Lib.hid hargs; clear hargs
  have Hmi := Lib.hid hmi; clear hmi
  have Hco := Lib.hid hco; clear hco
  have Hnm := Lib.hid hnm; clear hnm
  have Hll := Lib.hid hll; clear hll
  have Hrr := Lib.hid hrr; clear hrr
  have Hlv := Lib.hid hlv; clear hlv
  have Hrv := Lib.hid hrv; clear hrv
  have Hbe := Lib.hid hbe; clear hbe
  have Hbh := Lib.hid hbh; clear hbh
  have Hbk := Lib.hid hbk; clear hbk
  have Hlg := Lib.hid hlg; clear hlg
  clear hfine
  go_enter Try.func30, Try.ntmps30
  go_wp2
  go_loopw [9] (fun z wr => ∃ k : Nat, k ≤ rs.length ∧ z = .int .i64 k ∧ Hid (Below w.heap.size w wr) ∧ w.heap.size ≤ wr.heap.size ∧ Hid (findC p rs ms i = firstC (fitC p ms i) (rs.drop k) k)) (fun z _ => rs.length - (intOf z).toNat)
  case atStart => exact ⟨0, Nat.zero_le _, rfl, Below.refl _ _, Nat.le_refl _, Hst⟩
  case round =>
    obtain ⟨k, hk, rfl, hb, hsz, hall⟩ := hrel
    obtain ⟨wo, rfl⟩ : ∃ wo : World, wo = wr := ⟨_, rfl⟩
    by_cases hlt : k < rs.length
    case neg =>
      have hy : findC p rs ms i = -1 := by rw [hall.out, drop_end hlt]; rfl
      have Hy := Lib.hid hy; clear hy
      clear q0 q1
      go_wp2
      go_ret
      exact ⟨ret_int Hy.out.symm, hb.out⟩
    case pos =>
      obtain ⟨b4, o4, A5, c5, A6, c6, r, hdr, rfl, hob4, k0, k1, k2, k3, k4, k5, k6, hat, hl1, hl2⟩ := (H.out.below hb.out).getRulAt hlt
      have hob4' : b4 < wo.heap.size := by have : b4 < w.heap.size := hob4; omega
      have hmem := mem_of_drop hdr.out
      have hco1 : coreR r = true := List.all_eq_true.1 Hco.out r hmem
      have n0 := (cell_keep (hb.out.block _ hob')).trans q0
      have n1 := (cell_keep (hb.out.block _ hob')).trans q1
      have g0 := cell_regrown k0
      have g1 := cell_regrown k1
      have g2 := cell_regrown k2
      have g3 := cell_regrown k3
      have g4 := cell_regrown k4
      have g5 := cell_regrown k5
      have g6 := cell_regrown k6
      have u0 := cell_regrown n0
      have u1 := cell_regrown n1
      have hk0 : (0 : Int) ≤ (k : Int) := Int.natCast_nonneg _
      have hk1 : (k : Int) < (rs.length : Int) := by omega
      have hms : ∀ q os, SlAt pMod (Old (grow (redrawn wo q) os)) (grow (redrawn wo q) os) (some ⟨b, o, none⟩) cb ms := fun q os =>
        have hg := below_regrown wo q os
        H'.out.later (hb.out.trans (hg.mono hsz))
      have hcF : ∀ (q : Nat) (os : Array Obj), Calls Try.prog 47 #[.agg #[.int .u8 r.name, .int .i64 r.arity, .int .u8 r.left, .int .u8 r.right, .slice A5 r.guards.length c5, .int .i64 r.weight, .slice A6 r.out.length c6], .agg #[.int .u8 m.name, .slice D m.args.length d]] (grow (redrawn wo q) os) fun e w'' => e = .returned (.bool (fitsF r m)) ∧ ∃ p : Regrown, w'' = grow (redrawn wo p.d) p.os := fun q os =>
        have hg := below_regrown wo q os
        Calls.regrown_of (fits_calls r A5 c5 A6 c6 D d m _ (hat.out.to hsz hg) (Hxa.out.out.later (hb.out.trans (hg.mono hsz))) hco1 Hargs.out)
      have hcB : ∀ (q : Nat) (os : Array Obj), Calls Try.prog 25 #[.slice (some ⟨b, o, none⟩) ms.length cb, .int .i64 i, .string p] (grow (redrawn wo q) os) fun e w'' => e = .returned (.int .i64 lv) ∧ ∃ p : Regrown, w'' = grow (redrawn wo p.d) p.os := fun q os =>
        Calls.regrown_of (below_same (Hbe.out _ (hms q os)))
      have hcH : ∀ (q : Nat) (os : Array Obj), Calls Try.prog 26 #[.slice (some ⟨b, o, none⟩) ms.length cb, .int .i64 i, .string p] (grow (redrawn wo q) os) fun e w'' => e = .returned (.int .i64 rv) ∧ ∃ p : Regrown, w'' = grow (redrawn wo p.d) p.os := fun q os =>
        Calls.regrown_of (below_same (Hbh.out _ (hms q os)))
      have hcL : ∀ (q : Nat) (os : Array Obj), Calls Try.prog 48 #[.slice (some ⟨b, o, none⟩) ms.length cb, .int .i64 lv, .int .u8 r.left] (grow (redrawn wo q) os) fun e w'' => e = .returned (.bool (atB ms lv r.left)) ∧ ∃ p : Regrown, w'' = grow (redrawn wo p.d) p.os := fun q os =>
        Calls.regrown_of (below_same (named_calls _ cb ms lv r.left _ (hms q os) hll1))
      have hcR : ∀ (q : Nat) (os : Array Obj), Calls Try.prog 48 #[.slice (some ⟨b, o, none⟩) ms.length cb, .int .i64 rv, .int .u8 r.right] (grow (redrawn wo q) os) fun e w'' => e = .returned (.bool (atB ms rv r.right)) ∧ ∃ p : Regrown, w'' = grow (redrawn wo p.d) p.os := fun q os =>
        Calls.regrown_of (below_same (named_calls _ cb ms rv r.right _ (hms q os) hrg.2))
      have hnext : fitC p ms i r = false → findC p rs ms i = firstC (fitC p ms i) (rs.drop (k + 1)) (k + 1) := fun hf => by rw [hall.out, hdr.out, firstC_no hf]
      have hfound : fitC p ms i r = true → findC p rs ms i = (k : Int) := fun hf => by rw [hall.out, hdr.out, firstC_yes hf]
      have hcs := Hcas.out r
      have HcF := Lib.hid hcF; clear hcF
      have HcB := Lib.hid hcB; clear hcB
      have HcH := Lib.hid hcH; clear hcH
      have HcL := Lib.hid hcL; clear hcL
      have HcR := Lib.hid hcR; clear hcR
      have Hnext := Lib.hid hnext; clear hnext
      have Hfound := Lib.hid hfound; clear hfound
      have Hat := Lib.hid hat; clear hat
      have Hms := Lib.hid hms; clear hms
      have Hco1 := Lib.hid hco1; clear hco1
      clear k0 k1 k2 k3 k4 k5 k6 q0 q1
      go_upto_region 4 with (go_at_call 36; refine (Hcp.out _).mono ?_; rintro e w' ⟨rfl, rfl⟩)
      clear n0 n1
      rcases hcs with ⟨hf, e1⟩ | ⟨e1, (⟨hf, e2⟩ | ⟨e2, (⟨hf, e3⟩ | ⟨hf, e3⟩)⟩)⟩
      all_goals
        (try rw [e1] at HcF)
        (try rw [e2] at HcL)
        (try rw [e3] at HcR)
        have Hf := Lib.hid hf; clear hf
        refine wp_region_quiet_below (by kernel_rfl) (by kernel_rfl) ?_
        iterate 9 (go_big_quiet_step (exact (HcF.out _ _).mono fun e w'' h => h))
        iterate 6 (go_big_quiet_step (exact (HcB.out _ _).mono fun e w'' h => h))
        iterate 6 (go_big_quiet_step (exact (HcL.out _ _).mono fun e w'' h => h))
        iterate 7 (go_big_quiet_step (exact (HcH.out _ _).mono fun e w'' h => h))
        iterate 7 (go_big_quiet_step (exact (HcR.out _ _).mono fun e w'' h => h))
        refine wpQuiet_nil ?_
        intro _ hw'
        obtain ⟨⟨dq, osq⟩, hw''⟩ := hw'
        subst hw''
        have hbr := below_regrown wo dq osq
        generalize grow (redrawn wo dq) osq = w5 at hbr ⊢
        have hz5 := hbr.size
        have hb5 : Below w.heap.size w w5 := hb.out.trans (hbr.mono hsz)
        have Hb5 := Lib.hid hb5; clear hb5
        clear g0 g1 g2 g3 g4 g5 g6 u0 u1 hbr
        first
          | (have hn := Hnext.out Hf.out
             have Hn := Lib.hid hn; clear hn
             go_wp2
             go_roundw
             case rel => exact ⟨k + 1, hlt, by go_num, Hb5, by omega, Hn⟩
             case measure => simp [intOf]; omega)
          | (have hn := Hfound.out Hf.out
             have Hn := Lib.hid hn; clear hn
             go_wp2
             go_ret
             exact ⟨ret_int Hn.out.symm, Hb5.out⟩)
end Go.Proofs.Ytpdmjmhiehfkaaa
