/-
  Layer 6, plain: both readings of a text are one function, and it brings a word back from its text. No program is walked here.
-/
import Derived.Test.YtlipmagkplbkdaaDoorPa
namespace Go.Proofs.YtlipmagkplbkdaaDoor
open Go.RowKit

theorem letter_fine {m : Mod} (h : fineF m = true) : letterB m.name = true := by
  unfold fineF at h; simp only [Bool.and_eq_true] at h; exact h.1.1
theorem check_all {w : List Mod} (h : checkF w = 0) : w.all fineF = true := by
  unfold checkF at h
  by_cases h1 : 2000 < w.length
  · rw [if_pos h1] at h; cases h
  · rw [if_neg h1] at h
    cases h2 : w.all fineF
    · rw [h2] at h; cases h
    · rfl
/-! ### the text of a word -/
def bodyA (ns : List Int) : List UInt8 := ns.flatMap fun k => 44 :: Lib.itoa k
def argL : List Int → List UInt8
  | [] => []
  | n :: ns => 40 :: (Lib.itoa n ++ bodyA ns ++ [41])
def modL (m : Mod) : List UInt8 := m.name.toNat.toUInt8 :: argL m.args
def textL (ms : List Mod) : List UInt8 := ms.flatMap modL
def textF (ms : List Mod) : List UInt8 × Int := if checkF ms = 0 then (if 50000 < (textL ms).length then ([], 4) else (textL ms, 0)) else ([], checkF ms)
theorem bodyA_cons (n : Int) (ns : List Int) : bodyA (n :: ns) = 44 :: (Lib.itoa n ++ bodyA ns) := rfl
theorem textL_cons (m : Mod) (ms : List Mod) : textL (m :: ms) = modL m ++ textL ms := rfl
theorem letter_small {c : Int} (h : letterB c = true) : 0 ≤ c ∧ c ≤ 255 := by
  unfold letterB upB loB symB symL at h
  simp at h
  omega
theorem name_byte {c : Int} (h : letterB c = true) : ((c.toNat.toUInt8).toNat : Int) = c := by
  have := letter_small h
  rw [show (c.toNat.toUInt8).toNat = c.toNat % 256 from rfl]; omega

/-! ### cut and split at a byte -/
def cutC (c : UInt8) : List UInt8 → Option (List UInt8 × List UInt8)
  | [] => none
  | b :: r => if b = c then some ([], r) else (cutC c r).map fun p => (b :: p.1, p.2)
theorem cutC_text {c : UInt8} : ∀ {l p q : List UInt8}, cutC c l = some (p, q) → l = p ++ c :: q
  | [], _, _, h => by cases h
  | b :: r, p, q, h => by
    unfold cutC at h
    by_cases hb : b = c
    · rw [if_pos hb] at h; cases h; rw [hb]; rfl
    · rw [if_neg hb] at h
      cases hc : cutC c r with
      | none => rw [hc] at h; cases h
      | some x =>
        rw [hc] at h; cases h
        rw [cutC_text hc]; rfl
theorem cutC_of {c : UInt8} : ∀ {p q : List UInt8}, c ∉ p → cutC c (p ++ c :: q) = some (p, q)
  | [], q, _ => by rw [List.nil_append]; unfold cutC; rw [if_pos rfl]
  | b :: p, q, h => by
    rw [List.cons_append]; unfold cutC
    rw [if_neg (fun e => h (by simp [e])), cutC_of (fun e => h (by simp [e]))]; rfl
def splitC (c : UInt8) : List UInt8 → List (List UInt8)
  | [] => [[]]
  | b :: r => if b = c then [] :: splitC c r else match splitC c r with
    | [] => [[b]]
    | p :: ps => (b :: p) :: ps
def joinC (c : UInt8) : List (List UInt8) → List UInt8
  | [] => []
  | p :: ps => p ++ ps.flatMap (c :: ·)
theorem splitC_ne (c : UInt8) : ∀ l, splitC c l ≠ []
  | [] => by unfold splitC; simp
  | b :: r => by
    unfold splitC
    split
    · simp
    · split <;> simp
theorem join_split (c : UInt8) : ∀ l, joinC c (splitC c l) = l
  | [] => rfl
  | b :: r => by
    have ih := join_split c r
    unfold splitC
    by_cases h : b = c
    · rw [if_pos h]
      cases hs : splitC c r with
      | nil => exact absurd hs (splitC_ne c r)
      | cons p ps =>
        rw [hs] at ih
        show [] ++ (c :: p ++ ps.flatMap (c :: ·)) = b :: r
        rw [List.nil_append, List.cons_append, h]
        exact congrArg (c :: ·) ih
    · rw [if_neg h]
      cases hs : splitC c r with
      | nil => exact absurd hs (splitC_ne c r)
      | cons p ps =>
        rw [hs] at ih
        exact congrArg (b :: ·) ih
theorem split_front {c : UInt8} : ∀ {p : List UInt8} (r : List UInt8), c ∉ p → ∃ q qs, splitC c r = q :: qs ∧ splitC c (p ++ r) = (p ++ q) :: qs
  | [], r, _ => by
    cases hs : splitC c r with
    | nil => exact absurd hs (splitC_ne c r)
    | cons q qs => exact ⟨q, qs, rfl, by rw [List.nil_append, List.nil_append]; exact hs⟩
  | b :: p, r, h => by
    obtain ⟨q, qs, h1, h2⟩ := split_front r (p := p) (fun e => h (List.mem_cons_of_mem _ e))
    refine ⟨q, qs, h1, ?_⟩
    rw [List.cons_append]
    conv => lhs; unfold splitC
    rw [if_neg (fun e => h (by rw [e]; exact List.mem_cons_self)), h2]; rfl
theorem split_join {c : UInt8} : ∀ {ps : List (List UInt8)} {p : List UInt8}, (∀ q ∈ p :: ps, c ∉ q) → splitC c (joinC c (p :: ps)) = p :: ps
  | [], p, h => by
    obtain ⟨q, qs, h1, h2⟩ := split_front (c := c) (p := p) [] (h p (by simp))
    show splitC c (p ++ []) = [p]
    rw [h2]
    cases h1; simp
  | q :: ps, p, h => by
    have ih := split_join (ps := ps) (p := q) fun x hx => h x (List.mem_cons_of_mem _ hx)
    obtain ⟨x, xs, h1, h2⟩ := split_front (c := c) (p := p) (c :: joinC c (q :: ps)) (h p (by simp))
    have h3 : splitC c (c :: joinC c (q :: ps)) = [] :: splitC c (joinC c (q :: ps)) := by
      conv => lhs; unfold splitC
      rw [if_pos rfl]
    rw [h3, ih] at h1
    cases h1
    have e : joinC c (p :: q :: ps) = p ++ c :: joinC c (q :: ps) := rfl
    rw [e, h2]; simp

/-! ### the program's reading -/
def allP : List (List UInt8) → Option (List Int)
  | [] => some []
  | t :: ts => match numP t with
    | none => none
    | some n => (allP ts).map (n :: ·)
def modP (c : UInt8) : List UInt8 → Option (Mod × List UInt8)
  | [] => some (⟨c.toNat, []⟩, [])
  | b :: r => if b = 40 then (match cutC 41 r with
    | none => none
    | some (l, rest) => (allP (splitC 44 l)).map fun ag => (⟨c.toNat, ag⟩, rest)) else some (⟨c.toNat, []⟩, b :: r)
theorem modP_cons (c b : UInt8) (r : List UInt8) : modP c (b :: r) = if b = 40 then (match cutC 41 r with
    | none => none
    | some (l, rest) => (allP (splitC 44 l)).map fun ag => (⟨c.toNat, ag⟩, rest)) else some (⟨c.toNat, []⟩, b :: r) := rfl
theorem allP_text : ∀ {ts : List (List UInt8)} {ag : List Int}, allP ts = some ag → ts = ag.map Lib.itoa
  | [], ag, h => by cases h; rfl
  | t :: ts, ag, h => by
    unfold allP at h
    cases hn : numP t with
    | none => rw [hn] at h; cases h
    | some n =>
      rw [hn] at h
      cases ha : allP ts with
      | none => rw [ha] at h; cases h
      | some ag' =>
        rw [ha] at h; cases h
        rw [allP_text ha, List.map_cons, numP_text hn]
theorem allP_of : ∀ {ag : List Int}, ag.all argOk = true → allP (ag.map Lib.itoa) = some ag
  | [], _ => rfl
  | a :: ag, h => by
    rw [List.all_cons, Bool.and_eq_true] at h
    rw [List.map_cons]
    unfold allP
    rw [numP_of h.1, allP_of h.2]; rfl
theorem join_args (n : Int) (ns : List Int) : joinC 44 ((n :: ns).map Lib.itoa) = Lib.itoa n ++ bodyA ns := by
  show Lib.itoa n ++ (ns.map Lib.itoa).flatMap (44 :: ·) = _
  unfold bodyA
  rw [List.flatMap_map]
theorem modL_byte (c : UInt8) (ag : List Int) : modL ⟨c.toNat, ag⟩ = c :: argL ag := by
  unfold modL
  congr 1
  apply UInt8.toNat_inj.1
  show (((c.toNat : Int).toNat).toUInt8).toNat = c.toNat
  rw [Int.toNat_natCast, show (c.toNat.toUInt8).toNat = c.toNat % 256 from rfl]
  have := c.toNat_lt; omega
theorem modP_text {c : UInt8} {s : List UInt8} {m : Mod} {r : List UInt8} (h : modP c s = some (m, r)) : c :: s = modL m ++ r := by
  cases s with
  | nil => cases h; rw [modL_byte]; rfl
  | cons b t =>
    rw [modP_cons] at h
    by_cases hb : b = 40
    · rw [if_pos hb] at h
      cases hc : cutC 41 t with
      | none => rw [hc] at h; cases h
      | some x =>
        obtain ⟨l, rest⟩ := x
        rw [hc] at h
        dsimp only at h
        cases ha : allP (splitC 44 l) with
        | none => rw [ha] at h; cases h
        | some ag =>
          rw [ha] at h; cases h
          have hs := allP_text ha
          have hl := join_split 44 l
          rw [hs] at hl
          cases ag with
          | nil => exact absurd hs (splitC_ne 44 l)
          | cons n ns =>
            rw [join_args] at hl
            rw [modL_byte, cutC_text hc, ← hl, hb]
            show _ = c :: (40 :: (Lib.itoa n ++ bodyA ns ++ [41])) ++ r
            simp
    · rw [if_neg hb] at h; cases h; rw [modL_byte]; rfl
/-- what follows a module -/
def Sep (r : List UInt8) : Prop := ∀ b t, r = b :: t → b ≠ 40 ∧ b ≠ 44
theorem itoa_no {n : Int} {c : UInt8} (h : c = 40 ∨ c = 41 ∨ c = 44) : c ∉ Lib.itoa n := by
  refine itoa_not ?_ ?_
  · rcases h with rfl | rfl | rfl <;> decide
  · rcases h with rfl | rfl | rfl <;> decide
theorem body_no {ns : List Int} : (41 : UInt8) ∉ bodyA ns := by
  unfold bodyA
  intro h
  obtain ⟨k, _, hk⟩ := List.mem_flatMap.1 h
  rcases List.mem_cons.1 hk with e | e
  · revert e; decide
  · exact itoa_no (.inr (.inl rfl)) e
theorem modP_of {m : Mod} (h : fineF m = true) {r : List UInt8} (hr : Sep r) : modP m.name.toNat.toUInt8 (argL m.args ++ r) = some (m, r) := by
  have hl : letterB m.name = true ∧ m.args.all argOk = true := by unfold fineF at h; simp only [Bool.and_eq_true] at h; exact h.1
  have hm : ∀ ag, m.args = ag → (⟨((m.name.toNat.toUInt8).toNat : Int), ag⟩ : Mod) = m := fun ag e => by
    rw [name_byte hl.1, ← e]
  cases ha : m.args with
  | nil =>
    show modP _ ([] ++ r) = _
    rw [List.nil_append]
    cases r with
    | nil => show some ((⟨_, []⟩ : Mod), _) = _; rw [hm [] ha]
    | cons b t => rw [modP_cons, if_neg (hr b t rfl).1, hm [] ha]
  | cons n ns =>
    show modP _ (40 :: (Lib.itoa n ++ bodyA ns ++ [41]) ++ r) = _
    rw [List.cons_append, modP_cons, if_pos rfl]
    have e1 : Lib.itoa n ++ bodyA ns ++ [41] ++ r = (Lib.itoa n ++ bodyA ns) ++ 41 :: r := by simp
    rw [e1, cutC_of (fun hx => by
      rcases List.mem_append.1 hx with e | e
      · exact itoa_no (.inr (.inl rfl)) e
      · exact body_no e)]
    dsimp only
    rw [← join_args, List.map_cons, split_join (fun q hq => by
      rw [← List.map_cons] at hq
      obtain ⟨k, _, rfl⟩ := List.mem_map.1 hq
      exact itoa_no (.inr (.inr rfl))), ← List.map_cons, allP_of (by rw [← ha]; exact hl.2)]
    show some ((⟨_, n :: ns⟩ : Mod), r) = _
    rw [hm _ ha]

/-! ### the reference's reading -/
def argsR : Nat → List Int → List UInt8 → Option (List Int × List UInt8)
  | _, ag, [] => some (ag, [])
  | 0, ag, b :: r => some (ag, b :: r)
  | f + 1, ag, b :: r => if (b = 40 ∧ ag = []) ∨ (b = 44 ∧ ag ≠ []) then (match numR r with
    | none => none
    | some (n, r') => argsR f (ag ++ [n]) r') else some (ag, b :: r)
theorem argsR_nil (f : Nat) (ag : List Int) : argsR f ag [] = some (ag, []) := by cases f <;> rfl
theorem argsR_cons (f : Nat) (ag : List Int) (b : UInt8) (r : List UInt8) : argsR (f + 1) ag (b :: r) = if (b = 40 ∧ ag = []) ∨ (b = 44 ∧ ag ≠ []) then (match numR r with
    | none => none
    | some (n, r') => argsR f (ag ++ [n]) r') else some (ag, b :: r) := rfl
def closeR (c : UInt8) (ag : List Int) (l : List UInt8) : Option (Mod × List UInt8) :=
  if ag = [] then some (⟨c.toNat, []⟩, l) else if l.head? = some 41 then some (⟨c.toNat, ag⟩, l.tail) else none
def modR (c : UInt8) (s : List UInt8) : Option (Mod × List UInt8) := match argsR s.length [] s with
  | none => none
  | some (ag, l) => closeR c ag l
theorem argsR_more : ∀ (f : Nat) {ag ag' : List Int} {l r : List UInt8}, ag ≠ [] → argsR f ag l = some (ag', r) → ∃ ns, ag' = ag ++ ns ∧ l = bodyA ns ++ r
  | f, ag, ag', [], r, _, h => by
    rw [argsR_nil] at h; cases h
    exact ⟨[], by simp, rfl⟩
  | 0, ag, ag', b :: t, r, _, h => by cases h; exact ⟨[], by simp, rfl⟩
  | f + 1, ag, ag', b :: t, r, hne, h => by
    rw [argsR_cons] at h
    split at h
    · rename_i hc
      have hb : b = 44 := by rcases hc with ⟨_, e⟩ | ⟨e, _⟩; exact absurd e hne; exact e
      cases hn : numR t with
      | none => rw [hn] at h; cases h
      | some x =>
        obtain ⟨n, r'⟩ := x
        rw [hn] at h
        obtain ⟨ns, h1, h2⟩ := argsR_more f (by simp) h
        refine ⟨n :: ns, by rw [h1]; simp, ?_⟩
        rw [hb, (numR_text hn).1, h2, bodyA_cons]; simp
    · cases h; exact ⟨[], by simp, rfl⟩
theorem modR_text {c : UInt8} {s : List UInt8} {m : Mod} {r : List UInt8} (h : modR c s = some (m, r)) : c :: s = modL m ++ r := by
  unfold modR at h
  cases s with
  | nil => cases h; rw [modL_byte]; rfl
  | cons b t =>
    rw [show (b :: t).length = t.length + 1 from rfl, argsR_cons] at h
    by_cases hb : b = 40
    · rw [if_pos (.inl ⟨hb, rfl⟩)] at h
      cases hn : numR t with
      | none => rw [hn] at h; cases h
      | some x =>
        obtain ⟨n, r'⟩ := x
        rw [hn] at h
        dsimp only at h
        cases ha : argsR t.length ([] ++ [n]) r' with
        | none => rw [ha] at h; cases h
        | some y =>
          obtain ⟨ag, l⟩ := y
          rw [ha] at h
          obtain ⟨ns, h1, h2⟩ := argsR_more _ (by simp) ha
          dsimp only at h
          unfold closeR at h
          rw [if_neg (by rw [h1]; simp)] at h
          split at h
          · rename_i hh
            cases h
            cases l with
            | nil => cases hh
            | cons d l =>
              have hd : d = 41 := by simpa using hh
              rw [modL_byte, (numR_text hn).1, h2, hb, hd, h1]
              show _ = c :: (40 :: (Lib.itoa n ++ bodyA ns ++ [41])) ++ l
              simp
          · cases h
    · rw [if_neg (by rintro (⟨e, _⟩ | ⟨_, e⟩); exact hb e; exact e rfl)] at h
      have h' : some ((⟨c.toNat, []⟩ : Mod), b :: t) = some (m, r) := h
      cases h'; rw [modL_byte]; rfl
theorem argsR_of : ∀ (f : Nat) {ag : List Int} (ns : List Int) {r : List UInt8}, ag ≠ [] → ns.all argOk = true → (bodyA ns ++ 41 :: r).length ≤ f → argsR f ag (bodyA ns ++ 41 :: r) = some (ag ++ ns, 41 :: r)
  | 0, ag, ns, r, _, _, hl => by simp at hl
  | f + 1, ag, [], r, hne, _, _ => by
    show argsR (f + 1) ag (41 :: r) = _
    rw [argsR_cons, if_neg (by rintro (⟨e, _⟩ | ⟨e, _⟩) <;> revert e <;> decide)]; simp
  | f + 1, ag, n :: ns, r, hne, ha, hl => by
    rw [List.all_cons, Bool.and_eq_true] at ha
    rw [bodyA_cons] at hl ⊢
    rw [List.cons_append, argsR_cons, if_pos (.inr ⟨rfl, hne⟩), List.append_assoc, numR_of ha.1 (by
      intro b t e
      cases ns with
      | nil => cases e; decide
      | cons k ks => rw [bodyA_cons] at e; cases e; decide)]
    show argsR f (ag ++ [n]) (bodyA ns ++ 41 :: r) = _
    rw [argsR_of f ns (by simp) ha.2 (by simp at hl ⊢; omega)]; simp
theorem modR_of {m : Mod} (h : fineF m = true) {r : List UInt8} (hr : Sep r) : modR m.name.toNat.toUInt8 (argL m.args ++ r) = some (m, r) := by
  have hl : letterB m.name = true ∧ m.args.all argOk = true := by unfold fineF at h; simp only [Bool.and_eq_true] at h; exact h.1
  have hm : ∀ ag, m.args = ag → (⟨((m.name.toNat.toUInt8).toNat : Int), ag⟩ : Mod) = m := fun ag e => by
    rw [name_byte hl.1, ← e]
  unfold modR
  cases ha : m.args with
  | nil =>
    show (match argsR ([] ++ r).length [] ([] ++ r) with | none => none | some (ag, l) => closeR _ ag l) = _
    rw [List.nil_append]
    have : argsR r.length [] r = some ([], r) := by
      cases r with
      | nil => rfl
      | cons b t => rw [show (b :: t).length = t.length + 1 from rfl, argsR_cons, if_neg (by rintro (⟨e, _⟩ | ⟨_, e⟩); exact (hr b t rfl).1 e; exact e rfl)]
    rw [this]
    show closeR _ [] r = _
    unfold closeR
    rw [if_pos rfl, hm [] ha]
  | cons n ns =>
    have hok := hl.2
    rw [ha, List.all_cons, Bool.and_eq_true] at hok
    have e1 : argL (n :: ns) ++ r = 40 :: (Lib.itoa n ++ (bodyA ns ++ 41 :: r)) := by
      show 40 :: (Lib.itoa n ++ bodyA ns ++ [41]) ++ r = _
      simp
    rw [e1, List.length_cons, argsR_cons, if_pos (.inl ⟨rfl, rfl⟩), numR_of hok.1 (by
      intro b t e
      cases ns with
      | nil => cases e; decide
      | cons k ks => rw [bodyA_cons] at e; cases e; decide)]
    dsimp only
    rw [argsR_of _ ns (by simp) hok.2 (by simp)]
    show closeR _ ([n] ++ ns) (41 :: r) = _
    unfold closeR
    rw [if_neg (by simp), if_pos (by rfl)]
    show some ((⟨_, [n] ++ ns⟩ : Mod), r) = _
    rw [show [n] ++ ns = n :: ns from rfl, hm _ ha]

/-! ### the modules of a text -/
def modsG (g : UInt8 → List UInt8 → Option (Mod × List UInt8)) : Nat → List UInt8 → Option (List Mod)
  | _, [] => some []
  | 0, _ :: _ => none
  | f + 1, c :: s => match g c s with
    | none => none
    | some (m, r) => (modsG g f r).map (m :: ·)
theorem modsG_nil (g : UInt8 → List UInt8 → Option (Mod × List UInt8)) (f : Nat) : modsG g f [] = some [] := by cases f <;> rfl
theorem modsG_cons (g : UInt8 → List UInt8 → Option (Mod × List UInt8)) (f : Nat) (c : UInt8) (s : List UInt8) : modsG g (f + 1) (c :: s) = match g c s with
    | none => none
    | some (m, r) => (modsG g f r).map (m :: ·) := rfl
def parseG (g : UInt8 → List UInt8 → Option (Mod × List UInt8)) (s : List UInt8) : List Mod × Int :=
  if 50000 < s.length then ([], 12) else match modsG g s.length s with
    | none => ([], 12)
    | some ws => if checkF ws = 0 then (ws, 0) else ([], 12)
def parseF (s : List UInt8) : List Mod × Int := parseG modP s
theorem modsG_text {g : UInt8 → List UInt8 → Option (Mod × List UInt8)} (hg : ∀ c s m r, g c s = some (m, r) → c :: s = modL m ++ r) : ∀ (f : Nat) {s : List UInt8} {ws : List Mod}, modsG g f s = some ws → textL ws = s
  | f, [], ws, h => by rw [modsG_nil] at h; cases h; rfl
  | 0, _ :: _, ws, h => by cases h
  | f + 1, c :: s, ws, h => by
    rw [modsG_cons] at h
    cases hm : g c s with
    | none => rw [hm] at h; cases h
    | some x =>
      obtain ⟨m, r⟩ := x
      rw [hm] at h
      dsimp only at h
      cases hr : modsG g f r with
      | none => rw [hr] at h; cases h
      | some ws' =>
        rw [hr] at h; cases h
        rw [textL_cons, modsG_text hg f hr, hg _ _ _ _ hm]
theorem text_sep {ms : List Mod} (h : ms.all fineF = true) : Sep (textL ms) := by
  intro b t e
  cases ms with
  | nil => cases e
  | cons m ms =>
    rw [List.all_cons, Bool.and_eq_true] at h
    have hl : letterB m.name = true := letter_fine h.1
    rw [textL_cons] at e
    have hb : b = m.name.toNat.toUInt8 := by
      unfold modL at e; cases e; rfl
    have hn := name_byte hl
    rw [← hb] at hn
    constructor
    · rintro rfl
      rw [← hn] at hl; revert hl; decide
    · rintro rfl
      rw [← hn] at hl; revert hl; decide
theorem modsG_of {g : UInt8 → List UInt8 → Option (Mod × List UInt8)} (hg : ∀ m, fineF m = true → ∀ r, Sep r → g m.name.toNat.toUInt8 (argL m.args ++ r) = some (m, r)) : ∀ (f : Nat) {ws : List Mod}, ws.all fineF = true → (textL ws).length ≤ f → modsG g f (textL ws) = some ws
  | f, [], _, _ => modsG_nil g f
  | 0, m :: ws, _, hl => by rw [textL_cons] at hl; unfold modL at hl; simp at hl
  | f + 1, m :: ws, h, hl => by
    rw [List.all_cons, Bool.and_eq_true] at h
    rw [textL_cons] at hl ⊢
    unfold modL at hl ⊢
    rw [List.cons_append, modsG_cons, hg m h.1 _ (text_sep h.2)]
    dsimp only
    rw [modsG_of hg f h.2 (by simp at hl; omega)]; rfl
theorem parseG_iff {g : UInt8 → List UInt8 → Option (Mod × List UInt8)} (h1 : ∀ c s m r, g c s = some (m, r) → c :: s = modL m ++ r) (h2 : ∀ m, fineF m = true → ∀ r, Sep r → g m.name.toNat.toUInt8 (argL m.args ++ r) = some (m, r)) (s : List UInt8) :
    (∃ ws, parseG g s = (ws, 0) ∧ textL ws = s ∧ checkF ws = 0 ∧ s.length ≤ 50000) ∨ (parseG g s = ([], 12) ∧ ∀ ws, textL ws = s → checkF ws = 0 → 50000 < s.length) := by
  unfold parseG
  by_cases hl : 50000 < s.length
  · rw [if_pos hl]; exact .inr ⟨rfl, fun _ _ _ => hl⟩
  · rw [if_neg hl]
    have hno : ∀ ws, textL ws = s → checkF ws = 0 → modsG g s.length s = some ws := fun ws e hc => by
      subst e
      exact modsG_of h2 _ (check_all hc) (Nat.le_refl _)
    cases hm : modsG g s.length s with
    | none =>
      refine .inr ⟨rfl, fun ws e hc => ?_⟩
      have := hno ws e hc
      rw [hm] at this; cases this
    | some ws =>
      by_cases hc : checkF ws = 0
      · exact .inl ⟨ws, by show (if checkF ws = 0 then (ws, 0) else ([], 12)) = _; rw [if_pos hc], modsG_text h1 _ hm, hc, by omega⟩
      · refine .inr ⟨by show (if checkF ws = 0 then (ws, 0) else ([], 12)) = _; rw [if_neg hc], fun ws' e hc' => ?_⟩
        have := hno ws' e hc'
        rw [hm] at this; cases this
        exact absurd hc' hc
theorem text_inj {a b : List Mod} (ha : checkF a = 0) (hb : checkF b = 0) (h : textL a = textL b) : a = b := by
  have h1 := modsG_of (g := modP) (fun m hm r hr => modP_of hm hr) _ (check_all ha) (Nat.le_refl (textL a).length)
  have h2 := modsG_of (g := modP) (fun m hm r hr => modP_of hm hr) _ (check_all hb) (Nat.le_refl (textL b).length)
  rw [h, h2] at h1
  exact (Option.some.inj h1).symm
theorem parse_alike (s : List UInt8) : parseG modR s = parseF s := by
  rcases parseG_iff (g := modR) (fun c s m r h => modR_text h) (fun m hm r hr => modR_of hm hr) s with ⟨ws, h1, h2, h3, h4⟩ | ⟨h1, h2⟩
  · rcases parseG_iff (g := modP) (fun c s m r h => modP_text h) (fun m hm r hr => modP_of hm hr) s with ⟨vs, k1, k2, k3, k4⟩ | ⟨k1, k2⟩
    · have := text_inj h3 k3 (h2.trans k2.symm)
      subst this
      exact h1.trans k1.symm
    · have := k2 ws h2 h3; omega
  · rcases parseG_iff (g := modP) (fun c s m r h => modP_text h) (fun m hm r hr => modP_of hm hr) s with ⟨vs, k1, k2, k3, k4⟩ | ⟨k1, k2⟩
    · have := h2 vs k2 k3; omega
    · exact h1.trans k1.symm
/-- the stage's theorem: the reading of a word's text is the word -/
theorem parse_back {ms : List Mod} (hc : checkF ms = 0) (hl : ¬ 50000 < (textL ms).length) : parseF (textL ms) = (ms, 0) := by
  rcases parseG_iff (g := modP) (fun c s m r h => modP_text h) (fun m hm r hr => modP_of hm hr) (textL ms) with ⟨vs, k1, k2, k3, k4⟩ | ⟨k1, k2⟩
  · have := text_inj k3 hc k2
    subst this
    exact k1
  · have := k2 ms rfl hc; omega
theorem parse_ok {s : List UInt8} (h : (parseF s).2 = 0) : textL (parseF s).1 = s ∧ checkF (parseF s).1 = 0 ∧ s.length ≤ 50000 := by
  rcases parseG_iff (g := modP) (fun c s m r h => modP_text h) (fun m hm r hr => modP_of hm hr) s with ⟨vs, k1, k2, k3, k4⟩ | ⟨k1, k2⟩
  · have e : parseF s = (vs, 0) := k1
    rw [e]; exact ⟨k2, k3, k4⟩
  · have e : parseF s = ([], 12) := k1
    rw [e] at h; cases h
end Go.Proofs.YtlipmagkplbkdaaDoor
