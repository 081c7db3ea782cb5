import Derived.Test.YtlipmagkplbkdaaDoorZ13
import Derived.Test.YtlipmagkplbkdaaDoorZ8
import Derived.Test.YtlipmagkplbkdaaDoorZ12
namespace Go.Proofs.YtlipmagkplbkdaaDoor
open Go Go.Conc Go.RowKit
set_option linter.unusedVariables false
set_option linter.unusedSimpArgs false
noncomputable def rnB : Code := match Tryd.f3.body with | some c => c | none => .skip
theorem rnBody : Tryd.f3.body = some rnB := by kernel_rfl
noncomputable def rnR0 : Code := match rnB with | .seq a _ => a | _ => .skip
noncomputable def rnC1 : Code := match rnB with | .seq _ (.seq a _) => a | _ => .skip
noncomputable def rnO3 : Array Oper := match rnB with | .seq _ (.seq _ (.seq (.region _ o _) _)) => o | _ => #[]
noncomputable def rnR4 : Code := match rnB with | .seq _ (.seq _ (.seq _ (.seq a _))) => a | _ => .skip
noncomputable def rnR5 : Code := match rnB with | .seq _ (.seq _ (.seq _ (.seq _ a))) => a | _ => .skip
theorem rnB_eq : rnB = .seq rnR0 (.seq rnC1 (.seq (.region 3 rnO3 false) (.seq rnR4 rnR5))) := by kernel_rfl
theorem rnz3 : List.range rnO3.size = [0, 1, 2, 3, 4, 5, 6, 7, 8, 9] := by kernel_rfl
theorem rnTm (RA WA : Option Addr) (rc wc m1 m2 : Nat) (s n : Int) : (#[.slice RA m1 rc, .int .i64 s, .slice WA m2 wc, .int .i64 n] ++ Array.replicate (Tryd.f3.ntmps - (#[.slice RA m1 rc, .int .i64 s, .slice WA m2 wc, .int .i64 n] : Array Value).size) undef : Array Value) = #[.slice RA m1 rc, .int .i64 s, .slice WA m2 wc, .int .i64 n, undef, undef, undef, undef, undef, undef, undef, undef, undef, undef, undef, undef, undef, undef, undef, undef, undef, undef, undef, undef, undef, undef, undef, undef, undef, undef, undef, undef, undef, undef, undef, undef, undef, undef, undef, undef, undef, undef, undef, undef, undef, undef, undef, undef, undef, undef, undef] := by kernel_rfl
theorem rokR0 : okC Tryd.prog gR sR rnR0 = true := by kernel_rfl
theorem rokC1 : okC Tryd.prog gR sR rnC1 = true := by kernel_rfl
theorem rokR4 : okC Tryd.prog gR sR rnR4 = true := by kernel_rfl
theorem rokR5 : okC Tryd.prog gR sR rnR5 = true := by kernel_rfl
def bN : Frame := { (default : Frame) with fn := 3, kind := .normal }
theorem bN_fn : ∃ fn, Tryd.prog.funcs[bN.fn]? = some fn := ⟨Tryd.f3, Tryd.func3⟩
theorem rn_fin {ch : Option Nat} {a : Act} {v : World} {todo : List Item} (hd : a.defers = []) (h8 : slot a 8 (.bool true)) : MS Tryd.prog SR gR sR (· = .bool true) [] ch { bN.at a todo with mode := .returning } [] v := by
  refine MS.fin (x := .bool true) rfl hd rfl Tryd.func3 (fun τ d => ?_) (by kernel_rfl) rfl
  refine (results_one (p := 8) rfl _).trans ?_
  show Result.ok (a.tmps.getD 8 undef) _ = _
  rw [show (a.tmps.getD 8 undef) = _ from h8]
set_option maxRecDepth 100000 in
set_option maxHeartbeats 4000000 in
theorem rn_main {RA WA : Option Addr} {rc wc : Nat} {rs : List Rul} {ms : List Mod} {s n : Int} {v : World} {a : Act} (hz : a.tmps.size = 51) (hd : a.defers = []) (s0 : slot a 0 (.slice RA rs.length rc)) (s1 : slot a 1 (.int .i64 s)) (s2 : slot a 2 (.slice WA ms.length wc)) (s3 : slot a 3 (.int .i64 n))
    (hr : SlAt pRul (Old v) v RA rc rs) (hm : SlAt pMod (Old v) v WA wc ms) (hs : Fits .i64 s) (hn : Fits .i64 n) (ht : TabAt v) (hg : GAt v) (hsm : Small rs) (hbd : ms.length ≤ 10000) (hbd2 : ∀ m ∈ ms, m.args.length ≤ 1000) :
    MS Tryd.prog SR gR sR (· = .bool true) [] none (bN.at a [.code (.seq (.region 3 rnO3 false) (.seq rnR4 rnR5))]) [] v := by
  have hXX : ∀ ch, Walk Tryd.prog SR gR sR (MS Tryd.prog SR gR sR (· = .bool true) [] ch) := fun ch => MS.walk ctxR
  have hX := hXX none
  refine hX.seq (hX.region ?_)
  rw [rnz3]
  refine hX.val (v' := v) (some 28) (.slice RA rs.length rc) (show rnO3[0]? = some _ from rfl) (by kernel_rfl) rfl rfl (fun τ d => run_moveX _ (.tmp 0) (.inl rfl) s0) ?_
  have hd : (a.put (some 28) (.slice RA rs.length rc)).defers = [] := hd
  have s0 := slot_ne (d := 28) (x := .slice RA rs.length rc) s0 (by decide)
  have s1 := slot_ne (d := 28) (x := .slice RA rs.length rc) s1 (by decide)
  have s2 := slot_ne (d := 28) (x := .slice RA rs.length rc) s2 (by decide)
  have s3 := slot_ne (d := 28) (x := .slice RA rs.length rc) s3 (by decide)
  have s28 := slot_same (a := a) (d := 28) (x := .slice RA rs.length rc) (by rw [hz]; decide)
  have hz : (a.put (some 28) (.slice RA rs.length rc)).tmps.size = 51 := size_put hz
  generalize (a.put (some 28) (.slice RA rs.length rc)) = ax1 at hz hd s0 s1 s2 s3 s28
  refine hX.val (v' := v) (some 29) (.int .i64 s) (show rnO3[1]? = some _ from rfl) (by kernel_rfl) rfl rfl (fun τ d => run_moveX _ (.tmp 1) (.inl rfl) s1) ?_
  have hd : (ax1.put (some 29) (.int .i64 s)).defers = [] := hd
  have s0 := slot_ne (d := 29) (x := .int .i64 s) s0 (by decide)
  have s1 := slot_ne (d := 29) (x := .int .i64 s) s1 (by decide)
  have s2 := slot_ne (d := 29) (x := .int .i64 s) s2 (by decide)
  have s3 := slot_ne (d := 29) (x := .int .i64 s) s3 (by decide)
  have s28 := slot_ne (d := 29) (x := .int .i64 s) s28 (by decide)
  have s29 := slot_same (a := ax1) (d := 29) (x := .int .i64 s) (by rw [hz]; decide)
  have hz : (ax1.put (some 29) (.int .i64 s)).tmps.size = 51 := size_put hz
  generalize (ax1.put (some 29) (.int .i64 s)) = ax2 at hz hd s0 s1 s2 s3 s28 s29
  refine hX.val (v' := v) (some 30) (.slice WA ms.length wc) (show rnO3[2]? = some _ from rfl) (by kernel_rfl) rfl rfl (fun τ d => run_moveX _ (.tmp 2) (.inl rfl) s2) ?_
  have hd : (ax2.put (some 30) (.slice WA ms.length wc)).defers = [] := hd
  have s0 := slot_ne (d := 30) (x := .slice WA ms.length wc) s0 (by decide)
  have s1 := slot_ne (d := 30) (x := .slice WA ms.length wc) s1 (by decide)
  have s2 := slot_ne (d := 30) (x := .slice WA ms.length wc) s2 (by decide)
  have s3 := slot_ne (d := 30) (x := .slice WA ms.length wc) s3 (by decide)
  have s28 := slot_ne (d := 30) (x := .slice WA ms.length wc) s28 (by decide)
  have s29 := slot_ne (d := 30) (x := .slice WA ms.length wc) s29 (by decide)
  have s30 := slot_same (a := ax2) (d := 30) (x := .slice WA ms.length wc) (by rw [hz]; decide)
  have hz : (ax2.put (some 30) (.slice WA ms.length wc)).tmps.size = 51 := size_put hz
  generalize (ax2.put (some 30) (.slice WA ms.length wc)) = ax3 at hz hd s0 s1 s2 s3 s28 s29 s30
  refine hX.val (v' := v) (some 31) (.int .i64 n) (show rnO3[3]? = some _ from rfl) (by kernel_rfl) rfl rfl (fun τ d => run_moveX _ (.tmp 3) (.inl rfl) s3) ?_
  have hd : (ax3.put (some 31) (.int .i64 n)).defers = [] := hd
  have s0 := slot_ne (d := 31) (x := .int .i64 n) s0 (by decide)
  have s1 := slot_ne (d := 31) (x := .int .i64 n) s1 (by decide)
  have s2 := slot_ne (d := 31) (x := .int .i64 n) s2 (by decide)
  have s3 := slot_ne (d := 31) (x := .int .i64 n) s3 (by decide)
  have s28 := slot_ne (d := 31) (x := .int .i64 n) s28 (by decide)
  have s29 := slot_ne (d := 31) (x := .int .i64 n) s29 (by decide)
  have s30 := slot_ne (d := 31) (x := .int .i64 n) s30 (by decide)
  have s31 := slot_same (a := ax3) (d := 31) (x := .int .i64 n) (by rw [hz]; decide)
  have hz : (ax3.put (some 31) (.int .i64 n)).tmps.size = 51 := size_put hz
  generalize (ax3.put (some 31) (.int .i64 n)) = ax4 at hz hd s0 s1 s2 s3 s28 s29 s30 s31
  refine MS.enter ctxR (show rnO3[4]? = some _ from rfl) rfl rfl (by kernel_rfl) ⟨_, _, Tryd.func13, runBody, by kernel_rfl⟩ ?_
  have hargs : (#[.tmp 28, .tmp 29, .tmp 30, .tmp 31] : Array Operand).map ax4.eval = #[.slice RA rs.length rc, .int .i64 s, .slice WA ms.length wc, .int .i64 n] := by
    simp only [List.map_toArray, List.map_cons, List.map_nil]
    rw [show ax4.eval (.tmp 28) = _ from s28, show ax4.eval (.tmp 29) = _ from s29, show ax4.eval (.tmp 30) = _ from s30, show ax4.eval (.tmp 31) = _ from s31]
  show MS Tryd.prog SR gR sR (· = .bool true) [] none (Frame.enter Tryd.prog 13 ((#[.tmp 28, .tmp 29, .tmp 30, .tmp 31] : Array Operand).map ax4.eval) .normal) _ v
  rw [hargs]
  refine run_ms hr hm hsm hs hn hbd hbd2 ht hg ?_
  intro ch a' v' todo A c hd' q8 q9 hsl kk
  have hX := hXX ch
  have hrr := run9_eq rs s ms n
  refine hX.back' (x := .tuple #[.slice A (pRun9 rs s ms n).1.length c, .int .i64 (pRun9 rs s ms n).2]) rfl rfl Tryd.func13 (show rnO3[4]? = some _ from rfl) (fun τ d => ?_) ?_
  · refine (results_two (p := 8) (q := 9) rfl _).trans ?_
    show Result.ok (Value.tuple #[a'.tmps.getD 8 undef, a'.tmps.getD 9 undef]) _ = _
    rw [show (a'.tmps.getD 8 undef) = _ from q8, show (a'.tmps.getD 9 undef) = _ from q9]
  obtain ⟨⟨ol, oe⟩, ho⟩ : ∃ o, pRun9 rs s ms n = o := ⟨_, rfl⟩
  rw [ho] at hsl hrr ⊢
  have hsl : SlAt pCel (Old v') v' A c ol := hsl
  show MS Tryd.prog SR gR sR (· = .bool true) [] ch (bN.at (ax4.put (some 32) (.tuple #[.slice A ol.length c, .int .i64 oe])) _) [] v'
  have hd : (ax4.put (some 32) (.tuple #[.slice A ol.length c, .int .i64 oe])).defers = [] := hd
  have s0 := slot_ne (d := 32) (x := .tuple #[.slice A ol.length c, .int .i64 oe]) s0 (by decide)
  have s1 := slot_ne (d := 32) (x := .tuple #[.slice A ol.length c, .int .i64 oe]) s1 (by decide)
  have s2 := slot_ne (d := 32) (x := .tuple #[.slice A ol.length c, .int .i64 oe]) s2 (by decide)
  have s3 := slot_ne (d := 32) (x := .tuple #[.slice A ol.length c, .int .i64 oe]) s3 (by decide)
  clear s28
  clear s29
  clear s30
  clear s31
  have s32 := slot_same (a := ax4) (d := 32) (x := .tuple #[.slice A ol.length c, .int .i64 oe]) (by rw [hz]; decide)
  have hz : (ax4.put (some 32) (.tuple #[.slice A ol.length c, .int .i64 oe])).tmps.size = 51 := size_put hz
  generalize (ax4.put (some 32) (.tuple #[.slice A ol.length c, .int .i64 oe])) = ax5 at hz hd s0 s1 s2 s3 s32
  refine hX.val (v' := v') (some 27) (.tuple #[.slice A ol.length c, .int .i64 oe]) (show rnO3[5]? = some _ from rfl) (by kernel_rfl) rfl rfl (fun τ d => run_moveX _ (.tmp 32) (.inl rfl) s32) ?_
  have hd : (ax5.put (some 27) (.tuple #[.slice A ol.length c, .int .i64 oe])).defers = [] := hd
  have s0 := slot_ne (d := 27) (x := .tuple #[.slice A ol.length c, .int .i64 oe]) s0 (by decide)
  have s1 := slot_ne (d := 27) (x := .tuple #[.slice A ol.length c, .int .i64 oe]) s1 (by decide)
  have s2 := slot_ne (d := 27) (x := .tuple #[.slice A ol.length c, .int .i64 oe]) s2 (by decide)
  have s3 := slot_ne (d := 27) (x := .tuple #[.slice A ol.length c, .int .i64 oe]) s3 (by decide)
  clear s32
  have s27 := slot_same (a := ax5) (d := 27) (x := .tuple #[.slice A ol.length c, .int .i64 oe]) (by rw [hz]; decide)
  have hz : (ax5.put (some 27) (.tuple #[.slice A ol.length c, .int .i64 oe])).tmps.size = 51 := size_put hz
  generalize (ax5.put (some 27) (.tuple #[.slice A ol.length c, .int .i64 oe])) = ax6 at hz hd s0 s1 s2 s3 s27
  refine hX.val (v' := v') (some 33) (.slice A ol.length c) (show rnO3[6]? = some _ from rfl) (by kernel_rfl) rfl rfl (fun τ d => run_extractX _ (.tmp 27) 0 rfl s27 rfl) ?_
  have hd : (ax6.put (some 33) (.slice A ol.length c)).defers = [] := hd
  have s0 := slot_ne (d := 33) (x := .slice A ol.length c) s0 (by decide)
  have s1 := slot_ne (d := 33) (x := .slice A ol.length c) s1 (by decide)
  have s2 := slot_ne (d := 33) (x := .slice A ol.length c) s2 (by decide)
  have s3 := slot_ne (d := 33) (x := .slice A ol.length c) s3 (by decide)
  have s27 := slot_ne (d := 33) (x := .slice A ol.length c) s27 (by decide)
  have s33 := slot_same (a := ax6) (d := 33) (x := .slice A ol.length c) (by rw [hz]; decide)
  have hz : (ax6.put (some 33) (.slice A ol.length c)).tmps.size = 51 := size_put hz
  generalize (ax6.put (some 33) (.slice A ol.length c)) = ax7 at hz hd s0 s1 s2 s3 s27 s33
  refine hX.val (v' := v') (some 34) (.int .i64 oe) (show rnO3[7]? = some _ from rfl) (by kernel_rfl) rfl rfl (fun τ d => run_extractX _ (.tmp 27) 1 rfl s27 rfl) ?_
  have hd : (ax7.put (some 34) (.int .i64 oe)).defers = [] := hd
  have s0 := slot_ne (d := 34) (x := .int .i64 oe) s0 (by decide)
  have s1 := slot_ne (d := 34) (x := .int .i64 oe) s1 (by decide)
  have s2 := slot_ne (d := 34) (x := .int .i64 oe) s2 (by decide)
  have s3 := slot_ne (d := 34) (x := .int .i64 oe) s3 (by decide)
  have s27 := slot_ne (d := 34) (x := .int .i64 oe) s27 (by decide)
  have s33 := slot_ne (d := 34) (x := .int .i64 oe) s33 (by decide)
  have s34 := slot_same (a := ax7) (d := 34) (x := .int .i64 oe) (by rw [hz]; decide)
  have hz : (ax7.put (some 34) (.int .i64 oe)).tmps.size = 51 := size_put hz
  generalize (ax7.put (some 34) (.int .i64 oe)) = ax8 at hz hd s0 s1 s2 s3 s27 s33 s34
  refine hX.val (v' := v') (some 9) (.slice A ol.length c) (show rnO3[8]? = some _ from rfl) (by kernel_rfl) rfl rfl (fun τ d => run_moveX _ (.tmp 33) (.inr rfl) s33) ?_
  have hd : (ax8.put (some 9) (.slice A ol.length c)).defers = [] := hd
  have s0 := slot_ne (d := 9) (x := .slice A ol.length c) s0 (by decide)
  have s1 := slot_ne (d := 9) (x := .slice A ol.length c) s1 (by decide)
  have s2 := slot_ne (d := 9) (x := .slice A ol.length c) s2 (by decide)
  have s3 := slot_ne (d := 9) (x := .slice A ol.length c) s3 (by decide)
  clear s27
  clear s33
  have s34 := slot_ne (d := 9) (x := .slice A ol.length c) s34 (by decide)
  have s9 := slot_same (a := ax8) (d := 9) (x := .slice A ol.length c) (by rw [hz]; decide)
  have hz : (ax8.put (some 9) (.slice A ol.length c)).tmps.size = 51 := size_put hz
  generalize (ax8.put (some 9) (.slice A ol.length c)) = ax9 at hz hd s0 s1 s2 s3 s34 s9
  refine hX.val (v' := v') (some 10) (.int .i64 oe) (show rnO3[9]? = some _ from rfl) (by kernel_rfl) rfl rfl (fun τ d => run_moveX _ (.tmp 34) (.inr rfl) s34) ?_
  have hd : (ax9.put (some 10) (.int .i64 oe)).defers = [] := hd
  have s0 := slot_ne (d := 10) (x := .int .i64 oe) s0 (by decide)
  have s1 := slot_ne (d := 10) (x := .int .i64 oe) s1 (by decide)
  have s2 := slot_ne (d := 10) (x := .int .i64 oe) s2 (by decide)
  have s3 := slot_ne (d := 10) (x := .int .i64 oe) s3 (by decide)
  clear s34
  have s9 := slot_ne (d := 10) (x := .int .i64 oe) s9 (by decide)
  have s10 := slot_same (a := ax9) (d := 10) (x := .int .i64 oe) (by rw [hz]; decide)
  have hz : (ax9.put (some 10) (.int .i64 oe)).tmps.size = 51 := size_put hz
  generalize (ax9.put (some 10) (.int .i64 oe)) = ax10 at hz hd s0 s1 s2 s3 s9 s10
  refine hX.done ?_
  rw [act_lit51 hd hz]
  rw [show (ax10.tmps.getD 0 undef) = _ from s0, show (ax10.tmps.getD 1 undef) = _ from s1, show (ax10.tmps.getD 2 undef) = _ from s2, show (ax10.tmps.getD 3 undef) = _ from s3, show (ax10.tmps.getD 9 undef) = _ from s9, show (ax10.tmps.getD 10 undef) = _ from s10]
  generalize (ax10.tmps.getD 4 undef) = j4
  generalize (ax10.tmps.getD 5 undef) = j5
  generalize (ax10.tmps.getD 6 undef) = j6
  generalize (ax10.tmps.getD 7 undef) = j7
  generalize (ax10.tmps.getD 8 undef) = j8
  generalize (ax10.tmps.getD 11 undef) = j11
  generalize (ax10.tmps.getD 12 undef) = j12
  generalize (ax10.tmps.getD 13 undef) = j13
  generalize (ax10.tmps.getD 14 undef) = j14
  generalize (ax10.tmps.getD 15 undef) = j15
  generalize (ax10.tmps.getD 16 undef) = j16
  generalize (ax10.tmps.getD 17 undef) = j17
  generalize (ax10.tmps.getD 18 undef) = j18
  generalize (ax10.tmps.getD 19 undef) = j19
  generalize (ax10.tmps.getD 20 undef) = j20
  generalize (ax10.tmps.getD 21 undef) = j21
  generalize (ax10.tmps.getD 22 undef) = j22
  generalize (ax10.tmps.getD 23 undef) = j23
  generalize (ax10.tmps.getD 24 undef) = j24
  generalize (ax10.tmps.getD 25 undef) = j25
  generalize (ax10.tmps.getD 26 undef) = j26
  generalize (ax10.tmps.getD 27 undef) = j27
  generalize (ax10.tmps.getD 28 undef) = j28
  generalize (ax10.tmps.getD 29 undef) = j29
  generalize (ax10.tmps.getD 30 undef) = j30
  generalize (ax10.tmps.getD 31 undef) = j31
  generalize (ax10.tmps.getD 32 undef) = j32
  generalize (ax10.tmps.getD 33 undef) = j33
  generalize (ax10.tmps.getD 34 undef) = j34
  generalize (ax10.tmps.getD 35 undef) = j35
  generalize (ax10.tmps.getD 36 undef) = j36
  generalize (ax10.tmps.getD 37 undef) = j37
  generalize (ax10.tmps.getD 38 undef) = j38
  generalize (ax10.tmps.getD 39 undef) = j39
  generalize (ax10.tmps.getD 40 undef) = j40
  generalize (ax10.tmps.getD 41 undef) = j41
  generalize (ax10.tmps.getD 42 undef) = j42
  generalize (ax10.tmps.getD 43 undef) = j43
  generalize (ax10.tmps.getD 44 undef) = j44
  generalize (ax10.tmps.getD 45 undef) = j45
  generalize (ax10.tmps.getD 46 undef) = j46
  generalize (ax10.tmps.getD 47 undef) = j47
  generalize (ax10.tmps.getD 48 undef) = j48
  generalize (ax10.tmps.getD 49 undef) = j49
  generalize (ax10.tmps.getD 50 undef) = j50
  have hr' := hr.kp eqv_rul kk
  have hm' := hm.kp eqv_mod kk
  have Hr := Lib.hid hr; clear hr
  have Hm := Lib.hid hm; clear hm
  have Hr' := Lib.hid hr'; clear hr'
  have Hm' := Lib.hid hm'; clear hm'
  have Hsl := Lib.hid hsl; clear hsl
  have Hbd2 := Lib.hid hbd2; clear hbd2
  have Hsm := Lib.hid hsm; clear hsm
  have Ht := Lib.hid ht; clear ht
  have Hg := Lib.hid hg; clear hg
  have Hrr := Lib.hid hrr; clear hrr
  have HX := Lib.hid hX; clear hX
  refine HX.out.seq (HX.out.wp ctxR rfl bN_fn rokR4 fun τ d => ?_)
  have k2 : Kp v' (Go.Proofs.YtlipmagkplbkdaaDoor.at2 v' τ d) := Kp.at2 _ _ _
  generalize Go.Proofs.YtlipmagkplbkdaaDoor.at2 v' τ d = v2 at k2 ⊢
  have hrun := refRun9_calls RA rc rs s WA wc ms n v2 (Hr'.out.kp eqv_rul k2) (Hm'.out.kp eqv_mod k2) hs Hsm.out hn hbd Hbd2.out
  rw [Hrr.out] at hrun
  unfold BeginPost at hrun
  have hsl2 := Hsl.out.kp eqv_cel k2
  have Hrun := Lib.hid hrun; clear hrun
  have Hsl2 := Lib.hid hsl2; clear hsl2
  dsimp only [rnR4, rnB, Tryd.f3]
  go_wp2_with (go_at_call 14; refine Hrun.out.mono ?_; rintro e w3 ⟨A3, c3, rfl, hs3, hb3⟩)
  have hs3 : SlAt pCel (Old w3) w3 A3 c3 ol := hs3
  have hsl3 := Hsl2.out.kp eqv_cel (Kp.below hb3)
  clear hb3
  have Hs3 := Lib.hid hs3; clear hs3
  have Hsl3 := Lib.hid hsl3; clear hsl3
  refine HX.out.wp ctxR rfl bN_fn rokR5 fun τ d => ?_
  have k4 : Kp w3 (Go.Proofs.YtlipmagkplbkdaaDoor.at2 w3 τ d) := Kp.at2 _ _ _
  generalize Go.Proofs.YtlipmagkplbkdaaDoor.at2 w3 τ d = v4 at k4 ⊢
  have hsame := sameC_calls A A3 c c3 ol ol v4 (Hsl3.out.kp eqv_cel k4) (Hs3.out.kp eqv_cel k4)
  unfold BoolPost at hsame
  rw [show (ol == ol) = true from by simp] at hsame
  have Hsame := Lib.hid hsame; clear hsame
  dsimp only [rnR5, rnB, Tryd.f3]
  go_wp2_with (go_at_call 15; refine Hsame.out.mono ?_; rintro e w5 ⟨rfl, hb5⟩)
  exact fun todo => rn_fin rfl rfl
set_option maxRecDepth 100000 in
set_option maxHeartbeats 4000000 in
theorem rn_ms {RA WA : Option Addr} {rc wc : Nat} {rs : List Rul} {ms : List Mod} {s n : Int} {v : World} (hr : SlAt pRul (Old v) v RA rc rs) (hm : SlAt pMod (Old v) v WA wc ms) (hs : Fits .i64 s) (hn : Fits .i64 n) (ht : TabAt v) (hg : GAt v) :
    MS Tryd.prog SR gR sR (· = .bool true) [] none (Frame.enter Tryd.prog 3 #[.slice RA rs.length rc, .int .i64 s, .slice WA ms.length wc, .int .i64 n] .normal) [] v := by
  have hX : ∀ ch, Walk Tryd.prog SR gR sR (MS Tryd.prog SR gR sR (· = .bool true) [] ch) := fun ch => MS.walk ctxR
  have hn64 := hn.i64
  rw [enter_eq Tryd.func3 rnBody, rnB_eq, rnTm]
  show MS Tryd.prog SR gR sR (· = .bool true) [] none (bN.at _ _) [] v
  refine (hX none).seq ((hX none).wp ctxR rfl bN_fn rokR0 fun τ d => ?_)
  have k1 : Kp v (Go.Proofs.YtlipmagkplbkdaaDoor.at2 v τ d) := Kp.at2 _ _ _
  generalize Go.Proofs.YtlipmagkplbkdaaDoor.at2 v τ d = v1 at k1 ⊢
  have Hr := Lib.hid hr; clear hr
  have Hm := Lib.hid hm; clear hm
  have HX := Lib.hid hX; clear hX
  have Ht := Lib.hid ht; clear ht
  have Hg := Lib.hid hg; clear hg
  dsimp only [rnR0, rnB, Tryd.f3]
  go_wp2
  refine (HX.out none).seq ((HX.out none).wp ctxR rfl bN_fn rokC1 fun τ d => ?_)
  have k2 : Kp v (Go.Proofs.YtlipmagkplbkdaaDoor.at2 v1 τ d) := k1.trans (Kp.at2 _ _ _)
  generalize Go.Proofs.YtlipmagkplbkdaaDoor.at2 v1 τ d = v2 at k2 ⊢
  have g1 := greatR_calls RA rc rs v2 (Hr.out.kp eqv_rul k2)
  have g2 := great_calls WA wc ms v2 (Hm.out.kp eqv_mod k2)
  unfold GreatPost at g1
  dsimp only [rnC1, rnB, Tryd.f3]
  cases e1 : greatR rs
  case true =>
    rw [e1] at g1
    have G1 := Lib.hid g1; clear g1
    have G2 := Lib.hid g2; clear g2
    go_wp2_with (go_at_call 11; refine G1.out.mono ?_; rintro e w' ⟨rfl, rfl⟩)
    exact fun todo => rn_fin rfl rfl
  rw [e1] at g1
  have hsm := small_of e1
  cases e2 : greatF ms
  case true =>
    rw [e2] at g2
    have G1 := Lib.hid g1; clear g1
    have G2 := Lib.hid g2; clear g2
    go_wp2_with (first | (go_at_call 11; refine G1.out.mono ?_; rintro e w' ⟨rfl, rfl⟩) | (go_at_call 12; refine G2.out.mono ?_; rintro e w' ⟨rfl, rfl⟩))
    exact fun todo => rn_fin rfl rfl
  rw [e2] at g2
  obtain ⟨hbd, hbd2⟩ := great_noC e2
  have Hsm := Lib.hid hsm; clear hsm
  have Hbd2 := Lib.hid hbd2; clear hbd2
  have G1 := Lib.hid g1; clear g1
  have G2 := Lib.hid g2; clear g2
  clear e1 e2
  by_cases h6 : 6 < n ∧ n ≤ 30
  · obtain ⟨h61, h62⟩ := h6
    go_wp2_with (first | (go_at_call 11; refine G1.out.mono ?_; rintro e w' ⟨rfl, rfl⟩) | (go_at_call 12; refine G2.out.mono ?_; rintro e w' ⟨rfl, rfl⟩))
    exact fun todo => rn_fin rfl rfl
  by_cases h61 : 6 < n
  · have h62 : 30 < n := by omega
    go_wp2_with (first | (go_at_call 11; refine G1.out.mono ?_; rintro e w' ⟨rfl, rfl⟩) | (go_at_call 12; refine G2.out.mono ?_; rintro e w' ⟨rfl, rfl⟩))
    exact rn_main rfl rfl rfl rfl rfl rfl (Hr.out.kp eqv_rul k2) (Hm.out.kp eqv_mod k2) hs hn (Ht.out.kp k2 Hg.out) (Hg.out.kp k2) Hsm.out hbd Hbd2.out
  · go_wp2_with (first | (go_at_call 11; refine G1.out.mono ?_; rintro e w' ⟨rfl, rfl⟩) | (go_at_call 12; refine G2.out.mono ?_; rintro e w' ⟨rfl, rfl⟩))
    exact rn_main rfl rfl rfl rfl rfl rfl (Hr.out.kp eqv_rul k2) (Hm.out.kp eqv_mod k2) hs hn (Ht.out.kp k2 Hg.out) (Hg.out.kp k2) Hsm.out hbd Hbd2.out
end Go.Proofs.YtlipmagkplbkdaaDoor
