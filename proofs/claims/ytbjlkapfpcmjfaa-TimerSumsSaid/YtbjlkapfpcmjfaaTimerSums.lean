/- The statement 'TimerSums': ticks add up, however they are cut, and stop at the greatest time. Conditions: none. -/
import Derived.Test.YtbjlkapfpcmjfaaCx
import Derived.Test.YtbjlkapfpcmjfaaEvWord
namespace Go.Proofs.Ytbjlkapfpcmjfaa.TimerSums
open Go.RowKit Go.WideShapes Go.ChangeShapes Go.ChangeAt Ev
set_option linter.unusedVariables false
set_option linter.unusedSimpArgs false

def formula (a b : Int) : Bool := (cond (litCmp .eql (litBin .add .u64 (litBin .add .u64 0 (cond (litCmp .lss 18446744073709551615 a) 18446744073709551615 a)) (cond (litCmp .lss (litBin .sub .u64 18446744073709551615 (litBin .add .u64 0 (cond (litCmp .lss 18446744073709551615 a) 18446744073709551615 a))) b) (litBin .sub .u64 18446744073709551615 (litBin .add .u64 0 (cond (litCmp .lss 18446744073709551615 a) 18446744073709551615 a))) b)) (cond (litCmp .lss (litBin .add .u64 a b) a) 18446744073709551615 (litBin .add .u64 a b))) (litCmp .eql (litBin .add .u64 (litBin .add .u64 0 (cond (litCmp .lss 18446744073709551615 b) 18446744073709551615 b)) (cond (litCmp .lss (litBin .sub .u64 18446744073709551615 (litBin .add .u64 0 (cond (litCmp .lss 18446744073709551615 b) 18446744073709551615 b))) a) (litBin .sub .u64 18446744073709551615 (litBin .add .u64 0 (cond (litCmp .lss 18446744073709551615 b) 18446744073709551615 b))) a)) (cond (litCmp .lss (litBin .add .u64 a b) a) 18446744073709551615 (litBin .add .u64 a b))) false)

theorem evals (a b : Int) : (call Try.prog cx 400 5 [.int .u64 (.sym a), .int .u64 (.sym b)] []).pick.map (·.1) = some (.val (.bool (.sym (formula a b)))) := by kernel_rfl

theorem law (a b : Int) (wa : (Lit.int .u64 a).wf = true) (wb : (Lit.int .u64 b).wf = true) : formula a b = true := by
  have ha := wf64 wa
  have hb := wf64 wb
  have e1 : ∀ x : Int, 0 ≤ x ∧ x < 18446744073709551616 → cond (litCmp .lss 18446744073709551615 x) 18446744073709551615 x = x := fun x hx => by
    rw [lss_eq, decide_eq_false (by omega)]
    rfl
  have e2 : ∀ x : Int, 0 ≤ x ∧ x < 18446744073709551616 → litBin .add .u64 0 x = x := fun x hx => by
    rw [add_eq]
    omega
  have e3 : ∀ x : Int, 0 ≤ x ∧ x < 18446744073709551616 → litBin .sub .u64 18446744073709551615 x = 18446744073709551615 - x := fun x hx => by
    rw [sub_eq]
    omega
  unfold formula
  rw [e1 a ha, e1 b hb, e2 a ha, e2 b hb, e3 a ha, e3 b hb]
  by_cases h : 18446744073709551615 < a + b
  · have h1 : litCmp .lss (18446744073709551615 - a) b = true := by rw [lss_eq]; exact decide_eq_true (by omega)
    have h2 : litCmp .lss (18446744073709551615 - b) a = true := by rw [lss_eq]; exact decide_eq_true (by omega)
    have h3 : litCmp .lss (litBin .add .u64 a b) a = true := by rw [lss_eq, add_eq]; exact decide_eq_true (by omega)
    rw [h1, h2, h3]
    have h4 : litBin .add .u64 a (18446744073709551615 - a) = 18446744073709551615 := by rw [add_eq]; omega
    have h5 : litBin .add .u64 b (18446744073709551615 - b) = 18446744073709551615 := by rw [add_eq]; omega
    simp only [cond_true, h4, h5]
    rfl
  · have h1 : litCmp .lss (18446744073709551615 - a) b = false := by rw [lss_eq]; exact decide_eq_false (by omega)
    have h2 : litCmp .lss (18446744073709551615 - b) a = false := by rw [lss_eq]; exact decide_eq_false (by omega)
    have h3 : litCmp .lss (litBin .add .u64 a b) a = false := by rw [lss_eq, add_eq]; exact decide_eq_false (by omega)
    rw [h1, h2, h3]
    have h4 : litBin .add .u64 b a = litBin .add .u64 a b := by rw [add_eq, add_eq]; omega
    have h5 : litCmp .eql (litBin .add .u64 a b) (litBin .add .u64 a b) = true := by rw [eql_eq]; exact decide_eq_true rfl
    simp only [cond_false, h4, h5, cond_true]

theorem run : ∀ vs, ArgsOk [.one (.int .u64), .one (.int .u64)] vs → ∀ w, Calls Try.prog 5 vs.toArray w fun e w' => e = .returned (.bool true) ∧ Below w.heap.size w w' := by
  intro vs h w
  obtain ⟨_, _, rfl, ⟨a, rfl, wa⟩, _, _, rfl, ⟨b, rfl, wb⟩, rfl⟩ := h
  exact law_true (n := 400) (f := 5) (vs := [.int .u64 a, .int .u64 b]) (b := formula a b) cx_ok (evals a b) (law a b wa wb) w

set_option maxRecDepth 100000 in
theorem lifted (os : Os) (started : os.Started) (H : Type) (enc : TypeId × Value → H) :
    ReturnsInHanded {} Try.checked os 5 .any (Rows.timerSumsSpec.pre6 enc Try.prog Try.f5 Rows.timerSumsRow.domain false) (Rows.timerSumsSpec.post enc Try.prog Try.f5 false true false false) := by
  refine returnsInHanded_of_change (C := Try.checked) own started (by kernel_rfl) Try.func5
    (ChangeSpec.witness6 (enc := enc) (C := Try.checked) false ⟨#[], #[.int .u64 0, .int .u64 0], []⟩ 8 (by kernel_rfl) (by kernel_rfl) (by kernel_rfl) (by kernel_rfl)) ?_
  intro W base args ds gs before hval hW _ _
  exact lifted_plain (P := Try.prog) (f := 5) (fn := Try.f5) (s := Rows.timerSumsSpec) (tb := 4) rfl
    (fun ds h => by
      match ds, h with
      | [d1, d2], _ => rfl)
    (by kernel_rfl) rfl (by kernel_rfl) run W base args ds gs before hval hW

theorem over : Rows.timerSumsRow.holds Try.pinned (OpenSpec.ofChange Rows.timerSumsSpec) :=
  OpenClaim.holds_of_wide 5 Try.f5 rfl rfl rfl rfl rfl rfl rfl ⟨rfl, rfl, rfl, rfl, rfl⟩ rfl rfl rfl rfl rfl (by kernel_rfl) Try.func5 (by kernel_rfl)
    (of_decide_eq_true (by kernel_rfl)) (by unfold Func.isWrapper; first | (rw [if_pos (by decide +kernel)]; kernel_rfl) | (rw [if_neg (by decide +kernel)]; exact ⟨rfl, rfl⟩))
    (fun os started H enc _ => lifted os started H enc)

/-- The statement. -/
theorem proved : Rows.TimerSumsSaid :=
  over
#print axioms proved
end Go.Proofs.Ytbjlkapfpcmjfaa.TimerSums
