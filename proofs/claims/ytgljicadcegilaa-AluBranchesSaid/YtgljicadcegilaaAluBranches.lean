/- The statement 'AluBranches': a branch is taken just if its opposite is not; the same are taken by the same; and what is less is so as a number that is set. Conditions: none. -/
import Derived.Test.YtgljicadcegilaaWords
namespace Go.Proofs.Ytgljicadcegilaa.AluBranches
open Go.RowKit Go.WideShapes Go.ChangeShapes Go.ChangeAt Ev
set_option linter.unusedVariables false
set_option linter.unusedSimpArgs false

def test0 (a : Int) (b : Int) : Bool := ((litCmp .eql (cond (litCmp .lss (IntKind.wrap .i64 a) (IntKind.wrap .i64 b)) 1 0) 1) == ((litCmp .lss (IntKind.wrap .i64 a) (IntKind.wrap .i64 b)) == true))
def val (a : Int) (b : Int) : Bool := (cond (((litCmp .eql a b) == true) == (litCmp .eql a b)) (cond (cond (!(((litCmp .eql a b) == true) == ((litCmp .eql a b) == false))) (cond (!(((litCmp .lss (IntKind.wrap .i64 a) (IntKind.wrap .i64 b)) == true) == ((litCmp .lss (IntKind.wrap .i64 a) (IntKind.wrap .i64 b)) == false))) (!(((litCmp .lss a b) == true) == ((litCmp .lss a b) == false))) false) false) (cond ((litCmp .eql (cond (litCmp .lss a b) 1 0) 1) == ((litCmp .lss a b) == true)) (cond (cond ((litCmp .eql a b) == true) (cond (!((litCmp .lss (IntKind.wrap .i64 a) (IntKind.wrap .i64 b)) == true)) (cond (!((litCmp .lss (IntKind.wrap .i64 b) (IntKind.wrap .i64 a)) == true)) true (cond (!((litCmp .eql a b) == true)) (!(((litCmp .lss (IntKind.wrap .i64 a) (IntKind.wrap .i64 b)) == true) == ((litCmp .lss (IntKind.wrap .i64 b) (IntKind.wrap .i64 a)) == true))) false)) (cond (!((litCmp .eql a b) == true)) (!(((litCmp .lss (IntKind.wrap .i64 a) (IntKind.wrap .i64 b)) == true) == ((litCmp .lss (IntKind.wrap .i64 b) (IntKind.wrap .i64 a)) == true))) false)) (cond (!((litCmp .eql a b) == true)) (!(((litCmp .lss (IntKind.wrap .i64 a) (IntKind.wrap .i64 b)) == true) == ((litCmp .lss (IntKind.wrap .i64 b) (IntKind.wrap .i64 a)) == true))) false)) (cond (((litCmp .lss (litBin .xor .u64 a 9223372036854775808) (litBin .xor .u64 b 9223372036854775808)) == true) == ((litCmp .lss (IntKind.wrap .i64 a) (IntKind.wrap .i64 b)) == true)) (((litCmp .lss a b) == true) == (litCmp .lss a b)) false) false) false) false) false)
set_option maxRecDepth 100000 in
theorem road (a : Int) (b : Int) : ((call Try.prog cx 400 18 [.int .u64 (.sym a), .int .u64 (.sym b)] []).route [true]).map (fun p => (p.1, p.2.1)) = some ([test0 a b], .val (.bool (.sym (val a b)))) := by kernel_rfl

theorem xor_top {a : Int} (ha : inU a) : litBin .xor .u64 a 9223372036854775808 = (a + 9223372036854775808) % 18446744073709551616 := by
  obtain ⟨n, rfl, hn⟩ := ha.nat
  have e : litBin .xor .u64 (n : Int) 9223372036854775808 = ((n ^^^ 9223372036854775808 : Nat) : Int) := xor_nat hn (y := 9223372036854775808) (by decide)
  rw [e]
  have h1 : (n ^^^ 9223372036854775808) / 2 ^ 63 = n / 2 ^ 63 ^^^ 9223372036854775808 / 2 ^ 63 := Nat.xor_div_two_pow
  have h2 : (n ^^^ 9223372036854775808) % 2 ^ 63 = n % 2 ^ 63 ^^^ 9223372036854775808 % 2 ^ 63 := Nat.xor_mod_two_pow
  rw [show (9223372036854775808 : Nat) / 2 ^ 63 = 1 from rfl] at h1
  rw [show (9223372036854775808 : Nat) % 2 ^ 63 = 0 from rfl, Nat.xor_zero] at h2
  generalize n ^^^ 9223372036854775808 = m at *
  have hq : n / 2 ^ 63 = 0 ∨ n / 2 ^ 63 = 1 := by omega
  rcases hq with hq | hq
  · rw [hq, show (0 ^^^ 1 : Nat) = 1 from rfl] at h1
    omega
  · rw [hq, show (1 ^^^ 1 : Nat) = 0 from rfl] at h1
    omega
theorem law {a b : Int} (wa : (Lit.int .u64 a).wf = true) (wb : (Lit.int .u64 b).wf = true) : test0 a b = true ∧ val a b = true := by
  have ha := inU_wf wa
  have hb := inU_wf wb
  have hF : litCmp .lss (litBin .xor .u64 a 9223372036854775808) (litBin .xor .u64 b 9223372036854775808) = litCmp .lss (IntKind.wrap .i64 a) (IntKind.wrap .i64 b) := by
    rw [xor_top ha, xor_top hb, lss_eq, lss_eq, wrapi, wrapi]
    exact decide_eq_decide.2 (by omega)
  have hE1 : litCmp .eql a b = true → litCmp .lss (IntKind.wrap .i64 a) (IntKind.wrap .i64 b) = false ∧ litCmp .lss (IntKind.wrap .i64 b) (IntKind.wrap .i64 a) = false := by
    intro h
    have h' : a = b := of_decide_eq_true h
    subst h'
    have : litCmp .lss (IntKind.wrap .i64 a) (IntKind.wrap .i64 a) = false := decide_eq_false (by omega)
    exact ⟨this, this⟩
  have hE2 : litCmp .eql a b = false → litCmp .lss (IntKind.wrap .i64 a) (IntKind.wrap .i64 b) = !litCmp .lss (IntKind.wrap .i64 b) (IntKind.wrap .i64 a) := by
    intro h
    have h' : ¬ a = b := of_decide_eq_false h
    unfold inU at ha hb
    rw [lss_eq, lss_eq, wrapi, wrapi, ← decide_not]
    exact decide_eq_decide.2 (by omega)
  unfold test0 val
  rw [hF]
  generalize litCmp .eql a b = E at *
  generalize litCmp .lss (IntKind.wrap .i64 a) (IntKind.wrap .i64 b) = L at *
  generalize litCmp .lss (IntKind.wrap .i64 b) (IntKind.wrap .i64 a) = L' at *
  generalize litCmp .lss a b = U at *
  clear wa wb ha hb hF
  have hl : ∀ c : Bool, litCmp .eql (cond c 1 0) 1 = c := by intro c; cases c <;> rfl
  rw [hl, hl]
  revert hE1 hE2
  revert E L L' U
  decide

theorem sums (a b : Int) (wa : (Lit.int .u64 a).wf = true) (wb : (Lit.int .u64 b).wf = true) :
    ∃ c : Bool, (call Try.prog cx 400 18 [.int .u64 (.sym a), .int .u64 (.sym b)] []).pick.map (·.1) = some (.val (.bool (.sym c))) ∧ c = true :=
  ⟨_, route_pick1 (road a b) (by rw [(law wa wb).1]), (law wa wb).2⟩

set_option maxRecDepth 100000 in
set_option maxHeartbeats 4000000 in
theorem run : ∀ vs, ArgsOk [.one (.int .u64), .one (.int .u64)] vs → ∀ w, Calls Try.prog 18 vs.toArray w fun e w' => e = .returned (.bool true) ∧ Below w.heap.size w w' := by
  intro vs h w
  obtain ⟨_, _, rfl, ⟨a, rfl, wa⟩, _, _, rfl, ⟨b, rfl, wb⟩, rfl⟩ := h
  obtain ⟨c, k1, k2⟩ := sums a b wa wb
  have k3 := (rfl : List.map absV [.int .u64 a, .int .u64 b] = [.int .u64 (.sym a), .int .u64 (.sym b)])
  have k4 := law_true2 cx_ok k3 k1 k2 w
  exact k4

set_option maxRecDepth 100000 in
theorem lifted (os : Os) (started : os.Started) (H : Type) (enc : TypeId × Value → H) :
    ReturnsInHanded {} Try.checked os 18 .any (Rows.aluBranchesSpec.pre6 enc Try.prog Try.f18 Rows.aluBranchesRow.domain false) (Rows.aluBranchesSpec.post enc Try.prog Try.f18 false true false false) := by
  refine returnsInHanded_of_change (C := Try.checked) own started (by kernel_rfl) Try.func18
    (ChangeSpec.witness6 (enc := enc) (C := Try.checked) false ⟨#[], #[.int .u64 0, .int .u64 0], []⟩ 8 (by kernel_rfl) (by kernel_rfl) (by kernel_rfl) (by kernel_rfl)) ?_
  intro W base args ds gs before hval hW _ _
  exact lifted_plain (P := Try.prog) (f := 18) (fn := Try.f18) (s := Rows.aluBranchesSpec) (tb := 4) rfl
    (fun ds h => by
      match ds, h with
      | [d1, d2], _ => rfl)
    (by kernel_rfl) rfl (by kernel_rfl) run W base args ds gs before hval hW

theorem over : Rows.aluBranchesRow.holds Try.pinned (OpenSpec.ofChange Rows.aluBranchesSpec) :=
  OpenClaim.holds_of_wide 18 Try.f18 rfl rfl rfl rfl rfl rfl rfl ⟨rfl, rfl, rfl, rfl, rfl⟩ rfl rfl rfl rfl rfl (by kernel_rfl) Try.func18 (by kernel_rfl)
    (of_decide_eq_true (by kernel_rfl)) (by unfold Func.isWrapper; first | (rw [if_pos (by decide +kernel)]; kernel_rfl) | (rw [if_neg (by decide +kernel)]; exact ⟨rfl, rfl⟩))
    (fun os started H enc _ => lifted os started H enc)

/-- The statement. -/
theorem proved : Rows.AluBranchesSaid :=
  over
#print axioms proved
end Go.Proofs.Ytgljicadcegilaa.AluBranches
