/- The statement 'WordDivides': what is divided is what comes of it times the other, and the rest; and the rest is smaller, and has the sign of what was divided. Conditions: none. -/
import Derived.Test.YtgljicadcegilaaCx
import Derived.Test.YtgljicadcegilaaEvRoute
namespace Go.Proofs.Ytgljicadcegilaa.WordDivides
open Go.RowKit Go.WideShapes Go.ChangeShapes Go.ChangeAt Ev
set_option linter.unusedVariables false
set_option linter.unusedSimpArgs false

def zeroF (a b : Int) : Bool := (cond (cond (litCmp .neq (litBin .add .u64 (litBin .mul .u64 18446744073709551615 (litBin .and .u64 b 18446744073709551615)) a) a) true (litCmp .neq (litBin .add .u64 (litBin .mul .u64 18446744073709551615 (litBin .and .u64 b 18446744073709551615)) (IntKind.wrap .u64 (IntKind.wrap .i64 a))) a)) false (cond (litCmp .eql b 0) (cond (litCmp .eql a a) (litCmp .eql (IntKind.wrap .u64 (IntKind.wrap .i64 a)) a) false) (cond (litCmp .lss a b) (cond (litCmp .eql (IntKind.wrap .u64 (IntKind.wrap .i64 a)) 0) true (litCmp .eql (litBin .shr .u64 (IntKind.wrap .u64 (IntKind.wrap .i64 a)) 63) (litBin .shr .u64 a 63))) false)))
set_option maxRecDepth 100000 in
theorem zeroRoad (a b : Int) : ((call Try.prog cx 400 3 [.int .u64 (.sym a), .int .u64 (.sym b)] []).route [true, true, true, true]).map (fun p => (p.1, p.2.1)) = some ([(litCmp .eql b 0), (litCmp .eql b 0), (litCmp .eql (IntKind.wrap .i64 b) 0), (litCmp .eql (IntKind.wrap .i64 b) 0)], .val (.bool (.sym (zeroF a b)))) := by kernel_rfl

def minusF (a b : Int) : Bool := (cond (cond (litCmp .neq (litBin .add .u64 (litBin .mul .u64 (litBin .quo .u64 a b) (litBin .and .u64 b 18446744073709551615)) (litBin .rem .u64 a b)) a) true (litCmp .neq (litBin .add .u64 (litBin .mul .u64 (IntKind.wrap .u64 (litUna .neg .i64 (IntKind.wrap .i64 a))) (litBin .and .u64 b 18446744073709551615)) 0) a)) false (cond (litCmp .eql b 0) (cond (litCmp .eql (litBin .quo .u64 a b) 18446744073709551615) (cond (litCmp .eql (IntKind.wrap .u64 (litUna .neg .i64 (IntKind.wrap .i64 a))) (litBin .quo .u64 a b)) (cond (litCmp .eql (litBin .rem .u64 a b) a) (litCmp .eql 0 a) false) false) false) (litCmp .lss (litBin .rem .u64 a b) b)))
set_option maxRecDepth 100000 in
theorem minusRoad (a b : Int) : ((call Try.prog cx 400 3 [.int .u64 (.sym a), .int .u64 (.sym b)] []).route [false, false, false, false, false, false, false, true, false, true]).map (fun p => (p.1, p.2.1)) = some ([(litCmp .eql b 0), (litCmp .eql b 0), (litCmp .eql b 0), (litCmp .eql b 0), (litCmp .eql b 0), (litCmp .eql b 0), (litCmp .eql (IntKind.wrap .i64 b) 0), (litCmp .eql (IntKind.wrap .i64 b) (-1)), (litCmp .eql (IntKind.wrap .i64 b) 0), (litCmp .eql (IntKind.wrap .i64 b) (-1))], .val (.bool (.sym (minusF a b)))) := by kernel_rfl

def elseF (a b : Int) : Bool := (cond (cond (litCmp .neq (litBin .add .u64 (litBin .mul .u64 (litBin .quo .u64 a b) (litBin .and .u64 b 18446744073709551615)) (litBin .rem .u64 a b)) a) true (litCmp .neq (litBin .add .u64 (litBin .mul .u64 (IntKind.wrap .u64 (litBin .quo .i64 (IntKind.wrap .i64 a) (IntKind.wrap .i64 b))) (litBin .and .u64 b 18446744073709551615)) (IntKind.wrap .u64 (litBin .rem .i64 (IntKind.wrap .i64 a) (IntKind.wrap .i64 b)))) a)) false (cond (litCmp .eql b 0) (cond (litCmp .eql (litBin .quo .u64 a b) 18446744073709551615) (cond (litCmp .eql (IntKind.wrap .u64 (litBin .quo .i64 (IntKind.wrap .i64 a) (IntKind.wrap .i64 b))) (litBin .quo .u64 a b)) (cond (litCmp .eql (litBin .rem .u64 a b) a) (litCmp .eql (IntKind.wrap .u64 (litBin .rem .i64 (IntKind.wrap .i64 a) (IntKind.wrap .i64 b))) a) false) false) false) (cond (litCmp .lss (litBin .rem .u64 a b) b) (cond (litCmp .eql (IntKind.wrap .u64 (litBin .rem .i64 (IntKind.wrap .i64 a) (IntKind.wrap .i64 b))) 0) true (litCmp .eql (litBin .shr .u64 (IntKind.wrap .u64 (litBin .rem .i64 (IntKind.wrap .i64 a) (IntKind.wrap .i64 b))) 63) (litBin .shr .u64 a 63))) false)))
set_option maxRecDepth 100000 in
theorem elseRoad (a b : Int) : ((call Try.prog cx 400 3 [.int .u64 (.sym a), .int .u64 (.sym b)] []).route [false, false, false, false, false, false, false, false, false, false, false, false, false, false]).map (fun p => (p.1, p.2.1)) = some ([(litCmp .eql b 0), (litCmp .eql b 0), (litCmp .eql b 0), (litCmp .eql b 0), (litCmp .eql b 0), (litCmp .eql b 0), (litCmp .eql (IntKind.wrap .i64 b) 0), (litCmp .eql (IntKind.wrap .i64 b) (-1)), (litCmp .eql (IntKind.wrap .i64 b) 0), (litCmp .eql (IntKind.wrap .i64 b) 0), (litCmp .eql (IntKind.wrap .i64 b) 0), (litCmp .eql (IntKind.wrap .i64 b) (-1)), (litCmp .eql (IntKind.wrap .i64 b) 0), (litCmp .eql (IntKind.wrap .i64 b) 0)], .val (.bool (.sym (elseF a b)))) := by kernel_rfl

theorem wrapi (x : Int) : IntKind.i64.wrap x = (x + 9223372036854775808) % 18446744073709551616 - 9223372036854775808 := by
  simp [IntKind.wrap, IntKind.signed, IntKind.bits]
  try omega
theorem neq_self (x : Int) : litCmp .neq x x = false := by rw [neq_eq, decide_eq_true rfl]; rfl
theorem eql_self (x : Int) : litCmp .eql x x = true := by rw [eql_eq]; exact decide_eq_true rfl
theorem mul_eq (x y : Int) : litBin .mul .u64 x y = (x * y) % 18446744073709551616 := Ev.wrap64 _
theorem and_all {x : Int} (h : inU x) : litBin .and .u64 x 18446744073709551615 = x := by
  obtain ⟨n, rfl, hn⟩ := h.nat
  have e : litBin .and .u64 (n : Int) 18446744073709551615 = ((n &&& 18446744073709551615 : Nat) : Int) := and_nat hn (y := 18446744073709551615) (by decide)
  have e2 : n &&& 18446744073709551615 = n % 18446744073709551616 := Nat.and_two_pow_sub_one_eq_mod n 64
  rw [e, e2, Nat.mod_eq_of_lt hn]
theorem uns {a : Int} (ha : inU a) : IntKind.wrap .u64 (IntKind.wrap .i64 a) = a := by
  unfold inU at ha
  rw [Ev.wrap64, wrapi]
  omega
theorem unw (x : Int) : IntKind.wrap .u64 (IntKind.wrap .i64 x) = x % 18446744073709551616 := by
  rw [Ev.wrap64, wrapi]
  omega
theorem quo_u (a b : Int) : litBin .quo .u64 a b = (a.tdiv b) % 18446744073709551616 := Ev.wrap64 _
theorem rem_u (a b : Int) : litBin .rem .u64 a b = a.tmod b := rfl
theorem rem_i (a b : Int) : litBin .rem .i64 a b = a.tmod b := rfl
theorem quo_i (a b : Int) : litBin .quo .i64 a b = IntKind.i64.wrap (a.tdiv b) := rfl

theorem zeroLaw {a : Int} (ha : inU a) : zeroF a 0 = true := by
  unfold zeroF
  have h1 : litBin .and .u64 0 18446744073709551615 = 0 := and_all (x := 0) (by unfold inU; omega)
  have h2 : litBin .mul .u64 18446744073709551615 0 = 0 := by rw [mul_eq]; rfl
  have h3 : litBin .add .u64 0 a = a := by rw [add_eq]; unfold inU at ha; omega
  rw [uns ha, h1, h2, h3, neq_self, eql_self, eql_self]
  rfl
theorem minusLaw {a : Int} (ha : inU a) : minusF a 18446744073709551615 = true := by
  unfold minusF
  have h1 : litBin .and .u64 18446744073709551615 18446744073709551615 = 18446744073709551615 := and_all (x := 18446744073709551615) (by unfold inU; omega)
  have h2 : litBin .quo .u64 a 18446744073709551615 = if a = 18446744073709551615 then 1 else 0 := by
    unfold inU at ha
    rw [quo_u, Int.tdiv_eq_ediv_of_nonneg ha.1]
    split <;> omega
  have h3 : litBin .rem .u64 a 18446744073709551615 = if a = 18446744073709551615 then 0 else a := by
    unfold inU at ha
    rw [rem_u, Int.tmod_eq_emod_of_nonneg ha.1]
    split <;> omega
  have h4 : IntKind.wrap .u64 (litUna .neg .i64 (IntKind.wrap .i64 a)) = (0 - a) % 18446744073709551616 := by
    show IntKind.wrap .u64 (IntKind.wrap .i64 (0 - IntKind.wrap .i64 a)) = _
    rw [unw, wrapi]
    omega
  have h5 : litBin .add .u64 (litBin .mul .u64 ((0 - a) % 18446744073709551616) 18446744073709551615) 0 = a := by
    unfold inU at ha
    rw [add_eq, mul_eq]
    omega
  have h6 : litCmp .eql 18446744073709551615 0 = false := rfl
  rw [h1, h2, h3, h4, h5, neq_self, h6]
  unfold inU at ha
  by_cases g : a = 18446744073709551615
  · rw [if_pos g, if_pos g, g]; rfl
  · rw [if_neg g, if_neg g]
    have h7 : litBin .mul .u64 0 18446744073709551615 = 0 := by rw [mul_eq]; rfl
    have h8 : litBin .add .u64 0 a = a := by rw [add_eq]; omega
    rw [h7, h8, neq_self, lss_eq, decide_eq_true (by omega)]
    rfl
theorem md (x y z : Int) : ((x % 18446744073709551616 * y) % 18446744073709551616 + z) % 18446744073709551616 = (x * y + z) % 18446744073709551616 := by
  simp [Int.add_emod, Int.mul_emod]
theorem md2 (x y y' z : Int) (h : y % 18446744073709551616 = y' % 18446744073709551616) : ((x % 18446744073709551616 * y) % 18446744073709551616 + z % 18446744073709551616) % 18446744073709551616 = (x * y' + z) % 18446744073709551616 := by
  rw [md, Int.add_emod, Int.mul_emod, h, ← Int.mul_emod, Int.emod_emod, ← Int.add_emod]
theorem shr_e (x : Int) : litBin .shr .u64 x 63 = x / 9223372036854775808 := by
  show Int.fdiv x (2 ^ (min ((63 : Int).toNat) 64)) = _
  rw [Int.fdiv_eq_ediv_of_nonneg _ (by decide)]
  rfl
theorem tm {x : Int} (y : Int) (hx : 0 ≤ x) : 0 ≤ x.tmod y ∧ x.tmod y ≤ x := by
  have h1 := Int.tmod_nonneg y hx
  have h2 := Int.natAbs_tmod x y
  have h3 := Nat.mod_le x.natAbs y.natAbs
  omega
theorem tm' {x : Int} (y : Int) (hx : x < 0) : x ≤ x.tmod y ∧ x.tmod y ≤ 0 := by
  have h1 := tm y (show 0 ≤ -x by omega)
  rw [Int.neg_tmod] at h1
  omega
theorem elseLaw {a b : Int} (ha : inU a) (hb : inU b) (h0 : b ≠ 0) : elseF a b = true := by
  unfold elseF
  have hA := wrapi a
  have hB := wrapi b
  generalize IntKind.i64.wrap a = A at hA ⊢
  generalize IntKind.i64.wrap b = B at hB ⊢
  have ha' := ha
  have hb' := hb
  unfold inU at ha' hb'
  have e1 : litBin .add .u64 (litBin .mul .u64 (litBin .quo .u64 a b) b) (litBin .rem .u64 a b) = a := by
    rw [add_eq, mul_eq, quo_u, rem_u, md, Int.add_comm, Int.tmod_add_tdiv_mul]
    omega
  have e2 : litBin .add .u64 (litBin .mul .u64 (IntKind.wrap .u64 (litBin .quo .i64 A B)) b) (IntKind.wrap .u64 (litBin .rem .i64 A B)) = a := by
    rw [add_eq, mul_eq, quo_i, unw, rem_i, Ev.wrap64, md2 _ b B _ (by omega), Int.add_comm, Int.tmod_add_tdiv_mul]
    omega
  have e3 : litCmp .eql b 0 = false := decide_eq_false h0
  have e4 : litCmp .lss (litBin .rem .u64 a b) b = true := by
    rw [lss_eq, rem_u]
    exact decide_eq_true (Int.tmod_lt_of_pos a (by omega))
  have e6 : IntKind.wrap .u64 (litBin .rem .i64 A B) = A.tmod B % 18446744073709551616 := by rw [rem_i, Ev.wrap64]
  rw [and_all hb, e1, e2, neq_self, e3, e4, e6]
  by_cases g : A.tmod B % 18446744073709551616 = 0
  · have z1 : litCmp .eql (A.tmod B % 18446744073709551616) 0 = true := decide_eq_true g
    rw [z1]; rfl
  · have e5 : A.tmod B % 18446744073709551616 / 9223372036854775808 = a / 9223372036854775808 := by
      by_cases gA : 0 ≤ A
      · have := tm B gA
        generalize A.tmod B = T at *
        omega
      · have := tm' B (show A < 0 by omega)
        generalize A.tmod B = T at *
        omega
    have z2 : litCmp .eql (litBin .shr .u64 (A.tmod B % 18446744073709551616) 63) (litBin .shr .u64 a 63) = true := by
      rw [shr_e, shr_e, eql_eq]
      exact decide_eq_true e5
    rw [z2]
    cases litCmp .eql (A.tmod B % 18446744073709551616) 0 <;> rfl

set_option maxRecDepth 100000 in
theorem sums (a b : Int) (wa : (Lit.int .u64 a).wf = true) (wb : (Lit.int .u64 b).wf = true) :
    ∃ c : Bool, (call Try.prog cx 400 3 [.int .u64 (.sym a), .int .u64 (.sym b)] []).pick.map (·.1) = some (.val (.bool (.sym c))) ∧ c = true := by
  have ha := inU_wf wa
  have hb := inU_wf wb
  have hb' := hb
  unfold inU at hb'
  by_cases g0 : b = 0
  · subst g0
    exact ⟨_, route_pick1 (zeroRoad a 0) rfl, zeroLaw ha⟩
  · by_cases g1 : b = 18446744073709551615
    · subst g1
      exact ⟨_, route_pick1 (minusRoad a 18446744073709551615) rfl, minusLaw ha⟩
    · have c1 : litCmp .eql b 0 = false := decide_eq_false g0
      have c2 : litCmp .eql (IntKind.wrap .i64 b) 0 = false := by rw [wrapi]; exact decide_eq_false (by omega)
      have c3 : litCmp .eql (IntKind.wrap .i64 b) (-1) = false := by rw [wrapi]; exact decide_eq_false (by omega)
      refine ⟨_, route_pick1 (elseRoad a b) ?_, elseLaw ha hb g0⟩
      rw [c1, c2, c3]

set_option maxRecDepth 100000 in
set_option maxHeartbeats 4000000 in
theorem run : ∀ vs, ArgsOk [.one (.int .u64), .one (.int .u64)] vs → ∀ w, Calls Try.prog 3 vs.toArray w fun e w' => e = .returned (.bool true) ∧ Below w.heap.size w w' := by
  intro vs h w
  obtain ⟨_, _, rfl, ⟨a, rfl, wa⟩, _, _, rfl, ⟨b, rfl, wb⟩, rfl⟩ := h
  obtain ⟨c, k1, k2⟩ := sums a b wa wb
  have k3 := (rfl : List.map absV [.int .u64 a, .int .u64 b] = [.int .u64 (.sym a), .int .u64 (.sym b)])
  have k4 := law_true2 cx_ok k3 k1 k2 w
  exact k4

set_option maxRecDepth 100000 in
theorem lifted (os : Os) (started : os.Started) (H : Type) (enc : TypeId × Value → H) :
    ReturnsInHanded {} Try.checked os 3 .any (Rows.wordDividesSpec.pre6 enc Try.prog Try.f3 Rows.wordDividesRow.domain false) (Rows.wordDividesSpec.post enc Try.prog Try.f3 false true false false) := by
  refine returnsInHanded_of_change (C := Try.checked) own started (by kernel_rfl) Try.func3
    (ChangeSpec.witness6 (enc := enc) (C := Try.checked) false ⟨#[], #[.int .u64 0, .int .u64 0], []⟩ 8 (by kernel_rfl) (by kernel_rfl) (by kernel_rfl) (by kernel_rfl)) ?_
  intro W base args ds gs before hval hW _ _
  exact lifted_plain (P := Try.prog) (f := 3) (fn := Try.f3) (s := Rows.wordDividesSpec) rfl
    (fun ds h => by
      match ds, h with
      | [d1, d2], _ => rfl)
    (by kernel_rfl) rfl (by kernel_rfl) run W base args ds gs before hval hW

theorem over : Rows.wordDividesRow.holds Try.pinned (OpenSpec.ofChange Rows.wordDividesSpec) :=
  OpenClaim.holds_of_wide 3 Try.f3 rfl rfl rfl rfl rfl rfl rfl ⟨rfl, rfl, rfl, rfl, rfl⟩ rfl rfl rfl rfl rfl (by kernel_rfl) Try.func3 (by kernel_rfl)
    (of_decide_eq_true (by kernel_rfl)) (by unfold Func.isWrapper; first | (rw [if_pos (by decide +kernel)]; kernel_rfl) | (rw [if_neg (by decide +kernel)]; exact ⟨rfl, rfl⟩))
    (fun os started H enc _ => lifted os started H enc)

/-- The statement. -/
theorem proved : Rows.WordDividesSaid :=
  over
#print axioms proved
end Go.Proofs.Ytgljicadcegilaa.WordDivides
