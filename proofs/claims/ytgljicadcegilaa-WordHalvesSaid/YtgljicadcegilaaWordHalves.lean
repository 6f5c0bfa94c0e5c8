/- The statement 'WordHalves': the halves of a product go with those of the numbers taken the other way about, and of one more. Conditions: none. -/
import Derived.Test.YtgljicadcegilaaWords
namespace Go.Proofs.Ytgljicadcegilaa.WordHalves
open Go.RowKit Go.WideShapes Go.ChangeShapes Go.ChangeAt Ev
set_option linter.unusedVariables false
set_option linter.unusedSimpArgs false

def val (a : Int) (b : Int) (s : Bool) (t : Bool) : Bool := (cond (litCmp .neq (litBin .sub .u64 (litBin .sub .u64 (litBin .add .u64 (litBin .add .u64 (litBin .mul .u64 (litBin .shr .u64 a 32) (litBin .shr .u64 b 32)) (litBin .shr .u64 (litBin .add .u64 (litBin .mul .u64 (litBin .shr .u64 a 32) (litBin .and .u64 b 4294967295)) (litBin .shr .u64 (litBin .mul .u64 (litBin .and .u64 a 4294967295) (litBin .and .u64 b 4294967295)) 32)) 32)) (litBin .shr .u64 (litBin .add .u64 (litBin .and .u64 (litBin .add .u64 (litBin .mul .u64 (litBin .shr .u64 a 32) (litBin .and .u64 b 4294967295)) (litBin .shr .u64 (litBin .mul .u64 (litBin .and .u64 a 4294967295) (litBin .and .u64 b 4294967295)) 32)) 4294967295) (litBin .mul .u64 (litBin .and .u64 a 4294967295) (litBin .shr .u64 b 32))) 32)) (litBin .and .u64 (cond (!s) 0 (IntKind.wrap .u64 (litBin .shr .i64 (IntKind.wrap .i64 a) 63))) b)) (litBin .and .u64 (cond (!t) 0 (IntKind.wrap .u64 (litBin .shr .i64 (IntKind.wrap .i64 b) 63))) a)) (litBin .sub .u64 (litBin .sub .u64 (litBin .add .u64 (litBin .add .u64 (litBin .mul .u64 (litBin .shr .u64 b 32) (litBin .shr .u64 a 32)) (litBin .shr .u64 (litBin .add .u64 (litBin .mul .u64 (litBin .shr .u64 b 32) (litBin .and .u64 a 4294967295)) (litBin .shr .u64 (litBin .mul .u64 (litBin .and .u64 b 4294967295) (litBin .and .u64 a 4294967295)) 32)) 32)) (litBin .shr .u64 (litBin .add .u64 (litBin .and .u64 (litBin .add .u64 (litBin .mul .u64 (litBin .shr .u64 b 32) (litBin .and .u64 a 4294967295)) (litBin .shr .u64 (litBin .mul .u64 (litBin .and .u64 b 4294967295) (litBin .and .u64 a 4294967295)) 32)) 4294967295) (litBin .mul .u64 (litBin .and .u64 b 4294967295) (litBin .shr .u64 a 32))) 32)) (litBin .and .u64 (cond (!t) 0 (IntKind.wrap .u64 (litBin .shr .i64 (IntKind.wrap .i64 b) 63))) a)) (litBin .and .u64 (cond (!s) 0 (IntKind.wrap .u64 (litBin .shr .i64 (IntKind.wrap .i64 a) 63))) b))) false (cond (cond (litCmp .eql b 18446744073709551615) true (litCmp .eql b 9223372036854775807)) true (litCmp .eql (litBin .sub .u64 (litBin .sub .u64 (litBin .add .u64 (litBin .add .u64 (litBin .mul .u64 (litBin .shr .u64 a 32) (litBin .shr .u64 (litBin .add .u64 b 1) 32)) (litBin .shr .u64 (litBin .add .u64 (litBin .mul .u64 (litBin .shr .u64 a 32) (litBin .and .u64 (litBin .add .u64 b 1) 4294967295)) (litBin .shr .u64 (litBin .mul .u64 (litBin .and .u64 a 4294967295) (litBin .and .u64 (litBin .add .u64 b 1) 4294967295)) 32)) 32)) (litBin .shr .u64 (litBin .add .u64 (litBin .and .u64 (litBin .add .u64 (litBin .mul .u64 (litBin .shr .u64 a 32) (litBin .and .u64 (litBin .add .u64 b 1) 4294967295)) (litBin .shr .u64 (litBin .mul .u64 (litBin .and .u64 a 4294967295) (litBin .and .u64 (litBin .add .u64 b 1) 4294967295)) 32)) 4294967295) (litBin .mul .u64 (litBin .and .u64 a 4294967295) (litBin .shr .u64 (litBin .add .u64 b 1) 32))) 32)) (litBin .and .u64 (cond (!s) 0 (IntKind.wrap .u64 (litBin .shr .i64 (IntKind.wrap .i64 a) 63))) (litBin .add .u64 b 1))) (litBin .and .u64 (cond (!t) 0 (IntKind.wrap .u64 (litBin .shr .i64 (IntKind.wrap .i64 (litBin .add .u64 b 1)) 63))) a)) (cond (cond s (litCmp .eql (litBin .shr .u64 a 63) 1) false) (litBin .sub .u64 (cond (litCmp .lss (litBin .add .u64 (litBin .mul .u64 (litBin .and .u64 a 18446744073709551615) (litBin .and .u64 b 18446744073709551615)) a) (litBin .mul .u64 (litBin .and .u64 a 18446744073709551615) (litBin .and .u64 b 18446744073709551615))) (litBin .add .u64 (litBin .sub .u64 (litBin .sub .u64 (litBin .add .u64 (litBin .add .u64 (litBin .mul .u64 (litBin .shr .u64 a 32) (litBin .shr .u64 b 32)) (litBin .shr .u64 (litBin .add .u64 (litBin .mul .u64 (litBin .shr .u64 a 32) (litBin .and .u64 b 4294967295)) (litBin .shr .u64 (litBin .mul .u64 (litBin .and .u64 a 4294967295) (litBin .and .u64 b 4294967295)) 32)) 32)) (litBin .shr .u64 (litBin .add .u64 (litBin .and .u64 (litBin .add .u64 (litBin .mul .u64 (litBin .shr .u64 a 32) (litBin .and .u64 b 4294967295)) (litBin .shr .u64 (litBin .mul .u64 (litBin .and .u64 a 4294967295) (litBin .and .u64 b 4294967295)) 32)) 4294967295) (litBin .mul .u64 (litBin .and .u64 a 4294967295) (litBin .shr .u64 b 32))) 32)) (litBin .and .u64 (cond (!s) 0 (IntKind.wrap .u64 (litBin .shr .i64 (IntKind.wrap .i64 a) 63))) b)) (litBin .and .u64 (cond (!t) 0 (IntKind.wrap .u64 (litBin .shr .i64 (IntKind.wrap .i64 b) 63))) a)) 1) (litBin .sub .u64 (litBin .sub .u64 (litBin .add .u64 (litBin .add .u64 (litBin .mul .u64 (litBin .shr .u64 a 32) (litBin .shr .u64 b 32)) (litBin .shr .u64 (litBin .add .u64 (litBin .mul .u64 (litBin .shr .u64 a 32) (litBin .and .u64 b 4294967295)) (litBin .shr .u64 (litBin .mul .u64 (litBin .and .u64 a 4294967295) (litBin .and .u64 b 4294967295)) 32)) 32)) (litBin .shr .u64 (litBin .add .u64 (litBin .and .u64 (litBin .add .u64 (litBin .mul .u64 (litBin .shr .u64 a 32) (litBin .and .u64 b 4294967295)) (litBin .shr .u64 (litBin .mul .u64 (litBin .and .u64 a 4294967295) (litBin .and .u64 b 4294967295)) 32)) 4294967295) (litBin .mul .u64 (litBin .and .u64 a 4294967295) (litBin .shr .u64 b 32))) 32)) (litBin .and .u64 (cond (!s) 0 (IntKind.wrap .u64 (litBin .shr .i64 (IntKind.wrap .i64 a) 63))) b)) (litBin .and .u64 (cond (!t) 0 (IntKind.wrap .u64 (litBin .shr .i64 (IntKind.wrap .i64 b) 63))) a))) 1) (cond (litCmp .lss (litBin .add .u64 (litBin .mul .u64 (litBin .and .u64 a 18446744073709551615) (litBin .and .u64 b 18446744073709551615)) a) (litBin .mul .u64 (litBin .and .u64 a 18446744073709551615) (litBin .and .u64 b 18446744073709551615))) (litBin .add .u64 (litBin .sub .u64 (litBin .sub .u64 (litBin .add .u64 (litBin .add .u64 (litBin .mul .u64 (litBin .shr .u64 a 32) (litBin .shr .u64 b 32)) (litBin .shr .u64 (litBin .add .u64 (litBin .mul .u64 (litBin .shr .u64 a 32) (litBin .and .u64 b 4294967295)) (litBin .shr .u64 (litBin .mul .u64 (litBin .and .u64 a 4294967295) (litBin .and .u64 b 4294967295)) 32)) 32)) (litBin .shr .u64 (litBin .add .u64 (litBin .and .u64 (litBin .add .u64 (litBin .mul .u64 (litBin .shr .u64 a 32) (litBin .and .u64 b 4294967295)) (litBin .shr .u64 (litBin .mul .u64 (litBin .and .u64 a 4294967295) (litBin .and .u64 b 4294967295)) 32)) 4294967295) (litBin .mul .u64 (litBin .and .u64 a 4294967295) (litBin .shr .u64 b 32))) 32)) (litBin .and .u64 (cond (!s) 0 (IntKind.wrap .u64 (litBin .shr .i64 (IntKind.wrap .i64 a) 63))) b)) (litBin .and .u64 (cond (!t) 0 (IntKind.wrap .u64 (litBin .shr .i64 (IntKind.wrap .i64 b) 63))) a)) 1) (litBin .sub .u64 (litBin .sub .u64 (litBin .add .u64 (litBin .add .u64 (litBin .mul .u64 (litBin .shr .u64 a 32) (litBin .shr .u64 b 32)) (litBin .shr .u64 (litBin .add .u64 (litBin .mul .u64 (litBin .shr .u64 a 32) (litBin .and .u64 b 4294967295)) (litBin .shr .u64 (litBin .mul .u64 (litBin .and .u64 a 4294967295) (litBin .and .u64 b 4294967295)) 32)) 32)) (litBin .shr .u64 (litBin .add .u64 (litBin .and .u64 (litBin .add .u64 (litBin .mul .u64 (litBin .shr .u64 a 32) (litBin .and .u64 b 4294967295)) (litBin .shr .u64 (litBin .mul .u64 (litBin .and .u64 a 4294967295) (litBin .and .u64 b 4294967295)) 32)) 4294967295) (litBin .mul .u64 (litBin .and .u64 a 4294967295) (litBin .shr .u64 b 32))) 32)) (litBin .and .u64 (cond (!s) 0 (IntKind.wrap .u64 (litBin .shr .i64 (IntKind.wrap .i64 a) 63))) b)) (litBin .and .u64 (cond (!t) 0 (IntKind.wrap .u64 (litBin .shr .i64 (IntKind.wrap .i64 b) 63))) a)))))))
set_option maxRecDepth 100000 in
theorem road (a : Int) (b : Int) (s : Bool) (t : Bool) : ((call Try.prog cx 400 7 [.int .u64 (.sym a), .int .u64 (.sym b), .agg [.bool (.sym s), .bool (.sym t)]] []).route []).map (fun p => (p.1, p.2.1)) = some ([], .val (.bool (.sym (val a b s t)))) := by kernel_rfl

theorem shr_u32 (x : Int) : litBin .shr .u64 x 32 = x / 4294967296 := by
  show Int.fdiv x (2 ^ (min ((32 : Int).toNat) 64)) = _
  rw [Int.fdiv_eq_ediv_of_nonneg _ (by decide)]
  rfl
theorem and_m {x : Int} (h : inU x) : litBin .and .u64 x 4294967295 = x % 4294967296 := by
  obtain ⟨n, rfl, hn⟩ := h.nat
  have e : litBin .and .u64 (n : Int) 4294967295 = ((n &&& 4294967295 : Nat) : Int) := and_nat hn (y := 4294967295) (by decide)
  have e2 : n &&& 4294967295 = n % 4294967296 := Nat.and_two_pow_sub_one_eq_mod n 32
  rw [e, e2]
  omega
theorem mulB {x y : Int} (hx : 0 ≤ x ∧ x ≤ 4294967295) (hy : 0 ≤ y ∧ y ≤ 4294967295) : 0 ≤ x * y ∧ x * y ≤ 18446744065119617025 := by
  refine ⟨Int.mul_nonneg hx.1 hy.1, ?_⟩
  have := Int.mul_le_mul hx.2 hy.2 hy.1 (by decide : (0 : Int) ≤ 4294967295)
  omega
theorem prod (a1 a0 b1 b0 : Int) : (4294967296 * a1 + a0) * (4294967296 * b1 + b0) = 18446744073709551616 * (a1 * b1) + 4294967296 * (a1 * b0) + 4294967296 * (a0 * b1) + a0 * b0 := by grind
theorem hiE {a b : Int} (ha : inU a) (hb : inU b) : (litBin .add .u64 (litBin .add .u64 (litBin .mul .u64 (litBin .shr .u64 a 32) (litBin .shr .u64 b 32)) (litBin .shr .u64 (litBin .add .u64 (litBin .mul .u64 (litBin .shr .u64 a 32) (litBin .and .u64 b 4294967295)) (litBin .shr .u64 (litBin .mul .u64 (litBin .and .u64 a 4294967295) (litBin .and .u64 b 4294967295)) 32)) 32)) (litBin .shr .u64 (litBin .add .u64 (litBin .and .u64 (litBin .add .u64 (litBin .mul .u64 (litBin .shr .u64 a 32) (litBin .and .u64 b 4294967295)) (litBin .shr .u64 (litBin .mul .u64 (litBin .and .u64 a 4294967295) (litBin .and .u64 b 4294967295)) 32)) 4294967295) (litBin .mul .u64 (litBin .and .u64 a 4294967295) (litBin .shr .u64 b 32))) 32)) = a * b / 18446744073709551616 := by
  rw [and_m (inU.add _ _), and_m ha, and_m hb]
  simp only [shr_u32, add_eq, mul_eq]
  have ea := Int.mul_ediv_add_emod a 4294967296
  have eb := Int.mul_ediv_add_emod b 4294967296
  unfold inU at ha hb
  have h := prod (a / 4294967296) (a % 4294967296) (b / 4294967296) (b % 4294967296)
  rw [ea, eb] at h
  rw [h]
  have m1 := mulB (x := a / 4294967296) (y := b / 4294967296) (by omega) (by omega)
  have m2 := mulB (x := a / 4294967296) (y := b % 4294967296) (by omega) (by omega)
  have m3 := mulB (x := a % 4294967296) (y := b / 4294967296) (by omega) (by omega)
  have m4 := mulB (x := a % 4294967296) (y := b % 4294967296) (by omega) (by omega)
  clear h ea eb
  generalize a / 4294967296 * (b / 4294967296) = p11 at *
  generalize a / 4294967296 * (b % 4294967296) = p10 at *
  generalize a % 4294967296 * (b / 4294967296) = p01 at *
  generalize a % 4294967296 * (b % 4294967296) = p00 at *
  clear ha hb
  rw [Int.emod_eq_of_lt (a := p11) (by omega) (by omega), Int.emod_eq_of_lt (a := p10) (by omega) (by omega), Int.emod_eq_of_lt (a := p01) (by omega) (by omega), Int.emod_eq_of_lt (a := p00) (by omega) (by omega), Int.emod_eq_of_lt (a := p10 + p00 / 4294967296) (by omega) (by omega)]
  omega
theorem and_z (b : Int) (hb : inU b) : litBin .and .u64 0 b = 0 := by
  obtain ⟨n, rfl, hn⟩ := hb.nat
  have e : litBin .and .u64 0 (n : Int) = ((0 &&& n : Nat) : Int) := and_nat (x := 0) (by decide) hn
  rw [e, Nat.zero_and]
  rfl
theorem all_and (b : Int) (hb : inU b) : litBin .and .u64 18446744073709551615 b = b := by
  obtain ⟨n, rfl, hn⟩ := hb.nat
  have e : litBin .and .u64 18446744073709551615 (n : Int) = ((18446744073709551615 &&& n : Nat) : Int) := and_nat (x := 18446744073709551615) (by decide) hn
  have e2 : n &&& 18446744073709551615 = n % 18446744073709551616 := Nat.and_two_pow_sub_one_eq_mod n 64
  rw [e, Nat.and_comm, e2, Nat.mod_eq_of_lt hn]
theorem signE {a b : Int} (s : Bool) (ha : inU a) (hb : inU b) : litBin .and .u64 (cond (!s) 0 (IntKind.wrap .u64 (litBin .shr .i64 (IntKind.wrap .i64 a) 63))) b = cond (s && decide (9223372036854775808 ≤ a)) b 0 := by
  cases s
  · exact and_z b hb
  · have ha' := ha
    unfold inU at ha'
    rw [Ev.wrap64, shr63i, wrapi]
    by_cases h : 9223372036854775808 ≤ a
    · rw [decide_eq_true h]
      have e : ((a + 9223372036854775808) % 18446744073709551616 - 9223372036854775808) / 9223372036854775808 % 18446744073709551616 = 18446744073709551615 := by omega
      rw [e]
      exact all_and b hb
    · rw [decide_eq_false h]
      have e : ((a + 9223372036854775808) % 18446744073709551616 - 9223372036854775808) / 9223372036854775808 % 18446744073709551616 = 0 := by omega
      rw [e]
      exact and_z b hb

set_option maxRecDepth 100000 in
theorem law {a b : Int} {s t : Bool} (wa : (Lit.int .u64 a).wf = true) (wb : (Lit.int .u64 b).wf = true) : val a b s t = true := by
  have ha := inU_wf wa
  have hb := inU_wf wb
  have hb1 := inU.add b 1
  unfold val
  rw [hiE ha hb, hiE hb ha, hiE ha hb1, signE s ha hb, signE s ha hb1, signE t hb ha, signE t hb1 ha, and_all ha, and_all hb, Int.mul_comm b a]
  generalize hG : litBin .add .u64 b 1 = b1
  rw [add_eq] at hG
  simp only [add_eq, sub_eq, mul_eq, shr63]
  have hc : litCmp .neq (((a * b / 18446744073709551616 - cond (s && decide (9223372036854775808 ≤ a)) b 0) % 18446744073709551616 - cond (t && decide (9223372036854775808 ≤ b)) a 0) % 18446744073709551616) (((a * b / 18446744073709551616 - cond (t && decide (9223372036854775808 ≤ b)) a 0) % 18446744073709551616 - cond (s && decide (9223372036854775808 ≤ a)) b 0) % 18446744073709551616) = false := neq_of (by omega)
  rw [hc, cond_false]
  by_cases h1 : b = 18446744073709551615
  · rw [eql_of h1]
    rfl
  by_cases h2 : b = 9223372036854775807
  · rw [eql_of h2, Bool.cond_self]
    rfl
  have h1' : litCmp .eql b 18446744073709551615 = false := decide_eq_false h1
  have h2' : litCmp .eql b 9223372036854775807 = false := decide_eq_false h2
  rw [h1', h2', cond_false, cond_false]
  refine eql_of ?_
  unfold inU at ha hb
  have hb2 : b1 = b + 1 := by omega
  have hm : a * b1 = a * b + a := by rw [hb2, Int.mul_add, Int.mul_one]
  rw [hm]
  have hp : 0 ≤ a * b := Int.mul_nonneg ha.1 hb.1
  generalize a * b = p at *
  have hsg : (t && decide (9223372036854775808 ≤ b1)) = (t && decide (9223372036854775808 ≤ b)) := by
    cases t
    · rfl
    · show decide _ = decide _
      exact decide_eq_decide.2 (by omega)
  rw [hsg]
  generalize (cond (t && decide (9223372036854775808 ≤ b)) a 0) = T
  have hl : litCmp .lss ((p % 18446744073709551616 + a) % 18446744073709551616) (p % 18446744073709551616) = decide (18446744073709551616 ≤ p % 18446744073709551616 + a) := by
    rw [lss_eq]
    exact decide_eq_decide.2 (by omega)
  rw [hl]
  have hq : (p + a) / 18446744073709551616 = p / 18446744073709551616 + (if 18446744073709551616 ≤ p % 18446744073709551616 + a then 1 else 0) := by split <;> omega
  rw [hq]
  have hs : cond s (litCmp .eql (a / 9223372036854775808) 1) false = (s && decide (9223372036854775808 ≤ a)) := by
    cases s
    · rfl
    · show litCmp .eql _ _ = decide _
      rw [eql_eq]
      exact decide_eq_decide.2 (by omega)
  rw [hs]
  generalize p / 18446744073709551616 = Q
  by_cases hc : 18446744073709551616 ≤ p % 18446744073709551616 + a
  · rw [if_pos hc, decide_eq_true hc, cond_true]
    cases (s && decide (9223372036854775808 ≤ a))
    · simp only [cond_false]; omega
    · simp only [cond_true]; omega
  · rw [if_neg hc, decide_eq_false hc, cond_false]
    cases (s && decide (9223372036854775808 ≤ a))
    · simp only [cond_false]; omega
    · simp only [cond_true]; omega

theorem sums (a : Int) (b : Int) (s : Bool) (t : Bool) (wa : (Lit.int .u64 a).wf = true) (wb : (Lit.int .u64 b).wf = true) :
    ∃ c : Bool, (call Try.prog cx 400 7 [.int .u64 (.sym a), .int .u64 (.sym b), .agg [.bool (.sym s), .bool (.sym t)]] []).pick.map (·.1) = some (.val (.bool (.sym c))) ∧ c = true :=
  ⟨_, route_pick1 (road a b s t) rfl, law wa wb⟩

set_option maxRecDepth 100000 in
set_option maxHeartbeats 4000000 in
theorem run : ∀ vs, ArgsOk [.one (.int .u64), .one (.int .u64), .agg [.bool, .bool]] vs → ∀ w, Calls Try.prog 7 vs.toArray w fun e w' => e = .returned (.bool true) ∧ Below w.heap.size w w' := by
  intro vs h w
  obtain ⟨_, _, rfl, ⟨a, rfl, wa⟩, _, _, rfl, ⟨b, rfl, wb⟩, _, _, rfl, ⟨_, rfl, _, _, rfl, ⟨s, rfl⟩, _, _, rfl, ⟨t, rfl⟩, rfl⟩, rfl⟩ := h
  obtain ⟨c, k1, k2⟩ := sums a b s t wa wb
  have k3 := (rfl : List.map absV [.int .u64 a, .int .u64 b, .agg [.bool s, .bool t].toArray] = [.int .u64 (.sym a), .int .u64 (.sym b), .agg [.bool (.sym s), .bool (.sym t)]])
  have k4 := law_true2 cx_ok k3 k1 k2 w
  exact k4

set_option maxRecDepth 100000 in
theorem lifted (os : Os) (started : os.Started) (H : Type) (enc : TypeId × Value → H) :
    ReturnsInHanded {} Try.checked os 7 .any (Rows.wordHalvesSpec.pre6 enc Try.prog Try.f7 Rows.wordHalvesRow.domain false) (Rows.wordHalvesSpec.post enc Try.prog Try.f7 false true false false) := by
  refine returnsInHanded_of_change (C := Try.checked) own started (by kernel_rfl) Try.func7
    (ChangeSpec.witness6 (enc := enc) (C := Try.checked) false ⟨#[], #[.int .u64 0, .int .u64 0, .agg #[.bool false, .bool false]], []⟩ 8 (by kernel_rfl) (by kernel_rfl) (by kernel_rfl) (by kernel_rfl)) ?_
  intro W base args ds gs before hval hW _ _
  exact lifted_plain (P := Try.prog) (f := 7) (fn := Try.f7) (s := Rows.wordHalvesSpec) (tb := 4) rfl
    (fun ds h => by
      match ds, h with
      | [d1, d2, d3], _ => rfl)
    (by kernel_rfl) rfl (by kernel_rfl) run W base args ds gs before hval hW

theorem over : Rows.wordHalvesRow.holds Try.pinned (OpenSpec.ofChange Rows.wordHalvesSpec) :=
  OpenClaim.holds_of_wide 7 Try.f7 rfl rfl rfl rfl rfl rfl rfl ⟨rfl, rfl, rfl, rfl, rfl⟩ rfl rfl rfl rfl rfl (by kernel_rfl) Try.func7 (by kernel_rfl)
    (of_decide_eq_true (by kernel_rfl)) (by unfold Func.isWrapper; first | (rw [if_pos (by decide +kernel)]; kernel_rfl) | (rw [if_neg (by decide +kernel)]; exact ⟨rfl, rfl⟩))
    (fun os started H enc _ => lifted os started H enc)

/-- The statement. -/
theorem proved : Rows.WordHalvesSaid :=
  over
#print axioms proved
end Go.Proofs.Ytgljicadcegilaa.WordHalves
