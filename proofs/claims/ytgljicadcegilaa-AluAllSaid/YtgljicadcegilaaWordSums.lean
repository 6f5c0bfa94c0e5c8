/- What the code and the reference answer on numbers: divisions, signs, shifts, products' high halves, as the same terms. Conditions: none. -/
import Derived.Test.YtgljicadcegilaaRefLoops
namespace Go.Proofs.Ytgljicadcegilaa.Ev
open Go.RowKit
set_option linter.unusedVariables false
set_option linter.unusedSimpArgs false

theorem shr_u32 (x : Int) : litBin .shr .u64 x 32 = x / 4294967296 := by
  show Int.fdiv x (2 ^ (min ((32 : Int).toNat) 64)) = _
  rw [Int.fdiv_eq_ediv_of_nonneg _ (by decide)]
  rfl
theorem and_m {x : Int} (h : inU x) : litBin .and .u64 x 4294967295 = x % 4294967296 := by
  obtain ⟨n, rfl, hn⟩ := h.nat
  have e : litBin .and .u64 (n : Int) 4294967295 = ((n &&& 4294967295 : Nat) : Int) := and_nat hn (y := 4294967295) (by decide)
  have e2 : n &&& 4294967295 = n % 4294967296 := Nat.and_two_pow_sub_one_eq_mod n 32
  rw [e, e2]
  omega
theorem mulB {x y : Int} (hx : 0 ≤ x ∧ x ≤ 4294967295) (hy : 0 ≤ y ∧ y ≤ 4294967295) : 0 ≤ x * y ∧ x * y ≤ 18446744065119617025 := by
  refine ⟨Int.mul_nonneg hx.1 hy.1, ?_⟩
  have := Int.mul_le_mul hx.2 hy.2 hy.1 (by decide : (0 : Int) ≤ 4294967295)
  omega
theorem prod (a1 a0 b1 b0 : Int) : (4294967296 * a1 + a0) * (4294967296 * b1 + b0) = 18446744073709551616 * (a1 * b1) + 4294967296 * (a1 * b0) + 4294967296 * (a0 * b1) + a0 * b0 := by grind
theorem hiE {a b : Int} (ha : inU a) (hb : inU b) : (litBin .add .u64 (litBin .add .u64 (litBin .mul .u64 (litBin .shr .u64 a 32) (litBin .shr .u64 b 32)) (litBin .shr .u64 (litBin .add .u64 (litBin .mul .u64 (litBin .shr .u64 a 32) (litBin .and .u64 b 4294967295)) (litBin .shr .u64 (litBin .mul .u64 (litBin .and .u64 a 4294967295) (litBin .and .u64 b 4294967295)) 32)) 32)) (litBin .shr .u64 (litBin .add .u64 (litBin .and .u64 (litBin .add .u64 (litBin .mul .u64 (litBin .shr .u64 a 32) (litBin .and .u64 b 4294967295)) (litBin .shr .u64 (litBin .mul .u64 (litBin .and .u64 a 4294967295) (litBin .and .u64 b 4294967295)) 32)) 4294967295) (litBin .mul .u64 (litBin .and .u64 a 4294967295) (litBin .shr .u64 b 32))) 32)) = a * b / 18446744073709551616 := by
  rw [and_m (inU.add _ _), and_m ha, and_m hb]
  simp only [shr_u32, add_eq, mul_eq]
  have ea := Int.mul_ediv_add_emod a 4294967296
  have eb := Int.mul_ediv_add_emod b 4294967296
  unfold inU at ha hb
  have h := prod (a / 4294967296) (a % 4294967296) (b / 4294967296) (b % 4294967296)
  rw [ea, eb] at h
  rw [h]
  have m1 := mulB (x := a / 4294967296) (y := b / 4294967296) (by omega) (by omega)
  have m2 := mulB (x := a / 4294967296) (y := b % 4294967296) (by omega) (by omega)
  have m3 := mulB (x := a % 4294967296) (y := b / 4294967296) (by omega) (by omega)
  have m4 := mulB (x := a % 4294967296) (y := b % 4294967296) (by omega) (by omega)
  clear h ea eb
  generalize a / 4294967296 * (b / 4294967296) = p11 at *
  generalize a / 4294967296 * (b % 4294967296) = p10 at *
  generalize a % 4294967296 * (b / 4294967296) = p01 at *
  generalize a % 4294967296 * (b % 4294967296) = p00 at *
  clear ha hb
  rw [Int.emod_eq_of_lt (a := p11) (by omega) (by omega), Int.emod_eq_of_lt (a := p10) (by omega) (by omega), Int.emod_eq_of_lt (a := p01) (by omega) (by omega), Int.emod_eq_of_lt (a := p00) (by omega) (by omega), Int.emod_eq_of_lt (a := p10 + p00 / 4294967296) (by omega) (by omega)]
  omega
theorem and_z (b : Int) (hb : inU b) : litBin .and .u64 0 b = 0 := by
  obtain ⟨n, rfl, hn⟩ := hb.nat
  have e : litBin .and .u64 0 (n : Int) = ((0 &&& n : Nat) : Int) := and_nat (x := 0) (by decide) hn
  rw [e, Nat.zero_and]
  rfl
theorem all_and (b : Int) (hb : inU b) : litBin .and .u64 18446744073709551615 b = b := by
  obtain ⟨n, rfl, hn⟩ := hb.nat
  have e : litBin .and .u64 18446744073709551615 (n : Int) = ((18446744073709551615 &&& n : Nat) : Int) := and_nat (x := 18446744073709551615) (by decide) hn
  have e2 : n &&& 18446744073709551615 = n % 18446744073709551616 := Nat.and_two_pow_sub_one_eq_mod n 64
  rw [e, Nat.and_comm, e2, Nat.mod_eq_of_lt hn]
theorem signE {a b : Int} (s : Bool) (ha : inU a) (hb : inU b) : litBin .and .u64 (cond (!s) 0 (IntKind.wrap .u64 (litBin .shr .i64 (IntKind.wrap .i64 a) 63))) b = cond (s && decide (9223372036854775808 ≤ a)) b 0 := by
  cases s
  · exact and_z b hb
  · have ha' := ha
    unfold inU at ha'
    rw [Ev.wrap64, shr63i, wrapi]
    by_cases h : 9223372036854775808 ≤ a
    · rw [decide_eq_true h]
      have e : ((a + 9223372036854775808) % 18446744073709551616 - 9223372036854775808) / 9223372036854775808 % 18446744073709551616 = 18446744073709551615 := by omega
      rw [e]
      exact all_and b hb
    · rw [decide_eq_false h]
      have e : ((a + 9223372036854775808) % 18446744073709551616 - 9223372036854775808) / 9223372036854775808 % 18446744073709551616 = 0 := by omega
      rw [e]
      exact and_z b hb


/-! ### The terms -/
def divW (a b : Int) (s : Bool) : Int := cond s (IntKind.wrap .u64 (cond (litCmp .eql (IntKind.wrap .i64 b) 0) (-1) (cond (litCmp .eql (IntKind.wrap .i64 b) (-1)) (litUna .neg .i64 (IntKind.wrap .i64 a)) (litBin .quo .i64 (IntKind.wrap .i64 a) (IntKind.wrap .i64 b))))) (cond (litCmp .eql b 0) 18446744073709551615 (litBin .quo .u64 a b))
def remW (a b : Int) (s : Bool) : Int := cond s (IntKind.wrap .u64 (cond (litCmp .eql (IntKind.wrap .i64 b) 0) (IntKind.wrap .i64 a) (cond (litCmp .eql (IntKind.wrap .i64 b) (-1)) 0 (litBin .rem .i64 (IntKind.wrap .i64 a) (IntKind.wrap .i64 b))))) (cond (litCmp .eql b 0) a (litBin .rem .u64 a b))
def div32W (a b : Int) (s : Bool) : Int := cond s (IntKind.wrap .u64 (cond (litCmp .eql (IntKind.wrap .i32 b) 0) (-1) (cond (litCmp .eql (IntKind.wrap .i32 b) (-1)) (litUna .neg .i32 (IntKind.wrap .i32 a)) (litBin .quo .i32 (IntKind.wrap .i32 a) (IntKind.wrap .i32 b))))) (IntKind.wrap .u64 (litBin .shr .i64 (IntKind.wrap .i64 (litBin .shl .u64 (IntKind.wrap .u64 (cond (litCmp .eql (IntKind.wrap .u32 b) 0) 4294967295 (litBin .quo .u32 (IntKind.wrap .u32 a) (IntKind.wrap .u32 b)))) 32)) 32))
def rem32W (a b : Int) (s : Bool) : Int := cond s (IntKind.wrap .u64 (cond (litCmp .eql (IntKind.wrap .i32 b) 0) (IntKind.wrap .i32 a) (cond (litCmp .eql (IntKind.wrap .i32 b) (-1)) 0 (litBin .rem .i32 (IntKind.wrap .i32 a) (IntKind.wrap .i32 b))))) (IntKind.wrap .u64 (litBin .shr .i64 (IntKind.wrap .i64 (litBin .shl .u64 (IntKind.wrap .u64 (cond (litCmp .eql (IntKind.wrap .u32 b) 0) (IntKind.wrap .u32 a) (litBin .rem .u32 (IntKind.wrap .u32 a) (IntKind.wrap .u32 b)))) 32)) 32))
def sextW (x n : Int) : Int := cond (cond (litCmp .lss n 1) true (litCmp .gtr n 64)) x (IntKind.wrap .u64 (litBin .shr .i64 (IntKind.wrap .i64 (litBin .shl .u64 x (litBin .sub .i64 64 n))) (litBin .sub .i64 64 n)))
def hiW (a b : Int) (s t : Bool) : Int := (litBin .sub .u64 (litBin .sub .u64 (litBin .add .u64 (litBin .add .u64 (litBin .mul .u64 (litBin .shr .u64 a 32) (litBin .shr .u64 b 32)) (litBin .shr .u64 (litBin .add .u64 (litBin .mul .u64 (litBin .shr .u64 a 32) (litBin .and .u64 b 4294967295)) (litBin .shr .u64 (litBin .mul .u64 (litBin .and .u64 a 4294967295) (litBin .and .u64 b 4294967295)) 32)) 32)) (litBin .shr .u64 (litBin .add .u64 (litBin .and .u64 (litBin .add .u64 (litBin .mul .u64 (litBin .shr .u64 a 32) (litBin .and .u64 b 4294967295)) (litBin .shr .u64 (litBin .mul .u64 (litBin .and .u64 a 4294967295) (litBin .and .u64 b 4294967295)) 32)) 4294967295) (litBin .mul .u64 (litBin .and .u64 a 4294967295) (litBin .shr .u64 b 32))) 32)) (litBin .and .u64 (cond (!s) 0 (IntKind.wrap .u64 (litBin .shr .i64 (IntKind.wrap .i64 a) 63))) b)) (litBin .and .u64 (cond (!t) 0 (IntKind.wrap .u64 (litBin .shr .i64 (IntKind.wrap .i64 b) 63))) a))
def gd (B : Int) : Bool := cond (litCmp .eql B 0) true ((!(litCmp .eql B 0)) && (!(litCmp .eql B 0)))
def gd2 (B : Int) : Bool := cond (litCmp .eql B 0) true (cond (litCmp .eql B (-1)) true ((!(litCmp .eql B 0)) && (!(litCmp .eql B 0))))
theorem gd_t (B : Int) : gd B = true := by unfold gd; cases litCmp .eql B 0 <;> rfl
theorem gd2_t (B : Int) : gd2 B = true := by unfold gd2; cases litCmp .eql B 0 <;> cases litCmp .eql B (-1) <;> rfl
def gd64 (b : Int) (s : Bool) : Bool := cond s (gd2 (IntKind.wrap .i64 b)) (gd b)
def gd32 (b : Int) (s : Bool) : Bool := cond s (gd2 (IntKind.wrap .i32 b)) (gd (IntKind.wrap .u32 b))
theorem gd64_t (b : Int) (s : Bool) : gd64 b s = true := by unfold gd64; rw [gd_t, gd2_t, Bool.cond_self]
theorem gd32_t (b : Int) (s : Bool) : gd32 b s = true := by unfold gd32; rw [gd_t, gd2_t, Bool.cond_self]
set_option maxRecDepth 100000 in
theorem div1 (a b : Int) (s : Bool) : ((call Try.prog cx 380 21 [.int .u64 (.sym a), .int .u64 (.sym b), .bool (.sym s)] []).route [true]).map (fun p => (p.1, p.2.1)) = some ([gd64 b s], .val (.int .u64 (.sym (divW a b s)))) := by kernel_rfl
set_option maxRecDepth 100000 in
theorem rem1 (a b : Int) (s : Bool) : ((call Try.prog cx 380 22 [.int .u64 (.sym a), .int .u64 (.sym b), .bool (.sym s)] []).route [true]).map (fun p => (p.1, p.2.1)) = some ([gd64 b s], .val (.int .u64 (.sym (remW a b s)))) := by kernel_rfl
set_option maxRecDepth 100000 in
theorem div32_1 (a b : Int) (s : Bool) : ((call Try.prog cx 380 25 [.int .u64 (.sym a), .int .u64 (.sym b), .bool (.sym s)] []).route [true]).map (fun p => (p.1, p.2.1)) = some ([gd32 b s], .val (.int .u64 (.sym (div32W a b s)))) := by kernel_rfl
set_option maxRecDepth 100000 in
theorem rem32_1 (a b : Int) (s : Bool) : ((call Try.prog cx 380 26 [.int .u64 (.sym a), .int .u64 (.sym b), .bool (.sym s)] []).route [true]).map (fun p => (p.1, p.2.1)) = some ([gd32 b s], .val (.int .u64 (.sym (rem32W a b s)))) := by kernel_rfl
def gS (n : Int) : Bool := cond (cond (litCmp .lss n 1) true (litCmp .gtr n 64)) true ((!(litCmp .lss (litBin .sub .i64 64 n) 0)) && (!(litCmp .lss (litBin .sub .i64 64 n) 0)))
theorem gS_t (n : Int) : gS n = true := by
  unfold gS
  rw [lss_eq, gtr_eq, lss_eq]
  by_cases h1 : n < 1
  · rw [decide_eq_true h1]; rfl
  by_cases h2 : n > 64
  · rw [decide_eq_true h2, Bool.cond_self]; rfl
  have e : litBin .sub .i64 64 n = 64 - n := by
    show IntKind.i64.wrap (64 - n) = _
    rw [wrapi]
    omega
  rw [decide_eq_false h1, decide_eq_false h2, e, decide_eq_false (by omega)]
  rfl
set_option maxRecDepth 100000 in
theorem sext1 (x n : Int) : ((call Try.prog cx 380 23 [.int .u64 (.sym x), .int .i64 (.sym n)] []).route [true]).map (fun p => (p.1, p.2.1)) = some ([gS n], .val (.int .u64 (.sym (sextW x n)))) := by kernel_rfl
def gB (y k : Int) : Bool := (cond (litCmp .eql k 0) (!(litCmp .lss (litBin .and .i64 y 63) 0)) (cond (litCmp .eql k 1) (!(litCmp .lss (litBin .and .i64 y 63) 0)) (cond (litCmp .eql k 2) (!(litCmp .lss (litBin .and .i64 y 63) 0)) true)))
theorem gB_t (y k : Int) : gB y k = true := by
  unfold gB
  obtain ⟨n, hn, e⟩ := and63 y
  rw [e, lss_eq, decide_eq_false (by omega)]
  simp only [Bool.not_false, Bool.cond_self]
set_option maxRecDepth 100000 in
theorem wshift1 (x y k : Int) : ((call Try.prog cx 380 24 [.int .u64 (.sym x), .int .i64 (.sym y), .int .i64 (.sym k)] []).route [true]).map (fun p => (p.1, p.2.1)) = some ([gB y k], .val (.int .u64 (.sym (shW x y k)))) := by kernel_rfl
set_option maxRecDepth 100000 in
theorem whigh1 (a b : Int) (s t : Bool) : ((call Try.prog cx 380 27 [.int .u64 (.sym a), .int .u64 (.sym b), .bool (.sym s), .bool (.sym t)] []).route []).map (fun p => (p.1, p.2.1)) = some ([], .val (.int .u64 (.sym (hiW a b s t)))) := by kernel_rfl

theorem hiW_R {a b : Int} (s t : Bool) (ha : inU a) (hb : inU b) : hiW a b s t = hiR a b s t := by
  unfold hiW hiR
  rw [hiE ha hb, signE s ha hb, signE t hb ha]
  have h1 : 0 ≤ a * b / 18446744073709551616 ∧ a * b / 18446744073709551616 < 18446744073709551616 := by
    have h0 : 0 ≤ a * b := Int.mul_nonneg ha.1 hb.1
    have h2 : a * b ≤ 18446744073709551615 * 18446744073709551615 := Int.mul_le_mul (by unfold inU at ha; omega) (by unfold inU at hb; omega) hb.1 (by decide)
    have : (18446744073709551615 * 18446744073709551615 : Int) = 340282366920938463426481119284349108225 := by decide
    omega
  generalize a * b / 18446744073709551616 = H at *
  rw [geq_eq, geq_eq]
  have z : ∀ x : Int, 0 ≤ x → x < 18446744073709551616 → litBin .sub .u64 x 0 = x := fun x h h' => by rw [sub_eq]; omega
  have e : ∀ (c : Bool) (x y : Int), 0 ≤ x → x < 18446744073709551616 → litBin .sub .u64 x (cond c y 0) = cond c (litBin .sub .u64 x y) x := fun c x y h h' => by
    cases c
    · exact z x h h'
    · rfl
  have i1 : inU (cond (s && decide (9223372036854775808 ≤ a)) (litBin .sub .u64 H b) H) := inU.cond (inU_wrap _) h1
  rw [e _ _ _ h1.1 h1.2, e _ _ _ i1.1 i1.2]
  cases s <;> cases t <;> rfl

/-! ### The reference's -/
theorem quo_i (a b : Int) : litBin .quo .i64 a b = IntKind.i64.wrap (a.tdiv b) := rfl
theorem quo_i32 (a b : Int) : litBin .quo .i32 a b = IntKind.i32.wrap (a.tdiv b) := rfl
theorem neg_i (a : Int) : litUna .neg .i64 a = IntKind.i64.wrap (0 - a) := rfl
theorem neg_i32 (a : Int) : litUna .neg .i32 a = IntKind.i32.wrap (0 - a) := rfl
/-- A quotient with signs, over one of sizes. -/
theorem signs {A B x y : Int} {s t : Bool} (hA : 0 ≤ A) (hB : 0 < B) (hx : x = cond s (-A) A) (hy : y = cond t (-B) B) : x.tdiv y = cond (!(s == t)) (-(A / B)) (A / B) ∧ x.tmod y = cond s (-(A % B)) (A % B) := by
  subst hx hy
  have q := Int.tdiv_eq_ediv_of_nonneg (b := B) hA
  have r := Int.tmod_eq_emod_of_nonneg (b := B) hA
  cases s <;> cases t
  · exact ⟨q, r⟩
  · exact ⟨by show A.tdiv (-B) = -(A / B); rw [Int.tdiv_neg, q], by show A.tmod (-B) = A % B; rw [Int.tmod_neg, r]⟩
  · exact ⟨by show (-A).tdiv B = -(A / B); rw [Int.neg_tdiv, q], by show (-A).tmod B = -(A % B); rw [Int.neg_tmod, r]⟩
  · exact ⟨by show (-A).tdiv (-B) = A / B; rw [Int.tdiv_neg, Int.neg_tdiv, q, Int.neg_neg], by show (-A).tmod (-B) = -(A % B); rw [Int.tmod_neg, Int.neg_tmod, r]⟩
theorem tdiv_m1 (x : Int) : x.tdiv (-1) = 0 - x := by rw [Int.tdiv_neg, Int.tdiv_one]; omega
theorem tmod_m1 (x : Int) : x.tmod (-1) = 0 := by rw [Int.tmod_neg, Int.tmod_one]
theorem divW_s (a b : Int) (hb : inU b) : divW a b true = cond (litCmp .eql b 0) 18446744073709551615 ((IntKind.wrap .i64 a).tdiv (IntKind.wrap .i64 b) % 18446744073709551616) := by
  unfold divW
  unfold inU at hb
  rw [cond_true, quo_i, neg_i]
  by_cases h : b = 0
  · rw [h]; rfl
  · have h1 : IntKind.wrap .i64 b ≠ 0 := by rw [wrapi]; omega
    rw [eql_eq, eql_eq, eql_eq, decide_eq_false h1, decide_eq_false h, cond_false, cond_false]
    by_cases h2 : IntKind.wrap .i64 b = -1
    · rw [h2, decide_eq_true rfl, cond_true, tdiv_m1, Ev.wrap64, wrapi (0 - _)]
      omega
    · rw [decide_eq_false h2, cond_false, Ev.wrap64, wrapi (Int.tdiv _ _)]
      omega
theorem remW_s (a b : Int) (ha : inU a) (hb : inU b) : remW a b true = cond (litCmp .eql b 0) a ((IntKind.wrap .i64 a).tmod (IntKind.wrap .i64 b) % 18446744073709551616) := by
  unfold remW
  unfold inU at hb
  rw [cond_true]
  by_cases h : b = 0
  · rw [h]
    exact uns ha
  · have h1 : IntKind.wrap .i64 b ≠ 0 := by rw [wrapi]; omega
    rw [eql_eq, eql_eq, eql_eq, decide_eq_false h1, decide_eq_false h, cond_false, cond_false]
    by_cases h2 : IntKind.wrap .i64 b = -1
    · rw [h2, decide_eq_true rfl, cond_true, tmod_m1]
      rfl
    · rw [decide_eq_false h2, cond_false, Ev.wrap64]
      rfl
def mag (a : Int) : Int := cond (litCmp .geq a 9223372036854775808) (litUna .neg .u64 a) a
theorem mag_ok {a : Int} (ha : inU a) : 0 ≤ mag a ∧ mag a ≤ 9223372036854775808 ∧ IntKind.wrap .i64 a = cond (litCmp .geq a 9223372036854775808) (-(mag a)) (mag a) ∧ (a = 0 ↔ mag a = 0) := by
  unfold mag
  unfold inU at ha
  rw [geq_eq, neg_eq, wrapi]
  by_cases h : 9223372036854775808 ≤ a
  · rw [decide_eq_true h, cond_true, cond_true]; omega
  · rw [decide_eq_false h, cond_false, cond_false]; omega
def divR (a b : Int) (s : Bool) : Int := cond (litCmp .eql b 0) 18446744073709551615 (cond (!s) (a / b) (cond (!((litCmp .geq a 9223372036854775808) == (litCmp .geq b 9223372036854775808))) (litUna .neg .u64 (mag a / mag b)) (mag a / mag b)))
def remR (a b : Int) (s : Bool) : Int := cond (litCmp .eql b 0) a (cond (!s) (a % b) (cond (litCmp .geq a 9223372036854775808) (litUna .neg .u64 (mag a % mag b)) (mag a % mag b)))
theorem divR_W {a b : Int} (s : Bool) (ha : inU a) (hb : inU b) : divR a b s = divW a b s := by
  cases s
  · unfold divR divW
    unfold inU at ha hb
    rw [Bool.not_false, cond_true, cond_false]
    by_cases h : b = 0
    · rw [h]; rfl
    · rw [eql_eq, decide_eq_false h, cond_false, cond_false, quo_n ha.1]
      have h1 := Int.ediv_nonneg ha.1 hb.1
      have h2 := Int.ediv_le_self b ha.1
      omega
  · rw [divW_s a b hb]
    unfold divR
    by_cases h : b = 0
    · rw [h]; rfl
    · obtain ⟨a0, a1, a2, a3⟩ := mag_ok ha
      obtain ⟨b0, b1, b2, b3⟩ := mag_ok hb
      have hB : 0 < mag b := by omega
      have hs := (signs a0 hB a2 b2).1
      have h1 := Int.ediv_nonneg a0 b0
      have h2 := Int.ediv_le_self (mag b) a0
      rw [eql_eq, decide_eq_false h, cond_false, cond_false, hs, Bool.not_true, cond_false]
      generalize mag a / mag b = q at *
      cases (!((litCmp .geq a 9223372036854775808) == (litCmp .geq b 9223372036854775808)))
      · rw [cond_false, cond_false]; omega
      · rw [cond_true, cond_true, neg_eq]; omega
theorem remR_W {a b : Int} (s : Bool) (ha : inU a) (hb : inU b) : remR a b s = remW a b s := by
  cases s
  · unfold remR remW
    unfold inU at ha hb
    rw [Bool.not_false, cond_true, cond_false]
    by_cases h : b = 0
    · rw [h]; rfl
    · rw [eql_eq, decide_eq_false h, cond_false, cond_false]
      exact (Int.tmod_eq_emod_of_nonneg ha.1).symm
  · rw [remW_s a b ha hb]
    unfold remR
    by_cases h : b = 0
    · rw [h]; rfl
    · obtain ⟨a0, a1, a2, a3⟩ := mag_ok ha
      obtain ⟨b0, b1, b2, b3⟩ := mag_ok hb
      have hB : 0 < mag b := by omega
      have hs := (signs a0 hB a2 b2).2
      have h1 := Int.emod_nonneg (mag a) (by omega : mag b ≠ 0)
      have h2 := Int.emod_lt_of_pos (mag a) hB
      rw [eql_eq, decide_eq_false h, cond_false, cond_false, hs, Bool.not_true, cond_false]
      generalize mag a % mag b = q at *
      cases (litCmp .geq a 9223372036854775808)
      · rw [cond_false, cond_false]; omega
      · rw [cond_true, cond_true, neg_eq]; omega
def inP (a b : Int) : Bool := inB a && (inB b && decide (0 < b))
def askD (a b : Int) (s : Bool) : Bool := cond (litCmp .eql b 0) true (cond (!s) (inP a b) (inP (mag a) (mag b)))
theorem askD_of {a b : Int} (s : Bool) (ha : inU a) (hb : inU b) : askD a b s = true := by
  unfold askD inP
  by_cases h : b = 0
  · rw [h]; rfl
  · obtain ⟨a0, a1, a2, a3⟩ := mag_ok ha
    obtain ⟨b0, b1, b2, b3⟩ := mag_ok hb
    rw [eql_eq, decide_eq_false h, cond_false, inB_of ha, inB_of hb, inB_of (x := mag a) (by unfold inU; omega), inB_of (x := mag b) (by unfold inU; omega), decide_eq_true (by unfold inU at hb; omega : 0 < b), decide_eq_true (by omega : 0 < mag b)]
    cases s <;> rfl
set_option maxRecDepth 100000 in
theorem rdiv1 (a b : Int) (s : Bool) : ((call Try.prog cxl 380 42 [.int .u64 (.sym a), .int .u64 (.sym b), .bool (.sym s)] []).route [true]).map (fun p => (p.1, p.2.1)) = some ([askD a b s], .val (.int .u64 (.sym (divR a b s)))) := by kernel_rfl
set_option maxRecDepth 100000 in
theorem rrem1 (a b : Int) (s : Bool) : ((call Try.prog cxl 380 43 [.int .u64 (.sym a), .int .u64 (.sym b), .bool (.sym s)] []).route [true]).map (fun p => (p.1, p.2.1)) = some ([askD a b s], .val (.int .u64 (.sym (remR a b s)))) := by kernel_rfl

/-! ### Signs -/
def sextR (x n : Int) : Int := cond (cond (litCmp .lss n 1) true (litCmp .gtr n 63)) x (cond (litCmp .geq (litBin .rem .u64 x (litBin .shl .u64 1 n)) (litBin .shl .u64 1 (litBin .sub .i64 n 1))) (litBin .sub .u64 (litBin .rem .u64 x (litBin .shl .u64 1 n)) (litBin .shl .u64 1 n)) (litBin .rem .u64 x (litBin .shl .u64 1 n)))
def askX (x n : Int) : Bool := (cond (cond (litCmp .lss n 1) true (litCmp .gtr n 63)) true (((!(litCmp .lss n 0)) && (!(litCmp .eql (litBin .shl .u64 1 n) 0))) && ((!(litCmp .lss (litBin .sub .i64 n 1) 0)) && (cond (litCmp .geq (litBin .rem .u64 x (litBin .shl .u64 1 n)) (litBin .shl .u64 1 (litBin .sub .i64 n 1))) (!(litCmp .lss n 0)) true))))
set_option maxRecDepth 100000 in
theorem rsext1 (x n : Int) : ((call Try.prog cxl 380 40 [.int .u64 (.sym x), .int .i64 (.sym n)] []).route [true]).map (fun p => (p.1, p.2.1)) = some ([askX x n], .val (.int .u64 (.sym (sextR x n)))) := by kernel_rfl
theorem shl_1 {n : Nat} (h : n < 64) : litBin .shl .u64 1 (n : Int) = 2 ^ n := by
  rw [shl_p 1 (by omega), Int.one_mul]
  exact Int.emod_eq_of_lt (Int.le_of_lt (pow_pos' n)) (pow_lt' h)
theorem askX_t (x n : Int) : askX x n = true := by
  unfold askX
  by_cases h1 : n < 1
  · rw [lss_eq, decide_eq_true h1]; rfl
  by_cases h2 : n > 63
  · rw [lss_eq, gtr_eq, decide_eq_true h2, decide_eq_false h1]; rfl
  obtain ⟨m, rfl⟩ : ∃ m : Nat, n = (m : Int) := ⟨n.toNat, by omega⟩
  have hp := pow_pos' m
  rw [lss_eq, gtr_eq, decide_eq_false h1, decide_eq_false h2, cond_false, cond_false, lss_eq, decide_eq_false (by omega : ¬ ((m : Int) < 0)), shl_1 (by omega), eql_eq, decide_eq_false (by omega), subi1 m (by omega), lss_eq, decide_eq_false (by omega)]
  simp only [Bool.not_false, Bool.cond_self, Bool.and_self]
theorem sextR_W {x : Int} (n : Int) (hx : inU x) : sextR x n = sextW x n := by
  unfold sextR sextW
  by_cases h1 : n < 1
  · rw [lss_eq, decide_eq_true h1]; rfl
  by_cases h2 : n > 64
  · rw [lss_eq, gtr_eq, gtr_eq, decide_eq_false h1, decide_eq_true h2, decide_eq_true (show n > 63 by omega)]; rfl
  by_cases h3 : n = 64
  · subst h3
    show x = IntKind.wrap .u64 (litBin .shr .i64 (IntKind.wrap .i64 (litBin .shl .u64 x ((0 : Nat) : Int))) ((0 : Nat) : Int))
    rw [shl_p x (by omega), shr_pi _ (by omega), Int.pow_zero, Int.mul_one, Int.ediv_one, Int.emod_eq_of_lt hx.1 hx.2, uns hx]
  obtain ⟨m, rfl⟩ : ∃ m : Nat, n = ((m + 1 : Nat) : Int) := ⟨(n - 1).toNat, by omega⟩
  have hm : m < 63 := by omega
  have e0 : litBin .sub .i64 64 ((m + 1 : Nat) : Int) = ((63 - m : Nat) : Int) := by
    show IntKind.i64.wrap (64 - ((m + 1 : Nat) : Int)) = _
    rw [wrapi]
    omega
  have e1 : litBin .sub .i64 ((m + 1 : Nat) : Int) 1 = ((m : Nat) : Int) := by
    rw [subi1 (m + 1) (by omega)]
    omega
  rw [lss_eq, gtr_eq, gtr_eq, decide_eq_false h1, decide_eq_false h2, decide_eq_false (show ¬ ((m + 1 : Nat) : Int) > 63 by omega), cond_false, cond_false, cond_false, e0, e1, shl_1 (by omega), shl_1 (by omega)]
  rw [shl_p x (by omega), shr_pi _ (by omega)]
  have hpq : (2 : Int) ^ (m + 1) * 2 ^ (63 - m) = 18446744073709551616 := by
    rw [← Int.pow_add, show m + 1 + (63 - m) = 64 by omega]
    rfl
  have hq := pow_pos' (63 - m)
  have hp := pow_pos' m
  have hp1 : (2 : Int) ^ (m + 1) = 2 * 2 ^ m := by rw [Int.pow_succ, Int.mul_comm]
  have er : litBin .rem .u64 x (2 ^ (m + 1)) = x % 2 ^ (m + 1) := by
    show x.tmod _ = _
    rw [Int.tmod_eq_emod_of_nonneg hx.1]
  have ey : x * 2 ^ (63 - m) % 18446744073709551616 = x % 2 ^ (m + 1) * 2 ^ (63 - m) := by
    rw [← hpq, Int.mul_comm (2 ^ (m + 1)) _, Int.mul_comm x _, Int.mul_emod_mul_of_pos _ _ hq, Int.mul_comm]
  have l0 := Int.emod_nonneg x (by omega : (2 : Int) ^ (m + 1) ≠ 0)
  have l1 := Int.emod_lt_of_pos x (by omega : (0 : Int) < 2 ^ (m + 1))
  have hlt := pow_lt' (k := m + 1) (by omega)
  rw [er, ey]
  generalize x % 2 ^ (m + 1) = L at *
  have h63 : (2 : Int) ^ m * 2 ^ (63 - m) = 9223372036854775808 := by
    rw [← Int.pow_add, show m + (63 - m) = 63 by omega]
    rfl
  rw [geq_eq]
  by_cases h : 2 ^ m ≤ L
  · have hge : 9223372036854775808 ≤ L * 2 ^ (63 - m) := by
      have := Int.mul_le_mul_of_nonneg_right h (Int.le_of_lt hq)
      omega
    have hup : L * 2 ^ (63 - m) < 18446744073709551616 := by
      have := Int.mul_lt_mul_of_pos_right l1 hq
      omega
    have ew : IntKind.wrap .i64 (L * 2 ^ (63 - m)) = (L - 2 ^ (m + 1)) * 2 ^ (63 - m) := by
      rw [wrapi, Int.sub_mul, hpq]
      omega
    rw [decide_eq_true h, cond_true, ew, Int.mul_ediv_cancel _ (by omega), Ev.wrap64, sub_eq]
  · have hlo : L * 2 ^ (63 - m) < 9223372036854775808 := by
      have := Int.mul_lt_mul_of_pos_right (by omega : L < 2 ^ m) hq
      omega
    have h0 : 0 ≤ L * 2 ^ (63 - m) := Int.mul_nonneg l0 (Int.le_of_lt hq)
    have ew : IntKind.wrap .i64 (L * 2 ^ (63 - m)) = L * 2 ^ (63 - m) := by
      rw [wrapi]
      omega
    rw [decide_eq_false h, cond_false, ew, Int.mul_ediv_cancel _ (by omega), Ev.wrap64]
    omega
theorem sextW32 {x : Int} : sextW x 32 = sx x := by
  show IntKind.wrap .u64 (litBin .shr .i64 (IntKind.wrap .i64 (litBin .shl .u64 x 32)) 32) = _
  exact sx32 x
end Go.Proofs.Ytgljicadcegilaa.Ev
