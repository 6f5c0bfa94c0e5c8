/- The statement 'AluNumbers': what goes to is gone fro: sums and differences, bits that are turned twice; and a shift by a number is one by a register. Conditions: none. -/
import Derived.Test.YtgljicadcegilaaWords
import Derived.Test.YtgljicadcegilaaCxp
namespace Go.Proofs.Ytgljicadcegilaa.AluNumbers
open Go.RowKit Go.WideShapes Go.ChangeShapes Go.ChangeAt Ev
set_option linter.unusedVariables false
set_option linter.unusedSimpArgs false

def test0 (a : Int) (b : Int) : Bool := (!(litCmp .lss (litBin .and .i64 (IntKind.wrap .i64 (litBin .and .u64 b 63)) 63) 0))
def test1 (a : Int) (b : Int) : Bool := (!(litCmp .lss (litBin .and .i64 (IntKind.wrap .i64 (litBin .and .u64 b 63)) 63) 0))
def test2 (a : Int) (b : Int) : Bool := (litCmp .eql (litBin .shl .u64 a (litBin .and .i64 (IntKind.wrap .i64 (litBin .and .u64 b 63)) 63)) (litBin .shl .u64 a (litBin .and .i64 (IntKind.wrap .i64 (litBin .and .u64 b 63)) 63)))
def test3 (a : Int) (b : Int) : Bool := ((!(litCmp .lss (litBin .and .i64 (IntKind.wrap .i64 (litBin .and .u64 b 63)) 63) 0)) && (!(litCmp .lss (litBin .and .i64 (IntKind.wrap .i64 (litBin .and .u64 (litBin .rem .u64 b 64) 63)) 63) 0)))
def test4 (a : Int) (b : Int) : Bool := (!(litCmp .lss (litBin .and .i64 (IntKind.wrap .i64 (litBin .and .u64 b 63)) 63) 0))
def test5 (a : Int) (b : Int) : Bool := (litCmp .lss (litBin .rem .u64 b 64) 0)
def test6 (a : Int) (b : Int) : Bool := (litCmp .eql (litBin .shr .u64 a (litBin .and .i64 (IntKind.wrap .i64 (litBin .and .u64 b 63)) 63)) (litBin .shr .u64 a (litBin .rem .u64 b 64)))
def test7 (a : Int) (b : Int) : Bool := (!(litCmp .lss (litBin .and .i64 (IntKind.wrap .i64 (litBin .and .u64 b 63)) 63) 0))
def test8 (a : Int) (b : Int) : Bool := (litCmp .eql (litBin .sub .u64 (litBin .add .u64 a b) b) a)
def test9 (a : Int) (b : Int) : Bool := (litCmp .eql (litBin .xor .u64 (litBin .xor .u64 a b) b) a)
def test10 (a : Int) (b : Int) : Bool := (litCmp .eql (litBin .add .u64 (litBin .and .u64 a b) (litBin .or .u64 a b)) (litBin .add .u64 a b))
def test11 (a : Int) (b : Int) : Bool := (litCmp .eql (litBin .shl .u64 a (litBin .and .i64 (IntKind.wrap .i64 (litBin .and .u64 b 63)) 63)) (litBin .shl .u64 a (litBin .and .i64 (IntKind.wrap .i64 (litBin .and .u64 (litBin .rem .u64 b 64) 63)) 63)))
def test12 (a : Int) (b : Int) : Bool := (litCmp .eql (litBin .shr .u64 (IntKind.wrap .u64 (litBin .shr .i64 (IntKind.wrap .i64 a) (litBin .and .i64 (IntKind.wrap .i64 (litBin .and .u64 b 63)) 63))) 63) (litBin .shr .u64 a 63))
def test13 (a : Int) (b : Int) : Bool := (litCmp .eql (litBin .mul .u64 a b) (litBin .mul .u64 (litBin .and .u64 a 18446744073709551615) (litBin .and .u64 b 18446744073709551615)))
def G (a b : Int) : Bool := (((!(litCmp .lss (litBin .and .i64 (IntKind.wrap .i64 (litBin .and .u64 b 63)) 63) 0)) && ((!(litCmp .lss (litBin .and .i64 (IntKind.wrap .i64 (litBin .and .u64 b 63)) 63) 0)) && (cond (litCmp .eql (litBin .shl .u64 a (litBin .and .i64 (IntKind.wrap .i64 (litBin .and .u64 b 63)) 63)) (litBin .shl .u64 a (litBin .and .i64 (IntKind.wrap .i64 (litBin .and .u64 b 63)) 63))) ((!(litCmp .lss (litBin .and .i64 (IntKind.wrap .i64 (litBin .and .u64 b 63)) 63) 0)) && (!(litCmp .lss (litBin .and .i64 (IntKind.wrap .i64 (litBin .and .u64 (litBin .rem .u64 b 64) 63)) 63) 0))) true))) && ((!(litCmp .lss (litBin .and .i64 (IntKind.wrap .i64 (litBin .and .u64 b 63)) 63) 0)) && ((!(litCmp .lss (litBin .rem .u64 b 64) 0)) && (cond (litCmp .eql (litBin .shr .u64 a (litBin .and .i64 (IntKind.wrap .i64 (litBin .and .u64 b 63)) 63)) (litBin .shr .u64 a (litBin .rem .u64 b 64))) (!(litCmp .lss (litBin .and .i64 (IntKind.wrap .i64 (litBin .and .u64 b 63)) 63) 0)) true))))
def V (a b : Int) : Bool := (cond (litCmp .eql (litBin .sub .u64 (litBin .add .u64 a b) b) a) (cond (litCmp .eql (litBin .xor .u64 (litBin .xor .u64 a b) b) a) (cond (litCmp .eql (litBin .add .u64 (litBin .and .u64 a b) (litBin .or .u64 a b)) (litBin .add .u64 a b)) (cond (cond (litCmp .eql (litBin .shl .u64 a (litBin .and .i64 (IntKind.wrap .i64 (litBin .and .u64 b 63)) 63)) (litBin .shl .u64 a (litBin .and .i64 (IntKind.wrap .i64 (litBin .and .u64 b 63)) 63))) (litCmp .eql (litBin .shl .u64 a (litBin .and .i64 (IntKind.wrap .i64 (litBin .and .u64 b 63)) 63)) (litBin .shl .u64 a (litBin .and .i64 (IntKind.wrap .i64 (litBin .and .u64 (litBin .rem .u64 b 64) 63)) 63))) false) (cond (cond (litCmp .eql (litBin .shr .u64 a (litBin .and .i64 (IntKind.wrap .i64 (litBin .and .u64 b 63)) 63)) (litBin .shr .u64 a (litBin .rem .u64 b 64))) (litCmp .eql (litBin .shr .u64 (IntKind.wrap .u64 (litBin .shr .i64 (IntKind.wrap .i64 a) (litBin .and .i64 (IntKind.wrap .i64 (litBin .and .u64 b 63)) 63))) 63) (litBin .shr .u64 a 63)) false) (litCmp .eql (litBin .mul .u64 a b) (litBin .mul .u64 (litBin .and .u64 a 18446744073709551615) (litBin .and .u64 b 18446744073709551615))) false) false) false) false) false)
set_option maxRecDepth 100000 in
theorem road (a b : Int) : ((call Try.prog cxp 400 16 [.int .u64 (.sym a), .int .u64 (.sym b)] []).route [true]).map (fun p => (p.1, p.2.1)) = some ([G a b], .val (.bool (.sym (V a b)))) := by kernel_rfl

theorem small63 {b : Int} (hb : inU b) : ∃ p : Nat, p < 64 ∧ b % 64 = (p : Int) ∧ IntKind.wrap .i64 (litBin .and .u64 b 63) = (p : Int) := by
  obtain ⟨n, rfl, hn⟩ := hb.nat
  have e : litBin .and .u64 (n : Int) 63 = ((n &&& 63 : Nat) : Int) := and_nat hn (y := 63) (by decide)
  have e2 : n &&& 63 = n % 64 := Nat.and_two_pow_sub_one_eq_mod n 6
  refine ⟨n % 64, Nat.mod_lt _ (by decide), by omega, ?_⟩
  rw [e, e2, wrapi]
  omega
theorem tabs : ∀ p : Fin 64, litBin .and .i64 ((p.val : Nat) : Int) 63 = ((p.val : Nat) : Int) := by decide +kernel
theorem lss0 (p : Nat) : litCmp .lss (p : Int) 0 = false := by rw [lss_eq]; exact decide_eq_false (by omega)
theorem shr_pi (x : Int) {p : Nat} (h : p ≤ 64) : litBin .shr .i64 x (p : Int) = x / 2 ^ p := by
  show Int.fdiv x (2 ^ (min p 64)) = _
  rw [Nat.min_eq_left h, Int.fdiv_eq_ediv_of_nonneg _ (Int.le_of_lt (Int.pow_pos (by decide)))]
theorem and_or (x : Nat) : ∀ y : Nat, (x &&& y) + (x ||| y) = x + y := by
  induction x using Nat.strongRecOn with
  | _ x ih =>
    intro y
    by_cases hx : x = 0
    · subst hx; simp
    · have h1 := ih (x / 2) (by omega) (y / 2)
      have a1 : (x &&& y) / 2 = x / 2 &&& y / 2 := Nat.and_div_two
      have a2 : (x ||| y) / 2 = x / 2 ||| y / 2 := Nat.or_div_two
      have b1 : (x &&& y) % 2 = (x % 2 &&& y % 2) := Nat.and_mod_two_pow (n := 1)
      have b2 : (x ||| y) % 2 = (x % 2 ||| y % 2) := Nat.or_mod_two_pow (n := 1)
      have c1 : ∀ u v : Nat, (u = 0 ∨ u = 1) → (v = 0 ∨ v = 1) → (u &&& v) + (u ||| v) = u + v := by
        rintro u v (rfl | rfl) (rfl | rfl) <;> rfl
      have c := c1 (x % 2) (y % 2) (Nat.mod_two_eq_zero_or_one x) (Nat.mod_two_eq_zero_or_one y)
      rw [← b1, ← b2] at c
      rw [← a1, ← a2] at h1
      omega
theorem law {a b : Int} (wa : (Lit.int .u64 a).wf = true) (wb : (Lit.int .u64 b).wf = true) : [test0 a b, test1 a b, test2 a b, test3 a b, test4 a b, test5 a b, test6 a b, test7 a b, test8 a b, test9 a b, test10 a b, test11 a b, test12 a b, test13 a b] = [true, true, true, true, true, false, true, true, true, true, true, true, true, true] := by
  have ha := inU_wf wa
  have hb := inU_wf wb
  obtain ⟨p, hp, e1, e2⟩ := small63 hb
  have hr : litBin .rem .u64 b 64 = (p : Int) := by
    unfold inU at hb
    show b.tmod 64 = _
    rw [Int.tmod_eq_emod_of_nonneg hb.1, e1]
  obtain ⟨q, hq, e3, e4⟩ := small63 (b := (p : Int)) (inU_nat (by omega))
  have hqp : q = p := by omega
  subst hqp
  have t := tabs ⟨q, hp⟩
  simp only at t
  have hP : (0 : Int) < 2 ^ q := Int.pow_pos (by decide)
  unfold test0 test1 test2 test3 test4 test5 test6 test7 test8 test9 test10 test11 test12 test13
  rw [e2, hr, e4, t, lss0, eql_self, eql_self, and_all ha, and_all hb, eql_self, xor_back ha hb, eql_self]
  have k8 : litCmp .eql (litBin .sub .u64 (litBin .add .u64 a b) b) a = true := by
    refine eql_of ?_
    unfold inU at ha
    rw [add_eq, sub_eq]
    omega
  have k10 : litCmp .eql (litBin .add .u64 (litBin .and .u64 a b) (litBin .or .u64 a b)) (litBin .add .u64 a b) = true := by
    refine eql_of ?_
    obtain ⟨n, rfl, hn⟩ := ha.nat
    obtain ⟨m, rfl, hm⟩ := hb.nat
    have := and_or n m
    rw [and_nat hn hm, or_nat hn hm, add_eq, add_eq]
    omega
  have k12 : litCmp .eql (litBin .shr .u64 (IntKind.wrap .u64 (litBin .shr .i64 (IntKind.wrap .i64 a) (q : Int))) 63) (litBin .shr .u64 a 63) = true := by
    refine eql_of ?_
    unfold inU at ha
    rw [shr63, shr63, shr_pi _ (by omega), Ev.wrap64]
    have hX := wrapi a
    have hb : -9223372036854775808 ≤ IntKind.i64.wrap a ∧ IntKind.i64.wrap a < 9223372036854775808 := by omega
    by_cases h0 : 0 ≤ IntKind.i64.wrap a
    · have h1 := Int.ediv_nonneg h0 (Int.le_of_lt hP)
      have h2 := Int.ediv_le_self (2 ^ q) h0
      generalize IntKind.i64.wrap a / 2 ^ q = Y at *
      omega
    · have h1 : IntKind.i64.wrap a / 2 ^ q < 0 := Int.ediv_neg_of_neg_of_pos (by omega) hP
      have h2 : -9223372036854775808 ≤ IntKind.i64.wrap a / 2 ^ q := (Int.le_ediv_iff_mul_le hP).2 (by omega)
      generalize IntKind.i64.wrap a / 2 ^ q = Y at *
      omega
  rw [k8, k10, k12]
  rfl

theorem both {a b : Int} (wa : (Lit.int .u64 a).wf = true) (wb : (Lit.int .u64 b).wf = true) : G a b = true ∧ V a b = true := by
  have l := law wa wb
  simp only [List.cons.injEq, and_true] at l
  obtain ⟨c0, c1, c2, c3, c4, c5, c6, c7, c8, c9, c10, c11, c12, c13⟩ := l
  unfold test0 at c0
  unfold test2 at c2
  unfold test3 at c3
  unfold test5 at c5
  unfold test6 at c6
  unfold test8 at c8
  unfold test9 at c9
  unfold test10 at c10
  unfold test11 at c11
  unfold test12 at c12
  unfold test13 at c13
  constructor
  · unfold G
    simp only [c0, c2, c3, c5, c6, cond_true, Bool.and_self, Bool.not_false]
    simp only [c0, Bool.true_and] at c3
    simp only [c3, Bool.and_self]
  · unfold V
    simp only [c2, c6, c8, c9, c10, c11, c12, c13, cond_true]

theorem sums (a b : Int) (wa : (Lit.int .u64 a).wf = true) (wb : (Lit.int .u64 b).wf = true) :
    ∃ c : Bool, (call Try.prog cxp 400 16 [.int .u64 (.sym a), .int .u64 (.sym b)] []).pick.map (·.1) = some (.val (.bool (.sym c))) ∧ c = true :=
  ⟨_, route_pick1 (road a b) (by rw [(both wa wb).1]), (both wa wb).2⟩

set_option maxRecDepth 100000 in
set_option maxHeartbeats 4000000 in
theorem run : ∀ vs, ArgsOk [.one (.int .u64), .one (.int .u64)] vs → ∀ w, Calls Try.prog 16 vs.toArray w fun e w' => e = .returned (.bool true) ∧ Below w.heap.size w w' := by
  intro vs h w
  obtain ⟨_, _, rfl, ⟨a, rfl, wa⟩, _, _, rfl, ⟨b, rfl, wb⟩, rfl⟩ := h
  obtain ⟨c, k1, k2⟩ := sums a b wa wb
  have k3 := (rfl : List.map absV [.int .u64 a, .int .u64 b] = [.int .u64 (.sym a), .int .u64 (.sym b)])
  have k4 := law_true2 cxp_ok k3 k1 k2 w
  exact k4

set_option maxRecDepth 100000 in
theorem lifted (os : Os) (started : os.Started) (H : Type) (enc : TypeId × Value → H) :
    ReturnsInHanded {} Try.checked os 16 .any (Rows.aluNumbersSpec.pre6 enc Try.prog Try.f16 Rows.aluNumbersRow.domain false) (Rows.aluNumbersSpec.post enc Try.prog Try.f16 false true false false) := by
  refine returnsInHanded_of_change (C := Try.checked) own started (by kernel_rfl) Try.func16
    (ChangeSpec.witness6 (enc := enc) (C := Try.checked) false ⟨#[], #[.int .u64 0, .int .u64 0], []⟩ 8 (by kernel_rfl) (by kernel_rfl) (by kernel_rfl) (by kernel_rfl)) ?_
  intro W base args ds gs before hval hW _ _
  exact lifted_plain (P := Try.prog) (f := 16) (fn := Try.f16) (s := Rows.aluNumbersSpec) (tb := 4) rfl
    (fun ds h => by
      match ds, h with
      | [d1, d2], _ => rfl)
    (by kernel_rfl) rfl (by kernel_rfl) run W base args ds gs before hval hW

theorem over : Rows.aluNumbersRow.holds Try.pinned (OpenSpec.ofChange Rows.aluNumbersSpec) :=
  OpenClaim.holds_of_wide 16 Try.f16 rfl rfl rfl rfl rfl rfl rfl ⟨rfl, rfl, rfl, rfl, rfl⟩ rfl rfl rfl rfl rfl (by kernel_rfl) Try.func16 (by kernel_rfl)
    (of_decide_eq_true (by kernel_rfl)) (by unfold Func.isWrapper; first | (rw [if_pos (by decide +kernel)]; kernel_rfl) | (rw [if_neg (by decide +kernel)]; exact ⟨rfl, rfl⟩))
    (fun os started H enc _ => lifted os started H enc)

/-- The statement. -/
theorem proved : Rows.AluNumbersSaid :=
  over
#print axioms proved
end Go.Proofs.Ytgljicadcegilaa.AluNumbers
