/- The statement 'WordShifts': two shifts are one of both; and a shift to the right is what comes of it divided by a power of two. Conditions: none. -/
import Derived.Test.YtgljicadcegilaaWords
namespace Go.Proofs.Ytgljicadcegilaa.WordShifts
open Go.RowKit Go.WideShapes Go.ChangeShapes Go.ChangeAt Ev
set_option linter.unusedVariables false
set_option linter.unusedSimpArgs false

def test0 (x : Int) (k : Int) (l : Int) : Bool := (((!(litCmp .lss (litBin .and .i64 (IntKind.wrap .i64 (litBin .and .u8 k 31)) 63) 0)) && ((!(litCmp .lss (litBin .and .i64 (IntKind.wrap .i64 (litBin .and .u8 l 31)) 63) 0)) && (!(litCmp .lss (litBin .and .i64 (litBin .add .i64 (IntKind.wrap .i64 (litBin .and .u8 k 31)) (IntKind.wrap .i64 (litBin .and .u8 l 31))) 63) 0)))) && (cond (litCmp .neq (litBin .shl .u64 (litBin .shl .u64 x (litBin .and .i64 (IntKind.wrap .i64 (litBin .and .u8 k 31)) 63)) (litBin .and .i64 (IntKind.wrap .i64 (litBin .and .u8 l 31)) 63)) (litBin .shl .u64 x (litBin .and .i64 (litBin .add .i64 (IntKind.wrap .i64 (litBin .and .u8 k 31)) (IntKind.wrap .i64 (litBin .and .u8 l 31))) 63))) true (((!(litCmp .lss (litBin .and .i64 (IntKind.wrap .i64 (litBin .and .u8 k 31)) 63) 0)) && ((!(litCmp .lss (litBin .and .i64 (IntKind.wrap .i64 (litBin .and .u8 l 31)) 63) 0)) && (!(litCmp .lss (litBin .and .i64 (litBin .add .i64 (IntKind.wrap .i64 (litBin .and .u8 k 31)) (IntKind.wrap .i64 (litBin .and .u8 l 31))) 63) 0)))) && (cond (litCmp .neq (litBin .shr .u64 (litBin .shr .u64 x (litBin .and .i64 (IntKind.wrap .i64 (litBin .and .u8 k 31)) 63)) (litBin .and .i64 (IntKind.wrap .i64 (litBin .and .u8 l 31)) 63)) (litBin .shr .u64 x (litBin .and .i64 (litBin .add .i64 (IntKind.wrap .i64 (litBin .and .u8 k 31)) (IntKind.wrap .i64 (litBin .and .u8 l 31))) 63))) true (((!(litCmp .lss (litBin .and .i64 (IntKind.wrap .i64 (litBin .and .u8 k 31)) 63) 0)) && ((!(litCmp .lss (litBin .and .i64 (IntKind.wrap .i64 (litBin .and .u8 l 31)) 63) 0)) && (!(litCmp .lss (litBin .and .i64 (litBin .add .i64 (IntKind.wrap .i64 (litBin .and .u8 k 31)) (IntKind.wrap .i64 (litBin .and .u8 l 31))) 63) 0)))) && (cond (litCmp .neq (IntKind.wrap .u64 (litBin .shr .i64 (IntKind.wrap .i64 (IntKind.wrap .u64 (litBin .shr .i64 (IntKind.wrap .i64 x) (litBin .and .i64 (IntKind.wrap .i64 (litBin .and .u8 k 31)) 63)))) (litBin .and .i64 (IntKind.wrap .i64 (litBin .and .u8 l 31)) 63))) (IntKind.wrap .u64 (litBin .shr .i64 (IntKind.wrap .i64 x) (litBin .and .i64 (litBin .add .i64 (IntKind.wrap .i64 (litBin .and .u8 k 31)) (IntKind.wrap .i64 (litBin .and .u8 l 31))) 63)))) true ((!(litCmp .lss (IntKind.wrap .i64 (litBin .and .u8 k 31)) 0)) && ((!(litCmp .lss (litBin .and .i64 (IntKind.wrap .i64 (litBin .and .u8 k 31)) 63) 0)) && ((cond (litCmp .eql (litBin .shl .u64 1 (IntKind.wrap .i64 (litBin .and .u8 k 31))) 0) true ((!(litCmp .eql (litBin .shl .u64 1 (IntKind.wrap .i64 (litBin .and .u8 k 31))) 0)) && (!(litCmp .eql (litBin .shl .u64 1 (IntKind.wrap .i64 (litBin .and .u8 k 31))) 0)))) && (cond (litCmp .eql (litBin .shr .u64 x (litBin .and .i64 (IntKind.wrap .i64 (litBin .and .u8 k 31)) 63)) (cond (litCmp .eql (litBin .shl .u64 1 (IntKind.wrap .i64 (litBin .and .u8 k 31))) 0) 18446744073709551615 (litBin .quo .u64 x (litBin .shl .u64 1 (IntKind.wrap .i64 (litBin .and .u8 k 31)))))) ((!(litCmp .lss (litBin .and .i64 (IntKind.wrap .i64 (litBin .and .u8 k 31)) 63) 0)) && (cond (litCmp .eql (litBin .shl .u64 x (litBin .and .i64 (IntKind.wrap .i64 (litBin .and .u8 k 31)) 63)) (litBin .mul .u64 (litBin .and .u64 x 18446744073709551615) (litBin .shl .u64 1 (IntKind.wrap .i64 (litBin .and .u8 k 31))))) ((!(litCmp .lss (litBin .and .i64 (IntKind.wrap .i64 (litBin .and .u8 k 31)) 63) 0)) && ((cond (litCmp .eql (litBin .shl .u64 1 (IntKind.wrap .i64 (litBin .and .u8 k 31))) 0) true ((!(litCmp .eql (litBin .shl .u64 1 (IntKind.wrap .i64 (litBin .and .u8 k 31))) 0)) && (!(litCmp .eql (litBin .shl .u64 1 (IntKind.wrap .i64 (litBin .and .u8 k 31))) 0)))) && (cond (litCmp .eql x (litBin .add .u64 (litBin .mul .u64 (litBin .shr .u64 x (litBin .and .i64 (IntKind.wrap .i64 (litBin .and .u8 k 31)) 63)) (litBin .shl .u64 1 (IntKind.wrap .i64 (litBin .and .u8 k 31)))) (cond (litCmp .eql (litBin .shl .u64 1 (IntKind.wrap .i64 (litBin .and .u8 k 31))) 0) x (litBin .rem .u64 x (litBin .shl .u64 1 (IntKind.wrap .i64 (litBin .and .u8 k 31))))))) (cond (litCmp .eql x x) ((!(litCmp .lss (litBin .and .i64 (litBin .add .i64 (IntKind.wrap .i64 (litBin .and .u8 k 31)) 64) 63) 0)) && (!(litCmp .lss (litBin .and .i64 (IntKind.wrap .i64 (litBin .and .u8 k 31)) 63) 0))) true) true))) true)) true))))))))))
def val (x : Int) (k : Int) (l : Int) : Bool := (cond (litCmp .neq (litBin .shl .u64 (litBin .shl .u64 x (litBin .and .i64 (IntKind.wrap .i64 (litBin .and .u8 k 31)) 63)) (litBin .and .i64 (IntKind.wrap .i64 (litBin .and .u8 l 31)) 63)) (litBin .shl .u64 x (litBin .and .i64 (litBin .add .i64 (IntKind.wrap .i64 (litBin .and .u8 k 31)) (IntKind.wrap .i64 (litBin .and .u8 l 31))) 63))) false (cond (litCmp .neq (litBin .shr .u64 (litBin .shr .u64 x (litBin .and .i64 (IntKind.wrap .i64 (litBin .and .u8 k 31)) 63)) (litBin .and .i64 (IntKind.wrap .i64 (litBin .and .u8 l 31)) 63)) (litBin .shr .u64 x (litBin .and .i64 (litBin .add .i64 (IntKind.wrap .i64 (litBin .and .u8 k 31)) (IntKind.wrap .i64 (litBin .and .u8 l 31))) 63))) false (cond (litCmp .neq (IntKind.wrap .u64 (litBin .shr .i64 (IntKind.wrap .i64 (IntKind.wrap .u64 (litBin .shr .i64 (IntKind.wrap .i64 x) (litBin .and .i64 (IntKind.wrap .i64 (litBin .and .u8 k 31)) 63)))) (litBin .and .i64 (IntKind.wrap .i64 (litBin .and .u8 l 31)) 63))) (IntKind.wrap .u64 (litBin .shr .i64 (IntKind.wrap .i64 x) (litBin .and .i64 (litBin .add .i64 (IntKind.wrap .i64 (litBin .and .u8 k 31)) (IntKind.wrap .i64 (litBin .and .u8 l 31))) 63)))) false (cond (litCmp .eql (litBin .shr .u64 x (litBin .and .i64 (IntKind.wrap .i64 (litBin .and .u8 k 31)) 63)) (cond (litCmp .eql (litBin .shl .u64 1 (IntKind.wrap .i64 (litBin .and .u8 k 31))) 0) 18446744073709551615 (litBin .quo .u64 x (litBin .shl .u64 1 (IntKind.wrap .i64 (litBin .and .u8 k 31)))))) (cond (litCmp .eql (litBin .shl .u64 x (litBin .and .i64 (IntKind.wrap .i64 (litBin .and .u8 k 31)) 63)) (litBin .mul .u64 (litBin .and .u64 x 18446744073709551615) (litBin .shl .u64 1 (IntKind.wrap .i64 (litBin .and .u8 k 31))))) (cond (litCmp .eql x (litBin .add .u64 (litBin .mul .u64 (litBin .shr .u64 x (litBin .and .i64 (IntKind.wrap .i64 (litBin .and .u8 k 31)) 63)) (litBin .shl .u64 1 (IntKind.wrap .i64 (litBin .and .u8 k 31)))) (cond (litCmp .eql (litBin .shl .u64 1 (IntKind.wrap .i64 (litBin .and .u8 k 31))) 0) x (litBin .rem .u64 x (litBin .shl .u64 1 (IntKind.wrap .i64 (litBin .and .u8 k 31))))))) (cond (litCmp .eql x x) (litCmp .eql (litBin .shr .u64 x (litBin .and .i64 (litBin .add .i64 (IntKind.wrap .i64 (litBin .and .u8 k 31)) 64) 63)) (litBin .shr .u64 x (litBin .and .i64 (IntKind.wrap .i64 (litBin .and .u8 k 31)) 63))) false) false) false) false))))
set_option maxRecDepth 100000 in
theorem road (x : Int) (k : Int) (l : Int) : ((call Try.prog cx 400 5 [.int .u64 (.sym x), .agg [.int .u8 (.sym k), .int .u8 (.sym l)]] []).route [true]).map (fun p => (p.1, p.2.1)) = some ([test0 x k l], .val (.bool (.sym (val x k l)))) := by kernel_rfl

theorem small31 {k : Int} (wk : (Lit.int .u8 k).wf = true) : ∃ p : Nat, p < 32 ∧ IntKind.wrap .i64 (litBin .and .u8 k 31) = (p : Int) := by
  have h0 := wf8 wk
  have : ∀ n : Fin 256, ∃ p : Nat, p < 32 ∧ IntKind.wrap .i64 (litBin .and .u8 ((n.val : Nat) : Int) 31) = (p : Int) := by
    intro n
    refine ⟨n.val % 32, Nat.mod_lt _ (by decide), ?_⟩
    revert n
    decide +kernel
  obtain ⟨p, h1, h2⟩ := this ⟨k.toNat, by omega⟩
  have e : ((k.toNat : Nat) : Int) = k := by omega
  exact ⟨p, h1, by rw [← h2]; simp only [e]⟩
theorem tabs : ∀ p : Fin 32, litBin .and .i64 ((p.val : Nat) : Int) 63 = ((p.val : Nat) : Int) ∧ litBin .and .i64 (litBin .add .i64 ((p.val : Nat) : Int) 64) 63 = ((p.val : Nat) : Int) ∧ ∀ q : Fin 32, litBin .and .i64 (litBin .add .i64 ((p.val : Nat) : Int) ((q.val : Nat) : Int)) 63 = ((p.val + q.val : Nat) : Int) := by decide +kernel
theorem lss0 (p : Nat) : litCmp .lss (p : Int) 0 = false := by rw [lss_eq]; exact decide_eq_false (by omega)
theorem shl_p (x : Int) {p : Nat} (h : p ≤ 64) : litBin .shl .u64 x (p : Int) = (x * 2 ^ p) % 18446744073709551616 := by
  show IntKind.u64.wrap (x * 2 ^ (min p 64)) = _
  rw [Nat.min_eq_left h, Ev.wrap64]
theorem shr_p (x : Int) {p : Nat} (h : p ≤ 64) : litBin .shr .u64 x (p : Int) = x / 2 ^ p := by
  show Int.fdiv x (2 ^ (min p 64)) = _
  rw [Nat.min_eq_left h, Int.fdiv_eq_ediv_of_nonneg _ (Int.le_of_lt (Int.pow_pos (by decide)))]
theorem shr_pi (x : Int) {p : Nat} (h : p ≤ 64) : litBin .shr .i64 x (p : Int) = x / 2 ^ p := by
  show Int.fdiv x (2 ^ (min p 64)) = _
  rw [Nat.min_eq_left h, Int.fdiv_eq_ediv_of_nonneg _ (Int.le_of_lt (Int.pow_pos (by decide)))]
theorem pow_pos' (p : Nat) : (0 : Int) < 2 ^ p := Int.pow_pos (by decide)
theorem div_in {x : Int} (h : inU x) (p : Nat) : inU (x / 2 ^ p) := by
  unfold inU at *
  have h1 := pow_pos' p
  exact ⟨Int.ediv_nonneg h.1 (Int.le_of_lt h1), by have := Int.ediv_le_self (2 ^ p) h.1; omega⟩
theorem law {x k l : Int} (wx : (Lit.int .u64 x).wf = true) (wk : (Lit.int .u8 k).wf = true) (wl : (Lit.int .u8 l).wf = true) : test0 x k l = true ∧ val x k l = true := by
  obtain ⟨p, hp, ep⟩ := small31 wk
  obtain ⟨q, hq, eq⟩ := small31 wl
  have hx := inU_wf wx
  obtain ⟨t1, t2, t3⟩ := tabs ⟨p, hp⟩
  have t4 := t3 ⟨q, hq⟩
  have t5 := (tabs ⟨q, hq⟩).1
  simp only at t1 t2 t4 t5
  have e1 : litBin .shl .u64 1 (p : Int) = 2 ^ p := by
    rw [shl_p _ (by omega)]
    have : ∀ p : Fin 32, (1 * 2 ^ p.val : Int) % 18446744073709551616 = 2 ^ p.val := by decide +kernel
    exact this ⟨p, hp⟩
  have hP := pow_pos' p
  have hQ := pow_pos' q
  have e2 : litCmp .eql (2 ^ p : Int) 0 = false := decide_eq_false (by omega)
  have c1 : litCmp .neq (litBin .shl .u64 (litBin .shl .u64 x (p : Int)) (q : Int)) (litBin .shl .u64 x ((p + q : Nat) : Int)) = false := by
    refine neq_of ?_
    rw [shl_p _ (by omega), shl_p _ (by omega), shl_p _ (by omega), Int.mul_emod, Int.emod_emod, ← Int.mul_emod, Int.mul_assoc, Int.pow_add]
  have c2 : litCmp .neq (litBin .shr .u64 (litBin .shr .u64 x (p : Int)) (q : Int)) (litBin .shr .u64 x ((p + q : Nat) : Int)) = false := by
    refine neq_of ?_
    rw [shr_p _ (by omega), shr_p _ (by omega), shr_p _ (by omega), Int.pow_add, Int.ediv_ediv_of_nonneg (Int.le_of_lt hP)]
  have c3 : litCmp .neq (IntKind.wrap .u64 (litBin .shr .i64 (IntKind.wrap .i64 (IntKind.wrap .u64 (litBin .shr .i64 (IntKind.wrap .i64 x) (p : Int)))) (q : Int))) (IntKind.wrap .u64 (litBin .shr .i64 (IntKind.wrap .i64 x) ((p + q : Nat) : Int))) = false := by
    refine neq_of ?_
    rw [shr_pi _ (by omega), shr_pi _ (by omega), shr_pi _ (by omega), Int.pow_add, ← Int.ediv_ediv_of_nonneg (Int.le_of_lt hP)]
    have hX := wrapi x
    have hb : -9223372036854775808 ≤ IntKind.i64.wrap x ∧ IntKind.i64.wrap x < 9223372036854775808 := by omega
    have hy : -9223372036854775808 ≤ IntKind.i64.wrap x / 2 ^ p ∧ IntKind.i64.wrap x / 2 ^ p < 9223372036854775808 := by
      constructor
      · refine (Int.le_ediv_iff_mul_le hP).2 ?_
        omega
      · refine Int.ediv_lt_of_lt_mul hP ?_
        omega
    have e : IntKind.i64.wrap (IntKind.u64.wrap (IntKind.i64.wrap x / 2 ^ p)) = IntKind.i64.wrap x / 2 ^ p := by
      rw [wrapi, Ev.wrap64]
      omega
    rw [e]
  have hquo : litBin .quo .u64 x (2 ^ p) = x / 2 ^ p := by
    have := div_in hx p
    unfold inU at this hx
    show IntKind.u64.wrap (x.tdiv (2 ^ p)) = _
    rw [Int.tdiv_eq_ediv_of_nonneg hx.1, Ev.wrap64]
    omega
  have hrem : litBin .rem .u64 x (2 ^ p) = x % 2 ^ p := by
    unfold inU at hx
    show x.tmod (2 ^ p) = _
    rw [Int.tmod_eq_emod_of_nonneg hx.1]
  have c4 : litCmp .eql (litBin .shr .u64 x (p : Int)) (litBin .quo .u64 x (2 ^ p)) = true := eql_of (by rw [hquo, shr_p _ (by omega)])
  have c5 : litCmp .eql (litBin .shl .u64 x (p : Int)) (litBin .mul .u64 x (2 ^ p)) = true := eql_of (by rw [mul_eq, shl_p _ (by omega)])
  have c6 : litCmp .eql x (litBin .add .u64 (litBin .mul .u64 (litBin .shr .u64 x (p : Int)) (2 ^ p)) (litBin .rem .u64 x (2 ^ p))) = true := by
    refine eql_of ?_
    rw [add_eq, mul_eq, shr_p _ (by omega), hrem, Int.emod_add_emod, Int.mul_comm, Int.mul_ediv_add_emod]
    unfold inU at hx
    omega
  constructor
  · unfold test0
    simp only [ep, eq, t1, t2, t4, t5, lss0, e1, e2, c1, c2, c3, c4, c5, c6, and_all hx, eql_self, cond_true, cond_false, Bool.not_false, Bool.and_self, Bool.and_true, Bool.true_and, Bool.cond_self]
  · unfold val
    simp only [ep, eq, t1, t2, t4, t5, lss0, e1, e2, c1, c2, c3, c4, c5, c6, and_all hx, eql_self, cond_true, cond_false, Bool.not_false, Bool.and_self, Bool.and_true, Bool.true_and, Bool.cond_self]

theorem sums (x : Int) (k : Int) (l : Int) (wx : (Lit.int .u64 x).wf = true) (wk : (Lit.int .u8 k).wf = true) (wl : (Lit.int .u8 l).wf = true) :
    ∃ c : Bool, (call Try.prog cx 400 5 [.int .u64 (.sym x), .agg [.int .u8 (.sym k), .int .u8 (.sym l)]] []).pick.map (·.1) = some (.val (.bool (.sym c))) ∧ c = true :=
  ⟨_, route_pick1 (road x k l) (by rw [(law wx wk wl).1]), (law wx wk wl).2⟩

set_option maxRecDepth 100000 in
set_option maxHeartbeats 4000000 in
theorem run : ∀ vs, ArgsOk [.one (.int .u64), .agg [.int .u8, .int .u8]] vs → ∀ w, Calls Try.prog 5 vs.toArray w fun e w' => e = .returned (.bool true) ∧ Below w.heap.size w w' := by
  intro vs h w
  obtain ⟨_, _, rfl, ⟨x, rfl, wx⟩, _, _, rfl, ⟨_, rfl, _, _, rfl, ⟨k, rfl, wk⟩, _, _, rfl, ⟨l, rfl, wl⟩, rfl⟩, rfl⟩ := h
  obtain ⟨c, k1, k2⟩ := sums x k l wx wk wl
  have k3 := (rfl : List.map absV [.int .u64 x, .agg [.int .u8 k, .int .u8 l].toArray] = [.int .u64 (.sym x), .agg [.int .u8 (.sym k), .int .u8 (.sym l)]])
  have k4 := law_true2 cx_ok k3 k1 k2 w
  exact k4

set_option maxRecDepth 100000 in
theorem lifted (os : Os) (started : os.Started) (H : Type) (enc : TypeId × Value → H) :
    ReturnsInHanded {} Try.checked os 5 .any (Rows.wordShiftsSpec.pre6 enc Try.prog Try.f5 Rows.wordShiftsRow.domain false) (Rows.wordShiftsSpec.post enc Try.prog Try.f5 false true false false) := by
  refine returnsInHanded_of_change (C := Try.checked) own started (by kernel_rfl) Try.func5
    (ChangeSpec.witness6 (enc := enc) (C := Try.checked) false ⟨#[], #[.int .u64 0, .agg #[.int .u8 0, .int .u8 0]], []⟩ 8 (by kernel_rfl) (by kernel_rfl) (by kernel_rfl) (by kernel_rfl)) ?_
  intro W base args ds gs before hval hW _ _
  exact lifted_plain (P := Try.prog) (f := 5) (fn := Try.f5) (s := Rows.wordShiftsSpec) (tb := 4) rfl
    (fun ds h => by
      match ds, h with
      | [d1, d2], _ => rfl)
    (by kernel_rfl) rfl (by kernel_rfl) run W base args ds gs before hval hW

theorem over : Rows.wordShiftsRow.holds Try.pinned (OpenSpec.ofChange Rows.wordShiftsSpec) :=
  OpenClaim.holds_of_wide 5 Try.f5 rfl rfl rfl rfl rfl rfl rfl ⟨rfl, rfl, rfl, rfl, rfl⟩ rfl rfl rfl rfl rfl (by kernel_rfl) Try.func5 (by kernel_rfl)
    (of_decide_eq_true (by kernel_rfl)) (by unfold Func.isWrapper; first | (rw [if_pos (by decide +kernel)]; kernel_rfl) | (rw [if_neg (by decide +kernel)]; exact ⟨rfl, rfl⟩))
    (fun os started H enc _ => lifted os started H enc)

/-- The statement. -/
theorem proved : Rows.WordShiftsSaid :=
  over
#print axioms proved
end Go.Proofs.Ytgljicadcegilaa.WordShifts
