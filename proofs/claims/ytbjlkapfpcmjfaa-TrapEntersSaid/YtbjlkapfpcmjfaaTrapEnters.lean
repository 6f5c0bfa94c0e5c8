/- The statement 'TrapEnters': who enters goes on where Tvec says, and all other registers stay. Conditions: none. -/
import Derived.Test.YtbjlkapfpcmjfaaCx
import Derived.Test.YtbjlkapfpcmjfaaEvTaut
namespace Go.Proofs.Ytbjlkapfpcmjfaa.TrapEnters
open Go.RowKit Go.WideShapes Go.ChangeShapes Go.ChangeAt Ev
set_option linter.unusedVariables false
set_option linter.unusedSimpArgs false

def shape (x0 x1 x2 x3 x4 x5 x6 x7 x8 x9 x10 x11 x12 x13 x14 x15 x16 x17 x18 yti : Bool) : Bool := (cond (cond x0 true (cond x1 true (cond x2 true (cond (!(x3 == x4)) true (!(x5 == x6)))))) false (x7 && (x8 && (x9 && (x10 && (x11 && (x12 && (x13 && (x14 && (x15 && (x16 && (x17 && x18))))))))))))

def formula (c0 : Int) (c1 : Int) (c2 : Int) (c3 : Int) (c4 : Int) (c5 : Int) (c6 : Int) (c7 : Int) (c8 : Int) (c9 : Int) (c10 : Int) (c11 : Int) (tp : Int) (tc : Int) (tpc : Int) (tv : Int) (ti : Bool) : Bool := shape (litCmp .neq (cond ti (litBin .add .u64 (litBin .andNot .u64 c2 3) (litBin .mul .u64 (litBin .mul .u64 (litBin .and .u64 c2 1) 4) (IntKind.wrap .u64 (litBin .and .i64 tc 63)))) (litBin .andNot .u64 c2 3)) (cond (cond ti (litCmp .eql (litBin .and .u64 c2 1) 1) false) (litBin .add .u64 (litBin .andNot .u64 c2 3) (litBin .mul .u64 4 (IntKind.wrap .u64 (litBin .and .i64 tc 63)))) (litBin .andNot .u64 c2 3))) (litCmp .neq (cond ti (litBin .add .u64 (IntKind.wrap .u64 (litBin .and .i64 tc 63)) 9223372036854775808) (IntKind.wrap .u64 (litBin .and .i64 tc 63))) (litBin .or .u64 (cond ti 9223372036854775808 0) (IntKind.wrap .u64 (litBin .and .i64 tc 63)))) (litCmp .neq (litBin .andNot .u64 tpc 1) (litBin .andNot .u64 tpc 1)) (litCmp .neq (litBin .and .u64 (cond (litCmp .eql tp 1) (litBin .or .u64 (litBin .andNot .u64 (cond (litCmp .neq (litBin .and .u64 c0 2) 0) (litBin .or .u64 c0 32) (litBin .andNot .u64 c0 32)) 258) 256) (litBin .andNot .u64 (cond (litCmp .neq (litBin .and .u64 c0 2) 0) (litBin .or .u64 c0 32) (litBin .andNot .u64 c0 32)) 258)) 256) 0) (litCmp .eql tp 1) (litCmp .neq (litBin .and .u64 (cond (litCmp .eql tp 1) (litBin .or .u64 (litBin .andNot .u64 (cond (litCmp .neq (litBin .and .u64 c0 2) 0) (litBin .or .u64 c0 32) (litBin .andNot .u64 c0 32)) 258) 256) (litBin .andNot .u64 (cond (litCmp .neq (litBin .and .u64 c0 2) 0) (litBin .or .u64 c0 32) (litBin .andNot .u64 c0 32)) 258)) 32) 0) (litCmp .neq (litBin .and .u64 c0 2) 0) (litCmp .eql (litBin .or .u64 (litBin .andNot .u64 (cond (litCmp .eql tp 1) (litBin .or .u64 (litBin .andNot .u64 (cond (litCmp .neq (litBin .and .u64 c0 2) 0) (litBin .or .u64 c0 32) (litBin .andNot .u64 c0 32)) 258) 256) (litBin .andNot .u64 (cond (litCmp .neq (litBin .and .u64 c0 2) 0) (litBin .or .u64 c0 32) (litBin .andNot .u64 c0 32)) 258)) 290) (litBin .and .u64 c0 290)) c0) (litCmp .eql c1 c1) (litCmp .eql c2 c2) (litCmp .eql c3 c3) (litCmp .eql c4 c4) (litCmp .eql c5 c5) (litCmp .eql c6 c6) (litCmp .eql c7 c7) (litCmp .eql c8 c8) (litCmp .eql c9 c9) (litCmp .eql c10 c10) (litCmp .eql c11 c11) (ti)

set_option maxRecDepth 100000 in
theorem evals (c0 : Int) (c1 : Int) (c2 : Int) (c3 : Int) (c4 : Int) (c5 : Int) (c6 : Int) (c7 : Int) (c8 : Int) (c9 : Int) (c10 : Int) (c11 : Int) (tp : Int) (tc : Int) (tpc : Int) (tv : Int) (ti : Bool) : (call Try.prog cx 400 3 [.agg [.int .u64 (.sym c0), .int .u64 (.sym c1), .int .u64 (.sym c2), .int .u64 (.sym c3), .int .u64 (.sym c4), .int .u64 (.sym c5), .int .u64 (.sym c6), .int .u64 (.sym c7), .int .u64 (.sym c8), .int .u64 (.sym c9), .int .u64 (.sym c10), .int .u64 (.sym c11)], .agg [.int .i64 (.sym tp), .int .i64 (.sym tc), .int .u64 (.sym tpc), .int .u64 (.sym tv), .bool (.sym ti)]] []).pick.map (·.1) = some (.val (.bool (.sym (formula c0 c1 c2 c3 c4 c5 c6 c7 c8 c9 c10 c11 tp tc tpc tv ti)))) := by kernel_rfl

set_option maxRecDepth 100000 in
/-- The formula of bits. -/
def bits : BE := .cond (.cond (.lit false) (.lit true) (.cond (.lit false) (.lit true) (.cond (.lit false) (.lit true) (.cond (.not (.beq (.not (.and (.beq (.cond (.v 0) (.cond (.and (.cond (.not (.and (.beq (.v 1) (.lit false)) (.lit true))) (.cond (.v 2) (.lit true) (.lit false)) (.and (.v 2) (.not (.lit false)))) (.not (.lit true))) (.lit true) (.lit true)) (.and (.cond (.not (.and (.beq (.v 1) (.lit false)) (.lit true))) (.cond (.v 2) (.lit true) (.lit false)) (.and (.v 2) (.not (.lit false)))) (.not (.lit true)))) (.lit false)) (.lit true))) (.v 0))) (.lit true) (.not (.beq (.not (.and (.beq (.cond (.v 0) (.cond (.and (.cond (.not (.and (.beq (.v 1) (.lit false)) (.lit true))) (.cond (.v 3) (.lit true) (.lit true)) (.and (.v 3) (.not (.lit true)))) (.not (.lit false))) (.lit true) (.lit false)) (.and (.cond (.not (.and (.beq (.v 1) (.lit false)) (.lit true))) (.cond (.v 3) (.lit true) (.lit true)) (.and (.v 3) (.not (.lit true)))) (.not (.lit false)))) (.lit false)) (.lit true))) (.not (.and (.beq (.v 1) (.lit false)) (.lit true))))))))) (.lit false) (.and (.lit true) (.and (.lit true) (.and (.lit true) (.and (.lit true) (.and (.lit true) (.and (.lit true) (.and (.lit true) (.and (.lit true) (.and (.lit true) (.and (.lit true) (.and (.lit true) (.lit true))))))))))))

set_option maxRecDepth 100000 in
theorem true_bits : BE.taut [0, 1, 2, 3] bits = true := by kernel_rfl

theorem neq_self (x : Int) : litCmp .neq x x = false := by rw [neq_eq, decide_eq_true rfl]; rfl
theorem eql_self (x : Int) : litCmp .eql x x = true := by rw [eql_eq]; exact decide_eq_true rfl
theorem and_one {x : Int} (h : inU x) : litBin .and .u64 x 1 = 0 ∨ litBin .and .u64 x 1 = 1 := by
  obtain ⟨n, rfl, hn⟩ := h.nat
  have e : litBin .and .u64 (n : Int) 1 = ((n &&& 1 : Nat) : Int) := and_nat hn (y := 1) (by decide)
  rw [e, Nat.and_one_is_mod]
  omega
theorem add_zero {x : Int} (h : inU x) : litBin .add .u64 x 0 = x := by
  rw [add_eq]
  unfold inU at h
  omega
theorem mul_eq (x y : Int) : litBin .mul .u64 x y = (x * y) % 18446744073709551616 := wrap64 _
theorem k0 (c2 tc : Int) (ti : Bool) : ∀ (h2 : inU c2), (litCmp .neq (cond ti (litBin .add .u64 (litBin .andNot .u64 c2 3) (litBin .mul .u64 (litBin .mul .u64 (litBin .and .u64 c2 1) 4) (IntKind.wrap .u64 (litBin .and .i64 tc 63)))) (litBin .andNot .u64 c2 3)) (cond (cond ti (litCmp .eql (litBin .and .u64 c2 1) 1) false) (litBin .add .u64 (litBin .andNot .u64 c2 3) (litBin .mul .u64 4 (IntKind.wrap .u64 (litBin .and .i64 tc 63)))) (litBin .andNot .u64 c2 3))) = false := by
  intro h2
  cases ti with
  | false => exact neq_self _
  | true =>
    rcases and_one h2 with h | h
    · rw [h]
      have e1 : litBin .mul .u64 0 4 = 0 := by rw [mul_eq]; rfl
      have e2 : ∀ K : Int, litBin .mul .u64 0 K = 0 := fun K => by rw [mul_eq, Int.zero_mul]; rfl
      have e3 : litCmp .eql 0 1 = false := rfl
      rw [e1, e2, e3, add_zero (inU.andNot _ _)]
      exact neq_self _
    · rw [h]
      have e1 : litBin .mul .u64 1 4 = 4 := by rw [mul_eq]; rfl
      have e3 : litCmp .eql 1 1 = true := rfl
      rw [e1, e3]
      exact neq_self _
theorem small (tc : Int) : ∃ n : Nat, IntKind.wrap .u64 (litBin .and .i64 tc 63) = (n : Int) ∧ n < 64 := by
  have h : (BitVec.ofInt IntKind.i64.bits tc &&& BitVec.ofInt IntKind.i64.bits 63).toNat ≤ 63 := by
    rw [BitVec.toNat_and]
    exact Nat.le_trans Nat.and_le_right (by decide)
  refine ⟨(BitVec.ofInt IntKind.i64.bits tc &&& BitVec.ofInt IntKind.i64.bits 63).toNat, ?_, by omega⟩
  show IntKind.wrap .u64 (IntKind.wrap .i64 (((BitVec.ofInt IntKind.i64.bits tc &&& BitVec.ofInt IntKind.i64.bits 63).toNat : Nat) : Int)) = _
  generalize (BitVec.ofInt IntKind.i64.bits tc &&& BitVec.ofInt IntKind.i64.bits 63).toNat = n at h ⊢
  have e : IntKind.i64.wrap (n : Int) = n := by
    simp [IntKind.wrap, IntKind.signed, IntKind.bits]
    omega
  rw [e, wrap_nat (by omega)]
theorem k1 (tc : Int) (ti : Bool) : (litCmp .neq (cond ti (litBin .add .u64 (IntKind.wrap .u64 (litBin .and .i64 tc 63)) 9223372036854775808) (IntKind.wrap .u64 (litBin .and .i64 tc 63))) (litBin .or .u64 (cond ti 9223372036854775808 0) (IntKind.wrap .u64 (litBin .and .i64 tc 63)))) = false := by
  obtain ⟨n, e, hn⟩ := small tc
  rw [e]
  cases ti with
  | false =>
    have h : litBin .or .u64 0 (n : Int) = n := by
      have := or_nat (x := 0) (y := n) (by decide) (by omega)
      rw [Nat.zero_or] at this
      exact this
    show litCmp .neq (n : Int) (litBin .or .u64 0 (n : Int)) = false
    rw [h]
    exact neq_self _
  | true =>
    have h : litBin .or .u64 9223372036854775808 (n : Int) = ((9223372036854775808 + n : Nat) : Int) := by
      have := or_nat (x := 9223372036854775808) (y := n) (by decide) (by omega)
      have h2 := Nat.two_pow_add_eq_or_of_lt (i := 63) (b := n) (by omega) 1
      have h3 : 9223372036854775808 ||| n = 9223372036854775808 + n := by
        have : (2 : Nat) ^ 63 * 1 = 9223372036854775808 := by decide
        rw [this] at h2
        exact h2.symm
      rw [h3] at this
      exact this
    show litCmp .neq (litBin .add .u64 (n : Int) 9223372036854775808) (litBin .or .u64 9223372036854775808 (n : Int)) = false
    have g : litBin .add .u64 (n : Int) 9223372036854775808 = ((9223372036854775808 + n : Nat) : Int) := by
      rw [add_eq]
      omega
    rw [h, g]
    exact neq_self _
theorem within {m c : Nat} (h : m &&& c = c) (i : Nat) : bit (c : Int) i = (bit (m : Int) i && bit (c : Int) i) := by
  rw [bit_nat, bit_nat, ← Nat.testBit_and, h]
theorem k7 (tp c0 : Int) : ∀ (h : inU c0), (litCmp .eql (litBin .or .u64 (litBin .andNot .u64 (cond (litCmp .eql tp 1) (litBin .or .u64 (litBin .andNot .u64 (cond (litCmp .neq (litBin .and .u64 c0 2) 0) (litBin .or .u64 c0 32) (litBin .andNot .u64 c0 32)) 258) 256) (litBin .andNot .u64 (cond (litCmp .neq (litBin .and .u64 c0 2) 0) (litBin .or .u64 c0 32) (litBin .andNot .u64 c0 32)) 258)) 290) (litBin .and .u64 c0 290)) c0) = true := by
  intro h
  have l32 : inU 32 := inU_nat (n := 32) (by decide)
  have l256 : inU 256 := inU_nat (n := 256) (by decide)
  have l258 : inU 258 := inU_nat (n := 258) (by decide)
  have l290 : inU 290 := inU_nat (n := 290) (by decide)
  rw [eql_eq]
  refine decide_eq_true (eq_of_bits (inU.or _ _) h fun i => ?_)
  have g1 : bit 32 i = (bit 290 i && bit 32 i) := within (m := 290) (c := 32) (by decide) i
  have g2 : bit 256 i = (bit 290 i && bit 256 i) := within (m := 290) (c := 256) (by decide) i
  have g3 : bit 258 i = (bit 290 i && bit 258 i) := within (m := 290) (c := 258) (by decide) i
  generalize litCmp .eql tp 1 = b1
  generalize litCmp .neq (litBin .and .u64 c0 2) 0 = b2
  cases b1 <;> cases b2 <;> simp only [cond_true, cond_false]
  · rw [bit_or (inU.andNot _ _) (inU.and _ _), bit_andNot (inU.andNot _ _) l290, bit_andNot (inU.andNot _ _) l258, bit_andNot h l32, bit_and h l290, g1, g3]
    cases bit c0 i <;> cases bit 290 i <;> cases bit 32 i <;> cases bit 258 i <;> rfl
  · rw [bit_or (inU.andNot _ _) (inU.and _ _), bit_andNot (inU.andNot _ _) l290, bit_andNot (inU.or _ _) l258, bit_or h l32, bit_and h l290, g1, g3]
    cases bit c0 i <;> cases bit 290 i <;> cases bit 32 i <;> cases bit 258 i <;> rfl
  · rw [bit_or (inU.andNot _ _) (inU.and _ _), bit_andNot (inU.or _ _) l290, bit_or (inU.andNot _ _) l256, bit_andNot (inU.andNot _ _) l258, bit_andNot h l32, bit_and h l290, g1, g2, g3]
    cases bit c0 i <;> cases bit 290 i <;> cases bit 32 i <;> cases bit 258 i <;> cases bit 256 i <;> rfl
  · rw [bit_or (inU.andNot _ _) (inU.and _ _), bit_andNot (inU.or _ _) l290, bit_or (inU.andNot _ _) l256, bit_andNot (inU.or _ _) l258, bit_or h l32, bit_and h l290, g1, g2, g3]
    cases bit c0 i <;> cases bit 290 i <;> cases bit 32 i <;> cases bit 258 i <;> cases bit 256 i <;> rfl


set_option maxRecDepth 100000 in
set_option maxHeartbeats 4000000 in
theorem law (c0 : Int) (c1 : Int) (c2 : Int) (c3 : Int) (c4 : Int) (c5 : Int) (c6 : Int) (c7 : Int) (c8 : Int) (c9 : Int) (c10 : Int) (c11 : Int) (tp : Int) (tc : Int) (tpc : Int) (tv : Int) (ti : Bool) (wc0 : (Lit.int .u64 c0).wf = true) (wc1 : (Lit.int .u64 c1).wf = true) (wc2 : (Lit.int .u64 c2).wf = true) (wc3 : (Lit.int .u64 c3).wf = true) (wc4 : (Lit.int .u64 c4).wf = true) (wc5 : (Lit.int .u64 c5).wf = true) (wc6 : (Lit.int .u64 c6).wf = true) (wc7 : (Lit.int .u64 c7).wf = true) (wc8 : (Lit.int .u64 c8).wf = true) (wc9 : (Lit.int .u64 c9).wf = true) (wc10 : (Lit.int .u64 c10).wf = true) (wc11 : (Lit.int .u64 c11).wf = true) (wtp : (Lit.int .i64 tp).wf = true) (wtc : (Lit.int .i64 tc).wf = true) (wtpc : (Lit.int .u64 tpc).wf = true) (wtv : (Lit.int .u64 tv).wf = true) : formula c0 c1 c2 c3 c4 c5 c6 c7 c8 c9 c10 c11 tp tc tpc tv ti = true := by
  have hc0 := inU_wf wc0
  have hc1 := inU_wf wc1
  have hc2 := inU_wf wc2
  have hc3 := inU_wf wc3
  have hc4 := inU_wf wc4
  have hc5 := inU_wf wc5
  have hc6 := inU_wf wc6
  have hc7 := inU_wf wc7
  have hc8 := inU_wf wc8
  have hc9 := inU_wf wc9
  have hc10 := inU_wf wc10
  have hc11 := inU_wf wc11
  have htpc := inU_wf wtpc
  have htv := inU_wf wtv
  have a0 : (litCmp .neq (cond ti (litBin .add .u64 (litBin .andNot .u64 c2 3) (litBin .mul .u64 (litBin .mul .u64 (litBin .and .u64 c2 1) 4) (IntKind.wrap .u64 (litBin .and .i64 tc 63)))) (litBin .andNot .u64 c2 3)) (cond (cond ti (litCmp .eql (litBin .and .u64 c2 1) 1) false) (litBin .add .u64 (litBin .andNot .u64 c2 3) (litBin .mul .u64 4 (IntKind.wrap .u64 (litBin .and .i64 tc 63)))) (litBin .andNot .u64 c2 3))) = false := k0 c2 tc ti hc2
  have a1 : (litCmp .neq (cond ti (litBin .add .u64 (IntKind.wrap .u64 (litBin .and .i64 tc 63)) 9223372036854775808) (IntKind.wrap .u64 (litBin .and .i64 tc 63))) (litBin .or .u64 (cond ti 9223372036854775808 0) (IntKind.wrap .u64 (litBin .and .i64 tc 63)))) = false := k1 tc ti
  have a2 : (litCmp .neq (litBin .andNot .u64 tpc 1) (litBin .andNot .u64 tpc 1)) = false := neq_self _
  have a3 : (litCmp .neq (litBin .and .u64 (cond (litCmp .eql tp 1) (litBin .or .u64 (litBin .andNot .u64 (cond (litCmp .neq (litBin .and .u64 c0 2) 0) (litBin .or .u64 c0 32) (litBin .andNot .u64 c0 32)) 258) 256) (litBin .andNot .u64 (cond (litCmp .neq (litBin .and .u64 c0 2) 0) (litBin .or .u64 c0 32) (litBin .andNot .u64 c0 32)) 258)) 256) 0) = (!(((cond (litCmp .eql tp 1) ((cond (((cond ((!((bit c0 1 == false) && true))) ((cond (bit c0 8) true (false))) ((bit c0 8 && !false))) && !true)) true (true))) (((cond ((!((bit c0 1 == false) && true))) ((cond (bit c0 8) true (false))) ((bit c0 8 && !false))) && !true))) == false) && true)) := (mask_neq (inU.cond (inU.or _ _) (inU.andNot _ _)) 256 0 [(8, false)] (by rfl)).trans (congB (congA (congE ((bit_cond _ _ _ 8).trans (cong3 (rfl) ((bit_or (inU.andNot _ _) (inU_nat (n := 256) (by decide)) 8).trans (congO ((bit_andNot (inU.cond (inU.or _ _) (inU.andNot _ _)) (inU_nat (n := 258) (by decide)) 8).trans (congN ((bit_cond _ _ _ 8).trans (cong3 ((mask_neq hc0 2 0 [(1, false)] (by rfl)).trans (congB (congA (congE (rfl) rfl) (rfl)))) ((bit_or hc0 (inU_nat (n := 32) (by decide)) 8).trans (congO (rfl) (by kernel_rfl))) ((bit_andNot hc0 (inU_nat (n := 32) (by decide)) 8).trans (congN (rfl) (by kernel_rfl))))) (by kernel_rfl))) (by kernel_rfl))) ((bit_andNot (inU.cond (inU.or _ _) (inU.andNot _ _)) (inU_nat (n := 258) (by decide)) 8).trans (congN ((bit_cond _ _ _ 8).trans (cong3 ((mask_neq hc0 2 0 [(1, false)] (by rfl)).trans (congB (congA (congE (rfl) rfl) (rfl)))) ((bit_or hc0 (inU_nat (n := 32) (by decide)) 8).trans (congO (rfl) (by kernel_rfl))) ((bit_andNot hc0 (inU_nat (n := 32) (by decide)) 8).trans (congN (rfl) (by kernel_rfl))))) (by kernel_rfl))))) rfl) (rfl)))
  have a4 : (litCmp .eql tp 1) = litCmp .eql tp 1 := rfl
  have a5 : (litCmp .neq (litBin .and .u64 (cond (litCmp .eql tp 1) (litBin .or .u64 (litBin .andNot .u64 (cond (litCmp .neq (litBin .and .u64 c0 2) 0) (litBin .or .u64 c0 32) (litBin .andNot .u64 c0 32)) 258) 256) (litBin .andNot .u64 (cond (litCmp .neq (litBin .and .u64 c0 2) 0) (litBin .or .u64 c0 32) (litBin .andNot .u64 c0 32)) 258)) 32) 0) = (!(((cond (litCmp .eql tp 1) ((cond (((cond ((!((bit c0 1 == false) && true))) ((cond (bit c0 5) true (true))) ((bit c0 5 && !true))) && !false)) true (false))) (((cond ((!((bit c0 1 == false) && true))) ((cond (bit c0 5) true (true))) ((bit c0 5 && !true))) && !false))) == false) && true)) := (mask_neq (inU.cond (inU.or _ _) (inU.andNot _ _)) 32 0 [(5, false)] (by rfl)).trans (congB (congA (congE ((bit_cond _ _ _ 5).trans (cong3 (rfl) ((bit_or (inU.andNot _ _) (inU_nat (n := 256) (by decide)) 5).trans (congO ((bit_andNot (inU.cond (inU.or _ _) (inU.andNot _ _)) (inU_nat (n := 258) (by decide)) 5).trans (congN ((bit_cond _ _ _ 5).trans (cong3 ((mask_neq hc0 2 0 [(1, false)] (by rfl)).trans (congB (congA (congE (rfl) rfl) (rfl)))) ((bit_or hc0 (inU_nat (n := 32) (by decide)) 5).trans (congO (rfl) (by kernel_rfl))) ((bit_andNot hc0 (inU_nat (n := 32) (by decide)) 5).trans (congN (rfl) (by kernel_rfl))))) (by kernel_rfl))) (by kernel_rfl))) ((bit_andNot (inU.cond (inU.or _ _) (inU.andNot _ _)) (inU_nat (n := 258) (by decide)) 5).trans (congN ((bit_cond _ _ _ 5).trans (cong3 ((mask_neq hc0 2 0 [(1, false)] (by rfl)).trans (congB (congA (congE (rfl) rfl) (rfl)))) ((bit_or hc0 (inU_nat (n := 32) (by decide)) 5).trans (congO (rfl) (by kernel_rfl))) ((bit_andNot hc0 (inU_nat (n := 32) (by decide)) 5).trans (congN (rfl) (by kernel_rfl))))) (by kernel_rfl))))) rfl) (rfl)))
  have a6 : (litCmp .neq (litBin .and .u64 c0 2) 0) = (!((bit c0 1 == false) && true)) := (mask_neq hc0 2 0 [(1, false)] (by rfl)).trans (congB (congA (congE (rfl) rfl) (rfl)))
  have a7 : (litCmp .eql (litBin .or .u64 (litBin .andNot .u64 (cond (litCmp .eql tp 1) (litBin .or .u64 (litBin .andNot .u64 (cond (litCmp .neq (litBin .and .u64 c0 2) 0) (litBin .or .u64 c0 32) (litBin .andNot .u64 c0 32)) 258) 256) (litBin .andNot .u64 (cond (litCmp .neq (litBin .and .u64 c0 2) 0) (litBin .or .u64 c0 32) (litBin .andNot .u64 c0 32)) 258)) 290) (litBin .and .u64 c0 290)) c0) = true := k7 tp c0 hc0
  have a8 : (litCmp .eql c1 c1) = true := eql_self _
  have a9 : (litCmp .eql c2 c2) = true := eql_self _
  have a10 : (litCmp .eql c3 c3) = true := eql_self _
  have a11 : (litCmp .eql c4 c4) = true := eql_self _
  have a12 : (litCmp .eql c5 c5) = true := eql_self _
  have a13 : (litCmp .eql c6 c6) = true := eql_self _
  have a14 : (litCmp .eql c7 c7) = true := eql_self _
  have a15 : (litCmp .eql c8 c8) = true := eql_self _
  have a16 : (litCmp .eql c9 c9) = true := eql_self _
  have a17 : (litCmp .eql c10 c10) = true := eql_self _
  have a18 : (litCmp .eql c11 c11) = true := eql_self _
  have e : formula c0 c1 c2 c3 c4 c5 c6 c7 c8 c9 c10 c11 tp tc tpc tv ti = bits.den [litCmp .eql tp 1, bit c0 1, bit c0 8, bit c0 5] := by
    refine (congr (congr (congr (congr (congr (congr (congr (congr (congr (congr (congr (congr (congr (congr (congr (congr (congr (congr (congr (congrArg shape a0) a1) a2) a3) a4) a5) a6) a7) a8) a9) a10) a11) a12) a13) a14) a15) a16) a17) a18) (Eq.refl ti)).trans ?_
    kernel_rfl
  rw [e]
  exact BE.taut_den _ _ _ true_bits

set_option maxRecDepth 100000 in
set_option maxHeartbeats 4000000 in
theorem run : ∀ vs, ArgsOk [.agg [.int .u64, .int .u64, .int .u64, .int .u64, .int .u64, .int .u64, .int .u64, .int .u64, .int .u64, .int .u64, .int .u64, .int .u64], .agg [.int .i64, .int .i64, .int .u64, .int .u64, .bool]] vs → ∀ w, Calls Try.prog 3 vs.toArray w fun e w' => e = .returned (.bool true) ∧ Below w.heap.size w w' := by
  intro vs h w
  obtain ⟨_, _, rfl, ⟨_, rfl, _, _, rfl, ⟨c0, rfl, wc0⟩, _, _, rfl, ⟨c1, rfl, wc1⟩, _, _, rfl, ⟨c2, rfl, wc2⟩, _, _, rfl, ⟨c3, rfl, wc3⟩, _, _, rfl, ⟨c4, rfl, wc4⟩, _, _, rfl, ⟨c5, rfl, wc5⟩, _, _, rfl, ⟨c6, rfl, wc6⟩, _, _, rfl, ⟨c7, rfl, wc7⟩, _, _, rfl, ⟨c8, rfl, wc8⟩, _, _, rfl, ⟨c9, rfl, wc9⟩, _, _, rfl, ⟨c10, rfl, wc10⟩, _, _, rfl, ⟨c11, rfl, wc11⟩, rfl⟩, _, _, rfl, ⟨_, rfl, _, _, rfl, ⟨tp, rfl, wtp⟩, _, _, rfl, ⟨tc, rfl, wtc⟩, _, _, rfl, ⟨tpc, rfl, wtpc⟩, _, _, rfl, ⟨tv, rfl, wtv⟩, _, _, rfl, ⟨ti, rfl⟩, rfl⟩, rfl⟩ := h
  have h1 := evals c0 c1 c2 c3 c4 c5 c6 c7 c8 c9 c10 c11 tp tc tpc tv ti
  have h2 := (rfl : List.map absV [.agg [.int .u64 c0, .int .u64 c1, .int .u64 c2, .int .u64 c3, .int .u64 c4, .int .u64 c5, .int .u64 c6, .int .u64 c7, .int .u64 c8, .int .u64 c9, .int .u64 c10, .int .u64 c11].toArray, .agg [.int .i64 tp, .int .i64 tc, .int .u64 tpc, .int .u64 tv, .bool ti].toArray] = [.agg [.int .u64 (.sym c0), .int .u64 (.sym c1), .int .u64 (.sym c2), .int .u64 (.sym c3), .int .u64 (.sym c4), .int .u64 (.sym c5), .int .u64 (.sym c6), .int .u64 (.sym c7), .int .u64 (.sym c8), .int .u64 (.sym c9), .int .u64 (.sym c10), .int .u64 (.sym c11)], .agg [.int .i64 (.sym tp), .int .i64 (.sym tc), .int .u64 (.sym tpc), .int .u64 (.sym tv), .bool (.sym ti)]])
  have h3 := law c0 c1 c2 c3 c4 c5 c6 c7 c8 c9 c10 c11 tp tc tpc tv ti wc0 wc1 wc2 wc3 wc4 wc5 wc6 wc7 wc8 wc9 wc10 wc11 wtp wtc wtpc wtv
  have h4 := law_true2 cx_ok h2 h1 h3 w
  exact h4

set_option maxRecDepth 100000 in
theorem lifted (os : Os) (started : os.Started) (H : Type) (enc : TypeId × Value → H) :
    ReturnsInHanded {} Try.checked os 3 .any (Rows.trapEntersSpec.pre6 enc Try.prog Try.f3 Rows.trapEntersRow.domain false) (Rows.trapEntersSpec.post enc Try.prog Try.f3 false true false false) := by
  refine returnsInHanded_of_change (C := Try.checked) own started (by kernel_rfl) Try.func3
    (ChangeSpec.witness6 (enc := enc) (C := Try.checked) false ⟨#[], #[.agg #[.int .u64 0, .int .u64 0, .int .u64 0, .int .u64 0, .int .u64 0, .int .u64 0, .int .u64 0, .int .u64 0, .int .u64 0, .int .u64 0, .int .u64 0, .int .u64 0], .agg #[.int .i64 0, .int .i64 0, .int .u64 0, .int .u64 0, .bool false]], []⟩ 8 (by kernel_rfl) (by kernel_rfl) (by kernel_rfl) (by kernel_rfl)) ?_
  intro W base args ds gs before hval hW _ _
  exact lifted_plain (P := Try.prog) (f := 3) (fn := Try.f3) (s := Rows.trapEntersSpec) (tb := 4) rfl
    (fun ds h => by
      match ds, h with
      | [d1, d2], _ => rfl)
    (by kernel_rfl) rfl (by kernel_rfl) run W base args ds gs before hval hW

theorem over : Rows.trapEntersRow.holds Try.pinned (OpenSpec.ofChange Rows.trapEntersSpec) :=
  OpenClaim.holds_of_wide 3 Try.f3 rfl rfl rfl rfl rfl rfl rfl ⟨rfl, rfl, rfl, rfl, rfl⟩ rfl rfl rfl rfl rfl (by kernel_rfl) Try.func3 (by kernel_rfl)
    (of_decide_eq_true (by kernel_rfl)) (by unfold Func.isWrapper; first | (rw [if_pos (by decide +kernel)]; kernel_rfl) | (rw [if_neg (by decide +kernel)]; exact ⟨rfl, rfl⟩))
    (fun os started H enc _ => lifted os started H enc)

/-- The statement. -/
theorem proved : Rows.TrapEntersSaid :=
  over
#print axioms proved
end Go.Proofs.Ytbjlkapfpcmjfaa.TrapEnters
