/- The status of a trap, bit by bit. Conditions: none. -/
import Derived.Test.YtbjlkapfpcmjfaaCxt
import Derived.Test.YtbjlkapfpcmjfaaEvTaut2
namespace Go.Proofs.Ytbjlkapfpcmjfaa.Ev
set_option linter.unusedVariables false
set_option linter.unusedSimpArgs false

theorem bit_lit (n k : Nat) (l : List Nat) (hn : n < 2 ^ k) (h1 : (List.range k).all (fun i => n.testBit i == l.any (Nat.beq i)) = true) (h2 : l.all (fun i => Nat.blt i k) = true) (i : Nat) : bit (n : Int) i = l.any (Nat.beq i) := by
  rw [bit_nat]
  rcases Nat.lt_or_ge i k with h | h
  · have := List.all_eq_true.1 h1 i (List.mem_range.2 h)
    simpa using this
  · rw [Nat.testBit_lt_two_pow (Nat.lt_of_lt_of_le hn (Nat.pow_le_pow_right (by decide) h))]
    symm
    rw [List.any_eq_false]
    intro j hj
    have := List.all_eq_true.1 h2 j hj
    simp only [Nat.blt_eq] at this
    intro e
    have := Nat.eq_of_beq_eq_true e
    omega
theorem bl2 (i : Nat) : bit 2 i = Nat.beq i 1 := (bit_lit 2 2 [1] (by decide) (by decide) (by decide) i).trans (by simp)
theorem bl32 (i : Nat) : bit 32 i = Nat.beq i 5 := (bit_lit 32 6 [5] (by decide) (by decide) (by decide) i).trans (by simp)
theorem bl256 (i : Nat) : bit 256 i = Nat.beq i 8 := (bit_lit 256 9 [8] (by decide) (by decide) (by decide) i).trans (by simp)
theorem bl258 (i : Nat) : bit 258 i = (Nat.beq i 1 || Nat.beq i 8) := (bit_lit 258 9 [1, 8] (by decide) (by decide) (by decide) i).trans (by simp)
theorem blL (i : Nat) : bit 8589934592 i = Nat.beq i 33 := (bit_lit 8589934592 34 [33] (by decide) (by decide +kernel) (by decide) i).trans (by simp)
theorem blM (i : Nat) : bit 786722 i = (Nat.beq i 1 || (Nat.beq i 5 || (Nat.beq i 8 || (Nat.beq i 18 || Nat.beq i 19)))) := (bit_lit 786722 20 [1, 5, 8, 18, 19] (by decide) (by decide +kernel) (by decide) i).trans (by simp)

theorem neq2 {x : Int} (hx : inU x) : litCmp .neq (litBin .and .u64 x 2) 0 = bit x 1 := (mask_neq hx 2 0 [(1, false)] (by rfl)).trans (by simp)
theorem neq32 {x : Int} (hx : inU x) : litCmp .neq (litBin .and .u64 x 32) 0 = bit x 5 := (mask_neq hx 32 0 [(5, false)] (by rfl)).trans (by simp)
theorem neq256 {x : Int} (hx : inU x) : litCmp .neq (litBin .and .u64 x 256) 0 = bit x 8 := (mask_neq hx 256 0 [(8, false)] (by rfl)).trans (by simp)
theorem eql2 {x : Int} (hx : inU x) : litCmp .eql (litBin .and .u64 x 2) 0 = !bit x 1 := (mask_eq hx 2 0 [(1, false)] (by rfl)).trans (by simp)
theorem eql32 {x : Int} (hx : inU x) : litCmp .eql (litBin .and .u64 x 32) 0 = !bit x 5 := (mask_eq hx 32 0 [(5, false)] (by rfl)).trans (by simp)
theorem at1 {x : Int} (hx : inU x) : litCmp .eql (litBin .and .u64 (litBin .shr .u64 x 1) 1) 1 = bit x 1 := (shr_mask_eq hx 1 (by decide) 1 1 [(0, true)] (by rfl)).trans (by simp)
theorem at5 {x : Int} (hx : inU x) : litCmp .eql (litBin .and .u64 (litBin .shr .u64 x 5) 1) 1 = bit x 5 := (shr_mask_eq hx 5 (by decide) 1 1 [(0, true)] (by rfl)).trans (by simp)
theorem at8 {x : Int} (hx : inU x) : litCmp .eql (litBin .and .u64 (litBin .shr .u64 x 8) 1) 1 = bit x 8 := (shr_mask_eq hx 8 (by decide) 1 1 [(0, true)] (by rfl)).trans (by simp)
theorem eql_self (x : Int) : litCmp .eql x x = true := by rw [eql_eq]; exact decide_eq_true rfl
theorem neq_self (x : Int) : litCmp .neq x x = false := by rw [neq_not, eql_self]; rfl
theorem eql_of {x y : Int} (h : x = y) : litCmp .eql x y = true := by rw [h, eql_self]

/-- The status behind a trap, and behind the way back: of the code, and of the reference. -/
def E (s : Bool) (x : Int) : Int := (cond s (litBin .or .u64 (litBin .andNot .u64 (cond (litCmp .neq (litBin .and .u64 x 2) 0) (litBin .or .u64 x 32) (litBin .andNot .u64 x 32)) 258) 256) (litBin .andNot .u64 (cond (litCmp .neq (litBin .and .u64 x 2) 0) (litBin .or .u64 x 32) (litBin .andNot .u64 x 32)) 258))
def E2 (s : Bool) (x : Int) : Int := (cond s (litBin .or .u64 (litBin .andNot .u64 (litBin .andNot .u64 (cond (litCmp .eql (litBin .and .u64 (litBin .shr .u64 x 1) 1) 1) (litBin .or .u64 (litBin .andNot .u64 x 32) 32) (litBin .andNot .u64 x 32)) 2) 256) 256) (litBin .andNot .u64 (litBin .andNot .u64 (cond (litCmp .eql (litBin .and .u64 (litBin .shr .u64 x 1) 1) 1) (litBin .or .u64 (litBin .andNot .u64 x 32) 32) (litBin .andNot .u64 x 32)) 2) 256))
def B (x : Int) : Int := (litBin .or .u64 (litBin .andNot .u64 (cond (litCmp .neq (litBin .and .u64 x 32) 0) (litBin .or .u64 x 2) (litBin .andNot .u64 x 2)) 256) 32)
def B2 (x : Int) : Int := (litBin .andNot .u64 (litBin .or .u64 (litBin .andNot .u64 (cond (litCmp .eql (litBin .and .u64 (litBin .shr .u64 x 5) 1) 1) (litBin .or .u64 (litBin .andNot .u64 x 2) 2) (litBin .andNot .u64 x 2)) 32) 32) 256)
/-- A legal status. -/
def LL (x : Int) : Int := (litBin .or .u64 (litBin .and .u64 x 786722) 8589934592)

theorem i2 : inU 2 := by unfold inU; omega
theorem i32 : inU 32 := by unfold inU; omega
theorem i256 : inU 256 := by unfold inU; omega
theorem i258 : inU 258 := by unfold inU; omega
theorem iL : inU 8589934592 := by unfold inU; omega
theorem iM : inU 786722 := by unfold inU; omega
theorem inU_E (s : Bool) (x : Int) : inU (E s x) := inU.cond (inU.or _ _) (inU.andNot _ _)
theorem inU_E2 (s : Bool) (x : Int) : inU (E2 s x) := inU.cond (inU.or _ _) (inU.andNot _ _)
theorem inU_B (x : Int) : inU (B x) := inU.or _ _
theorem inU_B2 (x : Int) : inU (B2 x) := inU.andNot _ _
theorem inU_LL (x : Int) : inU (LL x) := inU.or _ _
theorem apart58 (i : Nat) : (Nat.beq i 5 && Nat.beq i 8) = false := by
  cases h : Nat.beq i 5
  · rfl
  · have := Nat.eq_of_beq_eq_true h
    subst this
    rfl
theorem apart51 (i : Nat) : (Nat.beq i 5 && Nat.beq i 1) = false := by
  cases h : Nat.beq i 5
  · rfl
  · have := Nat.eq_of_beq_eq_true h
    subst this
    rfl
theorem apart81 (i : Nat) : (Nat.beq i 8 && Nat.beq i 1) = false := by
  cases h : Nat.beq i 8
  · rfl
  · have := Nat.eq_of_beq_eq_true h
    subst this
    rfl

theorem bit_E {x : Int} (hx : inU x) (s : Bool) (i : Nat) : bit (E s x) i = cond (Nat.beq i 8) s (cond (Nat.beq i 1) false (cond (Nat.beq i 5) (bit x 1) (bit x i))) := by
  unfold E
  have hm : inU (cond (litCmp .neq (litBin .and .u64 x 2) 0) (litBin .or .u64 x 32) (litBin .andNot .u64 x 32)) := inU.cond (inU.or _ _) (inU.andNot _ _)
  rw [bit_cond, bit_or (inU.andNot _ _) i256, bit_andNot hm i258, bit_cond, bit_or hx i32, bit_andNot hx i32, neq2 hx, bl32, bl258, bl256]
  generalize Nat.beq i 8 = a
  generalize Nat.beq i 1 = b
  generalize Nat.beq i 5 = c
  generalize bit x 1 = d
  generalize bit x i = e
  revert s a b c d e
  decide
theorem bit_E2 {x : Int} (hx : inU x) (s : Bool) (i : Nat) : bit (E2 s x) i = cond (Nat.beq i 8) s (cond (Nat.beq i 1) false (cond (Nat.beq i 5) (bit x 1) (bit x i))) := by
  unfold E2
  have hm : inU (cond (litCmp .eql (litBin .and .u64 (litBin .shr .u64 x 1) 1) 1) (litBin .or .u64 (litBin .andNot .u64 x 32) 32) (litBin .andNot .u64 x 32)) := inU.cond (inU.or _ _) (inU.andNot _ _)
  rw [bit_cond, bit_or (inU.andNot _ _) i256, bit_andNot (inU.andNot _ _) i256, bit_andNot hm i2, bit_cond, bit_or (inU.andNot _ _) i32, bit_andNot hx i32, at1 hx, bl32, bl2, bl256]
  generalize Nat.beq i 8 = a
  generalize Nat.beq i 1 = b
  generalize Nat.beq i 5 = c
  generalize bit x 1 = d
  generalize bit x i = e
  revert s a b c d e
  decide
theorem bit_B {x : Int} (hx : inU x) (i : Nat) : bit (B x) i = cond (Nat.beq i 5) true (cond (Nat.beq i 8) false (cond (Nat.beq i 1) (bit x 5) (bit x i))) := by
  unfold B
  have hm : inU (cond (litCmp .neq (litBin .and .u64 x 32) 0) (litBin .or .u64 x 2) (litBin .andNot .u64 x 2)) := inU.cond (inU.or _ _) (inU.andNot _ _)
  rw [bit_or (inU.andNot _ _) i32, bit_andNot hm i256, bit_cond, bit_or hx i2, bit_andNot hx i2, neq32 hx, bl32, bl2, bl256]
  generalize Nat.beq i 8 = a
  generalize Nat.beq i 1 = b
  generalize Nat.beq i 5 = c
  generalize bit x 5 = d
  generalize bit x i = e
  revert a b c d e
  decide
theorem bit_B2 {x : Int} (hx : inU x) (i : Nat) : bit (B2 x) i = cond (Nat.beq i 5) true (cond (Nat.beq i 8) false (cond (Nat.beq i 1) (bit x 5) (bit x i))) := by
  unfold B2
  have hm : inU (cond (litCmp .eql (litBin .and .u64 (litBin .shr .u64 x 5) 1) 1) (litBin .or .u64 (litBin .andNot .u64 x 2) 2) (litBin .andNot .u64 x 2)) := inU.cond (inU.or _ _) (inU.andNot _ _)
  rw [bit_andNot (inU.or _ _) i256, bit_or (inU.andNot _ _) i32, bit_andNot hm i32, bit_cond, bit_or (inU.andNot _ _) i2, bit_andNot hx i2, at5 hx, bl32, bl2, bl256]
  have h := apart58 i
  generalize Nat.beq i 8 = a at h ⊢
  generalize Nat.beq i 1 = b
  generalize Nat.beq i 5 = c at h ⊢
  generalize bit x 5 = d
  generalize bit x i = e
  revert a b c d e
  decide
theorem bit_LL {x : Int} (hx : inU x) (i : Nat) : bit (LL x) i = ((bit x i && (Nat.beq i 1 || (Nat.beq i 5 || (Nat.beq i 8 || (Nat.beq i 18 || Nat.beq i 19))))) || Nat.beq i 33) := by
  unfold LL
  rw [bit_or (inU.and _ _) iL, bit_and hx iM, blM, blL]
theorem E_E2 {x : Int} (hx : inU x) (s : Bool) : E s x = E2 s x := eq_of_bits (inU_E s x) (inU_E2 s x) fun i => by rw [bit_E hx, bit_E2 hx]
theorem B_B2 {x : Int} (hx : inU x) : B x = B2 x := eq_of_bits (inU_B x) (inU_B2 x) fun i => by rw [bit_B hx, bit_B2 hx]

/-- The lowest bits cleared. -/
theorem clear_nat (n k m : Nat) (hn : n < 18446744073709551616) (hm : m < 18446744073709551616) (hb : ∀ i, m.testBit i = decide (i < k)) : litBin .andNot .u64 (n : Int) (m : Int) = ((n / 2 ^ k * 2 ^ k : Nat) : Int) := by
  have hle : n / 2 ^ k * 2 ^ k ≤ n := Nat.div_mul_le_self n (2 ^ k)
  refine eq_of_bits (inU.andNot _ _) (inU_nat (Nat.lt_of_le_of_lt hle hn)) fun i => ?_
  rw [bit_andNot (inU_nat hn) (inU_nat hm), bit_nat, bit_nat, bit_nat, hb, Nat.testBit_mul_two_pow, Nat.testBit_div_two_pow]
  by_cases h : i < k
  · simp [h]
    intro h2
    omega
  · have h2 : k ≤ i := by omega
    have e : i - k + k = i := by omega
    simp [h, h2, e]
theorem andNot1 {x : Int} (hx : inU x) : litBin .andNot .u64 x 1 = x - x % 2 := by
  obtain ⟨n, rfl, hn⟩ := hx.nat
  have := clear_nat n 1 1 hn (by decide) (fun i => by
    cases i with
    | zero => rfl
    | succ i => rw [Nat.testBit_succ]; simp)
  refine this.trans ?_
  omega
theorem andNot3 {x : Int} (hx : inU x) : litBin .andNot .u64 x 3 = x - x % 4 := by
  obtain ⟨n, rfl, hn⟩ := hx.nat
  have := clear_nat n 2 3 hn (by decide) (fun i => by
    match i with
    | 0 => rfl
    | 1 => rfl
    | i + 2 => rw [Nat.testBit_succ, Nat.testBit_succ]; simp)
  refine this.trans ?_
  omega
theorem and1 {x : Int} (hx : inU x) : litBin .and .u64 x 1 = x % 2 := by
  obtain ⟨n, rfl, hn⟩ := hx.nat
  have e : litBin .and .u64 (n : Int) 1 = ((n &&& 1 : Nat) : Int) := and_nat hn (y := 1) (by decide)
  rw [e, Nat.and_one_is_mod]
  omega
theorem rem_n {x : Int} (h : inU x) (m : Nat) : litBin .rem .u64 x (m : Int) = x % m := by
  unfold inU at h
  show x.tmod m = _
  rw [Int.tmod_eq_emod_of_nonneg h.1]
theorem rem2 {x : Int} (h : inU x) : litBin .rem .u64 x 2 = x % 2 := rem_n h 2
theorem rem4 {x : Int} (h : inU x) : litBin .rem .u64 x 4 = x % 4 := rem_n h 4
theorem rem8 {x : Int} (h : inU x) : litBin .rem .u64 x 8 = x % 8 := rem_n h 8
theorem bit_EL {x : Int} (hx : inU x) (s : Bool) (i : Nat) : bit (E s (LL x)) i = cond (Nat.beq i 8) s (cond (Nat.beq i 1) false (cond (Nat.beq i 5) (bit x 1) (bit (LL x) i))) := by
  rw [bit_E (inU_LL x)]
  have : bit (LL x) 1 = bit x 1 := by rw [bit_LL hx]; show ((bit x 1 && true) || false) = _; simp
  rw [this]
theorem bit_BEL {x : Int} (hx : inU x) (s : Bool) (i : Nat) : bit (B (E s (LL x))) i = cond (Nat.beq i 5) true (cond (Nat.beq i 8) false (cond (Nat.beq i 1) (bit x 1) (bit (LL x) i))) := by
  rw [bit_B (inU_E _ _)]
  have : bit (E s (LL x)) 5 = bit x 1 := (bit_EL hx s 5).trans rfl
  rw [this, bit_EL hx]
  cases Nat.beq i 5 <;> cases Nat.beq i 8 <;> cases Nat.beq i 1 <;> rfl
end Go.Proofs.Ytbjlkapfpcmjfaa.Ev
