/- What the evaluator's masks and shifts are, bit by bit. Conditions: none. -/
import Derived.Test.YtngcbpcfgolifaaEvLift
namespace Go.Proofs.Ytngcbpcfgolifaa.Ev
open Go.RowKit Go.WideShapes Go.ChangeShapes Go.ChangeAt
set_option linter.unusedVariables false
set_option linter.unusedSimpArgs false
theorem lss_eq (x y : Int) : litCmp .lss x y = decide (x < y) := rfl
theorem leq_eq (x y : Int) : litCmp .leq x y = decide (x ≤ y) := rfl
theorem gtr_eq (x y : Int) : litCmp .gtr x y = decide (y < x) := rfl
theorem geq_eq (x y : Int) : litCmp .geq x y = decide (y ≤ x) := rfl
theorem eql_eq (x y : Int) : litCmp .eql x y = decide (x = y) := rfl
theorem neq_eq (x y : Int) : litCmp .neq x y = !decide (x = y) := rfl
theorem wrap64 (x : Int) : IntKind.u64.wrap x = x % 18446744073709551616 := by simp [IntKind.wrap, IntKind.signed, IntKind.bits]
theorem add_eq (x y : Int) : litBin .add .u64 x y = (x + y) % 18446744073709551616 := wrap64 _
theorem sub_eq (x y : Int) : litBin .sub .u64 x y = (x - y) % 18446744073709551616 := wrap64 _
theorem wf64 {a : Int} (h : (Lit.int .u64 a).wf = true) : 0 ≤ a ∧ a < 18446744073709551616 := by
  simp [Lit.wf, IntKind.min, IntKind.max, IntKind.signed, IntKind.bits] at h
  omega
theorem wf64i {a : Int} (h : (Lit.int .i64 a).wf = true) : -9223372036854775808 ≤ a ∧ a < 9223372036854775808 := by
  simp [Lit.wf, IntKind.min, IntKind.max, IntKind.signed, IntKind.bits] at h
  omega

theorem law_true2 {P : Program} {X : Cx DC} (hX : Ok P X) {n : Nat} {f : FuncId} {vs : List Value} {args : List (AV DC)} {b : Bool} (ha : vs.map absV = args) (hr : (call P X n f args []).pick.map (·.1) = some (.val (.bool (.sym b)))) (hb : b = true) (w : World) (hpn : Pin w [] := by first | assumption | exact fun _ _ h => absurd h (by simp [pins])) :
    Calls P f vs.toArray w fun e w' => e = .returned (.bool true) ∧ Below w.heap.size w w' := by
  subst ha
  exact law_true hX hr hb w

/-- A word: a whole number that 64 bits hold. -/
def inU (x : Int) : Prop := 0 ≤ x ∧ x < 18446744073709551616
theorem inU_wf {a : Int} (h : (Lit.int .u64 a).wf = true) : inU a := wf64 h
theorem inU_wrap (x : Int) : inU (IntKind.u64.wrap x) := by rw [wrap64]; unfold inU; omega
theorem inU_nat {n : Nat} (h : n < 18446744073709551616) : inU (n : Int) := by unfold inU; omega
theorem inU.nat {x : Int} (h : inU x) : ∃ n : Nat, x = (n : Int) ∧ n < 18446744073709551616 := ⟨x.toNat, by unfold inU at h; omega, by unfold inU at h; omega⟩
theorem inU.and (x y : Int) : inU (litBin .and .u64 x y) := inU_wrap _
theorem inU.or (x y : Int) : inU (litBin .or .u64 x y) := inU_wrap _
theorem inU.andNot (x y : Int) : inU (litBin .andNot .u64 x y) := inU_wrap _
theorem inU.add (x y : Int) : inU (litBin .add .u64 x y) := inU_wrap _
theorem inU.shl (x y : Int) : inU (litBin .shl .u64 x y) := inU_wrap _
theorem inU.cond {b : Bool} {x y : Int} (hx : inU x) (hy : inU y) : inU (cond b x y) := by cases b; exact hy; exact hx

theorem wrap_nat {n : Nat} (h : n < 18446744073709551616) : IntKind.u64.wrap (n : Int) = n := by rw [wrap64]; omega
theorem ofInt_nat (n : Nat) : BitVec.ofInt IntKind.u64.bits (n : Int) = BitVec.ofNat 64 n := by
  apply BitVec.eq_of_toNat_eq
  simp [IntKind.bits]

theorem and_nat {x y : Nat} (hx : x < 18446744073709551616) (hy : y < 18446744073709551616) : litBin .and .u64 (x : Int) (y : Int) = ((x &&& y : Nat) : Int) := by
  have h : (BitVec.ofInt IntKind.u64.bits (x : Int) &&& BitVec.ofInt IntKind.u64.bits (y : Int)).toNat = x &&& y := by
    rw [ofInt_nat, ofInt_nat]
    show (BitVec.ofNat 64 x &&& BitVec.ofNat 64 y).toNat = _
    simp only [BitVec.toNat_and, BitVec.toNat_ofNat]
    rw [Nat.mod_eq_of_lt hx, Nat.mod_eq_of_lt hy]
  have hb : x &&& y < 18446744073709551616 := Nat.lt_of_le_of_lt Nat.and_le_left hx
  show IntKind.u64.wrap _ = _
  rw [h, wrap_nat hb]
theorem or_nat {x y : Nat} (hx : x < 18446744073709551616) (hy : y < 18446744073709551616) : litBin .or .u64 (x : Int) (y : Int) = ((x ||| y : Nat) : Int) := by
  have h : (BitVec.ofInt IntKind.u64.bits (x : Int) ||| BitVec.ofInt IntKind.u64.bits (y : Int)).toNat = x ||| y := by
    rw [ofInt_nat, ofInt_nat]
    show (BitVec.ofNat 64 x ||| BitVec.ofNat 64 y).toNat = _
    simp only [BitVec.toNat_or, BitVec.toNat_ofNat]
    rw [Nat.mod_eq_of_lt hx, Nat.mod_eq_of_lt hy]
  have hb : x ||| y < 2 ^ 64 := Nat.or_lt_two_pow hx hy
  show IntKind.u64.wrap _ = _
  rw [h, wrap_nat hb]

def bit (x : Int) (i : Nat) : Bool := x.toNat.testBit i
theorem bit_nat (x i : Nat) : bit (x : Int) i = x.testBit i := rfl

theorem bit_and {x y : Int} (hx : inU x) (hy : inU y) (i : Nat) : bit (litBin .and .u64 x y) i = (bit x i && bit y i) := by
  obtain ⟨n, rfl, hn⟩ := hx.nat
  obtain ⟨m, rfl, hm⟩ := hy.nat
  rw [and_nat hn hm]
  simp [bit_nat]
theorem bit_or {x y : Int} (hx : inU x) (hy : inU y) (i : Nat) : bit (litBin .or .u64 x y) i = (bit x i || bit y i) := by
  obtain ⟨n, rfl, hn⟩ := hx.nat
  obtain ⟨m, rfl, hm⟩ := hy.nat
  rw [or_nat hn hm]
  simp [bit_nat]
theorem bit_andNot {x y : Int} (hx : inU x) (hy : inU y) (i : Nat) : bit (litBin .andNot .u64 x y) i = (bit x i && !bit y i) := by
  obtain ⟨n, rfl, hn⟩ := hx.nat
  obtain ⟨m, rfl, hm⟩ := hy.nat
  have hn' : n < 2 ^ 64 := hn
  have h : (BitVec.ofInt IntKind.u64.bits (n : Int) &&& ~~~BitVec.ofInt IntKind.u64.bits (m : Int)).toNat.testBit i = (n.testBit i && !m.testBit i) := by
    rw [ofInt_nat, ofInt_nat, BitVec.testBit_toNat]
    show (BitVec.ofNat 64 n &&& ~~~(BitVec.ofNat 64 m)).getLsbD i = _
    rw [BitVec.getLsbD_and, BitVec.getLsbD_not, BitVec.getLsbD_ofNat, BitVec.getLsbD_ofNat]
    by_cases hi : i < 64
    · simp [hi]
    · have : n.testBit i = false := Nat.testBit_lt_two_pow (Nat.lt_of_lt_of_le hn' (Nat.pow_le_pow_right (by decide) (by omega)))
      simp [hi, this]
  have hb : (BitVec.ofInt IntKind.u64.bits (n : Int) &&& ~~~BitVec.ofInt IntKind.u64.bits (m : Int)).toNat < 18446744073709551616 := BitVec.isLt _
  show (IntKind.u64.wrap _).toNat.testBit i = _
  rw [wrap_nat hb]
  exact h
theorem shr_nat (x j : Nat) (hj : j ≤ 64) : litBin .shr .u64 (x : Int) (j : Int) = ((x >>> j : Nat) : Int) := by
  show Int.fdiv (x : Int) (2 ^ (min ((j : Int).toNat) 64)) = _
  rw [Int.toNat_natCast, Nat.min_eq_left hj, Nat.shiftRight_eq_div_pow]
  rw [Int.fdiv_eq_ediv_of_nonneg _ (Int.le_of_lt (Int.pow_pos (by decide)))]
  simp
theorem bit_shr {x : Int} (hx : inU x) (j : Nat) (hj : j ≤ 64) (i : Nat) : bit (litBin .shr .u64 x (j : Int)) i = bit x (j + i) := by
  obtain ⟨n, rfl, hn⟩ := hx.nat
  rw [shr_nat n j hj, bit_nat, bit_nat, Nat.testBit_shiftRight]
theorem inU.shr {x : Int} (hx : inU x) (j : Nat) (hj : j ≤ 64) : inU (litBin .shr .u64 x (j : Int)) := by
  obtain ⟨n, rfl, hn⟩ := hx.nat
  rw [shr_nat n j hj]
  refine inU_nat (Nat.lt_of_le_of_lt ?_ hn)
  rw [Nat.shiftRight_eq_div_pow]
  exact Nat.div_le_self _ _
theorem bit_cond (b : Bool) (x y : Int) (i : Nat) : bit (cond b x y) i = cond b (bit x i) (bit y i) := by cases b <;> rfl

/-- Words that have the same bits are the same. -/
theorem eq_of_bits {x y : Int} (hx : inU x) (hy : inU y) (h : ∀ i, bit x i = bit y i) : x = y := by
  obtain ⟨n, rfl, hn⟩ := hx.nat
  obtain ⟨m, rfl, hm⟩ := hy.nat
  exact congrArg _ (Nat.eq_of_testBit_eq h)

/-- Which bits a mask asks for, and which values of them. -/
def okMask (m c : Nat) (l : List (Nat × Bool)) : Bool :=
  Nat.blt m 18446744073709551616 && Nat.blt c 18446744073709551616 && l.all (fun p => m.testBit p.1 && (c.testBit p.1 == p.2)) && (List.range 64).all fun i => l.any (fun p => Nat.beq p.1 i) || (!m.testBit i && !c.testBit i)

theorem mask_iff {x : Int} (hx : inU x) (m c : Nat) (l : List (Nat × Bool)) (hok : okMask m c l = true) : litBin .and .u64 x (m : Int) = (c : Int) ↔ (l.all fun p => bit x p.1 == p.2) = true := by
  obtain ⟨n, rfl, hn⟩ := hx.nat
  simp only [okMask, Bool.and_eq_true, List.all_eq_true, Nat.blt_eq, Bool.or_eq_true, List.any_eq_true, List.mem_range, Bool.not_eq_true', beq_iff_eq] at hok
  obtain ⟨⟨⟨hm, hc⟩, h1⟩, h2⟩ := hok
  rw [and_nat hn hm]
  simp only [List.all_eq_true, beq_iff_eq, bit_nat]
  constructor
  · intro h p hp
    have h' : n &&& m = c := by exact_mod_cast h
    obtain ⟨g1, g2⟩ := h1 p hp
    rw [← h', Nat.testBit_and, g1, Bool.and_true] at g2
    exact g2
  · intro h
    refine congrArg _ (Nat.eq_of_testBit_eq fun i => ?_)
    rw [Nat.testBit_and]
    by_cases hi : i < 64
    · rcases h2 i hi with ⟨p, hp, e⟩ | ⟨e1, e2⟩
      · obtain rfl := Nat.eq_of_beq_eq_true e
        obtain ⟨g1, g2⟩ := h1 p hp
        rw [g1, g2, h p hp, Bool.and_true]
      · rw [e1, e2, Bool.and_false]
    · have g : ∀ z : Nat, z < 18446744073709551616 → z.testBit i = false := fun z hz => Nat.testBit_lt_two_pow (Nat.lt_of_lt_of_le (show z < 2 ^ 64 from hz) (Nat.pow_le_pow_right (by decide) (by omega)))
      rw [g m hm, g c hc, Bool.and_false]

theorem mask_eq {x : Int} (hx : inU x) (m c : Nat) (l : List (Nat × Bool)) (hok : okMask m c l = true) : litCmp .eql (litBin .and .u64 x (m : Int)) (c : Int) = l.all fun p => bit x p.1 == p.2 := by
  rw [eql_eq]
  have := mask_iff hx m c l hok
  cases h : (l.all fun p => bit x p.1 == p.2) with
  | true => exact decide_eq_true (this.2 h)
  | false => exact decide_eq_false fun e => by rw [this.1 e] at h; cases h
theorem mask_neq {x : Int} (hx : inU x) (m c : Nat) (l : List (Nat × Bool)) (hok : okMask m c l = true) : litCmp .neq (litBin .and .u64 x (m : Int)) (c : Int) = !(l.all fun p => bit x p.1 == p.2) := by
  rw [← mask_eq hx m c l hok]
  rfl
end Go.Proofs.Ytngcbpcfgolifaa.Ev
