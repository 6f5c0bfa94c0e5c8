/- The statement 'AluHalves': what is done of 32 bits does not hang on the higher halves, and has its sign in them. Conditions: none. -/
import Derived.Test.YtgljicadcegilaaWords
import Derived.Test.YtgljicadcegilaaDoSums
namespace Go.Proofs.Ytgljicadcegilaa.AluHalves
open Go.RowKit Go.WideShapes Go.ChangeShapes Go.ChangeAt Ev DoSums
set_option linter.unusedVariables false
set_option linter.unusedSimpArgs false

def opOf (r : Int) : Int := (cond (decide ((Int.toNat r) = 0)) 41 (cond (decide ((Int.toNat r) = 1)) 42 (cond (decide ((Int.toNat r) = 2)) 43 (cond (decide ((Int.toNat r) = 3)) 44 (cond (decide ((Int.toNat r) = 4)) 45 (cond (decide ((Int.toNat r) = 5)) 46 (cond (decide ((Int.toNat r) = 6)) 47 (cond (decide ((Int.toNat r) = 7)) 48 (cond (decide ((Int.toNat r) = 8)) 49 (cond (decide ((Int.toNat r) = 9)) 58 (cond (decide ((Int.toNat r) = 10)) 59 (cond (decide ((Int.toNat r) = 11)) 60 (cond (decide ((Int.toNat r) = 12)) 61 62)))))))))))))
def mix (a x : Int) : Int := (litBin .add .u64 (litBin .rem .u64 a 4294967296) (litBin .shl .u64 (IntKind.wrap .u64 x) 32))
def rest (o : Int) : Int := (litBin .rem .i64 (IntKind.wrap .i64 o) 14)
def G (r : Int) : Bool := ((inT 45) && (((decide (0 ≤ r ∧ r < ((14 : Nat) : Int))) && (decide ((Int.toNat r) < 14))) && ((inT (opOf r)) && (cond (litCmp .eql (doS 45 2147483647 1) 18446744071562067968) (inT (opOf r)) true))))
def V (r a b c d : Int) : Bool := (cond (litCmp .eql (doS 45 2147483647 1) 18446744071562067968) (cond (litCmp .eql (doS (opOf r) c d) (doS (opOf r) a b)) (cond (litCmp .eql (litBin .shr .u64 (doS (opOf r) a b) 32) 0) (cond (litCmp .eql (litBin .and .u64 (litBin .shr .u64 (doS (opOf r) a b) 31) 1) 0) true (cond (litCmp .eql (litBin .shr .u64 (doS (opOf r) a b) 32) 4294967295) (litCmp .eql (litBin .and .u64 (litBin .shr .u64 (doS (opOf r) a b) 31) 1) 1) false)) (cond (litCmp .eql (litBin .shr .u64 (doS (opOf r) a b) 32) 4294967295) (litCmp .eql (litBin .and .u64 (litBin .shr .u64 (doS (opOf r) a b) 31) 1) 1) false)) false) false)
set_option maxRecDepth 100000 in
theorem road (a b x y o : Int) : ((call Try.prog cx_do 400 15 [.int .u64 (.sym a), .int .u64 (.sym b), .agg [.int .u32 (.sym x), .int .u32 (.sym y), .int .u8 (.sym o)]] []).route [true]).map (fun p => (p.1, p.2.1)) = some ([G (rest o)], .val (.bool (.sym (V (rest o) a b (mix a x) (mix b y))))) := by kernel_rfl

theorem shr_u32 (x : Int) : litBin .shr .u64 x 32 = x / 4294967296 := by
  show Int.fdiv x (2 ^ (min ((32 : Int).toNat) 64)) = _
  rw [Int.fdiv_eq_ediv_of_nonneg _ (by decide)]
  rfl
theorem shr_u31 (x : Int) : litBin .shr .u64 x 31 = x / 2147483648 := by
  show Int.fdiv x (2 ^ (min ((31 : Int).toNat) 64)) = _
  rw [Int.fdiv_eq_ediv_of_nonneg _ (by decide)]
  rfl
theorem and1 {x : Int} (h : inU x) : litBin .and .u64 x 1 = x % 2 := by
  obtain ⟨n, rfl, hn⟩ := h.nat
  have e : litBin .and .u64 (n : Int) 1 = ((n &&& 1 : Nat) : Int) := and_nat hn (y := 1) (by decide)
  have e2 : n &&& 1 = n % 2 := Nat.and_two_pow_sub_one_eq_mod n 1
  rw [e, e2]
  omega
theorem and31 {x : Int} (h : inU x) : ∃ p : Nat, p < 32 ∧ x % 32 = (p : Int) ∧ litBin .and .i64 (IntKind.wrap .i64 (litBin .and .u64 x 31)) 63 = (p : Int) := by
  obtain ⟨n, rfl, hn⟩ := h.nat
  have e : litBin .and .u64 (n : Int) 31 = ((n &&& 31 : Nat) : Int) := and_nat hn (y := 31) (by decide)
  have e2 : n &&& 31 = n % 32 := Nat.and_two_pow_sub_one_eq_mod n 5
  have tabs : ∀ p : Fin 32, litBin .and .i64 ((p.val : Nat) : Int) 63 = ((p.val : Nat) : Int) := by decide +kernel
  refine ⟨n % 32, Nat.mod_lt _ (by decide), by omega, ?_⟩
  have e3 : IntKind.wrap .i64 ((n % 32 : Nat) : Int) = ((n % 32 : Nat) : Int) := by rw [wrapi]; omega
  rw [e, e2, e3]
  exact tabs ⟨n % 32, Nat.mod_lt _ (by decide)⟩
theorem shl_p (x : Int) {p : Nat} (h : p ≤ 64) : litBin .shl .u64 x (p : Int) = (x * 2 ^ p) % 18446744073709551616 := by
  show IntKind.u64.wrap (x * 2 ^ (min p 64)) = _
  rw [Nat.min_eq_left h, Ev.wrap64]
theorem mod32 (t : Int) : t % 18446744073709551616 % 4294967296 = t % 4294967296 := by omega
/-- What is told of 32 bits. -/
structure Same (a b c d : Int) : Prop where
  ha : inU a
  hb : inU b
  hc : inU c
  hd : inU d
  ac : c % 4294967296 = a % 4294967296
  bd : d % 4294967296 = b % 4294967296
theorem Same.sh {a b c d : Int} (h : Same a b c d) : ∃ p : Nat, p < 32 ∧ litBin .and .i64 (IntKind.wrap .i64 (litBin .and .u64 b 31)) 63 = (p : Int) ∧ litBin .and .i64 (IntKind.wrap .i64 (litBin .and .u64 d 31)) 63 = (p : Int) := by
  obtain ⟨p, h1, h2, h3⟩ := and31 h.hb
  obtain ⟨q, h4, h5, h6⟩ := and31 h.hd
  have := h.bd
  have e : q = p := by omega
  subst e
  exact ⟨q, h1, h3, h6⟩
theorem Same.ia {a b c d : Int} (h : Same a b c d) : IntKind.wrap .i32 c = IntKind.wrap .i32 a := by have := h.ac; rw [wrapi32, wrapi32]; omega
theorem Same.ib {a b c d : Int} (h : Same a b c d) : IntKind.wrap .i32 d = IntKind.wrap .i32 b := by have := h.bd; rw [wrapi32, wrapi32]; omega
theorem Same.ua {a b c d : Int} (h : Same a b c d) : IntKind.wrap .u32 c = IntKind.wrap .u32 a := by rw [Ev.wrap32, Ev.wrap32]; exact h.ac
theorem Same.ub {a b c d : Int} (h : Same a b c d) : IntKind.wrap .u32 d = IntKind.wrap .u32 b := by rw [Ev.wrap32, Ev.wrap32]; exact h.bd
theorem sx_small {q : Int} (h : -2147483648 ≤ q ∧ q < 2147483648) : IntKind.wrap .u64 q = sx q := by
  rw [Ev.wrap64]
  unfold sx
  omega
theorem cond_in {x y : Int} (c : Bool) (hx : -2147483648 ≤ x ∧ x < 2147483648) (hy : -2147483648 ≤ y ∧ y < 2147483648) : -2147483648 ≤ cond c x y ∧ cond c x y < 2147483648 := by
  cases c
  · exact hy
  · exact hx
theorem i32_in (x : Int) : -2147483648 ≤ IntKind.wrap .i32 x ∧ IntKind.wrap .i32 x < 2147483648 := by rw [wrapi32]; omega
theorem tmod_in {A : Int} (B : Int) (hA : -2147483648 ≤ A ∧ A < 2147483648) : -2147483648 ≤ A.tmod B ∧ A.tmod B < 2147483648 := by
  have h1 := Int.natAbs_tmod A B
  have h2 := Nat.mod_le A.natAbs B.natAbs
  by_cases hn : 0 ≤ A
  · have := Int.tmod_nonneg B hn
    omega
  · have h4 := Int.tmod_nonneg B (show 0 ≤ -A by omega)
    rw [Int.neg_tmod] at h4
    omega
theorem eq41 {a b c d : Int} (h : Same a b c d) : D41 c d = D41 a b ∧ ∃ t, D41 a b = sx t := by
  refine ⟨?_, _, sx32 _⟩
  unfold D41
  rw [sx32, sx32]
  refine sx_congr ?_
  have h1 := h.ac
  have h2 := h.bd
  rw [add_eq, add_eq]
  omega
theorem eq45 {a b c d : Int} (h : Same a b c d) : D45 c d = D45 a b ∧ ∃ t, D45 a b = sx t := by
  refine ⟨?_, _, sx32 _⟩
  unfold D45
  rw [sx32, sx32]
  refine sx_congr ?_
  have h1 := h.ac
  have h2 := h.bd
  rw [add_eq, add_eq]
  omega
theorem eq46 {a b c d : Int} (h : Same a b c d) : D46 c d = D46 a b ∧ ∃ t, D46 a b = sx t := by
  refine ⟨?_, _, sx32 _⟩
  unfold D46
  rw [sx32, sx32]
  refine sx_congr ?_
  have h1 := h.ac
  have h2 := h.bd
  rw [sub_eq, sub_eq]
  omega
theorem eq58 {a b c d : Int} (h : Same a b c d) : D58 c d = D58 a b ∧ ∃ t, D58 a b = sx t := by
  refine ⟨?_, _, sx32 _⟩
  unfold D58
  rw [sx32, sx32]
  refine sx_congr ?_
  have h1 := h.ac
  have h2 := h.bd
  rw [mul_eq, mul_eq, mod32, mod32, Int.mul_emod, h1, h2, ← Int.mul_emod]
theorem eq42 {a b c d : Int} (h : Same a b c d) : D42 c d = D42 a b ∧ ∃ t, D42 a b = sx t := by
  obtain ⟨p, hp, e1, e2⟩ := h.sh
  refine ⟨?_, _, sx32 _⟩
  unfold D42
  rw [sx32, e1, e2]
  rw [sx32]
  refine sx_congr ?_
  rw [shl_p _ (by omega), shl_p _ (by omega), mod32, mod32, Int.mul_emod, h.ac, ← Int.mul_emod]
theorem eq47 {a b c d : Int} (h : Same a b c d) : D47 c d = D47 a b ∧ ∃ t, D47 a b = sx t := by
  obtain ⟨p, hp, e1, e2⟩ := h.sh
  refine ⟨?_, _, sx32 _⟩
  unfold D47
  rw [sx32, e1, e2]
  rw [sx32]
  refine sx_congr ?_
  rw [shl_p _ (by omega), shl_p _ (by omega), mod32, mod32, Int.mul_emod, h.ac, ← Int.mul_emod]
theorem eq43 {a b c d : Int} (h : Same a b c d) : D43 c d = D43 a b ∧ ∃ t, D43 a b = sx t := by
  obtain ⟨p, hp, e1, e2⟩ := h.sh
  refine ⟨?_, _, sx32 _⟩
  unfold D43
  rw [e1, e2, h.ua]
theorem eq48 {a b c d : Int} (h : Same a b c d) : D48 c d = D48 a b ∧ ∃ t, D48 a b = sx t := by
  obtain ⟨p, hp, e1, e2⟩ := h.sh
  refine ⟨?_, _, sx32 _⟩
  unfold D48
  rw [e1, e2, h.ua]
theorem eq44 {a b c d : Int} (h : Same a b c d) : D44 c d = D44 a b ∧ ∃ t, D44 a b = sx t := by
  obtain ⟨p, hp, e1, e2⟩ := h.sh
  refine ⟨?_, _, sx32 _⟩
  unfold D44
  rw [e1, e2, sx32 c, sx32 a, sx_congr h.ac]
theorem eq49 {a b c d : Int} (h : Same a b c d) : D49 c d = D49 a b ∧ ∃ t, D49 a b = sx t := by
  obtain ⟨p, hp, e1, e2⟩ := h.sh
  refine ⟨?_, _, sx32 _⟩
  unfold D49
  rw [e1, e2, sx32 c, sx32 a, sx_congr h.ac]
theorem eq59 {a b c d : Int} (h : Same a b c d) : D59 c d = D59 a b ∧ ∃ t, D59 a b = sx t := by
  refine ⟨?_, _, sx_small (cond_in _ (by omega) (cond_in _ (i32_in _) (i32_in _)))⟩
  unfold D59
  rw [h.ia, h.ib]
theorem eq61 {a b c d : Int} (h : Same a b c d) : D61 c d = D61 a b ∧ ∃ t, D61 a b = sx t := by
  refine ⟨?_, _, sx_small (cond_in _ (i32_in _) (cond_in _ (by omega) (tmod_in _ (i32_in _))))⟩
  unfold D61
  rw [h.ia, h.ib]
theorem eq60 {a b c d : Int} (h : Same a b c d) : D60 c d = D60 a b ∧ ∃ t, D60 a b = sx t := by
  refine ⟨?_, _, sx32 _⟩
  unfold D60
  rw [h.ua, h.ub]
theorem eq62 {a b c d : Int} (h : Same a b c d) : D62 c d = D62 a b ∧ ∃ t, D62 a b = sx t := by
  refine ⟨?_, _, sx32 _⟩
  unfold D62
  rw [h.ua, h.ub]
theorem tops (t : Int) : (cond (litCmp .eql (litBin .shr .u64 (sx t) 32) 0) (cond (litCmp .eql (litBin .and .u64 (litBin .shr .u64 (sx t) 31) 1) 0) true (cond (litCmp .eql (litBin .shr .u64 (sx t) 32) 4294967295) (litCmp .eql (litBin .and .u64 (litBin .shr .u64 (sx t) 31) 1) 1) false)) (cond (litCmp .eql (litBin .shr .u64 (sx t) 32) 4294967295) (litCmp .eql (litBin .and .u64 (litBin .shr .u64 (sx t) 31) 1) 1) false)) = true := by
  have hs := inU_sx t
  have h31 : inU (sx t / 2147483648) := by unfold inU at *; omega
  rw [shr_u32, shr_u31, and1 h31]
  by_cases h : (t + 2147483648) % 4294967296 < 2147483648
  · have e1 : sx t / 4294967296 = 4294967295 := by unfold sx; omega
    have e2 : sx t / 2147483648 % 2 = 1 := by unfold sx; omega
    rw [e1, e2]
    rfl
  · have e1 : sx t / 4294967296 = 0 := by unfold sx; omega
    have e2 : sx t / 2147483648 % 2 = 0 := by unfold sx; omega
    rw [e1, e2]
    rfl
theorem ex : litCmp .eql (doS 45 2147483647 1) 18446744071562067968 = true := by kernel_rfl
theorem law {a b c d : Int} (h : Same a b c d) (r : Int) (hr : 0 ≤ r ∧ r < 14) : G r = true ∧ V r a b c d = true := by
  have k : r = 0 ∨ r = 1 ∨ r = 2 ∨ r = 3 ∨ r = 4 ∨ r = 5 ∨ r = 6 ∨ r = 7 ∨ r = 8 ∨ r = 9 ∨ r = 10 ∨ r = 11 ∨ r = 12 ∨ r = 13 := by omega
  have fin : ∀ (o : Int) (r : Int), opOf r = o → doS o c d = doS o a b → (∃ t, doS o a b = sx t) → V r a b c d = true := by
    intro o r e1 e2 ⟨t, e3⟩
    unfold V
    rw [e1, e2, e3, ex, eql_self, cond_true, cond_true]
    exact tops t
  rcases k with k | k | k | k | k | k | k | k | k | k | k | k | k | k <;> subst k
  · exact ⟨by kernel_rfl, fin 41 0 (by kernel_rfl) (eq41 h).1 (eq41 h).2⟩
  · exact ⟨by kernel_rfl, fin 42 1 (by kernel_rfl) (eq42 h).1 (eq42 h).2⟩
  · exact ⟨by kernel_rfl, fin 43 2 (by kernel_rfl) (eq43 h).1 (eq43 h).2⟩
  · exact ⟨by kernel_rfl, fin 44 3 (by kernel_rfl) (eq44 h).1 (eq44 h).2⟩
  · exact ⟨by kernel_rfl, fin 45 4 (by kernel_rfl) (eq45 h).1 (eq45 h).2⟩
  · exact ⟨by kernel_rfl, fin 46 5 (by kernel_rfl) (eq46 h).1 (eq46 h).2⟩
  · exact ⟨by kernel_rfl, fin 47 6 (by kernel_rfl) (eq47 h).1 (eq47 h).2⟩
  · exact ⟨by kernel_rfl, fin 48 7 (by kernel_rfl) (eq48 h).1 (eq48 h).2⟩
  · exact ⟨by kernel_rfl, fin 49 8 (by kernel_rfl) (eq49 h).1 (eq49 h).2⟩
  · exact ⟨by kernel_rfl, fin 58 9 (by kernel_rfl) (eq58 h).1 (eq58 h).2⟩
  · exact ⟨by kernel_rfl, fin 59 10 (by kernel_rfl) (eq59 h).1 (eq59 h).2⟩
  · exact ⟨by kernel_rfl, fin 60 11 (by kernel_rfl) (eq60 h).1 (eq60 h).2⟩
  · exact ⟨by kernel_rfl, fin 61 12 (by kernel_rfl) (eq61 h).1 (eq61 h).2⟩
  · exact ⟨by kernel_rfl, fin 62 13 (by kernel_rfl) (eq62 h).1 (eq62 h).2⟩
theorem mix_ok {a x : Int} (ha : inU a) (wx : 0 ≤ x ∧ x < 4294967296) : inU (mix a x) ∧ mix a x % 4294967296 = a % 4294967296 := by
  refine ⟨inU.add _ _, ?_⟩
  unfold mix
  rw [rem32 ha, add_eq, shl32, Ev.wrap64]
  omega

theorem sums (a b x y o : Int) (wa : (Lit.int .u64 a).wf = true) (wb : (Lit.int .u64 b).wf = true) (wx : (Lit.int .u32 x).wf = true) (wy : (Lit.int .u32 y).wf = true) (wo : (Lit.int .u8 o).wf = true) :
    ∃ c : Bool, (call Try.prog cx_do 400 15 [.int .u64 (.sym a), .int .u64 (.sym b), .agg [.int .u32 (.sym x), .int .u32 (.sym y), .int .u8 (.sym o)]] []).pick.map (·.1) = some (.val (.bool (.sym c))) ∧ c = true := by
  have ha := inU_wf wa
  have hb := inU_wf wb
  obtain ⟨h1, h2⟩ := mix_ok ha (wf32 wx)
  obtain ⟨h3, h4⟩ := mix_ok hb (wf32 wy)
  have h0 := wf8 wo
  have hr : 0 ≤ rest o ∧ rest o < 14 := by
    have e : rest o = o % 14 := by
      show (IntKind.i64.wrap o).tmod 14 = _
      rw [wrapi, Int.tmod_eq_emod_of_nonneg (by omega)]
      omega
    omega
  obtain ⟨l1, l2⟩ := law ⟨ha, hb, h1, h3, h2, h4⟩ (rest o) hr
  exact ⟨_, route_pick1 (road a b x y o) (by rw [l1]), l2⟩

set_option maxRecDepth 100000 in
set_option maxHeartbeats 4000000 in
theorem run : ∀ vs, ArgsOk [.one (.int .u64), .one (.int .u64), .agg [.int .u32, .int .u32, .int .u8]] vs → ∀ w, Calls Try.prog 15 vs.toArray w fun e w' => e = .returned (.bool true) ∧ Below w.heap.size w w' := by
  intro vs h w
  obtain ⟨_, _, rfl, ⟨a, rfl, wa⟩, _, _, rfl, ⟨b, rfl, wb⟩, _, _, rfl, ⟨_, rfl, _, _, rfl, ⟨x, rfl, wx⟩, _, _, rfl, ⟨y, rfl, wy⟩, _, _, rfl, ⟨o, rfl, wo⟩, rfl⟩, rfl⟩ := h
  obtain ⟨c, k1, k2⟩ := sums a b x y o wa wb wx wy wo
  have k3 := (rfl : List.map absV [.int .u64 a, .int .u64 b, .agg [.int .u32 x, .int .u32 y, .int .u8 o].toArray] = [.int .u64 (.sym a), .int .u64 (.sym b), .agg [.int .u32 (.sym x), .int .u32 (.sym y), .int .u8 (.sym o)]])
  have k4 := law_true2 cx_do_ok k3 k1 k2 w
  exact k4

set_option maxRecDepth 100000 in
theorem lifted (os : Os) (started : os.Started) (H : Type) (enc : TypeId × Value → H) :
    ReturnsInHanded {} Try.checked os 15 .any (Rows.aluHalvesSpec.pre6 enc Try.prog Try.f15 Rows.aluHalvesRow.domain false) (Rows.aluHalvesSpec.post enc Try.prog Try.f15 false true false false) := by
  refine returnsInHanded_of_change (C := Try.checked) own started (by kernel_rfl) Try.func15
    (ChangeSpec.witness6 (enc := enc) (C := Try.checked) false ⟨#[], #[.int .u64 0, .int .u64 0, .agg #[.int .u32 0, .int .u32 0, .int .u8 0]], []⟩ 8 (by kernel_rfl) (by kernel_rfl) (by kernel_rfl) (by kernel_rfl)) ?_
  intro W base args ds gs before hval hW _ _
  exact lifted_plain (P := Try.prog) (f := 15) (fn := Try.f15) (s := Rows.aluHalvesSpec) (tb := 4) rfl
    (fun ds h => by
      match ds, h with
      | [d1, d2, d3], _ => rfl)
    (by kernel_rfl) rfl (by kernel_rfl) run W base args ds gs before hval hW

theorem over : Rows.aluHalvesRow.holds Try.pinned (OpenSpec.ofChange Rows.aluHalvesSpec) :=
  OpenClaim.holds_of_wide 15 Try.f15 rfl rfl rfl rfl rfl rfl rfl ⟨rfl, rfl, rfl, rfl, rfl⟩ rfl rfl rfl rfl rfl (by kernel_rfl) Try.func15 (by kernel_rfl)
    (of_decide_eq_true (by kernel_rfl)) (by unfold Func.isWrapper; first | (rw [if_pos (by decide +kernel)]; kernel_rfl) | (rw [if_neg (by decide +kernel)]; exact ⟨rfl, rfl⟩))
    (fun os started H enc _ => lifted os started H enc)

/-- The statement. -/
theorem proved : Rows.AluHalvesSaid :=
  over
#print axioms proved
end Go.Proofs.Ytgljicadcegilaa.AluHalves
