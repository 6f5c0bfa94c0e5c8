/- What the reference's three loops answer: a product's high half, a division, a shift. Conditions: none. -/
import Derived.Test.YtgljicadcegilaaWords
import Derived.Test.YtgljicadcegilaaEvLoop
import Derived.Test.YtgljicadcegilaaEvPureA
namespace Go.Proofs.Ytgljicadcegilaa.Ev
open Go.RowKit
set_option linter.unusedVariables false
set_option linter.unusedSimpArgs false

def inB (x : Int) : Bool := decide (0 ≤ x) && decide (x < 18446744073709551616)
theorem inB_iff (x : Int) : inB x = true ↔ inU x := by unfold inB inU; simp
theorem inB_of {x : Int} (h : inU x) : inB x = true := (inB_iff x).2 h
theorem pow_i (k : Nat) : ((2 : Int) ^ k) = ((2 ^ k : Nat) : Int) := (Int.natCast_pow 2 k).symm
theorem pow_pos' (k : Nat) : (0 : Int) < 2 ^ k := Int.pow_pos (by decide)
theorem pow_lt' {k : Nat} (h : k < 64) : (2 : Int) ^ k < 18446744073709551616 := by
  have : (2 : Nat) ^ k < 2 ^ 64 := Nat.pow_lt_pow_right (by decide) h
  rw [pow_i]
  have h2 : (2 : Nat) ^ 64 = 18446744073709551616 := by decide
  omega
theorem half_step (b : Int) (k : Nat) : b / 2 ^ k = 2 * (b / 2 ^ (k + 1)) + b / 2 ^ k % 2 := by
  have : b / 2 ^ (k + 1) = b / 2 ^ k / 2 := by
    have hp := pow_pos' k
    rw [Int.pow_succ, Int.ediv_ediv, if_neg (fun h => by omega), Int.sub_zero]
  rw [this]
  omega
theorem shr_pu (x : Int) {p : Nat} (h : p ≤ 64) : litBin .shr .u64 x (p : Int) = x / 2 ^ p := by
  show Int.fdiv x (2 ^ (min p 64)) = _
  rw [Nat.min_eq_left h, Int.fdiv_eq_ediv_of_nonneg _ (Int.le_of_lt (pow_pos' p))]
theorem shr_pi (x : Int) {p : Nat} (h : p ≤ 64) : litBin .shr .i64 x (p : Int) = x / 2 ^ p := by
  show Int.fdiv x (2 ^ (min p 64)) = _
  rw [Nat.min_eq_left h, Int.fdiv_eq_ediv_of_nonneg _ (Int.le_of_lt (pow_pos' p))]
theorem shl_p (x : Int) {p : Nat} (h : p ≤ 64) : litBin .shl .u64 x (p : Int) = (x * 2 ^ p) % 18446744073709551616 := by
  show IntKind.u64.wrap (x * 2 ^ (min p 64)) = _
  rw [Nat.min_eq_left h, Ev.wrap64]
theorem rem2 {x : Int} (h : 0 ≤ x) : litBin .rem .u64 x 2 = x % 2 := by
  show x.tmod 2 = _
  rw [Int.tmod_eq_emod_of_nonneg h]
theorem subi1 (k : Nat) (h : k ≤ 64) : litBin .sub .i64 ((k : Int)) 1 = (k : Int) - 1 := by
  show IntKind.i64.wrap ((k : Int) - 1) = _
  rw [wrapi]
  omega
theorem addi1 (k : Nat) (h : k ≤ 64) : litBin .add .i64 ((k : Int)) 1 = ((k + 1 : Nat) : Int) := by
  show IntKind.i64.wrap ((k : Int) + 1) = _
  rw [wrapi]
  omega
theorem shl63 (x : Int) : litBin .shl .u64 x 63 = (x * 9223372036854775808) % 18446744073709551616 := Ev.wrap64 _
theorem quo_n {x : Int} (h : 0 ≤ x) (m : Int) : litBin .quo .u64 x m = (x / m) % 18446744073709551616 := by
  show IntKind.u64.wrap (Int.tdiv x m) = _
  rw [Ev.wrap64, Int.tdiv_eq_ediv_of_nonneg h]

/-! ### A product's high half -/
namespace High
def tm : Tmpl := { slots := [.int .u64, .int .u64, .bool, .bool] ++ List.replicate 5 .skip ++ [.int .u64, .int .u64, .int .i64] ++ List.replicate 43 .skip, heap := [] }
def tm' : Tmpl := { slots := [.int .u64, .int .u64, .bool, .bool] ++ List.replicate 6 .skip ++ [.int .u64] ++ List.replicate 44 .skip, heap := [] }
def res (e : Env DC) : Env DC := ⟨[e.i.getD 0 0, e.i.getD 1 0, e.i.getD 0 0 * e.i.getD 1 0 / 18446744073709551616], [e.b.getD 0 false, e.b.getD 1 false], [], []⟩
def bt (b i : Int) : Bool := litCmp .eql (litBin .rem .u64 (litBin .shr .u64 b i) 2) 1
def lo2 (lo : Int) : Int := litBin .mul .u64 lo 2
def hi2 (lo hi : Int) : Int := litBin .add .u64 (litBin .mul .u64 hi 2) (litBin .shr .u64 lo 63)
set_option maxRecDepth 100000 in
theorem goes (a b lo hi i : Int) (s t : Bool) : (viewT tm 0 (fun _ => []) (tm.fill ⟨[a, b, lo, hi, i], [s, t], [], []⟩) (ev Try.prog cx 41 400 (.code (loopAt Try.prog 41 0)) (tm.fill ⟨[a, b, lo, hi, i], [s, t], [], []⟩))).route [true, true] =
    some ([litCmp .geq i 0, !(litCmp .lss i 0)], (.normal, some ⟨[a, b, cond (bt b i) (litBin .add .u64 (lo2 lo) a) (lo2 lo), cond (bt b i) (cond (litCmp .lss (litBin .add .u64 (lo2 lo) a) (lo2 lo)) (litBin .add .u64 (hi2 lo hi) 1) (hi2 lo hi)) (hi2 lo hi), litBin .sub .i64 i 1], [s, t], [], []⟩)) := by kernel_rfl
set_option maxRecDepth 100000 in
theorem ends (a b lo hi i : Int) (s t : Bool) : (viewT tm 0 (fun _ => []) (tm.fill ⟨[a, b, lo, hi, i], [s, t], [], []⟩) (ev Try.prog cx 41 400 (.code (loopAt Try.prog 41 0)) (tm.fill ⟨[a, b, lo, hi, i], [s, t], [], []⟩))).route [false] =
    some ([litCmp .geq i 0], (.exit 0, some ⟨[a, b, lo, hi, i], [s, t], [], []⟩)) := by kernel_rfl

def I (e0 e : Env DC) : Prop := ∃ (a b lo hi : Int) (s t : Bool) (k : Nat), e0 = ⟨[a, b, 0, 0, 63], [s, t], [], []⟩ ∧ e = ⟨[a, b, lo, hi, (k : Int) - 1], [s, t], [], []⟩ ∧ k ≤ 64 ∧ inU a ∧ inU b ∧ inU lo ∧ inU hi ∧ hi * 18446744073709551616 + lo = a * (b / 2 ^ k)
def F (e0 e : Env DC) : Prop := ∃ (a b lo hi : Int) (s t : Bool), e0 = ⟨[a, b, 0, 0, 63], [s, t], [], []⟩ ∧ e = ⟨[a, b, lo, hi, -1], [s, t], [], []⟩ ∧ hi = a * b / 18446744073709551616
noncomputable def ask (e : Env DC) : Bool := yes (I e e)
noncomputable def X : Cx DC := cx.block 41 0 (loopSumF (D := DC) tm tm' 0 [] ask res)

theorem step {a b lo hi : Int} {k : Nat} (hk : k < 64) (ha : inU a) (hb : inU b) (hlo : inU lo) (hhi : inU hi) (h : hi * 18446744073709551616 + lo = a * (b / 2 ^ (k + 1))) :
    ∃ lo' hi', cond (bt b (k : Int)) (litBin .add .u64 (lo2 lo) a) (lo2 lo) = lo' ∧ cond (bt b (k : Int)) (cond (litCmp .lss (litBin .add .u64 (lo2 lo) a) (lo2 lo)) (litBin .add .u64 (hi2 lo hi) 1) (hi2 lo hi)) (hi2 lo hi) = hi' ∧ inU lo' ∧ inU hi' ∧ hi' * 18446744073709551616 + lo' = a * (b / 2 ^ k) := by
  have hs := half_step b k
  have hc0 : 0 ≤ b / 2 ^ k := Int.ediv_nonneg hb.1 (Int.le_of_lt (pow_pos' k))
  have hcb : b / 2 ^ k ≤ b := Int.ediv_le_self _ hb.1
  have e1 : bt b (k : Int) = decide (b / 2 ^ k % 2 = 1) := by
    unfold bt
    rw [shr_pu b (by omega), rem2 hc0, eql_eq]
  rw [e1]
  generalize hcq : b / 2 ^ k = c at *
  generalize b / 2 ^ (k + 1) = d at *
  have hW : a * c ≤ 340282366920938463426481119284349108225 := by
    have h1 : a * c ≤ 18446744073709551615 * 18446744073709551615 := Int.mul_le_mul (by unfold inU at ha; omega) (by unfold inU at hb; omega) hc0 (by decide)
    have : (18446744073709551615 * 18446744073709551615 : Int) = 340282366920938463426481119284349108225 := by decide
    omega
  have hd : a * c = 2 * (a * d) + a * (c % 2) := by
    have : a * c = a * (2 * d + c % 2) := by rw [← hs]
    rw [this, Int.mul_add, ← Int.mul_assoc, Int.mul_comm a 2, Int.mul_assoc]
  unfold lo2 hi2
  rw [shr63, mul_eq, mul_eq, add_eq, add_eq, add_eq, lss_eq]
  have hpos : 0 ≤ a * d := Int.mul_nonneg ha.1 (by omega)
  unfold inU at ha hlo hhi
  rcases (by omega : c % 2 = 0 ∨ c % 2 = 1) with hc | hc
  · rw [hc] at hd ⊢
    rw [decide_eq_false (by decide), cond_false, cond_false]
    refine ⟨_, _, rfl, rfl, ?_, ?_, ?_⟩ <;> (try unfold inU) <;> omega
  · rw [hc] at hd ⊢
    rw [decide_eq_true rfl, cond_true, cond_true]
    by_cases hl : (lo * 2 % 18446744073709551616 + a) % 18446744073709551616 < lo * 2 % 18446744073709551616
    · rw [decide_eq_true hl, cond_true]
      refine ⟨_, _, rfl, rfl, ?_, ?_, ?_⟩ <;> (try unfold inU) <;> omega
    · rw [decide_eq_false hl, cond_false]
      refine ⟨_, _, rfl, rfl, ?_, ?_, ?_⟩ <;> (try unfold inU) <;> omega

theorem round (e0 e : Env DC) (h : I e0 e) : RoundT (I e0) (fun e => ((e.i.getD 4 0) + 1).toNat) (F e0) 0 e (viewT tm 0 (fun _ => []) (tm.fill e) (ev Try.prog cx 41 400 (.code (loopAt Try.prog 41 0)) (tm.fill e))) := by
  obtain ⟨a, b, lo, hi, s, t, k, rfl, rfl, hk, ha, hb, hlo, hhi, hv⟩ := h
  cases k with
  | zero =>
    refine ⟨_, _, route_at (ends a b lo hi (((0 : Nat) : Int) - 1) s t) rfl, .inr ⟨rfl, _, rfl, a, b, lo, hi, s, t, rfl, rfl, ?_⟩⟩
    rw [Int.pow_zero, Int.ediv_one] at hv
    unfold inU at hlo
    omega
  | succ k =>
    have ek : ((k + 1 : Nat) : Int) - 1 = (k : Int) := by omega
    rw [ek]
    obtain ⟨lo', hi', e1, e2, h1, h2, h3⟩ := step (by omega) ha hb hlo hhi hv
    refine ⟨_, _, route_at (goes a b lo hi (k : Int) s t) ?_, .inl ⟨rfl, _, rfl, ⟨a, b, lo', hi', s, t, k, rfl, ?_, by omega, ha, hb, h1, h2, h3⟩, ?_⟩⟩
    · rw [geq_eq, lss_eq, decide_eq_true (by omega), decide_eq_false (by omega)]
      rfl
    · rw [e1, e2, subi1 k (by omega)]
    · simp only [List.getD_cons_succ, List.getD_cons_zero]
      rw [subi1 k (by omega)]
      omega

theorem X_ok : Ok Try.prog X := by
  refine cx_ok.block (by kernel_rfl) fun hw s r hr => loopSumF_ok (I := I) (m := fun _ e => ((e.i.getD 4 0) + 1).toNat) (Fin := F) cx_ok (fun e he => of_yes he) round ?_ hw s r hr
  rintro e0 e1 ⟨a, b, lo, hi, s, t, rfl, rfl, rfl⟩
  kernel_rfl
end High

/-- The high half of a product, as the reference has it. -/
def hiR (a b : Int) (s t : Bool) : Int := cond (cond t (litCmp .geq b 9223372036854775808) false) (litBin .sub .u64 (cond (cond s (litCmp .geq a 9223372036854775808) false) (litBin .sub .u64 (a * b / 18446744073709551616) b) (a * b / 18446744073709551616)) a) (cond (cond s (litCmp .geq a 9223372036854775808) false) (litBin .sub .u64 (a * b / 18446744073709551616) b) (a * b / 18446744073709551616))
noncomputable def askH (a b : Int) (s t : Bool) : Bool := High.ask ⟨[a, b, 0, 0, 63], [s, t], [], []⟩
set_option maxRecDepth 100000 in
theorem high1 (a b : Int) (s t : Bool) : ((call Try.prog High.X 380 41 [.int .u64 (.sym a), .int .u64 (.sym b), .bool (.sym s), .bool (.sym t)] []).route [true]).map (fun p => (p.1, p.2.1)) = some ([askH a b s t], .val (.int .u64 (.sym (hiR a b s t)))) := by kernel_rfl
theorem askH_of {a b : Int} (s t : Bool) (ha : inU a) (hb : inU b) : askH a b s t = true := by
  refine yes_of ⟨a, b, 0, 0, s, t, 64, rfl, rfl, Nat.le_refl _, ha, hb, by unfold inU; omega, by unfold inU; omega, ?_⟩
  have : b / 2 ^ 64 = 0 := Int.ediv_eq_zero_of_lt hb.1 hb.2
  rw [this]
  omega

/-! ### A division -/
namespace Plain
def tm : Tmpl := { slots := [.int .u64, .int .u64] ++ List.replicate 4 .skip ++ [.int .u64, .int .u64, .int .i64] ++ List.replicate 29 .skip, heap := [] }
def tm' : Tmpl := { slots := [.int .u64, .int .u64] ++ List.replicate 4 .skip ++ [.int .u64, .int .u64] ++ List.replicate 30 .skip, heap := [] }
def res (e : Env DC) : Env DC := ⟨[e.i.getD 0 0, e.i.getD 1 0, e.i.getD 0 0 / e.i.getD 1 0, e.i.getD 0 0 % e.i.getD 1 0], [], [], []⟩
def r2 (a r i : Int) : Int := litBin .add .u64 (litBin .mul .u64 r 2) (litBin .rem .u64 (litBin .shr .u64 a i) 2)
def ov (a b r i : Int) : Bool := cond (litCmp .geq r 9223372036854775808) true (litCmp .geq (r2 a r i) b)
set_option maxRecDepth 100000 in
theorem goes (a b q r i : Int) : (viewT tm 0 (fun _ => []) (tm.fill ⟨[a, b, q, r, i], [], [], []⟩) (ev Try.prog cx 67 400 (.code (loopAt Try.prog 67 0)) (tm.fill ⟨[a, b, q, r, i], [], [], []⟩))).route [true, true] =
    some ([litCmp .geq i 0, (!(litCmp .lss i 0)) && (cond (ov a b r i) (!(litCmp .lss i 0)) true)], (.normal, some ⟨[a, b, cond (ov a b r i) (litBin .add .u64 q (litBin .shl .u64 1 i)) q, cond (ov a b r i) (litBin .sub .u64 (r2 a r i) b) (r2 a r i), litBin .sub .i64 i 1], [], [], []⟩)) := by kernel_rfl
set_option maxRecDepth 100000 in
theorem ends (a b q r i : Int) : (viewT tm 0 (fun _ => []) (tm.fill ⟨[a, b, q, r, i], [], [], []⟩) (ev Try.prog cx 67 400 (.code (loopAt Try.prog 67 0)) (tm.fill ⟨[a, b, q, r, i], [], [], []⟩))).route [false] =
    some ([litCmp .geq i 0], (.exit 0, some ⟨[a, b, q, r, i], [], [], []⟩)) := by kernel_rfl

def I (e0 e : Env DC) : Prop := ∃ (a b q r : Int) (k : Nat), e0 = ⟨[a, b, 0, 0, 63], [], [], []⟩ ∧ e = ⟨[a, b, q, r, (k : Int) - 1], [], [], []⟩ ∧ k ≤ 64 ∧ inU a ∧ inU b ∧ 0 < b ∧ r = a / 2 ^ k % b ∧ q = a / 2 ^ k / b * 2 ^ k
def F (e0 e : Env DC) : Prop := ∃ (a b : Int), e0 = ⟨[a, b, 0, 0, 63], [], [], []⟩ ∧ e = ⟨[a, b, a / b, a % b, -1], [], [], []⟩
noncomputable def ask (e : Env DC) : Bool := yes (I e e)
noncomputable def X : Cx DC := cx.block 67 0 (loopSumF (D := DC) tm tm' 0 [] ask res)

/-- One bit more of what is divided. -/
theorem div_bit {d b t : Int} (hb : 0 < b) (hd : 0 ≤ d) (ht : t = 0 ∨ t = 1) : (2 * d + t) / b = (if b ≤ 2 * (d % b) + t then 2 * (d / b) + 1 else 2 * (d / b)) ∧ (2 * d + t) % b = (if b ≤ 2 * (d % b) + t then 2 * (d % b) + t - b else 2 * (d % b) + t) := by
  have h0 := Int.emod_nonneg d (by omega : b ≠ 0)
  have h1 := Int.emod_lt_of_pos d hb
  have h2 := Int.mul_ediv_add_emod d b
  have e : 2 * d + t = b * (2 * (d / b)) + (2 * (d % b) + t) := by
    have : b * (2 * (d / b)) = 2 * (b * (d / b)) := by rw [← Int.mul_assoc, Int.mul_comm b 2, Int.mul_assoc]
    omega
  split
  · rename_i hc
    have e2 : 2 * d + t = (2 * (d % b) + t - b) + b * (2 * (d / b) + 1) := by
      rw [Int.mul_add, Int.mul_one]
      omega
    rw [e2, Int.add_mul_ediv_left _ _ (by omega : b ≠ 0), Int.add_mul_emod_self_left, Int.ediv_eq_zero_of_lt (by omega) (by omega), Int.emod_eq_of_lt (by omega) (by omega)]
    omega
  · rename_i hc
    have e2 : 2 * d + t = (2 * (d % b) + t) + b * (2 * (d / b)) := by omega
    rw [e2, Int.add_mul_ediv_left _ _ (by omega : b ≠ 0), Int.add_mul_emod_self_left, Int.ediv_eq_zero_of_lt (by omega) (by omega), Int.emod_eq_of_lt (by omega) (by omega)]
    omega

theorem step {a b q r : Int} {k : Nat} (hk : k < 64) (ha : inU a) (hb : inU b) (hp : 0 < b) (hr : r = a / 2 ^ (k + 1) % b) (hq : q = a / 2 ^ (k + 1) / b * 2 ^ (k + 1)) :
    cond (ov a b r (k : Int)) (litBin .add .u64 q (litBin .shl .u64 1 (k : Int))) q = a / 2 ^ k / b * 2 ^ k ∧ cond (ov a b r (k : Int)) (litBin .sub .u64 (r2 a r (k : Int)) b) (r2 a r (k : Int)) = a / 2 ^ k % b := by
  have hs := half_step a k
  have hpk := pow_pos' k
  have hc0 : 0 ≤ a / 2 ^ k := Int.ediv_nonneg ha.1 (Int.le_of_lt hpk)
  have hd0 : 0 ≤ a / 2 ^ (k + 1) := Int.ediv_nonneg ha.1 (Int.le_of_lt (pow_pos' (k + 1)))
  obtain ⟨g1, g2⟩ := div_bit (d := a / 2 ^ (k + 1)) (b := b) (t := a / 2 ^ k % 2) hp hd0 (by omega)
  rw [← hs] at g1 g2
  have hr0 := Int.emod_nonneg (a / 2 ^ (k + 1)) (by omega : b ≠ 0)
  have hr1 := Int.emod_lt_of_pos (a / 2 ^ (k + 1)) hp
  rw [← hr] at hr0 hr1 g1 g2
  unfold inU at ha hb
  have hle : a / 2 ^ k / b * 2 ^ k ≤ a := by
    have h1 : a / 2 ^ k / b ≤ a / 2 ^ k := Int.ediv_le_self _ hc0
    have h2 := Int.mul_le_mul_of_nonneg_right h1 (Int.le_of_lt hpk)
    have h3 := Int.ediv_mul_le a (by omega : (2 : Int) ^ k ≠ 0)
    omega
  have hq0 : 0 ≤ a / 2 ^ (k + 1) / b * 2 ^ k := Int.mul_nonneg (Int.ediv_nonneg hd0 (by omega)) (Int.le_of_lt hpk)
  have hq2 : q = 2 * (a / 2 ^ (k + 1) / b * 2 ^ k) := by
    rw [hq, Int.pow_succ, Int.mul_comm (2 ^ k) 2, ← Int.mul_assoc, Int.mul_comm _ 2, Int.mul_assoc]
  have e1 : r2 a r (k : Int) = (r * 2 % 18446744073709551616 + a / 2 ^ k % 2) % 18446744073709551616 := by
    unfold r2
    rw [shr_pu a (by omega), rem2 hc0, mul_eq, add_eq]
  have e2 : litBin .shl .u64 1 (k : Int) = 2 ^ k := by
    rw [shl_p 1 (by omega), Int.one_mul]
    exact Int.emod_eq_of_lt (Int.le_of_lt hpk) (pow_lt' hk)
  have e3 : ov a b r (k : Int) = decide (b ≤ 2 * r + a / 2 ^ k % 2) := by
    unfold ov
    rw [geq_eq, geq_eq, e1]
    by_cases h : 9223372036854775808 ≤ r
    · rw [decide_eq_true h, cond_true]
      symm
      exact decide_eq_true (by omega)
    · rw [decide_eq_false h, cond_false]
      exact decide_eq_decide.2 (by omega)
  rw [e3, e2, e1, g2]
  by_cases h : b ≤ 2 * r + a / 2 ^ k % 2
  · rw [if_pos h] at g1
    have e4 : a / 2 ^ k / b * 2 ^ k = 2 * (a / 2 ^ (k + 1) / b * 2 ^ k) + 2 ^ k := by rw [g1, Int.add_mul, Int.one_mul, Int.mul_assoc]
    rw [decide_eq_true h, cond_true, cond_true, if_pos h, add_eq, sub_eq]
    generalize a / 2 ^ k / b * 2 ^ k = A at *
    generalize a / 2 ^ (k + 1) / b * 2 ^ k = B at *
    generalize (2 : Int) ^ k = p at *
    constructor <;> omega
  · rw [if_neg h] at g1
    have e4 : a / 2 ^ k / b * 2 ^ k = 2 * (a / 2 ^ (k + 1) / b * 2 ^ k) := by rw [g1, Int.mul_assoc]
    rw [decide_eq_false h, cond_false, cond_false, if_neg h, e4, hq2]
    refine ⟨rfl, ?_⟩
    omega

theorem round (e0 e : Env DC) (h : I e0 e) : RoundT (I e0) (fun e => ((e.i.getD 4 0) + 1).toNat) (F e0) 0 e (viewT tm 0 (fun _ => []) (tm.fill e) (ev Try.prog cx 67 400 (.code (loopAt Try.prog 67 0)) (tm.fill e))) := by
  obtain ⟨a, b, q, r, k, rfl, rfl, hk, ha, hb, hp, hr, hq⟩ := h
  cases k with
  | zero =>
    refine ⟨_, _, route_at (ends a b q r (((0 : Nat) : Int) - 1)) rfl, .inr ⟨rfl, _, rfl, a, b, rfl, ?_⟩⟩
    rw [hr, hq, Int.pow_zero, Int.ediv_one, Int.mul_one]
    rfl
  | succ k =>
    have ek : ((k + 1 : Nat) : Int) - 1 = (k : Int) := by omega
    rw [ek]
    obtain ⟨h1, h2⟩ := step (by omega) ha hb hp hr hq
    refine ⟨_, _, route_at (goes a b q r (k : Int)) ?_, .inl ⟨rfl, _, rfl, ⟨a, b, a / 2 ^ k / b * 2 ^ k, a / 2 ^ k % b, k, rfl, ?_, by omega, ha, hb, hp, rfl, rfl⟩, ?_⟩⟩
    · rw [geq_eq, lss_eq, decide_eq_true (by omega), decide_eq_false (by omega)]
      simp only [Bool.not_false, Bool.cond_self, Bool.and_self]
    · rw [h1, h2, subi1 k (by omega)]
    · simp only [List.getD_cons_succ, List.getD_cons_zero]
      rw [subi1 k (by omega)]
      omega

theorem X_ok : Ok Try.prog X := by
  refine cx_ok.block (by kernel_rfl) fun hw s r hr => loopSumF_ok (I := I) (m := fun _ e => ((e.i.getD 4 0) + 1).toNat) (Fin := F) cx_ok (fun e he => of_yes he) round ?_ hw s r hr
  rintro e0 e1 ⟨a, b, rfl, rfl⟩
  kernel_rfl
end Plain
noncomputable def askP (a b : Int) : Bool := Plain.ask ⟨[a, b, 0, 0, 63], [], [], []⟩
set_option maxRecDepth 100000 in
theorem plain1 (a b : Int) : ((call Try.prog Plain.X 380 67 [.int .u64 (.sym a), .int .u64 (.sym b)] []).route [true]).map (fun p => (p.1, p.2.1)) = some ([askP a b], .val (.tuple [.int .u64 (.sym (a / b)), .int .u64 (.sym (a % b))])) := by kernel_rfl
theorem askP_of {a b : Int} (ha : inU a) (hb : inU b) (hp : 0 < b) : askP a b = true := by
  have h : a / 2 ^ 64 = 0 := Int.ediv_eq_zero_of_lt ha.1 ha.2
  refine yes_of ⟨a, b, 0, 0, 64, rfl, rfl, Nat.le_refl _, ha, hb, hp, ?_, ?_⟩
  · rw [h, Int.zero_emod]
  · rw [h, Int.zero_ediv, Int.zero_mul]

/-! ### A shift, one by one -/
/-- What a shift comes to. -/
def shW (x by' k : Int) : Int := cond (litCmp .eql k 0) (litBin .shl .u64 x (litBin .and .i64 by' 63)) (cond (litCmp .eql k 1) (litBin .shr .u64 x (litBin .and .i64 by' 63)) (cond (litCmp .eql k 2) (IntKind.wrap .u64 (litBin .shr .i64 (IntKind.wrap .i64 x) (litBin .and .i64 by' 63))) x))
theorem and63 (x : Int) : ∃ n : Nat, n < 64 ∧ litBin .and .i64 x 63 = (n : Int) := by
  have e : (BitVec.ofInt 64 x &&& BitVec.ofInt 64 63).toNat = (BitVec.ofInt 64 x).toNat % 64 := by
    rw [BitVec.toNat_and]
    exact Nat.and_two_pow_sub_one_eq_mod _ 6
  have e2 : litBin .and .i64 x 63 = IntKind.i64.wrap (((BitVec.ofInt 64 x).toNat % 64 : Nat) : Int) := congrArg (fun n : Nat => IntKind.i64.wrap (n : Int)) e
  refine ⟨(BitVec.ofInt 64 x).toNat % 64, Nat.mod_lt _ (by decide), ?_⟩
  have := Nat.mod_lt (BitVec.ofInt 64 x).toNat (by decide : 0 < 64)
  rw [e2, wrapi]
  omega
namespace Shift
def tm : Tmpl := { slots := [.int .u64, .int .i64, .int .i64] ++ List.replicate 4 .skip ++ [.int .i64] ++ List.replicate 26 .skip, heap := [] }
def tm' : Tmpl := { slots := [.int .u64, .int .i64, .int .i64] ++ List.replicate 31 .skip, heap := [] }
def res (e : Env DC) : Env DC := ⟨[shW (e.i.getD 0 0) (e.i.getD 1 0) (e.i.getD 2 0), e.i.getD 1 0, e.i.getD 2 0], [], [], []⟩
def nx (x k : Int) : Int := cond (litCmp .eql k 0) (litBin .mul .u64 x 2) (cond (litCmp .eql k 1) (litBin .quo .u64 x 2) (cond (litCmp .eql k 2) (litBin .add .u64 (litBin .quo .u64 x 2) (litBin .shl .u64 (litBin .quo .u64 x 9223372036854775808) 63)) x))
set_option maxRecDepth 100000 in
theorem goes (x y k i : Int) : (viewT tm 0 (fun _ => []) (tm.fill ⟨[x, y, k, i], [], [], []⟩) (ev Try.prog cx 46 400 (.code (loopAt Try.prog 46 0)) (tm.fill ⟨[x, y, k, i], [], [], []⟩))).route [true] =
    some ([litCmp .lss i (litBin .and .i64 y 63)], (.normal, some ⟨[nx x k, y, k, litBin .add .i64 i 1], [], [], []⟩)) := by kernel_rfl
set_option maxRecDepth 100000 in
theorem ends (x y k i : Int) : (viewT tm 0 (fun _ => []) (tm.fill ⟨[x, y, k, i], [], [], []⟩) (ev Try.prog cx 46 400 (.code (loopAt Try.prog 46 0)) (tm.fill ⟨[x, y, k, i], [], [], []⟩))).route [false] =
    some ([litCmp .lss i (litBin .and .i64 y 63)], (.exit 0, some ⟨[x, y, k, i], [], [], []⟩)) := by kernel_rfl

/-- The state behind j rounds. -/
def at' (x k : Int) (j : Nat) : Int := cond (litCmp .eql k 0) (x * 2 ^ j % 18446744073709551616) (cond (litCmp .eql k 1) (x / 2 ^ j) (cond (litCmp .eql k 2) (IntKind.wrap .i64 x / 2 ^ j % 18446744073709551616) x))
def I (e0 e : Env DC) : Prop := ∃ (x y k : Int) (n j : Nat), e0 = ⟨[x, y, k, 0], [], [], []⟩ ∧ e = ⟨[at' x k j, y, k, (j : Int)], [], [], []⟩ ∧ litBin .and .i64 y 63 = (n : Int) ∧ n < 64 ∧ j ≤ n ∧ inU x
def F (e0 e : Env DC) : Prop := ∃ (x y k : Int) (n : Nat), e0 = ⟨[x, y, k, 0], [], [], []⟩ ∧ e = ⟨[shW x y k, y, k, (n : Int)], [], [], []⟩
noncomputable def ask (e : Env DC) : Bool := yes (I e e)
noncomputable def X : Cx DC := cx.block 46 0 (loopSumF (D := DC) tm tm' 0 [] ask res)

theorem div_next (x : Int) (j : Nat) : x / 2 ^ j / 2 = x / 2 ^ (j + 1) := by
  have hp := pow_pos' j
  rw [Int.pow_succ, Int.ediv_ediv, if_neg (fun h => by omega), Int.sub_zero]
theorem next (x k : Int) (j : Nat) (hx : inU x) : nx (at' x k j) k = at' x k (j + 1) := by
  unfold nx at'
  have hd := div_next x j
  have hd2 := div_next (IntKind.wrap .i64 x) j
  have h0 : 0 ≤ x / 2 ^ j := Int.ediv_nonneg hx.1 (Int.le_of_lt (pow_pos' j))
  have h1 : x / 2 ^ j ≤ x := Int.ediv_le_self _ hx.1
  have hw : -9223372036854775808 ≤ IntKind.wrap .i64 x ∧ IntKind.wrap .i64 x < 9223372036854775808 := by
    rw [wrapi]
    omega
  cases litCmp .eql k 0
  · rw [cond_false, cond_false, cond_false]
    cases litCmp .eql k 1
    · rw [cond_false, cond_false, cond_false]
      cases litCmp .eql k 2
      · rfl
      · rw [cond_true, cond_true, cond_true, ← hd2]
        have hp := pow_pos' j
        have hlo : -9223372036854775808 ≤ IntKind.wrap .i64 x / 2 ^ j := by
          have : -9223372036854775808 * 2 ^ j ≤ IntKind.wrap .i64 x := by
            have := Int.mul_le_mul_of_nonneg_left (by omega : (1 : Int) ≤ 2 ^ j) (by decide : (0 : Int) ≤ 9223372036854775808)
            omega
          exact (Int.le_ediv_iff_mul_le hp).2 this
        have hhi : IntKind.wrap .i64 x / 2 ^ j < 9223372036854775808 := by
          refine (Int.ediv_lt_iff_lt_mul hp).2 ?_
          have := Int.mul_le_mul_of_nonneg_left (by omega : (1 : Int) ≤ 2 ^ j) (by decide : (0 : Int) ≤ 9223372036854775808)
          omega
        generalize IntKind.wrap .i64 x / 2 ^ j = z at *
        rw [quo_n (by omega), quo_n (by omega), shl63, add_eq]
        omega
    · rw [cond_true, cond_true, cond_true, ← hd, quo_n h0]
      unfold inU at hx
      omega
  · rw [cond_true, cond_true, cond_true, mul_eq, Int.pow_succ, ← Int.mul_assoc]
    omega

theorem last (x y k : Int) (n : Nat) (h : litBin .and .i64 y 63 = (n : Int)) (hn : n < 64) : at' x k n = shW x y k := by
  unfold at' shW
  rw [h, shl_p x (by omega), shr_pu x (by omega), shr_pi _ (by omega), Ev.wrap64]

theorem round (e0 e : Env DC) (h : I e0 e) : RoundT (I e0) (fun e => (64 - (e.i.getD 3 0)).toNat) (F e0) 0 e (viewT tm 0 (fun _ => []) (tm.fill e) (ev Try.prog cx 46 400 (.code (loopAt Try.prog 46 0)) (tm.fill e))) := by
  obtain ⟨x, y, k, n, j, rfl, rfl, hy, hn, hj, hx⟩ := h
  by_cases hlt : j < n
  · refine ⟨_, _, route_at (goes _ y k (j : Int)) ?_, .inl ⟨rfl, _, rfl, ⟨x, y, k, n, j + 1, rfl, ?_, hy, hn, hlt, hx⟩, ?_⟩⟩
    · rw [hy, lss_eq, decide_eq_true (by omega)]
    · rw [next x k j hx, addi1 j (by omega)]
    · simp only [List.getD_cons_succ, List.getD_cons_zero]
      rw [addi1 j (by omega)]
      omega
  · have : j = n := by omega
    subst this
    refine ⟨_, _, route_at (ends _ y k (j : Int)) ?_, .inr ⟨rfl, _, rfl, x, y, k, j, rfl, ?_⟩⟩
    · rw [hy, lss_eq, decide_eq_false (by omega)]
    · rw [last x y k j hy hn]

theorem X_ok : Ok Try.prog X := by
  refine cx_ok.block (by kernel_rfl) fun hw s r hr => loopSumF_ok (I := I) (m := fun _ e => (64 - (e.i.getD 3 0)).toNat) (Fin := F) cx_ok (fun e he => of_yes he) round ?_ hw s r hr
  rintro e0 e1 ⟨x, y, k, n, rfl, rfl⟩
  kernel_rfl
end Shift
noncomputable def askS (x y k : Int) : Bool := Shift.ask ⟨[x, y, k, 0], [], [], []⟩
set_option maxRecDepth 100000 in
theorem shift1 (x y k : Int) : ((call Try.prog Shift.X 380 46 [.int .u64 (.sym x), .int .i64 (.sym y), .int .i64 (.sym k)] []).route [true]).map (fun p => (p.1, p.2.1)) = some ([askS x y k], .val (.int .u64 (.sym (shW x y k)))) := by kernel_rfl
theorem askS_of {x : Int} (y k : Int) (hx : inU x) : askS x y k = true := by
  obtain ⟨n, hn, e⟩ := and63 y
  refine yes_of ⟨x, y, k, n, 0, rfl, ?_, e, hn, Nat.zero_le _, hx⟩
  have : Shift.at' x k 0 = x := by
    unfold Shift.at'
    unfold inU at hx
    rw [Int.pow_zero, Int.mul_one, Int.ediv_one, Int.ediv_one, Int.emod_eq_of_lt hx.1 hx.2, wrapi]
    have : ((x + 9223372036854775808) % 18446744073709551616 - 9223372036854775808) % 18446744073709551616 = x := by omega
    rw [this]
    cases litCmp .eql k 0 <;> cases litCmp .eql k 1 <;> cases litCmp .eql k 2 <;> rfl
  rw [this]
  rfl

/-! ### The summaries -/
def g41 (args : List (AV DC)) (h : List (AO DC)) : Option (T DC (AV DC × List (W DC))) := match args with
  | [.int .u64 a, .int .u64 b, .bool s, .bool t] => some (.br (inB a.den && inB b.den) (.ret (.int .u64 (.sym (hiR a.den b.den s.den t.den)), [])) .fail)
  | _ => none
def g67 (args : List (AV DC)) (h : List (AO DC)) : Option (T DC (AV DC × List (W DC))) := match args with
  | [.int .u64 a, .int .u64 b] => some (.br (inB a.den && (inB b.den && decide (0 < b.den))) (.ret (.tuple [.int .u64 (.sym (a.den / b.den)), .int .u64 (.sym (a.den % b.den))], [])) .fail)
  | _ => none
def g46 (args : List (AV DC)) (h : List (AO DC)) : Option (T DC (AV DC × List (W DC))) := match args with
  | [.int .u64 x, .int .i64 y, .int .i64 k] => some (.br (inB x.den) (.ret (.int .u64 (.sym (shW x.den y.den k.den)), [])) .fail)
  | _ => none
noncomputable def cxl1 : Cx DC := cx.sum 41 g41
noncomputable def cxl2 : Cx DC := cxl1.sum 67 g67
noncomputable def cxl : Cx DC := cxl2.sum 46 g46
theorem cxl1_ok : Ok Try.prog cxl1 := cx_ok.sum (by kernel_rfl) fun args h t r ht hp => by
  unfold g41 at ht
  split at ht
  · rename_i a b s t
    cases ht
    rcases T.br_some hp with ⟨h1, h2⟩ | ⟨_, h2⟩
    · have := T.ret_some h2
      subst this
      simp only [Bool.and_eq_true, inB_iff] at h1
      obtain ⟨l, hl⟩ := road_at (high1 a.den b.den s.den t.den) (by rw [askH_of _ _ h1.1 h1.2])
      exact pureV High.X_ok hl ⟨⟨rfl, rfl⟩, ⟨rfl, rfl⟩, rfl, rfl, trivial⟩ fun σ => ⟨rfl, rfl⟩
    · cases h2
  · cases ht
theorem cxl2_ok : Ok Try.prog cxl2 := cxl1_ok.sum (by kernel_rfl) fun args h t r ht hp => by
  unfold g67 at ht
  split at ht
  · rename_i a b
    cases ht
    rcases T.br_some hp with ⟨h1, h2⟩ | ⟨_, h2⟩
    · have := T.ret_some h2
      subst this
      simp only [Bool.and_eq_true, inB_iff, decide_eq_true_eq] at h1
      obtain ⟨l, hl⟩ := road_at (plain1 a.den b.den) (by rw [askP_of h1.1 h1.2.1 h1.2.2])
      exact pureV Plain.X_ok hl ⟨⟨rfl, rfl⟩, ⟨rfl, rfl⟩, trivial⟩ fun σ => ⟨⟨rfl, rfl⟩, ⟨rfl, rfl⟩, trivial⟩
    · cases h2
  · cases ht
theorem cxl_ok : Ok Try.prog cxl := cxl2_ok.sum (by kernel_rfl) fun args h t r ht hp => by
  unfold g46 at ht
  split at ht
  · rename_i x y k
    cases ht
    rcases T.br_some hp with ⟨h1, h2⟩ | ⟨_, h2⟩
    · have := T.ret_some h2
      subst this
      rw [inB_iff] at h1
      obtain ⟨l, hl⟩ := road_at (shift1 x.den y.den k.den) (by rw [askS_of _ _ h1])
      exact pureV Shift.X_ok hl ⟨⟨rfl, rfl⟩, ⟨rfl, rfl⟩, ⟨rfl, rfl⟩, trivial⟩ fun σ => ⟨rfl, rfl⟩
    · cases h2
  · cases ht
end Go.Proofs.Ytgljicadcegilaa.Ev
