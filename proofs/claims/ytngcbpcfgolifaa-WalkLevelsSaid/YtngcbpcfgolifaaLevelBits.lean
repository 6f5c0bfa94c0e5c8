/- Memory of one entry at each level, and where a walk of it ends. Conditions: none. -/
import Derived.Test.YtngcbpcfgolifaaStrs
namespace Go.Proofs.Ytngcbpcfgolifaa.Ev
open Go.RowKit
set_option linter.unusedVariables false
set_option linter.unusedSimpArgs false

theorem subu (x y : Int) : litBin .sub .u64 x y = (x - y) % 18446744073709551616 := wrap64 _
theorem addu (x y : Int) : litBin .add .u64 x y = (x + y) % 18446744073709551616 := wrap64 _

/-! ### Numbers in memory -/
theorem le_put (F : Nat → Int) (o n : Nat) (v : Int) : ∀ (k j : Nat), j + k ≤ n → le (putS F o n v) (o + j) k = v / 256 ^ j % 256 ^ k
  | 0, j, _ => by
    show (0 : Int) = _ % (1 : Int)
    omega
  | k + 1, j, h => by
    have ih := le_put F o n v k (j + 1) (by omega)
    have h0 : putS F o n v (o + j) = v / 256 ^ j % 256 := by
      unfold putS
      rw [if_pos ⟨by omega, by omega⟩, Nat.add_sub_cancel_left]
    have e : v / 256 ^ (j + 1) = v / 256 ^ j / 256 := by
      rw [Int.pow_succ, Int.ediv_ediv_of_nonneg (Int.le_of_lt (Int.pow_pos (by decide)))]
    simp only [le]
    rw [h0, Nat.add_assoc, ih, e, Int.pow_succ]
    generalize v / 256 ^ j = x
    have hm : (0 : Int) < 256 ^ k := Int.pow_pos (by decide)
    generalize (256 : Int) ^ k = m at hm
    have h1 := Int.emod_add_mul_ediv (x / 256) m
    have h2 := Int.emod_nonneg (x / 256) (Int.ne_of_gt hm)
    have h3 := Int.emod_lt_of_pos (x / 256) hm
    generalize x / 256 % m = r at *
    generalize x / 256 / m = q at *
    have e2 : x = (256 * r + x % 256) + (m * 256) * q := by
      rw [Int.mul_assoc, Int.mul_left_comm]
      generalize m * q = t at *
      omega
    have e3 : x % (m * 256) = 256 * r + x % 256 := by
      have hlt : 256 * r + x % 256 < m * 256 := by omega
      rw [e2, Int.add_mul_emod_self_left]
      rw [← e2]
      exact Int.emod_eq_of_lt (by omega) hlt
    rw [e3]
    omega
theorem le_same (F : Nat → Int) (o : Nat) {v : Int} (hv : inU v) : le (putS F o 8 v) o 8 = v := by
  have := le_put F o 8 v 8 0 (by omega)
  rw [Nat.add_zero] at this
  rw [this]
  unfold inU at hv
  show v / 1 % 18446744073709551616 = v
  omega
theorem le_congr {f g : Nat → Int} : ∀ (k o : Nat), (∀ i, o ≤ i → i < o + k → f i = g i) → le f o k = le g o k
  | 0, _, _ => rfl
  | k + 1, o, h => by
    simp only [le]
    rw [h o (Nat.le_refl _) (by omega), le_congr k (o + 1) fun i h1 h2 => h i (by omega) (by omega)]
theorem le_zero : ∀ (k o : Nat), le (fun _ => 0) o k = 0
  | 0, _ => rfl
  | k + 1, o => by
    simp only [le]
    rw [le_zero k (o + 1)]
    rfl
theorem get_zero (N : Nat) (x : Int) : getS (fun _ => 0) N x 8 = 0 := by
  unfold getS
  cases num 8 && okS N x 8
  · rfl
  · exact le_zero _ _
theorem num8 : num 8 = true := by decide +kernel
theorem get_same {F : Nat → Int} {N : Nat} {x v : Int} (hx : okS N x 8 = true) (hv : inU v) : getS (putF F N x 8 v) N x 8 = v := by
  unfold getS putF
  rw [num8, hx]
  exact le_same F (off x) hv
theorem get_cases {F : Nat → Int} {N : Nat} {x y v : Int} (hv : inU v) (hx : inU x) (hy : inU y) (hx8 : x % 8 = 0) (hy8 : y % 8 = 0) :
    getS (putF F N x 8 v) N y 8 = v ∨ getS (putF F N x 8 v) N y 8 = getS F N y 8 := by
  cases hoy : okS N y 8
  · right
    unfold getS
    rw [hoy, num8]
    rfl
  · cases hox : okS N x 8
    · right
      unfold putF
      rw [hox, num8]
      rfl
    · by_cases e : x = y
      · subst e
        exact .inl (get_same hox hv)
      · right
        have o1 := (ok_off hox hx).2.1
        have o2 := (ok_off hoy hy).2.1
        unfold getS putF
        rw [hoy, hox, num8]
        refine le_congr _ _ fun i h1 h2 => ?_
        show (if off x ≤ i ∧ i < off x + 8 then _ else F i) = F i
        rw [if_neg]
        have h2' : i < off y + 8 := h2
        omega
theorem get_other {F : Nat → Int} {N : Nat} {x y v : Int} (hx : inU x) (hy : inU y) (hd : x + 8 ≤ y ∨ y + 8 ≤ x) : getS (putF F N x 8 v) N y 8 = getS F N y 8 := by
  cases hoy : okS N y 8
  · unfold getS
    rw [hoy, num8]
    rfl
  · cases hox : okS N x 8
    · unfold putF
      rw [hox, num8]
      rfl
    · have o1 := (ok_off hox hx).2.1
      have o2 := (ok_off hoy hy).2.1
      unfold getS putF
      rw [hoy, hox, num8]
      refine le_congr _ _ fun i h1 h2 => ?_
      show (if off x ≤ i ∧ i < off x + 8 then _ else F i) = F i
      rw [if_neg]
      have h2' : i < off y + 8 := h2
      omega

/-! ### Addresses of entries -/
theorem vpn_bd {v lv : Int} (hv : inU v) : 0 ≤ vpnS v lv ∧ vpnS v lv ≤ 511 := by
  unfold vpnS
  cases hk : kno lv
  · show (0 : Int) ≤ 0 ∧ (0 : Int) ≤ 511
    decide
  · have key : ∀ k : Nat, k ≤ 64 → 0 ≤ litBin .and .u64 (litBin .shr .u64 v (k : Int)) 511 ∧ litBin .and .u64 (litBin .shr .u64 v (k : Int)) 511 ≤ 511 := fun k h => by
      have e : litBin .and .u64 (litBin .shr .u64 v (k : Int)) 511 = litBin .shr .u64 v (k : Int) % 512 := and_low (hv.shr k h) 9 (by decide)
      rw [e]
      omega
    rcases kno_cases hk with rfl | rfl | rfl
    · exact key 12 (by decide)
    · exact key 21 (by decide)
    · exact key 30 (by decide)
theorem adr_val {p v lv : Int} (hp : 0 ≤ p ∧ p < 17592186044416) (hv : inU v) : adr p v lv = p * 4096 + 8 * vpnS v lv := by
  have h := vpn_bd (lv := lv) hv
  unfold adr
  rw [addu, mulu, mulu]
  omega
theorem adr_8 (p v lv : Int) : adr p v lv % 8 = 0 := by
  unfold adr
  rw [addu, mulu, mulu]
  omega
theorem tab_noleaf {e : Int} (he : inU e) (h : tabS e = true) : leafS e = false := by
  revert h
  unfold leafS tabS
  rw [mk1 he, mk6 he, mk10 he, mk222 he]
  simp only [List.all_cons, List.all_nil, Bool.and_true]
  generalize bit e 0 = b0
  generalize bit e 1 = b1
  generalize bit e 2 = b2
  generalize bit e 3 = b3
  generalize bit e 4 = b4
  generalize bit e 6 = b6
  generalize bit e 7 = b7
  generalize litCmp .eql (litBin .shr .u64 e 54) 0 = z
  revert b0 b1 b2 b3 b4 b6 b7 z
  decide +kernel
theorem may_leaf {e k pr st : Int} (h : mayS e k pr st = true) : leafS e = true := by
  unfold mayS at h
  cases hl : leafS e
  · rw [hl] at h; cases h
  · rfl

/-! ### Entries that are made -/
def lfS (pg fl : Int) : Int := litBin .or .u64 (litBin .shl .u64 (litBin .and .u64 pg 17592186044415) 10) (litBin .and .u64 (litBin .or .u64 (IntKind.wrap .u64 fl) 1) 1023)
theorem lf_inU (pg fl : Int) : inU (lfS pg fl) := inU.or _ _
theorem lf_page {pg fl : Int} (hp : 0 ≤ pg ∧ pg < 17592186044416) : pagS (lfS pg fl) = pg := by
  have hpU : inU pg := by unfold inU; omega
  rw [pag_val (lf_inU pg fl)]
  have e1 : litBin .and .u64 pg 17592186044415 = pg := by
    have : litBin .and .u64 pg 17592186044415 = pg % 17592186044416 := and_low hpU 44 (by decide)
    rw [this]
    omega
  have e2 : litBin .shl .u64 pg 10 = pg * 1024 := by
    show IntKind.u64.wrap (pg * 2 ^ (min ((10 : Int).toNat) 64)) = _
    rw [wrap64]
    show pg * 1024 % 18446744073709551616 = pg * 1024
    omega
  have hw : inU (litBin .or .u64 (IntKind.wrap .u64 fl) 1) := inU.or _ _
  have e3 : litBin .and .u64 (litBin .or .u64 (IntKind.wrap .u64 fl) 1) 1023 = litBin .or .u64 (IntKind.wrap .u64 fl) 1 % 1024 := and_low hw 10 (by decide)
  have hlow : 0 ≤ litBin .or .u64 (IntKind.wrap .u64 fl) 1 % 1024 ∧ litBin .or .u64 (IntKind.wrap .u64 fl) 1 % 1024 < 1024 := by omega
  unfold lfS
  rw [e1, e2, e3]
  generalize litBin .or .u64 (IntKind.wrap .u64 fl) 1 % 1024 = y at hlow
  obtain ⟨p, rfl⟩ : ∃ p : Nat, pg = (p : Int) := ⟨pg.toNat, by omega⟩
  obtain ⟨q, rfl⟩ : ∃ q : Nat, y = (q : Int) := ⟨y.toNat, by omega⟩
  rw [show ((p : Int) * 1024) = ((p * 1024 : Nat) : Int) by omega, or_nat (by omega) (by omega)]
  have e4 : p * 1024 ||| q = p * 1024 + q := by
    have := Nat.shiftLeft_add_eq_or_of_lt (a := p) (b := q) (i := 10) (by omega)
    rw [Nat.shiftLeft_eq] at this
    exact this.symm
  rw [e4]
  omega
def pgS (page lv : Int) : Int := litBin .shl .u64 (litBin .shr .u64 (litBin .rem .u64 page 17592186044416) (litBin .mul .i64 9 lv)) (litBin .mul .i64 9 lv)
theorem pg_val {page lv : Int} (hp : inU page) (hk : kno lv = true) : 0 ≤ pgS page lv ∧ pgS page lv < 17592186044416 ∧ pgS page lv % (sz lv / 4096) = 0 := by
  unfold pgS
  have e0 : litBin .rem .u64 page 17592186044416 = page % 17592186044416 := rem_emod hp _
  rw [e0]
  have hq : 0 ≤ page % 17592186044416 ∧ page % 17592186044416 < 17592186044416 := by omega
  generalize page % 17592186044416 = q at hq
  have key : ∀ k : Nat, k ≤ 64 → ∀ m : Int, (2 : Int) ^ k = m → litBin .shl .u64 (litBin .shr .u64 q (k : Int)) (k : Int) = (q / m * m) % 18446744073709551616 := fun k hk m hm => by
    rw [shr_ediv q k hk, hm]
    show IntKind.u64.wrap (q / m * 2 ^ (min (((k : Nat) : Int).toNat) 64)) = _
    rw [Int.toNat_natCast, Nat.min_eq_left hk, hm, wrap64]
  rcases kno_cases hk with rfl | rfl | rfl
  · have := key 0 (by decide) 1 rfl
    have e1 : litBin .shl .u64 (litBin .shr .u64 q (litBin .mul .i64 9 0)) (litBin .mul .i64 9 0) = (q / 1 * 1) % 18446744073709551616 := this
    rw [e1]
    refine ⟨by omega, by omega, ?_⟩
    show _ % (1 : Int) = 0
    omega
  · have := key 9 (by decide) 512 rfl
    have e1 : litBin .shl .u64 (litBin .shr .u64 q (litBin .mul .i64 9 1)) (litBin .mul .i64 9 1) = (q / 512 * 512) % 18446744073709551616 := this
    rw [e1]
    refine ⟨by omega, by omega, ?_⟩
    show _ % (512 : Int) = 0
    omega
  · have := key 18 (by decide) 262144 rfl
    have e1 : litBin .shl .u64 (litBin .shr .u64 q (litBin .mul .i64 9 2)) (litBin .mul .i64 9 2) = (q / 262144 * 262144) % 18446744073709551616 := this
    rw [e1]
    refine ⟨by omega, by omega, ?_⟩
    show _ % (262144 : Int) = 0
    omega
theorem ali_dec {e lv : Int} (he : inU e) (hk : kno lv = true) : aliS e lv = decide (pagS e % (sz lv / 4096) = 0) := by
  have hp := pag_inU he
  unfold aliS
  rw [hk, cond_true, eql_eq]
  rcases kno_cases hk with rfl | rfl | rfl
  · have h1 : litBin .and .u64 (pagS e) 0 = pagS e % 1 := and_low hp 0 (by decide)
    show decide (litBin .and .u64 (pagS e) 0 = 0) = decide (pagS e % 1 = 0)
    rw [h1]
  · have h1 : litBin .and .u64 (pagS e) 511 = pagS e % 512 := and_low hp 9 (by decide)
    show decide (litBin .and .u64 (pagS e) 511 = 0) = decide (pagS e % 512 = 0)
    rw [h1]
  · have h1 : litBin .and .u64 (pagS e) 262143 = pagS e % 262144 := and_low hp 18 (by decide)
    show decide (litBin .and .u64 (pagS e) 262143 = 0) = decide (pagS e % 262144 = 0)
    rw [h1]
theorem at_ali {e va lv : Int} (he : inU e) (hv : inU va) (hk : kno lv = true) (h : pagS e % (sz lv / 4096) = 0) : atS e va lv = pagS e * 4096 + va % sz lv := by
  rw [at_val he hv hk]
  generalize pagS e = p at *
  rcases kno_cases hk with rfl | rfl | rfl
  · have h' : p % 1 = 0 := h
    show p * 4096 / 4096 * 4096 + va % 4096 = p * 4096 + va % 4096
    omega
  · have h' : p % 512 = 0 := h
    show p * 4096 / 2097152 * 2097152 + va % 2097152 = p * 4096 + va % 2097152
    omega
  · have h' : p % 262144 = 0 := h
    show p * 4096 / 1073741824 * 1073741824 + va % 1073741824 = p * 4096 + va % 1073741824
    omega
end Go.Proofs.Ytngcbpcfgolifaa.Ev
