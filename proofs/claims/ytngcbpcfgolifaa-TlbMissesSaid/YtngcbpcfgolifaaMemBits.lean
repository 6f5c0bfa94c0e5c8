/- Numbers in bytes: what is read and written, as terms. Conditions: none. -/
import Derived.Test.YtngcbpcfgolifaaCx
import Derived.Test.YtngcbpcfgolifaaEvBits
namespace Go.Proofs.Ytngcbpcfgolifaa.Ev
open Go.RowKit
set_option linter.unusedVariables false
set_option linter.unusedSimpArgs false

def inI (x : Int) : Prop := -9223372036854775808 ≤ x ∧ x < 9223372036854775808
theorem wrapi (x : Int) : IntKind.i64.wrap x = (x + 9223372036854775808) % 18446744073709551616 - 9223372036854775808 := by
  simp [IntKind.wrap, IntKind.signed, IntKind.bits]
  split <;> omega
theorem wrapb (x : Int) : IntKind.u8.wrap x = x % 256 := by simp [IntKind.wrap, IntKind.signed, IntKind.bits]
theorem mulu (x y : Int) : litBin .mul .u64 x y = (x * y) % 18446744073709551616 := wrap64 _
theorem addi (x y : Int) : litBin .add .i64 x y = (x + y + 9223372036854775808) % 18446744073709551616 - 9223372036854775808 := wrapi _

def off (x : Int) : Nat := (litBin .sub .u64 x 2147483648).toNat
def okS (N : Nat) (x n : Int) : Bool := decide (0 ≤ n ∧ 2147483648 ≤ x ∧ x + n ≤ 2147483648 + N)
def num (n : Int) : Bool := decide (n = 1 ∨ n = 2 ∨ n = 4 ∨ n = 8)
def le (f : Nat → Int) : Nat → Nat → Int
  | _, 0 => 0
  | o, k + 1 => f o + 256 * le f (o + 1) k
def putS (f : Nat → Int) (o k : Nat) (v : Int) : Nat → Int := fun i => if o ≤ i ∧ i < o + k then v / 256 ^ (i - o) % 256 else f i
def getS (f : Nat → Int) (N : Nat) (x n : Int) : Int := cond (num n && okS N x n) (le f (off x) n.toNat) 0
def putF (f : Nat → Int) (N : Nat) (x n v : Int) : Nat → Int := cond (num n && okS N x n) (putS f (off x) n.toNat v) f

structure MemOk (N : Nat) (f : Nat → Int) : Prop where
  le : N ≤ 65536
  byte : ∀ i, i < N → 0 ≤ f i ∧ f i < 256

theorem MemOk.put {N : Nat} {f : Nat → Int} (h : MemOk N f) (x n v : Int) : MemOk N (putF f N x n v) := by
  refine ⟨h.le, fun i hi => ?_⟩
  unfold putF
  cases (num n && okS N x n)
  · exact h.byte i hi
  · simp only [cond_true, putS]
    split
    · omega
    · exact h.byte i hi
theorem MemOk.zero {N : Nat} (h : N ≤ 65536) : MemOk N (fun _ => 0) := ⟨h, fun _ _ => by omega⟩

theorem ok_off {N : Nat} {x n : Int} (h : okS N x n = true) (hx : inU x) : 0 ≤ n ∧ (off x : Int) = x - 2147483648 ∧ off x + n.toNat ≤ N := by
  have := of_decide_eq_true h
  have hx' := hx
  unfold inU at hx'
  have e : (off x : Int) = x - 2147483648 := by
    unfold off
    rw [sub_eq]
    omega
  exact ⟨this.1, e, by omega⟩

theorem le_bd {f : Nat → Int} {N : Nat} (hf : ∀ i, i < N → 0 ≤ f i ∧ f i < 256) : ∀ (k o : Nat), o + k ≤ N → 0 ≤ le f o k ∧ le f o k < 256 ^ k
  | 0, o, _ => by simp [le]
  | k + 1, o, h => by
    have h1 := le_bd hf k (o + 1) (by omega)
    have h2 := hf o (by omega)
    simp only [le]
    rw [Int.pow_succ]
    omega
theorem le_last (f : Nat → Int) : ∀ (k o : Nat), le f o (k + 1) = le f o k + f (o + k) * 256 ^ k
  | 0, o => by simp [le]
  | k + 1, o => by
    have h := le_last f k (o + 1)
    simp only [le] at h ⊢
    rw [h, show o + 1 + k = o + (k + 1) by omega, Int.pow_succ]
    have e : 256 * (f (o + (k + 1)) * 256 ^ k) = f (o + (k + 1)) * (256 ^ k * 256) := by
      rw [← Int.mul_assoc, Int.mul_comm 256 (f (o + (k + 1))), Int.mul_assoc, Int.mul_comm 256 (256 ^ k)]
    rw [Int.mul_add, e, Int.add_assoc]

theorem get_inU {N : Nat} {f : Nat → Int} (h : MemOk N f) {x n : Int} (hx : inU x) : inU (getS f N x n) := by
  unfold getS
  cases hb : (num n && okS N x n)
  · exact (⟨Int.le_refl _, by decide⟩ : inU 0)
  · simp only [Bool.and_eq_true] at hb
    obtain ⟨h1, h2⟩ := hb
    obtain ⟨a, b, c⟩ := ok_off h2 hx
    have h3 := le_bd h.byte n.toNat (off x) c
    rw [cond_true]
    unfold inU
    have hn := of_decide_eq_true h1
    rcases hn with rfl | rfl | rfl | rfl
    · have e : (256 : Int) ^ (1 : Int).toNat = 256 := by decide
      rw [e] at h3; omega
    · have e : (256 : Int) ^ (2 : Int).toNat = 65536 := by decide
      rw [e] at h3; omega
    · have e : (256 : Int) ^ (4 : Int).toNat = 4294967296 := by decide
      rw [e] at h3; omega
    · have e : (256 : Int) ^ (8 : Int).toNat = 18446744073709551616 := by decide
      rw [e] at h3; omega

/-! ### The code's way -/
def orC (f : Nat → Int) (o : Nat) : Nat → Int
  | 0 => 0
  | k + 1 => litBin .or .u64 (orC f o k) (litBin .shl .u64 (IntKind.wrap .u64 (f (o + k))) ((8 * k : Nat) : Int))
theorem or_step {a c : Nat} {k : Nat} (hk : k < 8) (ha : a < 256 ^ k) (hc : c < 256) : litBin .or .u64 (a : Int) (litBin .shl .u64 (IntKind.wrap .u64 (c : Int)) ((8 * k : Nat) : Int)) = ((a + c * 256 ^ k : Nat) : Int) := by
  have e0 : IntKind.wrap .u64 (c : Int) = (c : Int) := wrap_nat (by omega)
  have h256 : (256 : Nat) ^ k = 2 ^ (8 * k) := by rw [Nat.pow_mul]
  have hlt : c * 2 ^ (8 * k) < 18446744073709551616 := by
    have h1 : c * 2 ^ (8 * k) < 256 * 2 ^ (8 * k) := Nat.mul_lt_mul_of_pos_right hc (Nat.two_pow_pos _)
    have h2 : 256 * 2 ^ (8 * k) = 2 ^ (8 * (k + 1)) := by rw [Nat.mul_add, Nat.pow_add, Nat.mul_comm]
    have h3 : 2 ^ (8 * (k + 1)) ≤ 2 ^ 64 := Nat.pow_le_pow_right (by decide) (by omega)
    have h4 : (2 : Nat) ^ 64 = 18446744073709551616 := by decide
    omega
  have e1 : litBin .shl .u64 (c : Int) ((8 * k : Nat) : Int) = ((c * 2 ^ (8 * k) : Nat) : Int) := by
    show IntKind.u64.wrap ((c : Int) * 2 ^ (min (((8 * k : Nat) : Int).toNat) 64)) = _
    rw [Int.toNat_natCast, Nat.min_eq_left (by omega)]
    have : ((c : Int) * 2 ^ (8 * k)) = ((c * 2 ^ (8 * k) : Nat) : Int) := by simp
    rw [this, wrap_nat hlt]
  rw [h256] at ha ⊢
  have ha64 : a < 18446744073709551616 := by
    have h3 : 2 ^ (8 * k) ≤ 2 ^ 64 := Nat.pow_le_pow_right (by decide) (by omega)
    have h4 : (2 : Nat) ^ 64 = 18446744073709551616 := by decide
    omega
  rw [e0, e1, or_nat ha64 hlt]
  congr 1
  have h5 := Nat.shiftLeft_add_eq_or_of_lt ha c
  rw [Nat.shiftLeft_eq] at h5
  rw [Nat.or_comm, ← h5, Nat.add_comm]
theorem orC_eq {f : Nat → Int} {N : Nat} (hf : ∀ i, i < N → 0 ≤ f i ∧ f i < 256) : ∀ (k o : Nat), k ≤ 8 → o + k ≤ N → orC f o k = le f o k
  | 0, o, _, _ => rfl
  | k + 1, o, hk, h => by
    have ih := orC_eq hf k o (by omega) (by omega)
    have h1 := le_bd hf k o (by omega)
    have h2 := hf (o + k) (by omega)
    rw [le_last]
    show litBin .or .u64 (orC f o k) _ = _
    rw [ih]
    obtain ⟨a, ha⟩ := Int.eq_ofNat_of_zero_le h1.1
    obtain ⟨c, hc⟩ := Int.eq_ofNat_of_zero_le h2.1
    rw [ha] at h1 ⊢
    rw [hc] at h2 ⊢
    have ha2 : a < 256 ^ k := by
      have h3 : (a : Int) < ((256 ^ k : Nat) : Int) := by rw [Int.natCast_pow]; exact h1.2
      exact Int.ofNat_lt.1 h3
    rw [or_step (by omega) ha2 (by omega), Int.natCast_add, Int.natCast_mul, Int.natCast_pow]
    rfl
def putC (f : Nat → Int) (o : Nat) (v : Int) : Nat → Nat → Int
  | 0 => f
  | k + 1 => fun i => if i = o + k then IntKind.wrap .u8 (litBin .shr .u64 v ((8 * k : Nat) : Int)) else putC f o v k i
theorem putC_eq (f : Nat → Int) (o : Nat) {v : Int} (hv : inU v) : ∀ k, k ≤ 8 → putC f o v k = putS f o k v
  | 0, _ => by
    funext i
    simp only [putC, putS]
    rw [if_neg (by omega)]
  | k + 1, hk => by
    have ih := putC_eq f o hv k (by omega)
    funext i
    simp only [putC, ih, putS]
    by_cases hi : i = o + k
    · rw [if_pos hi, if_pos (by omega)]
      obtain ⟨n, rfl, hn⟩ := hv.nat
      rw [shr_nat n (8 * k) (by omega), Nat.shiftRight_eq_div_pow, wrapb]
      have h256 : (256 : Nat) ^ k = 2 ^ (8 * k) := by rw [Nat.pow_mul]
      rw [show i - o = k by omega, ← h256, Int.natCast_ediv, Int.natCast_pow]
      rfl
    · rw [if_neg hi]
      by_cases hj : o ≤ i ∧ i < o + k
      · rw [if_pos hj, if_pos (by omega)]
      · rw [if_neg hj, if_neg (by omega)]

/-! ### The reference's way -/
def ix (x : Int) (i : Nat) : Nat := (litBin .add .i64 (IntKind.wrap .i64 (litBin .sub .u64 x 2147483648)) (i : Int)).toNat
theorem ix_eq {N : Nat} (hN : N ≤ 65536) {x n : Int} (h : okS N x n = true) (hx : inU x) {i : Nat} (hi : i ≤ 8) : ix x i = off x + i := by
  obtain ⟨a, b, c⟩ := ok_off h hx
  unfold ix
  have e : litBin .sub .u64 x 2147483648 = (off x : Int) := by
    unfold off
    rw [sub_eq]
    omega
  rw [e]
  generalize off x = o at *
  clear e h b hx
  rw [addi, wrapi]
  have h1 : ((o : Int) + 9223372036854775808) % 18446744073709551616 = (o : Int) + 9223372036854775808 := Int.emod_eq_of_lt (by omega) (by omega)
  rw [h1]
  have h2 : (o : Int) + 9223372036854775808 - 9223372036854775808 + (i : Int) + 9223372036854775808 = ((o + i : Nat) : Int) + 9223372036854775808 := by omega
  rw [h2, Int.emod_eq_of_lt (by omega) (by omega)]
  omega
def refC (f : Nat → Int) (x : Int) : Nat → Nat → Int
  | 0, _ => 0
  | k + 1, i => litBin .add .u64 (litBin .mul .u64 (refC f x k (i + 1)) 256) (IntKind.wrap .u64 (f (ix x i)))
theorem refC_eq {f : Nat → Int} {N : Nat} (hf : MemOk N f) {x n : Int} (h : okS N x n = true) (hx : inU x) : ∀ (k i : Nat), i + k ≤ 8 → off x + i + k ≤ N → refC f x k i = le f (off x + i) k
  | 0, i, _, _ => rfl
  | k + 1, i, hk, hN => by
    have ih := refC_eq hf h hx k (i + 1) (by omega) (by omega)
    show litBin .add .u64 (litBin .mul .u64 (refC f x k (i + 1)) 256) _ = f (off x + i) + 256 * le f (off x + i + 1) k
    rw [ih, ix_eq hf.le h hx (by omega), mulu, add_eq, Ev.wrap64, show off x + (i + 1) = off x + i + 1 by omega]
    have h1 := le_bd hf.byte k (off x + i + 1) (by omega)
    have h2 := hf.byte (off x + i) (by omega)
    have h3 : (256 : Int) ^ k ≤ 72057594037927936 := by
      have h5 : (256 : Nat) ^ k ≤ 256 ^ 7 := Nat.pow_le_pow_right (by decide) (by omega)
      have h4 : (256 : Nat) ^ 7 = 72057594037927936 := by decide
      rw [h4] at h5
      have h6 : ((256 ^ k : Nat) : Int) ≤ ((72057594037927936 : Nat) : Int) := Int.ofNat_le.2 h5
      rw [Int.natCast_pow] at h6
      exact h6
    omega
def putR (f : Nat → Int) (x : Int) : Nat → Nat → Int → Nat → Int
  | 0, _, _ => f
  | k + 1, i, v => putR (fun j => if j = ix x i then IntKind.wrap .u8 (litBin .rem .u64 v 256) else f j) x k (i + 1) (litBin .quo .u64 v 256)
theorem putR_eq {N : Nat} (hN : N ≤ 65536) {x n : Int} (h : okS N x n = true) (hx : inU x) : ∀ (k i : Nat) (f : Nat → Int) (v : Int), inU v → i + k ≤ 8 → putR f x k i v = putS f (off x + i) k v
  | 0, i, f, v, _, _ => by
    funext j
    simp only [putR, putS]
    rw [if_neg (by omega)]
  | k + 1, i, f, v, hv, hk => by
    have e1 : litBin .quo .u64 v 256 = v / 256 := by
      show IntKind.u64.wrap (v.tdiv 256) = _
      rw [Int.tdiv_eq_ediv_of_nonneg hv.1, Ev.wrap64]
      unfold inU at hv
      omega
    have e2 : IntKind.wrap .u8 (litBin .rem .u64 v 256) = v % 256 := by
      show IntKind.u8.wrap (v.tmod 256) = _
      rw [Int.tmod_eq_emod_of_nonneg hv.1, wrapb]
      omega
    have hv2 : inU (v / 256) := by unfold inU at hv ⊢; omega
    simp only [putR]
    rw [e1, e2, ix_eq hN h hx (by omega), putR_eq hN h hx k (i + 1) _ _ hv2 (by omega)]
    funext j
    simp only [putS]
    by_cases hj : j = off x + i
    · rw [if_neg (by omega), if_pos hj, if_pos (by omega), hj, Nat.sub_self, Int.pow_zero, Int.ediv_one]
    · by_cases hj2 : off x + (i + 1) ≤ j ∧ j < off x + (i + 1) + k
      · rw [if_pos hj2, if_pos (by omega)]
        obtain ⟨d, hd⟩ : ∃ d, j - (off x + (i + 1)) = d := ⟨_, rfl⟩
        rw [hd, show j - (off x + i) = d + 1 by omega, Int.pow_succ, Int.mul_comm, Int.ediv_ediv_of_nonneg (by decide)]
      · rw [if_neg hj2, if_neg hj, if_neg (by omega)]
end Go.Proofs.Ytngcbpcfgolifaa.Ev
