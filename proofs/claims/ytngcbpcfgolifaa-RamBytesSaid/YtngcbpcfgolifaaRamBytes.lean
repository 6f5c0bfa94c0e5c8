/- The statement 'RamBytes': bytes that are loaded are told, in whole and in part, and numbers are made of them; what is not there all is refused in whole. Conditions: none. -/
import Derived.Test.YtngcbpcfgolifaaRamCx
import Derived.Test.YtngcbpcfgolifaaHead
namespace Go.Proofs.Ytngcbpcfgolifaa.RamBytes
open Go.RowKit Go.WideShapes Go.ChangeShapes Go.ChangeAt Ev Ram
set_option linter.unusedVariables false
set_option linter.unusedSimpArgs false

def blt (F : Nat → Int) (a : Nat) (g : Nat → Int) (b n : Nat) : Nat → Int := fun i => if a ≤ i ∧ i < a + n then g (b + (i - a)) else F i
def byt (f : Nat → Int) : Nat → Int := fun i => (((f i).toNat % 256 : Nat) : Int)
def eqv (f : Nat → Int) (a : Nat) (g : Nat → Int) (b n : Nat) : Bool := (List.range n).all fun i => f (a + i) == g (b + i)
def toB (a : Int) : Int := litBin .add .u64 2147483648 (litBin .rem .u64 (IntKind.wrap .u64 a) 4096)
def cN (n : Nat) : Int := ((min n 300 : Nat) : Int)
def cnt (n : Nat) : Nat := cond (decide ((min n 300) ≤ (Int.toNat (cN n)))) (min n 300) (Int.toNat (cN n))
def fits (a : Int) (n : Nat) : Bool := litCmp .leq (litBin .add .i64 (IntKind.wrap .i64 (litBin .sub .u64 (toB a) 2147483648)) (cN n)) 4096
def F0 (a : Int) (B : Nat → Int) (n : Nat) : Nat → Int := blt (fun _ => 0) (off (toB a)) B 0 (cnt n)
def iB (p0 : Int) (n : Nat) : Int := litBin .rem .i64 (IntKind.wrap .i64 p0) (cN n)
def wB (p0 : Int) (n : Nat) : Int := litBin .add .i64 (litBin .sub .i64 (cN n) (iB p0 n)) 1
def nB (p0 p1 : Int) (n : Nat) : Int := litBin .rem .i64 (IntKind.wrap .i64 p1) (wB p0 n)
def atB (a p0 : Int) (n : Nat) : Int := litBin .add .u64 (toB a) (IntKind.wrap .u64 (iB p0 n))
def hB (p0 p1 : Int) (n : Nat) : Int := litBin .add .i64 (iB p0 n) (nB p0 p1 n)

/-! ### The loop -/
def sk (n : Nat) : List TV := List.replicate n .skip
def tZ : Tmpl := { slots := sk 13 ++ [.slice 5 0 .any, .skip, .int .i64] ++ sk 133, heap := [.skip, .skip, .skip, .skip, .skip, .rows 5 [.int .u8]] }
def e (I : Int) (n : Nat) (F : Nat → Int) : Env DC := ⟨[I], [], [n, n], [F]⟩
noncomputable def rd (s : St DC) : T DC (Ex DC × List (W DC)) := ev Try.prog cxr 6 200 (.code (loopAt Try.prog 6 0)) s
def lst (s : St DC) : List Nat := List.range 6
section
variable (I : Int) (n : Nat) (F : Nat → Int)
set_option maxRecDepth 100000 in
theorem rx : (viewT tZ 6 lst (tZ.fill (e I n F)) (rd (tZ.fill (e I n F)))).route [false] = some ([litCmp .lss I ((n : Nat) : Int)], (.exit 0, some (e I n F))) := by kernel_rfl
set_option maxRecDepth 100000 in
theorem rn : (viewT tZ 6 lst (tZ.fill (e I n F)) (rd (tZ.fill (e I n F)))).route [true, true, false] = some ([litCmp .lss I ((n : Nat) : Int), (decide (0 ≤ I ∧ I < ((n : Nat) : Int))) && (decide ((Int.toNat I) < n)), litCmp .neq (F (Int.toNat I)) 0], (.normal, some (e (litBin .add .i64 I 1) n F))) := by kernel_rfl
end
def Q (n : Nat) (F : Nat → Int) : Prop := n < 1000000 ∧ ∀ i, i < n → F i = 0
noncomputable def ask (v : Env DC) : Bool := yes (∃ n F, v = e 0 n F ∧ Q n F)
def res (v : Env DC) : Env DC := { v with i := [((v.n.getD 0 0 : Nat) : Int)] }
theorem natlt {i n : Nat} (h : i < n) : decide (0 ≤ (i : Int) ∧ (i : Int) < ((n : Nat) : Int)) = true := decide_eq_true ⟨by omega, by omega⟩
theorem lss_nat {k y : Nat} : litCmp .lss (k : Int) (y : Int) = decide (k < y) := by
  rw [lss_eq]
  congr 1
  apply propext
  omega
theorem step_i {i : Nat} (h : i < 1000000) : litBin .add .i64 (i : Int) 1 = ((i + 1 : Nat) : Int) := by
  rw [addi]
  omega
theorem blk (hw : Within Try.prog 6 (.block 0 (.loop (loopAt Try.prog 6 0)))) (s : St DC) (r : Ex DC × List (W DC)) (hr : (loopSumG (D := DC) tZ tZ 6 (List.range 6) ask res .normal s).pick = some r) (w0 : World) (own : List Nat) (ρ : List Rb) (a : Act) (w : World) (H : SR w0 own ρ s a w) :
    (Go.Code.block 0 (.loop (loopAt Try.prog 6 0))).wp Try.prog (CodePost w0 own ρ s r) a w := by
  refine loopSumG_ok (n := 200) (x1 := .exit 0) (G := Nat) (S := fun v k => tZ.fill { v with i := [(k : Int)] }) (I := fun v k => ∃ n F, v = e 0 n F ∧ Q n F ∧ k ≤ n) (m := fun v k => v.n.getD 0 0 - k) (g0 := fun _ => 0) cxr_ok (.inl ⟨rfl, rfl⟩) (fun v hv => ?_) (fun v g _ => Nat.le_refl 6) (fun v k hv hI => ?_) hw s r hr w0 own ρ a w H
  · obtain ⟨n, F, rfl, h⟩ := of_yes hv
    exact ⟨⟨n, F, rfl, h, Nat.zero_le _⟩, rfl⟩
  · obtain ⟨n, F, rfl, hq, hk⟩ := hI
    by_cases hkn : k = n
    · subst hkn
      exact view_out (S := fun (j : Nat) => tZ.fill (e (j : Int) k F)) (g := k) (route_at (rx (k : Int) k F) (show [_] = [false] by rw [lss_nat, decide_eq_false (Nat.lt_irrefl _)])) (by simp) (by simp) rfl
    · have hlt : k < n := by omega
      have hr := route_at (rn (k : Int) n F) (show [_, _, _] = [true, true, false] by rw [lss_nat, decide_eq_true hlt, natlt hlt, Int.toNat_natCast, decide_eq_true hlt, hq.2 k hlt]; rfl)
      rw [step_i (by have := hq.1; omega)] at hr
      exact view_next (S := fun (j : Nat) => tZ.fill (e (j : Int) n F)) (g := k) (g' := k + 1) hr rfl ⟨n, F, rfl, hq, hlt⟩ (by show n - (k + 1) < n - k; omega)
noncomputable def cxk : Cx DC := cxr.block 6 0 (loopSumG tZ tZ 6 (List.range 6) ask res .normal)
theorem cxk_ok : Ok Try.prog cxk := cxr_ok.block (by kernel_rfl) blk

/-! ### The roads -/
section
variable (a p0 p1 : Int) (n : Nat) (B : Nat → Int)
abbrev ags : List (AV DC) := [.slice 0 (.lit 0) (.rc n 1 0) .any, .int .u16 (.sym a), .agg [.int .u8 (.sym p0), .int .u8 (.sym p1)]]
def szT : Bool := decide ((0 : Int) ≤ 4096 ∧ (4096 : Int) < ((16777216 : Nat) : Int))
def cpT : Bool := (decide (((off (toB a)) + (cnt n)) ≤ 4096)) && (decide ((0 + (min n 300)) ≤ n))
noncomputable def gA (b : Bool) : Bool := cond (!(b == (fits a n))) true (askP 4096 4096 (toB a) (cN n))
def gB (b : Bool) : Bool := cond (!(b == (fits a n))) true (!((okS 4096 (toB a) (cN n)) == (fits a n)))
noncomputable def zT : Bool := (askP 4096 4096 2147483648 4096) && ((okS 4096 2147483648 4096) && (((decide (((off 2147483648) + 4096) ≤ 4096)) && (decide (4096 < 16777216))) && (ask (e 0 4096 (blt (fun _ => 0) 0 (fun _ => 0) (off 2147483648) 4096)))))
def mT0 : Bool := ((decide (((off (atB a p0 n)) + (Int.toNat (nB p0 p1 n))) ≤ 4096)) && (decide ((Int.toNat (nB p0 p1 n)) < 16777216)))
def mT1 : Bool := (decide ((min n 300) ≤ (min n 300))) && ((decide (0 ≤ (hB p0 p1 n) ∧ (hB p0 p1 n) < ((((min n 300) + 1 : Nat) : Nat) : Int))) && (decide (0 ≤ (iB p0 n) ∧ (iB p0 n) < ((((Int.toNat (hB p0 p1 n)) + 1 : Nat) : Nat) : Int))))
def mT2 : Bool := decide (((Int.toNat (iB p0 n)) + ((Int.toNat (hB p0 p1 n)) - (Int.toNat (iB p0 n)))) ≤ n)
def eqT : Bool := (decide ((Int.toNat (nB p0 p1 n)) = ((Int.toNat (hB p0 p1 n)) - (Int.toNat (iB p0 n))))) && (eqv (byt (blt (fun _ => 0) 0 (F0 a B n) (off (atB a p0 n)) (Int.toNat (nB p0 p1 n)))) 0 (byt B) (Int.toNat (iB p0 n)) (Int.toNat (nB p0 p1 n)))
noncomputable def mT : Bool := (mT0 a p0 p1 n) && ((askM 4096 4096 4096 (F0 a B n) (atB a p0 n) 1) && ((decide ((0 + (Int.toNat (nB p0 p1 n))) ≤ (Int.toNat (nB p0 p1 n)))) && ((mT1 p0 p1 n) && ((mT2 p0 p1 n) && (cond (eqT a p0 p1 n B) (cond (num 1 && okS 4096 (atB a p0 n) 1) ((decide (0 ≤ (iB p0 n) ∧ (iB p0 n) < (cN n))) && (decide ((Int.toNat (iB p0 n)) < n))) true) true)))))
def vB : Bool := cond (eqT a p0 p1 n B) (cond (num 1 && okS 4096 (atB a p0 n) 1) (litCmp .eql (getS (F0 a B n) 4096 (atB a p0 n) 1) (IntKind.wrap .u64 (B (Int.toNat (iB p0 n))))) false) false
set_option maxRecDepth 100000 in
theorem road1 : ((call Try.prog cxk 400 6 (ags a p0 p1 n) [.rows 0 n [(.int .u8, B)]]).route [true, true, true, true, true, false, false, true]).map (fun p => (p.1, p.2.1)) = some ([szT, askP 4096 4096 (toB a) (cN n), okS 4096 (toB a) (cN n), cpT a n, gA a n true, gB a n true, !(fits a n), litCmp .eql (cN n) 0], .val (.bool (.lit true))) := by kernel_rfl
set_option maxRecDepth 100000 in
theorem road2 : ((call Try.prog cxk 400 6 (ags a p0 p1 n) [.rows 0 n [(.int .u8, B)]]).route [true, true, true, true, true, false, false, false, true, true, true, true, true]).map (fun p => (p.1, p.2.1)) = some ([szT, askP 4096 4096 (toB a) (cN n), okS 4096 (toB a) (cN n), cpT a n, gA a n true, gB a n true, !(fits a n), litCmp .eql (cN n) 0, !(litCmp .eql (cN n) 0), !(litCmp .eql (wB p0 n) 0), askP 4096 4096 (atB a p0 n) (nB p0 p1 n), okS 4096 (atB a p0 n) (nB p0 p1 n), mT a p0 p1 n B], .val (.bool (.sym (vB a p0 p1 n B)))) := by kernel_rfl
set_option maxRecDepth 100000 in
theorem road3 : ((call Try.prog cxk 400 6 (ags a p0 p1 n) [.rows 0 n [(.int .u8, B)]]).route [true, true, false, true, false, true, true]).map (fun p => (p.1, p.2.1)) = some ([szT, askP 4096 4096 (toB a) (cN n), okS 4096 (toB a) (cN n), gA a n false, gB a n false, !(fits a n), zT], .val (.bool (.sym (litCmp .eql ((4096 : Nat) : Int) 4096)))) := by kernel_rfl
end

/-! ### The law -/
theorem off_base : off 2147483648 = 0 := by decide +kernel
theorem cnt_eq (n : Nat) : cnt n = min n 300 := by
  unfold cnt cN
  rw [Int.toNat_natCast, decide_eq_true (Nat.le_refl _)]
  rfl
theorem blt_in {F g : Nat → Int} {a b n i : Nat} (h : a ≤ i ∧ i < a + n) : blt F a g b n i = g (b + (i - a)) := if_pos h
theorem blt_out {F g : Nat → Int} {a b n i : Nat} (h : ¬(a ≤ i ∧ i < a + n)) : blt F a g b n i = F i := if_neg h
theorem rem_u {a k : Int} (h : 0 ≤ a ∧ a < 65536) : litBin .rem .u64 (IntKind.wrap .u64 a) k = a % k := by
  rw [Ev.wrap64]
  show Int.tmod (a % 18446744073709551616) k = _
  rw [Int.tmod_eq_emod_of_nonneg (by omega)]
  congr 1
  omega
theorem rem_i {a k : Int} (h : 0 ≤ a ∧ a < 256) : litBin .rem .i64 (IntKind.wrap .i64 a) k = a % k := by
  rw [wrapi]
  show Int.tmod _ k = _
  rw [Int.tmod_eq_emod_of_nonneg (by omega)]
  congr 1
  omega
theorem goes {a p0 p1 : Int} {n : Nat} {B : Nat → Int} (wa : (Lit.int .u16 a).wf = true) (w0 : (Lit.int .u8 p0).wf = true) (w1 : (Lit.int .u8 p1).wf = true) (hRw : ∀ j, j < n → (Lit.int .u8 (B j)).wf = true) :
    ∃ b l, (call Try.prog cxk 400 6 (ags a p0 p1 n) [.rows 0 n [(.int .u8, B)]]).pick = some (.val (.bool b), l) ∧ b.den = true := by
  have ha := wf16 wa
  have h0 := wf8 w0
  have h1 := wf8 w1
  have hBb : ∀ j, j < n → 0 ≤ B j ∧ B j < 256 := fun j hj => wf8 (hRw j hj)
  obtain ⟨o, ho, et⟩ : ∃ o : Nat, o < 4096 ∧ toB a = 2147483648 + (o : Int) := by
    refine ⟨(a % 4096).toNat, by omega, ?_⟩
    unfold toB
    rw [rem_u ha, addu]
    omega
  have hT : inU (toB a) := by unfold inU; omega
  have eo : off (toB a) = o := by
    unfold off
    rw [subu, et]
    omega
  obtain ⟨c, hc, hcn, ec⟩ : ∃ c : Nat, c ≤ 300 ∧ c ≤ n ∧ min n 300 = c := ⟨min n 300, by omega, by omega, rfl⟩
  have ecN : cN n = (c : Int) := by unfold cN; rw [ec]
  have ecnt : cnt n = c := by rw [cnt_eq, ec]
  have ef : fits a n = decide (o + c ≤ 4096) := by
    unfold fits
    rw [leq_eq, subu, et, wrapi, addi, ecN]
    congr 1
    apply propext
    omega
  have eok : okS 4096 (toB a) (cN n) = decide (o + c ≤ 4096) := by
    unfold okS
    rw [et, ecN]
    congr 1
    apply propext
    omega
  have q0 : szT = true := rfl
  have q1 : askP 4096 4096 (toB a) (cN n) = true := yes_of ⟨rfl, by decide, hT, inI_small (by rw [ecN]; omega)⟩
  have ub : inU 2147483648 := by unfold inU; omega
  by_cases hfit : o + c ≤ 4096
  · rw [decide_eq_true hfit] at ef eok
    have q3 : cpT a n = true := by
      unfold cpT
      rw [eo, ecnt, ec, decide_eq_true hfit, decide_eq_true (by omega)]
      rfl
    have q4 : gA a n true = true := by unfold gA; rw [ef, q1]; rfl
    have q5 : gB a n true = false := by unfold gB; rw [ef, eok]; rfl
    by_cases hc0 : c = 0
    · have q7 : litCmp .eql (cN n) 0 = true := by rw [ecN, eql_eq]; exact decide_eq_true (by omega)
      obtain ⟨l, hl⟩ := road_at (road1 a p0 p1 n B) (by rw [q0, q1, eok, q3, q4, q5, ef, q7]; rfl)
      exact ⟨_, l, hl, rfl⟩
    · have q7 : litCmp .eql (cN n) 0 = false := by rw [ecN, eql_eq]; exact decide_eq_false (by omega)
      -- the part
      obtain ⟨i, hi, ei⟩ : ∃ i : Nat, i < c ∧ iB p0 n = (i : Int) := by
        have hm : p0 % (c : Int) < (c : Int) := Int.emod_lt_of_pos _ (by omega)
        have hm0 : 0 ≤ p0 % (c : Int) := Int.emod_nonneg _ (by omega)
        refine ⟨(p0 % (c : Int)).toNat, by omega, ?_⟩
        unfold iB
        rw [ecN, rem_i h0]
        omega
      have ew : wB p0 n = ((c - i + 1 : Nat) : Int) := by
        unfold wB
        rw [ecN, ei]
        have : litBin .sub .i64 (c : Int) (i : Int) = ((c - i : Nat) : Int) := by
          show IntKind.i64.wrap ((c : Int) - (i : Int)) = _
          rw [wrapi]
          omega
        rw [this, addi]
        omega
      obtain ⟨m, hm, em⟩ : ∃ m : Nat, i + m ≤ c ∧ nB p0 p1 n = (m : Int) := by
        have hm : p1 % ((c - i + 1 : Nat) : Int) < ((c - i + 1 : Nat) : Int) := Int.emod_lt_of_pos _ (by omega)
        have hm0 : 0 ≤ p1 % ((c - i + 1 : Nat) : Int) := Int.emod_nonneg _ (by omega)
        refine ⟨(p1 % ((c - i + 1 : Nat) : Int)).toNat, by omega, ?_⟩
        unfold nB
        rw [ew, rem_i h1]
        omega
      have ea : atB a p0 n = 2147483648 + ((o + i : Nat) : Int) := by
        unfold atB
        rw [et, ei, Ev.wrap64, addu]
        omega
      have eoa : off (atB a p0 n) = o + i := by
        unfold off
        rw [subu, ea]
        omega
      have eh : hB p0 p1 n = ((i + m : Nat) : Int) := by
        unfold hB
        rw [ei, em, addi]
        omega
      have hTa : inU (atB a p0 n) := by unfold inU; omega
      have m0 : MemOk 4096 (F0 a B n) := by
        refine ⟨by decide, fun k hk => ?_⟩
        unfold F0
        rw [eo, ecnt]
        by_cases h : o ≤ k ∧ k < o + c
        · rw [blt_in h]
          exact hBb _ (by omega)
        · rw [blt_out h]
          omega
      have f0 : ∀ k, k < c → F0 a B n (o + k) = B k := fun k hk => by
        unfold F0
        rw [eo, ecnt, blt_in ⟨by omega, by omega⟩]
        congr 1
        omega
      have q8 : (!(litCmp .eql (wB p0 n) 0)) = true := by rw [ew, eql_eq, decide_eq_false (by omega)]; rfl
      have q9 : askP 4096 4096 (atB a p0 n) (nB p0 p1 n) = true := yes_of ⟨rfl, by decide, hTa, inI_small (by rw [em]; omega)⟩
      have q10 : okS 4096 (atB a p0 n) (nB p0 p1 n) = true := by
        unfold okS
        rw [ea, em]
        exact decide_eq_true (by omega)
      have k1 : okS 4096 (atB a p0 n) 1 = true := by
        unfold okS
        rw [ea]
        exact decide_eq_true (by omega)
      have n1 : num 1 = true := by decide +kernel
      have t0 : mT0 a p0 p1 n = true := by
        unfold mT0
        rw [eoa, em, Int.toNat_natCast, decide_eq_true (show o + i + m ≤ 4096 by omega), decide_eq_true (show m < 16777216 by omega)]
        rfl
      have t1 : mT1 p0 p1 n = true := by
        unfold mT1
        rw [eh, ei, ec, Int.toNat_natCast, decide_eq_true (Nat.le_refl _), decide_eq_true (by omega), decide_eq_true (by omega)]
        rfl
      have t2 : mT2 p0 p1 n = true := by
        unfold mT2
        rw [eh, ei, Int.toNat_natCast, Int.toNat_natCast]
        exact decide_eq_true (by omega)
      have t3 : eqT a p0 p1 n B = true := by
        unfold eqT
        rw [eh, ei, em, eoa, Int.toNat_natCast, Int.toNat_natCast, Int.toNat_natCast, decide_eq_true (show m = i + m - i by omega), Bool.true_and]
        unfold eqv
        rw [List.all_eq_true]
        intro k hk
        have hk' := List.mem_range.1 hk
        rw [beq_iff_eq]
        unfold byt
        rw [blt_in ⟨by omega, by omega⟩]
        rw [show o + i + (0 + k - 0) = o + (i + k) by omega, f0 (i + k) (by omega)]
      have t4 : askM 4096 4096 4096 (F0 a B n) (atB a p0 n) 1 = true := askM_of m0 hTa (inI_small (by omega))
      have q11 : mT a p0 p1 n B = true := by
        unfold mT
        rw [t0, t4, t1, t2, t3, n1, k1, ei, em, ecN, Int.toNat_natCast, Int.toNat_natCast, decide_eq_true (show 0 + m ≤ m by omega), decide_eq_true (show i < n by omega), decide_eq_true (show (0 : Int) ≤ (i : Int) ∧ (i : Int) < (c : Int) by omega)]
        rfl
      obtain ⟨l, hl⟩ := road_at (road2 a p0 p1 n B) (by rw [q0, q1, eok, q3, q4, q5, ef, q7, q8, q9, q10, q11]; rfl)
      refine ⟨_, l, hl, ?_⟩
      show vB a p0 p1 n B = true
      have g1 : getS (F0 a B n) 4096 (atB a p0 n) 1 = B i := by
        unfold getS
        rw [n1, k1, eoa]
        show F0 a B n (o + i) + 256 * 0 = B i
        rw [f0 i hi]
        omega
      have hb := hBb i (by omega)
      unfold vB
      rw [t3, n1, k1, g1, ei, Int.toNat_natCast, Ev.wrap64, eql_eq]
      exact decide_eq_true (by omega)
  · rw [decide_eq_false hfit] at ef eok
    have q4 : gA a n false = true := by unfold gA; rw [ef, q1]; rfl
    have q5 : gB a n false = false := by unfold gB; rw [ef, eok]; rfl
    have z1 : askP 4096 4096 2147483648 4096 = true := yes_of ⟨rfl, by decide, ub, inI_small (by omega)⟩
    have z2 : okS 4096 2147483648 4096 = true := by decide +kernel
    have z3 : ask (e 0 4096 (blt (fun _ => 0) 0 (fun _ => 0) (off 2147483648) 4096)) = true := yes_of ⟨4096, _, rfl, by decide, fun i hi => by
      rw [blt_in ⟨by omega, by omega⟩]⟩
    have q6 : zT = true := by
      unfold zT
      rw [z1, z2, z3, off_base]
      rfl
    obtain ⟨l, hl⟩ := road_at (road3 a p0 p1 n B) (by rw [q0, q1, eok, q4, q5, ef, q6]; rfl)
    exact ⟨_, l, hl, rfl⟩

theorem run : ∀ xs h, Abs [.rows [.int .u8], .plain (.one (.int .u16)), .plain (.agg [.int .u8, .int .u8])] 0 xs h → ∃ b l, (call Try.prog cxk 400 6 xs h).pick = some (.val (.bool b), l) ∧ b.den = true := by
  rintro xs h ⟨n, fsB, as0, h0, rfl, rfl, ⟨hnB, hlenB, hFB⟩, ⟨_, as1, rfl, ⟨a, rfl, wa⟩, ⟨_, as2, rfl, ⟨_, rfl, ⟨_, _, rfl, ⟨p0, rfl, wp0⟩, ⟨_, _, rfl, ⟨p1, rfl, wp1⟩, rfl⟩⟩⟩, rfl, rfl⟩⟩⟩
  match fsB, hlenB with
  | [B], _ =>
    exact goes wa wp0 wp1 (fun j hj => hFB 0 .u8 B rfl rfl j hj)

set_option maxRecDepth 100000 in
theorem lifted (os : Os) (started : os.Started) (H : Type) (enc : TypeId × Value → H) :
    ReturnsInHanded {} Try.checked os 6 .any (Rows.ramBytesSpec.pre6 enc Try.prog Try.f6 Rows.ramBytesRow.domain false) (Rows.ramBytesSpec.post enc Try.prog Try.f6 false true false false) := by
  refine returnsInHanded_of_change (C := Try.checked) own started (by kernel_rfl) Try.func6
    (ChangeSpec.witness6 (enc := enc) (C := Try.checked) false ⟨#[], #[.slice none 0 0, .int .u16 0, .agg #[.int .u8 0, .int .u8 0]], []⟩ 8 (by kernel_rfl) (by kernel_rfl) (by kernel_rfl) (by kernel_rfl)) ?_
  intro W base args ds gs before hval hW _ _
  exact lifted_rows (P := Try.prog) (f := 6) (fn := Try.f6) (s := Rows.ramBytesSpec) cxk_ok (n := 400) rfl
    (fun ds h => by
      match ds, h with
      | [d1, d2, d3], _ => rfl)
    (by kernel_rfl) rfl (by kernel_rfl) (by kernel_rfl) (by kernel_rfl) run W base args ds gs before hval hW

theorem closed : joinedFacts Try.prog 6 Try.f6 Rows.ramBytesSpec Rows.ramBytesRow = true := by
  unfold joinedFacts
  rw [may_enter, lifts_final, make_cut]
  repeat' (with_reducible refine Bool.and_eq_true_iff.mpr ⟨?_, ?_⟩)
  all_goals kernel_rfl

theorem over : Rows.ramBytesRow.holds Try.pinned (OpenSpec.ofChange Rows.ramBytesSpec) :=
  OpenClaim.holds_of_wide 6 Try.f6 rfl rfl rfl rfl rfl rfl rfl ⟨rfl, rfl, rfl, rfl, rfl⟩ rfl rfl rfl rfl rfl (by kernel_rfl) Try.func6 closed
    (of_decide_eq_true (by kernel_rfl)) (by unfold Func.isWrapper; first | (rw [if_pos (by decide +kernel)]; kernel_rfl) | (rw [if_neg (by decide +kernel)]; exact ⟨rfl, rfl⟩))
    (fun os started H enc _ => lifted os started H enc)

/-- The statement. -/
theorem proved : Rows.RamBytesSaid :=
  over
#print axioms proved
end Go.Proofs.Ytngcbpcfgolifaa.RamBytes
