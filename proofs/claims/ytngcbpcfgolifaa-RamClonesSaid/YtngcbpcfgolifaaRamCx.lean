/- Memory of bytes: numbers in it; what stands at the head of the layer's statements; 'short'. Conditions: none. -/
import Derived.Test.YtngcbpcfgolifaaMemGet
import Derived.Test.YtngcbpcfgolifaaEvList
import Derived.Test.YtngcbpcfgolifaaEvCopy
namespace Go.Proofs.Ytngcbpcfgolifaa.Ram
open Go.RowKit Ev
set_option linter.unusedVariables false
set_option linter.unusedSimpArgs false

theorem wf8 {h : Int} (wh : (Lit.int .u8 h).wf = true) : 0 ≤ h ∧ h < 256 := by
  simp [Lit.wf, IntKind.min, IntKind.max, IntKind.signed, IntKind.bits] at wh
  omega
theorem wf16 {h : Int} (wh : (Lit.int .u16 h).wf = true) : 0 ≤ h ∧ h < 65536 := by
  simp [Lit.wf, IntKind.min, IntKind.max, IntKind.signed, IntKind.bits] at wh
  omega
theorem eql_self (x : Int) : litCmp .eql x x = true := by rw [eql_eq]; exact decide_eq_true rfl
theorem neq_self (x : Int) : litCmp .neq x x = false := by rw [neq_eq, decide_eq_true rfl]; rfl
theorem addu (x y : Int) : litBin .add .u64 x y = (x + y) % 18446744073709551616 := wrap64 _
theorem subu (x y : Int) : litBin .sub .u64 x y = (x - y) % 18446744073709551616 := wrap64 _

/-! ### Numbers in memory -/
theorem le_put (F : Nat → Int) (o n : Nat) (v : Int) : ∀ (k j : Nat), j + k ≤ n → le (putS F o n v) (o + j) k = v / 256 ^ j % 256 ^ k
  | 0, j, _ => by
    show (0 : Int) = _ % (1 : Int)
    omega
  | k + 1, j, h => by
    have ih := le_put F o n v k (j + 1) (by omega)
    have h0 : putS F o n v (o + j) = v / 256 ^ j % 256 := by
      unfold putS
      rw [if_pos ⟨by omega, by omega⟩, Nat.add_sub_cancel_left]
    have e : v / 256 ^ (j + 1) = v / 256 ^ j / 256 := by
      rw [Int.pow_succ, Int.ediv_ediv_of_nonneg (Int.le_of_lt (Int.pow_pos (by decide)))]
    simp only [le]
    rw [h0, Nat.add_assoc, ih, e, Int.pow_succ]
    generalize v / 256 ^ j = x
    have hm : (0 : Int) < 256 ^ k := Int.pow_pos (by decide)
    generalize (256 : Int) ^ k = m at hm
    have h1 := Int.emod_add_mul_ediv (x / 256) m
    have h2 := Int.emod_nonneg (x / 256) (Int.ne_of_gt hm)
    have h3 := Int.emod_lt_of_pos (x / 256) hm
    generalize x / 256 % m = r at *
    generalize x / 256 / m = q at *
    have e2 : x = (256 * r + x % 256) + (m * 256) * q := by
      rw [Int.mul_assoc, Int.mul_left_comm]
      generalize m * q = t at *
      omega
    have e3 : x % (m * 256) = 256 * r + x % 256 := by
      have hlt : 256 * r + x % 256 < m * 256 := by omega
      rw [e2, Int.add_mul_emod_self_left]
      rw [← e2]
      exact Int.emod_eq_of_lt (by omega) hlt
    rw [e3]
    omega
theorem le_same (F : Nat → Int) (o : Nat) {v : Int} (hv : inU v) : le (putS F o 8 v) o 8 = v := by
  have := le_put F o 8 v 8 0 (by omega)
  rw [Nat.add_zero] at this
  rw [this]
  unfold inU at hv
  show v / 1 % 18446744073709551616 = v
  omega
theorem le_congr {f g : Nat → Int} : ∀ (k o : Nat), (∀ i, o ≤ i → i < o + k → f i = g i) → le f o k = le g o k
  | 0, _, _ => rfl
  | k + 1, o, h => by
    simp only [le]
    rw [h o (Nat.le_refl _) (by omega), le_congr k (o + 1) fun i h1 h2 => h i (by omega) (by omega)]
theorem le_zero : ∀ (k o : Nat), le (fun _ => 0) o k = 0
  | 0, _ => rfl
  | k + 1, o => by
    simp only [le]
    rw [le_zero k (o + 1)]
    rfl
theorem get_zero (N : Nat) (x : Int) : getS (fun _ => 0) N x 8 = 0 := by
  unfold getS
  cases num 8 && okS N x 8
  · rfl
  · exact le_zero _ _
theorem num8 : num 8 = true := by decide +kernel
theorem get_same {F : Nat → Int} {N : Nat} {x v : Int} (hx : okS N x 8 = true) (hv : inU v) : getS (putF F N x 8 v) N x 8 = v := by
  unfold getS putF
  rw [num8, hx]
  exact le_same F (off x) hv

/-! ### Pages -/
def pgs (pg : Int) : Int := litBin .add .i64 1 (IntKind.wrap .i64 (litBin .and .u8 pg 15))
def szN (pg : Int) : Nat := Int.toNat (litBin .mul .i64 (pgs pg) 4096)
theorem pgs_in {pg : Int} (h : 0 ≤ pg ∧ pg < 256) : 1 ≤ pgs pg ∧ pgs pg ≤ 16 := by
  have : ∀ n : Fin 256, 1 ≤ pgs ((n.val : Nat) : Int) ∧ pgs ((n.val : Nat) : Int) ≤ 16 := by decide +kernel
  have h2 := this ⟨pg.toNat, by omega⟩
  have e : ((pg.toNat : Nat) : Int) = pg := by omega
  simp only [e] at h2
  exact h2
theorem szI {pg : Int} (h : 0 ≤ pg ∧ pg < 256) : litBin .mul .i64 (pgs pg) 4096 = pgs pg * 4096 := by
  obtain ⟨h1, h2⟩ := pgs_in h
  show IntKind.i64.wrap (pgs pg * 4096) = _
  rw [wrapi]
  omega
theorem szN_eq {pg : Int} (h : 0 ≤ pg ∧ pg < 256) : (szN pg : Int) = pgs pg * 4096 ∧ szN pg ≤ 65536 := by
  obtain ⟨h1, h2⟩ := pgs_in h
  unfold szN
  rw [szI h]
  omega
def pgT (pg : Int) : Bool := cond (litCmp .lss (pgs pg) 1) true (litCmp .gtr (pgs pg) 16)
def pgU (pg : Int) : Bool := decide (0 ≤ litBin .mul .i64 (pgs pg) 4096 ∧ litBin .mul .i64 (pgs pg) 4096 < ((16777216 : Nat) : Int))
theorem pgT_f {pg : Int} (h : 0 ≤ pg ∧ pg < 256) : pgT pg = false ∧ pgU pg = true := by
  obtain ⟨h1, h2⟩ := pgs_in h
  unfold pgT pgU
  rw [lss_eq, gtr_eq, szI h, decide_eq_false (by omega : ¬ pgs pg < 1), decide_eq_false (by omega : ¬ 16 < pgs pg), decide_eq_true (by omega)]
  exact ⟨rfl, rfl⟩

/-! ### The contexts -/
noncomputable def cxc : Cx DC := cxg.more (copyX Try.prog)
theorem cxc_ok : Ok Try.prog cxc := cxg_ok.more fun _ _ _ _ ho hz _ _ _ _ _ hS H => copyX_sound ho hz hS H
def shT : Bool := (decide ((0 : Int) ≤ 4096 ∧ (4096 : Int) < ((16777216 : Nat) : Int)))
noncomputable def shTest : Bool := shT && ((askM (Int.toNat 4096) (Int.toNat 4096) (Int.toNat 4096) (fun _ => 0) 2147483648 4 && yes (inU 1)) && (askM (Int.toNat 4096) (Int.toNat 4096) (Int.toNat 4096) (putF (fun _ => 0) (Int.toNat 4096) 2147483648 4 1) 2147483648 8))
def shVal : Bool := cond (num 4 && okS (Int.toNat 4096) 2147483648 4) (cond (num 8 && okS (Int.toNat 4096) 2147483648 8) (litCmp .eql (getS (putF (fun _ => 0) (Int.toNat 4096) 2147483648 4 1) (Int.toNat 4096) 2147483648 8) 1) false) false
set_option maxRecDepth 100000 in
theorem sh_road : ((call Try.prog cxc 100 28 [] []).route [true]).map (fun p => (p.1, p.2.1)) = some ([shTest], .val (.bool (.sym shVal))) := by kernel_rfl
theorem shVal_true : shVal = true := by decide +kernel
theorem inI_small {n : Int} (h : 0 ≤ n ∧ n < 1000000) : inI n := by unfold inI; omega
theorem shTest_true : shTest = true := by
  unfold shTest
  have m0 : MemOk (Int.toNat 4096) (fun _ => 0) := MemOk.zero (by decide)
  rw [askM_of m0 (by unfold inU; omega) (inI_small (by omega)), askM_of (m0.put _ _ _) (by unfold inU; omega) (inI_small (by omega)), show shT = true from rfl, yes_of (show inU 1 by unfold inU; omega)]
  rfl
def gShown (args : List (AV DC)) (h : List (AO DC)) : Option (T DC (AV DC × List (W DC))) := match args with
  | [] => some (.ret (.bool (.lit true), []))
  | _ => none
theorem fn_val {P : Program} {f : FuncId} {args : List (AV DC)} {h : List (AO DC)} {v v' : AV DC} {l : List (W DC)} (hf : FnOk P f args h (v, l)) (hv : ∀ ρ u, VRel ρ v u → VRel ρ v' u) : FnOk P f args h (v', l) := by
  intro w0 own ρ w vals H hvs
  refine (hf w0 own ρ w vals H hvs).mono fun e w' hp => ?_
  obtain ⟨u, v1, ρ', e1, e2, e3, e4, e5⟩ := hp
  cases e1
  exact ⟨u, v', ρ', rfl, e2, e3, hv _ _ e4, e5⟩
theorem gShown_ok {args : List (AV DC)} {h : List (AO DC)} {t : T DC (AV DC × List (W DC))} {r : AV DC × List (W DC)} (ht : gShown args h = some t) (hp : t.pick = some r) : FnOk Try.prog 28 args h r := by
  unfold gShown at ht
  split at ht
  · cases ht
    have := T.ret_some hp
    subst this
    obtain ⟨l, hl⟩ := road_at sh_road (show [_] = [true] by rw [shTest_true])
    refine fn_val (pure_ok cxc_ok hl rfl rfl) fun ρ u hu => ?_
    have hu' : u = .bool shVal := hu
    rw [hu', shVal_true]
    rfl
  · cases ht

/-! ### short -/
def isGtr (o : Oper) : Bool := match o.op with
  | .binOp .gtr _ _ _ _ => true
  | _ => false
noncomputable def cxT : Cx DC := cxc.more (askX Try.prog isGtr true)
noncomputable def cxF : Cx DC := cxc.more (askX Try.prog isGtr false)
theorem cxT_ok : Ok Try.prog cxT := cxc_ok.ask _ _
theorem cxF_ok : Ok Try.prog cxF := cxc_ok.ask _ _
set_option maxRecDepth 100000 in
theorem sT (b n : Nat) (h : List (AO DC)) : (call Try.prog cxT 60 31 [.slice b (.lit 0) (.rc n 1 0) .any] h).route [true] = some ([litCmp .gtr ((n : Nat) : Int) 300 && ((decide (n ≤ n)) && ((decide ((0 : Int) ≤ 300 ∧ (300 : Int) < ((n + 1 : Nat) : Int))) && (decide (0 ≤ Int.toNat 300))))], (.val (.slice b (.lit 0) (.rc (Int.toNat 300 - 0) 1 0) .any), [])) := by kernel_rfl
set_option maxRecDepth 100000 in
theorem sF (b n : Nat) (h : List (AO DC)) : (call Try.prog cxF 60 31 [.slice b (.lit 0) (.rc n 1 0) .any] h).route [true] = some ([!(litCmp .gtr ((n : Nat) : Int) 300)], (.val (.slice b (.lit 0) (.rc n 1 0) .any), [])) := by kernel_rfl
def gShort (args : List (AV DC)) (h : List (AO DC)) : Option (T DC (AV DC × List (W DC))) := match args with
  | [.slice b (.lit 0) (.rc n 1 0) .any] => some (.ret (.slice b (.lit 0) (.rc (min (n : Nat) 300) 1 0) .any, []))
  | _ => none
theorem gShort_ok {args : List (AV DC)} {h : List (AO DC)} {t : T DC (AV DC × List (W DC))} {r : AV DC × List (W DC)} (ht : gShort args h = some t) (hp : t.pick = some r) : FnOk Try.prog 31 args h r := by
  unfold gShort at ht
  split at ht
  · rename_i b n
    cases ht
    have := T.ret_some hp
    subst this
    by_cases hn : (300 : Nat) < (n : Nat)
    · have g1 : litCmp .gtr ((n : Nat) : Int) 300 = true := by rw [gtr_eq]; exact decide_eq_true (Int.ofNat_lt.2 hn)
      have g2 : decide ((0 : Int) ≤ 300 ∧ (300 : Int) < (((n : Nat) + 1 : Nat) : Int)) = true := decide_eq_true ⟨by decide, Int.ofNat_lt.2 (Nat.lt_succ_of_lt hn)⟩
      have hr := route_at (sT b n h) (show [_] = [true] by rw [g1, g2, decide_eq_true (Nat.le_refl _)]; rfl)
      have e : (min (n : Nat) 300 : Nat) = Int.toNat 300 - 0 := Nat.min_eq_right (Nat.le_of_lt hn)
      rw [e]
      exact fn_ok cxT_ok (r := (_, [])) hr
    · have g1 : litCmp .gtr ((n : Nat) : Int) 300 = false := by rw [gtr_eq]; exact decide_eq_false (fun h => hn (Int.ofNat_lt.1 h))
      have hr := route_at (sF b n h) (show [_] = [true] by rw [g1]; rfl)
      have e : (min (n : Nat) 300 : Nat) = n := Nat.min_eq_left (Nat.le_of_not_lt hn)
      rw [e]
      exact fn_ok cxF_ok (r := (_, [])) hr
  · cases ht
noncomputable def cxr : Cx DC := (cxc.sum 28 gShown).sum 31 gShort
theorem cxr_ok : Ok Try.prog cxr := (cxc_ok.sum (by kernel_rfl) fun args h t r ht hp => gShown_ok ht hp).sum (by kernel_rfl) fun args h t r ht hp => gShort_ok ht hp
end Go.Proofs.Ytngcbpcfgolifaa.Ram
