/- The statement 'RamClones': a clone has the same bytes, what is done to one is not done to the other, and what is told is its own. Conditions: none. -/
import Derived.Test.YtngcbpcfgolifaaRamOwn
import Derived.Test.YtngcbpcfgolifaaHead
namespace Go.Proofs.Ytngcbpcfgolifaa.RamClones
open Go.RowKit Go.WideShapes Go.ChangeShapes Go.ChangeAt Ev Ram
set_option linter.unusedVariables false
set_option linter.unusedSimpArgs false

def blt (F : Nat → Int) (a : Nat) (g : Nat → Int) (b n : Nat) : Nat → Int := fun i => if a ≤ i ∧ i < a + n then g (b + (i - a)) else F i
def byt (f : Nat → Int) : Nat → Int := fun i => (((f i).toNat % 256 : Nat) : Int)
def eqv (f : Nat → Int) (a : Nat) (g : Nat → Int) (b n : Nat) : Bool := (List.range n).all fun i => f (a + i) == g (b + i)
def pgc (pg : Int) : Int := litBin .add .i64 1 (IntKind.wrap .i64 (litBin .and .u8 pg 3))
def szJ (pg : Int) : Int := litBin .mul .i64 (pgc pg) 4096
def szC (pg : Int) : Nat := Int.toNat (litBin .mul .i64 (pgc pg) 4096)
def toC (at' : Int) : Int := litBin .add .u64 2147483648 (litBin .rem .u64 (IntKind.wrap .u64 at') 4089)
def cnt (n : Nat) : Nat := cond (decide ((min n 300) ≤ (Int.toNat (((min n 300) : Nat) : Int)))) (min n 300) (Int.toNat (((min n 300) : Nat) : Int))
def F0 (B : Nat → Int) (n : Nat) : Nat → Int := blt (fun _ => 0) (off 2147483648) B 0 (cnt n)
def G0 (B : Nat → Int) (n : Nat) (pg : Int) : Nat → Int := blt (fun _ => 0) 0 (F0 B n) (off 2147483648) (szC pg)
def K0 (B : Nat → Int) (n : Nat) (pg : Int) : Nat → Int := blt (fun _ => 0) 0 (F0 B n) 0 (szC pg)
def nx (x : Int) : Int := litUna .xor .u64 x

/-! ### The loop -/
def sk (n : Nat) : List TV := List.replicate n .skip
def tC : Tmpl := { slots := sk 5 ++ [.ptr 1 0] ++ sk 3 ++ [.ptr 3 0, .skip, .slice 5 0 (.un 1), .skip, .skip, .int .u64, .slice 10 0 (.un 1), .skip, .int .u64, .skip, .sstr, .int .i64] ++ sk 106, heap := [.skip, .cells 38 [.int .u16, .int .u64], .arr 5 [.int .u8], .cells 156 [.slice 2 0 .hole], .skip, .arr 5 [.int .u8], .skip, .skip, .skip, .skip, .arr 5 [.int .u8]] }
def e (T y I at' x : Int) (n : Nat) (Fs F2 F5 F9 : Nat → Int) : Env DC := ⟨[T, y, I, at', x], [], [n, n, 0, n, n, n, n, n, n], [Fs, F2, F5, F9]⟩
noncomputable def rd (s : St DC) : T DC (Ex DC × List (W DC)) := ev Try.prog cxo 4 200 (.code (loopAt Try.prog 4 0)) s
def lst (s : St DC) : List Nat := List.range 11
def nine (F : Nat → Int) (k : Nat) : Nat → Int := fun i => if i < k then 9 else F i
def up9 (F : Nat → Int) (k : Nat) : Nat → Int := fun i => if i = k then 9 else F i
section
variable (T y I at' x : Int) (n : Nat) (Fs F2 F5 F9 : Nat → Int)
set_option maxRecDepth 100000 in
theorem rx : (viewT tC 11 lst (tC.fill (e T y I at' x n Fs F2 F5 F9)) (rd (tC.fill (e T y I at' x n Fs F2 F5 F9)))).route [false] = some ([litCmp .lss I ((n : Nat) : Int)], (.exit 0, some (e T y I at' x n Fs F2 F5 F9))) := by kernel_rfl
set_option maxRecDepth 100000 in
theorem rn : (viewT tC 11 lst (tC.fill (e T y I at' x n Fs F2 F5 F9)) (rd (tC.fill (e T y I at' x n Fs F2 F5 F9)))).route [true, true] = some ([litCmp .lss I ((n : Nat) : Int), (decide (0 ≤ I ∧ I < ((n : Nat) : Int))) && (decide ((Int.toNat I) < n))], (.normal, some (e T y (litBin .add .i64 I 1) at' x n Fs F2 (up9 F5 (Int.toNat I)) F9))) := by kernel_rfl
end
theorem nine_zero (F : Nat → Int) : nine F 0 = F := funext fun i => if_neg (Nat.not_lt_zero i)
theorem nine_succ (F : Nat → Int) (k : Nat) : up9 (nine F k) k = nine F (k + 1) := by
  funext i
  unfold up9 nine
  by_cases h : i = k
  · rw [if_pos h, if_pos (by omega)]
  · rw [if_neg h]
    by_cases h2 : i < k
    · rw [if_pos h2, if_pos (by omega)]
    · rw [if_neg h2, if_neg (by omega)]
noncomputable def ask (v : Env DC) : Bool := yes (∃ T y at' x n Fs F2 F5 F9, v = e T y 0 at' x n Fs F2 F5 F9 ∧ n < 1000000)
def z0 : Nat → Int := fun _ => 0
def res (v : Env DC) : Env DC := { v with i := [v.i.getD 0 0, v.i.getD 1 0, ((v.n.getD 0 0 : Nat) : Int), v.i.getD 3 0, v.i.getD 4 0], f := [v.f.getD 0 z0, v.f.getD 1 z0, nine (v.f.getD 2 z0) (v.n.getD 0 0), v.f.getD 3 z0] }
theorem natlt {i n : Nat} (h : i < n) : decide (0 ≤ (i : Int) ∧ (i : Int) < ((n : Nat) : Int)) = true := decide_eq_true ⟨by omega, by omega⟩
theorem lss_nat {k y : Nat} : litCmp .lss (k : Int) (y : Int) = decide (k < y) := by
  rw [lss_eq]
  congr 1
  apply propext
  omega
theorem step_i {i : Nat} (h : i < 1000000) : litBin .add .i64 (i : Int) 1 = ((i + 1 : Nat) : Int) := by
  rw [addi]
  omega
theorem blk (hw : Within Try.prog 4 (.block 0 (.loop (loopAt Try.prog 4 0)))) (s : St DC) (r : Ex DC × List (W DC)) (hr : (loopSumG (D := DC) tC tC 11 (List.range 11) ask res .normal s).pick = some r) (w0 : World) (own : List Nat) (ρ : List Rb) (a : Act) (w : World) (H : SR w0 own ρ s a w) :
    (Go.Code.block 0 (.loop (loopAt Try.prog 4 0))).wp Try.prog (CodePost w0 own ρ s r) a w := by
  refine loopSumG_ok (n := 200) (x1 := .exit 0) (G := Nat) (S := fun v k => tC.fill { v with i := [v.i.getD 0 0, v.i.getD 1 0, (k : Int), v.i.getD 3 0, v.i.getD 4 0], f := [v.f.getD 0 z0, v.f.getD 1 z0, nine (v.f.getD 2 z0) k, v.f.getD 3 z0] }) (I := fun v k => ∃ T y at' x n Fs F2 F5 F9, v = e T y 0 at' x n Fs F2 F5 F9 ∧ n < 1000000 ∧ k ≤ n) (m := fun v k => v.n.getD 0 0 - k) (g0 := fun _ => 0) cxo_ok (.inl ⟨rfl, rfl⟩) (fun v hv => ?_) (fun v g _ => Nat.le_refl 11) (fun v k hv hI => ?_) hw s r hr w0 own ρ a w H
  · obtain ⟨T, y, at', x, n, Fs, F2, F5, F9, rfl, h⟩ := of_yes hv
    refine ⟨⟨T, y, at', x, n, Fs, F2, F5, F9, rfl, h, Nat.zero_le _⟩, ?_⟩
    show tC.fill (e T y 0 at' x n Fs F2 (nine F5 0) F9) = tC.fill (e T y 0 at' x n Fs F2 F5 F9)
    rw [nine_zero]
  · obtain ⟨T, y, at', x, n, Fs, F2, F5, F9, rfl, hn, hk⟩ := hI
    by_cases hkn : k = n
    · subst hkn
      exact view_out (S := fun (j : Nat) => tC.fill (e T y (j : Int) at' x k Fs F2 (nine F5 j) F9)) (g := k) (route_at (rx T y (k : Int) at' x k Fs F2 (nine F5 k) F9) (show [_] = [false] by rw [lss_nat, decide_eq_false (Nat.lt_irrefl _)])) (by simp) (by simp) rfl
    · have hlt : k < n := by omega
      have hr := route_at (rn T y (k : Int) at' x n Fs F2 (nine F5 k) F9) (show [_, _] = [true, true] by rw [lss_nat, decide_eq_true hlt, natlt hlt, Int.toNat_natCast, decide_eq_true hlt]; rfl)
      rw [step_i (by omega), Int.toNat_natCast, nine_succ] at hr
      exact view_next (S := fun (j : Nat) => tC.fill (e T y (j : Int) at' x n Fs F2 (nine F5 j) F9)) (g := k) (g' := k + 1) hr rfl ⟨T, y, at', x, n, Fs, F2, F5, F9, rfl, hn, hlt⟩ (by show n - (k + 1) < n - k; omega)
noncomputable def cxk : Cx DC := cxo.block 4 0 (loopSumG tC tC 11 (List.range 11) ask res .normal)
theorem cxk_ok : Ok Try.prog cxk := cxo_ok.block (by kernel_rfl) blk

/-! ### The road -/
section
variable (pg at' x : Int) (n : Nat) (B : Nat → Int)
abbrev ags : List (AV DC) := [.int .u8 (.sym pg), .slice 0 (.lit 0) (.rc n 1 0) .any, .agg [.int .u16 (.sym at'), .int .u64 (.sym x)]]
def pT : Bool := cond (litCmp .lss (pgc pg) 1) true (litCmp .gtr (pgc pg) 16)
def uT : Bool := decide (0 ≤ (szJ pg) ∧ (szJ pg) < ((16777216 : Nat) : Int))
def ldT : Bool := (decide (((off 2147483648) + (cnt n)) ≤ (szC pg))) && (decide ((0 + (min n 300)) ≤ n))
def byT : Bool := ((decide (((off 2147483648) + (szC pg)) ≤ (szC pg))) && (decide ((szC pg) < 16777216))) && (decide (0 < (szC pg)))
def clT : Bool := ((decide ((0 + (szC pg)) ≤ (szC pg))) && (decide ((szC pg) < 16777216))) && (decide (0 < (szC pg)))
def qT : Bool := litCmp .neq (litBin .quo .i64 (((szC pg) : Nat) : Int) 4096) (pgc pg)
def allT : Bool := decide ((0 + (szC pg)) ≤ (szC pg))
noncomputable def gT : Bool := (askM (szC pg) (szC pg) (szC pg) (K0 B n pg) (toC at') 8 && yes (inU x)) && ((askP (szC pg) (szC pg) 2147483648 (szJ pg)) && ((okS (szC pg) 2147483648 (szJ pg)) && ((byT pg) && ((askM (szC pg) (szC pg) (szC pg) (F0 B n) (toC at') 8 && yes (inU (nx x))) && ((askM (szC pg) (szC pg) (szC pg) (putF (K0 B n pg) (szC pg) (toC at') 8 x) (toC at') 8) && ((allT pg) && ((ask (e (toC at') (getS (putF (K0 B n pg) (szC pg) (toC at') 8 x) (szC pg) (toC at') 8) 0 at' x (szC pg) (byt (G0 B n pg)) (putF (F0 B n) (szC pg) (toC at') 8 (nx x)) (G0 B n pg) (G0 B n pg))) && ((askM (szC pg) (szC pg) (szC pg) (putF (F0 B n) (szC pg) (toC at') 8 (nx x)) (toC at') 8) && (allT pg)))))))))
def vT : Bool := cond ((decide ((szC pg) = (szC pg))) && (eqv (byt (G0 B n pg)) 0 (byt (G0 B n pg)) 0 (szC pg))) (cond (litCmp .eql (getS (putF (K0 B n pg) (szC pg) (toC at') 8 x) (szC pg) (toC at') 8) x) (litCmp .eql (getS (putF (F0 B n) (szC pg) (toC at') 8 (nx x)) (szC pg) (toC at') 8) (nx x)) false) false
set_option maxRecDepth 100000 in
theorem road : ((call Try.prog cxk 400 4 (ags pg at' x n) [.rows 0 n [(.int .u8, B)]]).route [false, true, true, true, true, true, true, true, true, false, true]).map (fun p => (p.1, p.2.1)) = some ([pT pg, uT pg, askP (szC pg) (szC pg) 2147483648 (((min n 300) : Nat) : Int), okS (szC pg) 2147483648 (((min n 300) : Nat) : Int), ldT pg n, askP (szC pg) (szC pg) 2147483648 (szJ pg), okS (szC pg) 2147483648 (szJ pg), byT pg, clT pg, qT pg, gT pg at' x n B], .val (.bool (.sym (vT pg at' x n B)))) := by kernel_rfl
end

/-! ### The law -/
theorem off_base : off 2147483648 = 0 := by decide +kernel
theorem cnt_eq (n : Nat) : cnt n = min n 300 := by
  unfold cnt
  rw [Int.toNat_natCast, decide_eq_true (Nat.le_refl _)]
  rfl
theorem blt_in {F g : Nat → Int} {a b n i : Nat} (h : a ≤ i ∧ i < a + n) : blt F a g b n i = g (b + (i - a)) := if_pos h
theorem blt_out {F g : Nat → Int} {a b n i : Nat} (h : ¬(a ≤ i ∧ i < a + n)) : blt F a g b n i = F i := if_neg h
theorem pages {pg : Int} (h : 0 ≤ pg ∧ pg < 256) : 1 ≤ pgc pg ∧ pgc pg ≤ 4 ∧ qT pg = false := by
  have : ∀ n : Fin 256, 1 ≤ pgc ((n.val : Nat) : Int) ∧ pgc ((n.val : Nat) : Int) ≤ 4 ∧ qT ((n.val : Nat) : Int) = false := by decide +kernel
  have h2 := this ⟨pg.toNat, by omega⟩
  have e : ((pg.toNat : Nat) : Int) = pg := by omega
  simp only [e] at h2
  exact h2
theorem sizes {pg : Int} (h : 0 ≤ pg ∧ pg < 256) : szJ pg = (szC pg : Int) ∧ 4096 ≤ szC pg ∧ szC pg ≤ 16384 := by
  obtain ⟨h1, h2, _⟩ := pages h
  have e : szJ pg = pgc pg * 4096 := by
    show IntKind.i64.wrap (pgc pg * 4096) = _
    rw [wrapi]
    omega
  have e2 : szC pg = (szJ pg).toNat := rfl
  rw [e2, e]
  omega
theorem toC_in {at' : Int} (h : 0 ≤ at' ∧ at' < 65536) : 2147483648 ≤ toC at' ∧ toC at' < 2147483648 + 4089 := by
  unfold toC
  have e : litBin .rem .u64 (IntKind.wrap .u64 at') 4089 = at' % 4089 := by
    rw [Ev.wrap64]
    show Int.tmod (at' % 18446744073709551616) 4089 = _
    rw [Int.tmod_eq_emod_of_nonneg (by omega)]
    omega
  rw [e, addu]
  omega
theorem nx_in (x : Int) : inU (nx x) := by
  have e : ∀ m : Int, inU (IntKind.u64.wrap m) := fun m => by
    rw [Ev.wrap64]
    unfold inU
    omega
  exact e _
theorem goes {pg at' x : Int} {n : Nat} {B : Nat → Int} (wpg : (Lit.int .u8 pg).wf = true) (wat : (Lit.int .u16 at').wf = true) (wx : (Lit.int .u64 x).wf = true) (hRw : ∀ j, j < n → (Lit.int .u8 (B j)).wf = true) :
    ∃ b l, (call Try.prog cxk 400 4 (ags pg at' x n) [.rows 0 n [(.int .u8, B)]]).pick = some (.val (.bool b), l) ∧ b.den = true := by
  have hp := wf8 wpg
  have ha := wf16 wat
  have hx : inU x := by
    simp [Lit.wf, IntKind.min, IntKind.max, IntKind.signed, IntKind.bits] at wx
    unfold inU
    omega
  obtain ⟨p1, p2, q9⟩ := pages hp
  obtain ⟨ej, s1, s2⟩ := sizes hp
  obtain ⟨t1, t2⟩ := toC_in ha
  obtain ⟨N, eN⟩ : ∃ N, szC pg = N := ⟨_, rfl⟩
  rw [eN] at ej s1 s2
  have hT : inU (toC at') := by unfold inU; omega
  have ub : inU 2147483648 := by unfold inU; omega
  have hBb : ∀ j, j < n → 0 ≤ B j ∧ B j < 256 := fun j hj => wf8 (hRw j hj)
  have f0 : ∀ i, 0 ≤ F0 B n i ∧ F0 B n i < 256 := fun i => by
    unfold F0
    rw [off_base, cnt_eq]
    by_cases h : 0 ≤ i ∧ i < 0 + min n 300
    · rw [blt_in h]; exact hBb _ (by omega)
    · rw [blt_out h]; omega
  have m0 : MemOk N (F0 B n) := ⟨by omega, fun i _ => f0 i⟩
  have k0 : MemOk N (K0 B n pg) := ⟨by omega, fun i hi => by
    unfold K0
    rw [eN, blt_in ⟨Nat.zero_le _, by omega⟩]
    exact f0 _⟩
  have okT : okS N (toC at') 8 = true := by
    unfold okS
    exact decide_eq_true (by omega)
  have a1 : askP N N 2147483648 (szJ pg) = true := yes_of ⟨rfl, by omega, ub, inI_small (by rw [ej]; omega)⟩
  have a2 : okS N 2147483648 (szJ pg) = true := by
    unfold okS
    exact decide_eq_true (by omega)
  have q0 : pT pg = false := by
    unfold pT
    rw [lss_eq, gtr_eq, decide_eq_false (by omega : ¬ pgc pg < 1), decide_eq_false (by omega : ¬ 16 < pgc pg)]
    rfl
  have q1 : uT pg = true := by
    unfold uT
    rw [ej]
    exact decide_eq_true (by omega)
  have q2 : askP N N 2147483648 (((min n 300) : Nat) : Int) = true := yes_of ⟨rfl, by omega, ub, inI_small (by omega)⟩
  have q3 : okS N 2147483648 (((min n 300) : Nat) : Int) = true := by
    unfold okS
    exact decide_eq_true (by omega)
  have q4 : ldT pg n = true := by
    unfold ldT
    rw [off_base, cnt_eq, eN, decide_eq_true (by omega), decide_eq_true (by omega)]
    rfl
  have q7 : byT pg = true := by
    unfold byT
    rw [off_base, eN, decide_eq_true (by omega), decide_eq_true (by omega), decide_eq_true (by omega)]
    rfl
  have q8 : clT pg = true := by
    unfold clT
    rw [eN, decide_eq_true (by omega), decide_eq_true (by omega), decide_eq_true (by omega)]
    rfl
  have q10 : allT pg = true := by
    unfold allT
    rw [eN]
    exact decide_eq_true (by omega)
  have i8 : inI 8 := inI_small (by omega)
  have qg : gT pg at' x n B = true := by
    have k : ask (e (toC at') (getS (putF (K0 B n pg) N (toC at') 8 x) N (toC at') 8) 0 at' x N (byt (G0 B n pg)) (putF (F0 B n) N (toC at') 8 (nx x)) (G0 B n pg) (G0 B n pg)) = true := yes_of ⟨_, _, _, _, _, _, _, _, _, rfl, by omega⟩
    unfold gT
    rw [eN, askM_of k0 hT i8, yes_of hx, a1, a2, q7, askM_of m0 hT i8, yes_of (nx_in x), askM_of (k0.put _ _ _) hT i8, q10, k, askM_of (m0.put _ _ _) hT i8]
    rfl
  obtain ⟨l, hl⟩ := road_at (road pg at' x n B) (by rw [eN, q0, q1, q2, q3, q4, a1, a2, q7, q8, q9, qg])
  refine ⟨_, l, hl, ?_⟩
  show vT pg at' x n B = true
  have e1 : eqv (byt (G0 B n pg)) 0 (byt (G0 B n pg)) 0 N = true := by
    unfold eqv
    rw [List.all_eq_true]
    intro k _
    exact beq_self_eq_true _
  unfold vT
  rw [eN, e1, decide_eq_true rfl, get_same okT hx, get_same okT (nx_in x), eql_self, eql_self]
  rfl

theorem run : ∀ xs h, Abs [.plain (.one (.int .u8)), .rows [.int .u8], .plain (.agg [.int .u16, .int .u64])] 0 xs h → ∃ b l, (call Try.prog cxk 400 4 xs h).pick = some (.val (.bool b), l) ∧ b.den = true := by
  rintro xs h ⟨_, as0, rfl, ⟨pg, rfl, wpg⟩, ⟨n, fsB, as1, h1, rfl, rfl, ⟨hnB, hlenB, hFB⟩, ⟨_, as2, rfl, ⟨_, rfl, ⟨_, _, rfl, ⟨ad, rfl, wad⟩, ⟨_, _, rfl, ⟨x, rfl, wx⟩, rfl⟩⟩⟩, rfl, rfl⟩⟩⟩
  match fsB, hlenB with
  | [B], _ =>
    exact goes wpg wad wx (fun j hj => hFB 0 .u8 B rfl rfl j hj)

set_option maxRecDepth 100000 in
theorem lifted (os : Os) (started : os.Started) (H : Type) (enc : TypeId × Value → H) :
    ReturnsInHanded {} Try.checked os 4 .any (Rows.ramClonesSpec.pre6 enc Try.prog Try.f4 Rows.ramClonesRow.domain false) (Rows.ramClonesSpec.post enc Try.prog Try.f4 false true false false) := by
  refine returnsInHanded_of_change (C := Try.checked) own started (by kernel_rfl) Try.func4
    (ChangeSpec.witness6 (enc := enc) (C := Try.checked) false ⟨#[], #[.int .u8 0, .slice none 0 0, .agg #[.int .u16 0, .int .u64 0]], []⟩ 8 (by kernel_rfl) (by kernel_rfl) (by kernel_rfl) (by kernel_rfl)) ?_
  intro W base args ds gs before hval hW _ _
  exact lifted_rows (P := Try.prog) (f := 4) (fn := Try.f4) (s := Rows.ramClonesSpec) cxk_ok (n := 400) rfl
    (fun ds h => by
      match ds, h with
      | [d1, d2, d3], _ => rfl)
    (by kernel_rfl) rfl (by kernel_rfl) (by kernel_rfl) (by kernel_rfl) run W base args ds gs before hval hW

theorem closed : joinedFacts Try.prog 4 Try.f4 Rows.ramClonesSpec Rows.ramClonesRow = true := by
  unfold joinedFacts
  rw [may_enter, lifts_final, make_cut]
  repeat' (with_reducible refine Bool.and_eq_true_iff.mpr ⟨?_, ?_⟩)
  all_goals kernel_rfl

theorem over : Rows.ramClonesRow.holds Try.pinned (OpenSpec.ofChange Rows.ramClonesSpec) :=
  OpenClaim.holds_of_wide 4 Try.f4 rfl rfl rfl rfl rfl rfl rfl ⟨rfl, rfl, rfl, rfl, rfl⟩ rfl rfl rfl rfl rfl (by kernel_rfl) Try.func4 closed
    (of_decide_eq_true (by kernel_rfl)) (by unfold Func.isWrapper; first | (rw [if_pos (by decide +kernel)]; kernel_rfl) | (rw [if_neg (by decide +kernel)]; exact ⟨rfl, rfl⟩))
    (fun os started H enc _ => lifted os started H enc)

/-- The statement. -/
theorem proved : Rows.RamClonesSaid :=
  over
#print axioms proved
end Go.Proofs.Ytngcbpcfgolifaa.RamClones
