/- The statement 'RamKeeps': what was put is there, byte by byte, no other byte is other than it was, and numbers of more bytes are those of less side by side. Conditions: none. -/
import Derived.Test.YtngcbpcfgolifaaRamCx
import Derived.Test.YtngcbpcfgolifaaHead
namespace Go.Proofs.Ytngcbpcfgolifaa.RamKeeps
open Go.RowKit Go.WideShapes Go.ChangeShapes Go.ChangeAt Ev Ram
set_option linter.unusedVariables false
set_option linter.unusedSimpArgs false

def blt (F : Nat → Int) (a : Nat) (g : Nat → Int) (b n : Nat) : Nat → Int := fun i => if a ≤ i ∧ i < a + n then g (b + (i - a)) else F i
def szJ (pg : Int) : Int := litBin .mul .i64 (pgs pg) 4096
def endR (pg : Int) : Int := IntKind.wrap .u64 (litBin .add .i64 2147483648 (szJ pg))
def toR (at' pg : Int) : Int := cond (litCmp .eql (litBin .and .u16 at' 1) 1) (litBin .add .u64 2147479552 (litBin .rem .u64 (IntKind.wrap .u64 at') 8192)) (litBin .add .u64 (litBin .sub .u64 (endR pg) 4096) (litBin .rem .u64 (IntKind.wrap .u64 at') 8192))
def cnt (n : Nat) : Nat := cond (decide ((min n 300) ≤ (Int.toNat (((min n 300) : Nat) : Int)))) (min n 300) (Int.toNat (((min n 300) : Nat) : Int))
def F0 (B : Nat → Int) (n : Nat) : Nat → Int := blt (fun _ => 0) (off 2147483648) B 0 (cnt n)
def F1 (B : Nat → Int) (n : Nat) (pg at' x : Int) : Nat → Int := putF (F0 B n) (szN pg) (toR at' pg) 8 x
def there (at' pg : Int) : Bool := cond (litCmp .geq (toR at' pg) 2147483648) (litCmp .leq (litBin .add .u64 (toR at' pg) 8) (endR pg)) false
def G0 (B : Nat → Int) (n : Nat) (pg : Int) : Nat → Int := blt (fun _ => 0) 0 (F0 B n) (off 2147483648) (szN pg)
def G1 (B : Nat → Int) (n : Nat) (pg at' x : Int) : Nat → Int := blt (fun _ => 0) 0 (F1 B n pg at' x) (off 2147483648) (szN pg)

/-! ### The loop -/
def sk (n : Nat) : List TV := List.replicate n .skip
def tK : Tmpl := { slots := sk 9 ++ [.int .u64, .skip, .ptr 3 0, .skip, .skip, .int .u64, .slice 5 0 .any, .skip, .skip, .slice 7 0 .any, .skip, .bool, .int .i64] ++ sk 189, heap := [.skip, .skip, .arr 5 [.int .u8], .cells 156 [.slice 2 0 .hole], .skip, .rows 5 [.int .u8], .skip, .rows 5 [.int .u8]] }
def e (x T I : Int) (th : Bool) (n : Nat) (F2 F5 F7 : Nat → Int) : Env DC := ⟨[x, T, I], [th], [n, n, n, n, n, n, n], [F2, F5, F7]⟩
noncomputable def rd (s : St DC) : T DC (Ex DC × List (W DC)) := ev Try.prog cxr 5 200 (.code (loopAt Try.prog 5 0)) s
def lst (s : St DC) : List Nat := List.range 8
def kI (T I : Int) : Int := litBin .sub .u64 (litBin .add .u64 2147483648 (IntKind.wrap .u64 I)) T
def cT (T I : Int) (th : Bool) : Bool := cond th (litCmp .lss (kI T I) 8) false
section
variable (x T I : Int) (th : Bool) (n : Nat) (F2 F5 F7 : Nat → Int)
set_option maxRecDepth 100000 in
theorem rx : (viewT tK 8 lst (tK.fill (e x T I th n F2 F5 F7)) (rd (tK.fill (e x T I th n F2 F5 F7)))).route [false] = some ([litCmp .lss I ((n : Nat) : Int)], (.exit 0, some (e x T I th n F2 F5 F7))) := by kernel_rfl
set_option maxRecDepth 100000 in
theorem ra : (viewT tK 8 lst (tK.fill (e x T I th n F2 F5 F7)) (rd (tK.fill (e x T I th n F2 F5 F7)))).route [true, true, true, false] = some ([litCmp .lss I ((n : Nat) : Int), cT T I th, (decide (0 ≤ I ∧ I < ((n : Nat) : Int))) && ((decide ((Int.toNat I) < n)) && (!(litCmp .lss (litBin .mul .u64 8 (kI T I)) 0))), litCmp .neq (F7 (Int.toNat I)) (IntKind.wrap .u8 (litBin .shr .u64 x (litBin .mul .u64 8 (kI T I))))], (.normal, some (e x T (litBin .add .i64 I 1) th n F2 F5 F7))) := by kernel_rfl
set_option maxRecDepth 100000 in
theorem rb : (viewT tK 8 lst (tK.fill (e x T I th n F2 F5 F7)) (rd (tK.fill (e x T I th n F2 F5 F7)))).route [true, false, true, false] = some ([litCmp .lss I ((n : Nat) : Int), cT T I th, (decide (0 ≤ I ∧ I < ((n : Nat) : Int))) && ((decide ((Int.toNat I) < n)) && ((decide (0 ≤ I ∧ I < ((n : Nat) : Int))) && (decide ((Int.toNat I) < n)))), litCmp .neq (F5 (Int.toNat I)) (F7 (Int.toNat I))], (.normal, some (e x T (litBin .add .i64 I 1) th n F2 F5 F7))) := by kernel_rfl
end
def Q (x T : Int) (th : Bool) (n : Nat) (F5 F7 : Nat → Int) : Prop := n < 1000000 ∧ ∀ i, i < n → cond (cT T (i : Int) th) ((!(litCmp .lss (litBin .mul .u64 8 (kI T (i : Int))) 0)) && (!(litCmp .neq (F7 i) (IntKind.wrap .u8 (litBin .shr .u64 x (litBin .mul .u64 8 (kI T (i : Int)))))))) (!(litCmp .neq (F5 i) (F7 i))) = true
noncomputable def ask (v : Env DC) : Bool := yes (∃ x T th n F2 F5 F7, v = e x T 0 th n F2 F5 F7 ∧ Q x T th n F5 F7)
def res (v : Env DC) : Env DC := { v with i := [v.i.getD 0 0, v.i.getD 1 0, ((v.n.getD 0 0 : Nat) : Int)] }
theorem natlt {i n : Nat} (h : i < n) : decide (0 ≤ (i : Int) ∧ (i : Int) < ((n : Nat) : Int)) = true := decide_eq_true ⟨by omega, by omega⟩
theorem lss_nat {k y : Nat} : litCmp .lss (k : Int) (y : Int) = decide (k < y) := by
  rw [lss_eq]
  congr 1
  apply propext
  omega
theorem step_i {i : Nat} (h : i < 1000000) : litBin .add .i64 (i : Int) 1 = ((i + 1 : Nat) : Int) := by
  rw [addi]
  omega
theorem blk (hw : Within Try.prog 5 (.block 0 (.loop (loopAt Try.prog 5 0)))) (s : St DC) (r : Ex DC × List (W DC)) (hr : (loopSumG (D := DC) tK tK 8 (List.range 8) ask res .normal s).pick = some r) (w0 : World) (own : List Nat) (ρ : List Rb) (a : Act) (w : World) (H : SR w0 own ρ s a w) :
    (Go.Code.block 0 (.loop (loopAt Try.prog 5 0))).wp Try.prog (CodePost w0 own ρ s r) a w := by
  refine loopSumG_ok (n := 200) (x1 := .exit 0) (G := Nat) (S := fun v k => tK.fill { v with i := [v.i.getD 0 0, v.i.getD 1 0, (k : Int)] }) (I := fun v k => ∃ x T th n F2 F5 F7, v = e x T 0 th n F2 F5 F7 ∧ Q x T th n F5 F7 ∧ k ≤ n) (m := fun v k => v.n.getD 0 0 - k) (g0 := fun _ => 0) cxr_ok (.inl ⟨rfl, rfl⟩) (fun v hv => ?_) (fun v g _ => Nat.le_refl 8) (fun v k hv hI => ?_) hw s r hr w0 own ρ a w H
  · obtain ⟨x, T, th, n, F2, F5, F7, rfl, h⟩ := of_yes hv
    exact ⟨⟨x, T, th, n, F2, F5, F7, rfl, h, Nat.zero_le _⟩, rfl⟩
  · obtain ⟨x, T, th, n, F2, F5, F7, rfl, hq, hk⟩ := hI
    by_cases hkn : k = n
    · subst hkn
      exact view_out (S := fun (j : Nat) => tK.fill (e x T (j : Int) th k F2 F5 F7)) (g := k) (route_at (rx x T (k : Int) th k F2 F5 F7) (show [_] = [false] by rw [lss_nat, decide_eq_false (Nat.lt_irrefl _)])) (by simp) (by simp) rfl
    · have hlt : k < n := by omega
      have hg := hq.2 k hlt
      have hI' : ∃ x' T' th' n' F2' F5' F7', e x T 0 th n F2 F5 F7 = e x' T' 0 th' n' F2' F5' F7' ∧ Q x' T' th' n' F5' F7' ∧ k + 1 ≤ n' := ⟨x, T, th, n, F2, F5, F7, rfl, hq, hlt⟩
      cases hc : cT T (k : Int) th with
      | true =>
        rw [hc, cond_true, Bool.and_eq_true] at hg
        have g2 : litCmp .neq (F7 k) (IntKind.wrap .u8 (litBin .shr .u64 x (litBin .mul .u64 8 (kI T (k : Int))))) = false := by simpa using hg.2
        have hr := route_at (ra x T (k : Int) th n F2 F5 F7) (show [_, _, _, _] = [true, true, true, false] by rw [lss_nat, decide_eq_true hlt, hc, natlt hlt, Int.toNat_natCast, decide_eq_true hlt, hg.1, g2]; rfl)
        rw [step_i (by have := hq.1; omega)] at hr
        exact view_next (S := fun (j : Nat) => tK.fill (e x T (j : Int) th n F2 F5 F7)) (g := k) (g' := k + 1) hr rfl hI' (by show n - (k + 1) < n - k; omega)
      | false =>
        rw [hc, cond_false] at hg
        have g2 : litCmp .neq (F5 k) (F7 k) = false := by simpa using hg
        have hr := route_at (rb x T (k : Int) th n F2 F5 F7) (show [_, _, _, _] = [true, false, true, false] by rw [lss_nat, decide_eq_true hlt, hc, natlt hlt, Int.toNat_natCast, decide_eq_true hlt, g2]; rfl)
        rw [step_i (by have := hq.1; omega)] at hr
        exact view_next (S := fun (j : Nat) => tK.fill (e x T (j : Int) th n F2 F5 F7)) (g := k) (g' := k + 1) hr rfl hI' (by show n - (k + 1) < n - k; omega)
noncomputable def cxk : Cx DC := cxr.block 5 0 (loopSumG tK tK 8 (List.range 8) ask res .normal)
theorem cxk_ok : Ok Try.prog cxk := cxr_ok.block (by kernel_rfl) blk

/-! ### The roads -/
section
variable (pg at' x : Int) (n : Nat) (B : Nat → Int)
noncomputable def loadT : Bool := (askP (szN pg) (szN pg) 2147483648 (((min n 300) : Nat) : Int)) && ((okS (szN pg) 2147483648 (((min n 300) : Nat) : Int)) && ((decide (((off 2147483648) + (cnt n)) ≤ (szN pg))) && (decide ((0 + (min n 300)) ≤ n))))
def byT : Bool := (decide (((off 2147483648) + (szN pg)) ≤ (szN pg))) && (decide ((szN pg) < 16777216))
noncomputable def gA : Bool := cond (!((num 8 && okS (szN pg) (toR at' pg) 8) == (there at' pg))) true (askP (szN pg) (szN pg) (toR at' pg) 8)
def gB : Bool := cond (!((num 8 && okS (szN pg) (toR at' pg) 8) == (there at' pg))) true (cond (!((okS (szN pg) (toR at' pg) 8) == (there at' pg))) true (cond (litCmp .neq (((szN pg) : Nat) : Int) (((szN pg) : Nat) : Int)) true (litCmp .neq (((szN pg) : Nat) : Int) (szJ pg))))
noncomputable def gC : Bool := ask (e x (toR at' pg) 0 (there at' pg) (szN pg) (F1 B n pg at' x) (G0 B n pg) (G1 B n pg at' x))
noncomputable def heads : List Bool := [pgT pg, pgU pg, loadT pg n, askP (szN pg) (szN pg) 2147483648 (szJ pg), okS (szN pg) 2147483648 (szJ pg), byT pg, askM (szN pg) (szN pg) (szN pg) (F0 B n) (toR at' pg) 8 && yes (inU x), askP (szN pg) (szN pg) 2147483648 (szJ pg), okS (szN pg) 2147483648 (szJ pg), byT pg, gA pg at', gB pg at', gC pg at' x n B]
def bits : List Bool := [false, true, true, true, true, true, true, true, true, true, true, false, true]
noncomputable def gD : Bool := (askM (szN pg) (szN pg) (szN pg) (F1 B n pg at' x) (toR at' pg) 4) && ((askM (szN pg) (szN pg) (szN pg) (F1 B n pg at' x) (litBin .add .u64 (toR at' pg) 4) 4) && (askM (szN pg) (szN pg) (szN pg) (F1 B n pg at' x) (toR at' pg) 8))
def vD : Bool := cond (num 4 && okS (szN pg) (toR at' pg) 4) (cond (num 4 && okS (szN pg) (litBin .add .u64 (toR at' pg) 4) 4) (cond (num 8 && okS (szN pg) (toR at' pg) 8) (cond (litCmp .eql (getS (F1 B n pg at' x) (szN pg) (toR at' pg) 8) x) (litCmp .eql (litBin .add .u64 (getS (F1 B n pg at' x) (szN pg) (toR at' pg) 4) (litBin .shl .u64 (getS (F1 B n pg at' x) (szN pg) (litBin .add .u64 (toR at' pg) 4) 4) 32)) x) false) false) false) false
abbrev ags : List (AV DC) := [.int .u8 (.sym pg), .agg [.int .u16 (.sym at'), .int .u64 (.sym x)], .slice 0 (.lit 0) (.rc n 1 0) .any]
set_option maxRecDepth 100000 in
theorem road0 : ((call Try.prog cxk 400 5 (ags pg at' x n) [.rows 0 n [(.int .u8, B)]]).route (bits ++ [true, true])).map (fun p => (p.1, p.2.1)) = some (heads pg at' x n B ++ [!(there at' pg), askM (szN pg) (szN pg) (szN pg) (F1 B n pg at' x) (toR at' pg) 8], .val (.bool (.sym (!(num 8 && okS (szN pg) (toR at' pg) 8))))) := by kernel_rfl
set_option maxRecDepth 100000 in
theorem road1 : ((call Try.prog cxk 400 5 (ags pg at' x n) [.rows 0 n [(.int .u8, B)]]).route (bits ++ [false, true])).map (fun p => (p.1, p.2.1)) = some (heads pg at' x n B ++ [!(there at' pg), gD pg at' x n B], .val (.bool (.sym (vD pg at' x n B)))) := by kernel_rfl
end

/-! ### The law -/
theorem off_base : off 2147483648 = 0 := by decide +kernel
theorem cnt_eq (n : Nat) : cnt n = min n 300 := by
  unfold cnt
  rw [Int.toNat_natCast, decide_eq_true (Nat.le_refl _)]
  rfl
theorem blt_in {F g : Nat → Int} {a b n i : Nat} (h : a ≤ i ∧ i < a + n) : blt F a g b n i = g (b + (i - a)) := if_pos h
theorem blt_out {F g : Nat → Int} {a b n i : Nat} (h : ¬(a ≤ i ∧ i < a + n)) : blt F a g b n i = F i := if_neg h
theorem F0_ok {B : Nat → Int} {n N : Nat} (hN : N ≤ 65536) (hB : ∀ j, j < n → 0 ≤ B j ∧ B j < 256) : MemOk N (F0 B n) := by
  refine ⟨hN, fun i hi => ?_⟩
  unfold F0
  rw [off_base, cnt_eq]
  by_cases h : 0 ≤ i ∧ i < 0 + min n 300
  · rw [blt_in h]
    exact hB _ (by omega)
  · rw [blt_out h]
    omega
theorem G_eq {F : Nat → Int} {N i : Nat} (h : i < N) : blt (fun _ => 0) 0 F (off 2147483648) N i = F i := by
  rw [off_base, blt_in ⟨Nat.zero_le _, by omega⟩]
  congr 1
  omega
theorem rem8 {a : Int} (h : 0 ≤ a ∧ a < 65536) : litBin .rem .u64 (IntKind.wrap .u64 a) 8192 = a % 8192 := by
  rw [Ev.wrap64]
  show Int.tmod (a % 18446744073709551616) 8192 = _
  rw [Int.tmod_eq_emod_of_nonneg (by omega)]
  omega
theorem to_in {pg at' : Int} (h : 0 ≤ pg ∧ pg < 256) (ha : 0 ≤ at' ∧ at' < 65536) : endR pg = 2147483648 + (szN pg : Int) ∧ 2147479552 ≤ toR at' pg ∧ toR at' pg < 2147483648 + (szN pg : Int) + 4096 ∧ 4096 ≤ szN pg ∧ szJ pg = (szN pg : Int) := by
  obtain ⟨h1, h2⟩ := szN_eq h
  obtain ⟨h3, h4⟩ := pgs_in h
  have hj : szJ pg = (szN pg : Int) := by rw [h1]; exact szI h
  have he : endR pg = 2147483648 + (szN pg : Int) := by
    unfold endR
    rw [hj, addi, Ev.wrap64]
    omega
  refine ⟨he, ?_, ?_, by omega, hj⟩
  all_goals
    unfold toR
    rw [rem8 ha, he, subu, addu, addu]
    cases litCmp .eql (litBin .and .u16 at' 1) 1
    · rw [cond_false]; omega
    · rw [cond_true]; omega
theorem there_eq {pg at' : Int} (h : 0 ≤ pg ∧ pg < 256) (ha : 0 ≤ at' ∧ at' < 65536) : there at' pg = okS (szN pg) (toR at' pg) 8 := by
  obtain ⟨h1, h2, h3, h4, _⟩ := to_in h ha
  obtain ⟨_, h5⟩ := szN_eq h
  unfold there okS
  rw [geq_eq, leq_eq, h1, addu]
  by_cases hb : 2147483648 ≤ toR at' pg
  · rw [decide_eq_true hb, cond_true]
    congr 1
    apply propext
    omega
  · rw [decide_eq_false hb, cond_false, decide_eq_false (by omega)]
theorem pow8 (k : Nat) : (2 : Nat) ^ (8 * k) = 256 ^ k := by rw [Nat.pow_mul]
theorem k_in {T : Int} {i o : Nat} (hi : i < 1000000) (ho : T = 2147483648 + (o : Int)) (h1 : o ≤ i) : kI T (i : Int) = ((i - o : Nat) : Int) := by
  unfold kI
  rw [Ev.wrap64, addu, subu]
  omega
theorem k_out {T : Int} {i o : Nat} (hi : i < 1000000) (hoo : o < 1000000) (ho : T = 2147483648 + (o : Int)) (h1 : ¬(o ≤ i ∧ i < o + 8)) : litCmp .lss (kI T (i : Int)) 8 = false := by
  unfold kI
  rw [Ev.wrap64, addu, subu, lss_eq]
  exact decide_eq_false (by omega)
theorem shr_byte {x : Int} (hx : inU x) {k : Nat} (hk : k < 8) : IntKind.wrap .u8 (litBin .shr .u64 x (litBin .mul .u64 8 (k : Int))) = x / 256 ^ k % 256 := by
  obtain ⟨m, rfl, hm⟩ := hx.nat
  have e1 : litBin .mul .u64 8 (k : Int) = ((8 * k : Nat) : Int) := by rw [mulu]; omega
  rw [e1, shr_nat m (8 * k) (by omega), wrapb, Nat.shiftRight_eq_div_pow, pow8]
  rw [Int.natCast_ediv, Int.natCast_pow]
  rfl
theorem good {pg at' x : Int} {n : Nat} {B : Nat → Int} (h : 0 ≤ pg ∧ pg < 256) (ha : 0 ≤ at' ∧ at' < 65536) (hx : inU x) (i : Nat) (hi : i < szN pg) :
    cond (cT (toR at' pg) (i : Int) (there at' pg)) ((!(litCmp .lss (litBin .mul .u64 8 (kI (toR at' pg) (i : Int))) 0)) && (!(litCmp .neq (G1 B n pg at' x i) (IntKind.wrap .u8 (litBin .shr .u64 x (litBin .mul .u64 8 (kI (toR at' pg) (i : Int)))))))) (!(litCmp .neq (G0 B n pg i) (G1 B n pg at' x i))) = true := by
  obtain ⟨t1, t2, t3, t4, _⟩ := to_in h ha
  obtain ⟨_, h5⟩ := szN_eq h
  have g0 : G0 B n pg i = F0 B n i := G_eq hi
  have g1 : G1 B n pg at' x i = F1 B n pg at' x i := G_eq hi
  rw [g0, g1, there_eq h ha]
  unfold F1 putF
  cases hok : okS (szN pg) (toR at' pg) 8 with
  | false =>
    rw [Bool.and_false]
    unfold cT
    rw [cond_false, cond_false]
    show (!litCmp .neq (F0 B n i) (F0 B n i)) = true
    rw [neq_self]
    rfl
  | true =>
    have hT : inU (toR at' pg) := by unfold inU; omega
    obtain ⟨o1, o2, o3⟩ := ok_off hok hT
    have ho : toR at' pg = 2147483648 + (off (toR at' pg) : Int) := by omega
    have o3' : off (toR at' pg) + 8 ≤ szN pg := o3
    rw [num8, Bool.true_and, cond_true]
    unfold cT
    rw [cond_true]
    generalize hoo : off (toR at' pg) = o at *
    by_cases hin : o ≤ i ∧ i < o + 8
    · have hk := k_in (T := toR at' pg) (i := i) (o := o) (by omega) ho hin.1
      have e1 : putS (F0 B n) o (8 : Int).toNat x i = x / 256 ^ (i - o) % 256 := by
        unfold putS
        rw [if_pos (show o ≤ i ∧ i < o + (8 : Int).toNat from hin)]
      have e2 : litCmp .lss (litBin .mul .u64 8 (((i - o : Nat) : Nat) : Int)) 0 = false := by
        rw [mulu, lss_eq]
        exact decide_eq_false (by omega)
      have e3 : litCmp .lss (((i - o : Nat) : Nat) : Int) 8 = true := by
        rw [lss_eq]
        exact decide_eq_true (by omega)
      rw [hk, e3, cond_true, e2, e1, shr_byte hx (by omega), neq_self]
      rfl
    · have e3 := k_out (T := toR at' pg) (i := i) (o := o) (by omega) (by omega) ho hin
      have e1 : putS (F0 B n) o (8 : Int).toNat x i = F0 B n i := by
        unfold putS
        rw [if_neg (show ¬(o ≤ i ∧ i < o + (8 : Int).toNat) from hin)]
      rw [e3, cond_false, e1, neq_self]
      rfl
theorem num4 : num 4 = true := by decide +kernel
theorem shl32 {v : Int} (h : 0 ≤ v ∧ v < 4294967296) : litBin .shl .u64 v 32 = v * 4294967296 := by
  show IntKind.u64.wrap (v * 2 ^ (min ((32 : Int).toNat) IntKind.u64.bits)) = _
  have e : (2 : Int) ^ (min ((32 : Int).toNat) IntKind.u64.bits) = 4294967296 := by decide
  rw [e, Ev.wrap64]
  omega
theorem goes {pg at' x : Int} {n : Nat} {B : Nat → Int} (wpg : (Lit.int .u8 pg).wf = true) (wat : (Lit.int .u16 at').wf = true) (wx : (Lit.int .u64 x).wf = true) (hB : ∀ j, j < n → (Lit.int .u8 (B j)).wf = true) :
    ∃ b l, (call Try.prog cxk 400 5 (ags pg at' x n) [.rows 0 n [(.int .u8, B)]]).pick = some (.val (.bool b), l) ∧ b.den = true := by
  have h := wf8 wpg
  have ha := wf16 wat
  have hx := inU_wf wx
  obtain ⟨t1, t2, t3, t4, t5⟩ := to_in h ha
  obtain ⟨p1, p2⟩ := pgT_f h
  obtain ⟨_, h5⟩ := szN_eq h
  have m0 : MemOk (szN pg) (F0 B n) := F0_ok h5 fun j hj => wf8 (hB j hj)
  have m1 : MemOk (szN pg) (F1 B n pg at' x) := m0.put _ _ _
  have hT : inU (toR at' pg) := by unfold inU; omega
  have i8 : inI 8 := inI_small (by omega)
  have i4 : inI 4 := inI_small (by omega)
  have hth := there_eq h ha
  have ub : inU 2147483648 := by unfold inU; omega
  have a1 : askP (szN pg) (szN pg) 2147483648 (((min n 300) : Nat) : Int) = true := yes_of ⟨rfl, h5, ub, inI_small (by omega)⟩
  have a2 : askP (szN pg) (szN pg) 2147483648 (szJ pg) = true := yes_of ⟨rfl, h5, ub, inI_small (by rw [t5]; omega)⟩
  have a3 : askP (szN pg) (szN pg) (toR at' pg) 8 = true := yes_of ⟨rfl, h5, hT, i8⟩
  have o1 : okS (szN pg) 2147483648 (((min n 300) : Nat) : Int) = true := decide_eq_true (by omega)
  have o2 : okS (szN pg) 2147483648 (szJ pg) = true := by rw [t5]; exact decide_eq_true (by omega)
  have b1 : loadT pg n = true := by
    unfold loadT
    rw [a1, o1, off_base, cnt_eq, decide_eq_true (show 0 + min n 300 ≤ szN pg by omega), decide_eq_true (show 0 + min n 300 ≤ n by omega)]
    rfl
  have b2 : byT pg = true := by
    unfold byT
    rw [off_base, Nat.zero_add, decide_eq_true (Nat.le_refl _), decide_eq_true (show szN pg < 16777216 by omega)]
    rfl
  have b3 : gA pg at' = true := by
    unfold gA
    rw [a3, Bool.cond_self]
  have b4 : gB pg at' = false := by
    unfold gB
    rw [hth, num8, Bool.true_and, beq_self_eq_true, neq_self, t5, neq_self]
    rfl
  have b5 : gC pg at' x n B = true := yes_of ⟨_, _, _, _, _, _, _, rfl, ⟨by omega, fun i hi => good h ha hx i hi⟩⟩
  have b6 : (askM (szN pg) (szN pg) (szN pg) (F0 B n) (toR at' pg) 8 && yes (inU x)) = true := by rw [askM_of m0 hT i8, yes_of hx]; rfl
  have hh : heads pg at' x n B = bits := by
    unfold heads bits
    rw [p1, p2, b1, a2, o2, b2, b6, b3, b4, b5]
  cases hok : okS (szN pg) (toR at' pg) 8 with
  | false =>
    obtain ⟨l, hl⟩ := road_at (road0 pg at' x n B) (by rw [hh, hth, hok, askM_of m1 hT i8]; rfl)
    exact ⟨_, l, hl, by show (!(num 8 && okS (szN pg) (toR at' pg) 8)) = true; rw [hok]; rfl⟩
  | true =>
    obtain ⟨_, q2, q3⟩ := ok_off hok hT
    have q3' : off (toR at' pg) + 8 ≤ szN pg := q3
    have e4 : litBin .add .u64 (toR at' pg) 4 = toR at' pg + 4 := by rw [addu]; omega
    have hT4 : inU (toR at' pg + 4) := by unfold inU; omega
    have k4 : okS (szN pg) (toR at' pg) 4 = true := decide_eq_true (by omega)
    have k44 : okS (szN pg) (toR at' pg + 4) 4 = true := decide_eq_true (by omega)
    obtain ⟨l, hl⟩ := road_at (road1 pg at' x n B) (by
      unfold gD
      rw [hh, hth, hok, e4, askM_of m1 hT i8, askM_of m1 hT i4, askM_of m1 hT4 i4]; rfl)
    refine ⟨_, l, hl, ?_⟩
    show vD pg at' x n B = true
    have s8 : getS (F1 B n pg at' x) (szN pg) (toR at' pg) 8 = x := get_same hok hx
    have f1 : F1 B n pg at' x = putS (F0 B n) (off (toR at' pg)) 8 x := by
      unfold F1 putF
      rw [num8, hok]
      rfl
    have o4 : off (toR at' pg + 4) = off (toR at' pg) + 4 := by
      obtain ⟨_, r2, _⟩ := ok_off k44 hT4
      omega
    have s4 : getS (F1 B n pg at' x) (szN pg) (toR at' pg) 4 = x % 4294967296 := by
      unfold getS
      rw [num4, k4, f1]
      have := le_put (F0 B n) (off (toR at' pg)) 8 x 4 0 (by omega)
      rw [Nat.add_zero] at this
      show le (putS (F0 B n) (off (toR at' pg)) 8 x) (off (toR at' pg)) 4 = _
      rw [this]
      show x / 1 % 4294967296 = _
      rw [Int.ediv_one]
    have s44 : getS (F1 B n pg at' x) (szN pg) (toR at' pg + 4) 4 = x / 4294967296 % 4294967296 := by
      unfold getS
      rw [num4, k44, f1, o4]
      exact le_put (F0 B n) (off (toR at' pg)) 8 x 4 4 (by omega)
    unfold vD
    rw [e4, num4, num8, k4, k44, hok, s8, s4, s44, eql_self]
    unfold inU at hx
    rw [shl32 (by omega), addu, eql_eq]
    exact decide_eq_true (by omega)

theorem run : ∀ xs h, Abs [.plain (.one (.int .u8)), .plain (.agg [.int .u16, .int .u64]), .rows [.int .u8]] 0 xs h → ∃ b l, (call Try.prog cxk 400 5 xs h).pick = some (.val (.bool b), l) ∧ b.den = true := by
  rintro xs h ⟨_, as0, rfl, ⟨pg, rfl, wpg⟩, ⟨_, as1, rfl, ⟨_, rfl, ⟨_, _, rfl, ⟨at', rfl, wat'⟩, ⟨_, _, rfl, ⟨x, rfl, wx⟩, rfl⟩⟩⟩, ⟨n, fsB, as2, h2, rfl, rfl, ⟨hnB, hlenB, hFB⟩, rfl, rfl⟩⟩⟩
  match fsB, hlenB with
  | [B], _ =>
    exact goes wpg wat' wx (fun j hj => hFB 0 .u8 B rfl rfl j hj)

set_option maxRecDepth 100000 in
theorem lifted (os : Os) (started : os.Started) (H : Type) (enc : TypeId × Value → H) :
    ReturnsInHanded {} Try.checked os 5 .any (Rows.ramKeepsSpec.pre6 enc Try.prog Try.f5 Rows.ramKeepsRow.domain false) (Rows.ramKeepsSpec.post enc Try.prog Try.f5 false true false false) := by
  refine returnsInHanded_of_change (C := Try.checked) own started (by kernel_rfl) Try.func5
    (ChangeSpec.witness6 (enc := enc) (C := Try.checked) false ⟨#[], #[.int .u8 0, .agg #[.int .u16 0, .int .u64 0], .slice none 0 0], []⟩ 8 (by kernel_rfl) (by kernel_rfl) (by kernel_rfl) (by kernel_rfl)) ?_
  intro W base args ds gs before hval hW _ _
  exact lifted_rows (P := Try.prog) (f := 5) (fn := Try.f5) (s := Rows.ramKeepsSpec) cxk_ok (n := 400) rfl
    (fun ds h => by
      match ds, h with
      | [d1, d2, d3], _ => rfl)
    (by kernel_rfl) rfl (by kernel_rfl) (by kernel_rfl) (by kernel_rfl) run W base args ds gs before hval hW

theorem closed : joinedFacts Try.prog 5 Try.f5 Rows.ramKeepsSpec Rows.ramKeepsRow = true := by
  unfold joinedFacts
  rw [may_enter, lifts_final, make_cut]
  repeat' (with_reducible refine Bool.and_eq_true_iff.mpr ⟨?_, ?_⟩)
  all_goals kernel_rfl

theorem over : Rows.ramKeepsRow.holds Try.pinned (OpenSpec.ofChange Rows.ramKeepsSpec) :=
  OpenClaim.holds_of_wide 5 Try.f5 rfl rfl rfl rfl rfl rfl rfl ⟨rfl, rfl, rfl, rfl, rfl⟩ rfl rfl rfl rfl rfl (by kernel_rfl) Try.func5 closed
    (of_decide_eq_true (by kernel_rfl)) (by unfold Func.isWrapper; first | (rw [if_pos (by decide +kernel)]; kernel_rfl) | (rw [if_neg (by decide +kernel)]; exact ⟨rfl, rfl⟩))
    (fun os started H enc _ => lifted os started H enc)

/-- The statement. -/
theorem proved : Rows.RamKeepsSaid :=
  over
#print axioms proved
end Go.Proofs.Ytngcbpcfgolifaa.RamKeeps
