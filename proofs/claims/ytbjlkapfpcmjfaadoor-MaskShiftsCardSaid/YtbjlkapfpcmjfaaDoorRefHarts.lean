/- The reference's Harts: its two loops, and its summary: the same as the code's. Conditions: none. -/
import Derived.Test.YtbjlkapfpcmjfaaDoorCodeSum
namespace Go.Proofs.YtbjlkapfpcmjfaaDoor.Mask
open Go.RowKit Ev
set_option linter.unusedVariables false
set_option linter.unusedSimpArgs false

/-- The places from the k-th on. -/
def remL (m k : Nat) : List Nat := (List.range' k (64 - k)).filter fun i => m.testBit i
theorem rem_zero (m : Nat) : remL m 0 = bitsL m := by unfold remL bitsL; rw [List.range_eq_range']
theorem rem_end (m : Nat) : remL m 64 = [] := rfl
theorem rem_step {m k : Nat} (h : k < 64) : remL m k = if m.testBit k then k :: remL m (k + 1) else remL m (k + 1) := by
  unfold remL
  rw [show 64 - k = (64 - (k + 1)) + 1 by omega, List.range'_succ, List.filter_cons]
theorem bits_ones : ∀ y : Fin 9, bitsL (2 ^ y.val - 1) = List.range y.val := by decide +kernel

namespace Ref
def t0 : Tmpl := { slots := [.int .u64, .int .u64, .int .i64, .skip, .skip, .skip, .nilslice, .truth false, .empty 0, .skip, .int .i64] ++ sk 46, heap := [.skip] }
def t1 : Tmpl := { slots := [.int .u64, .int .u64, .int .i64, .skip, .skip, .skip, .nilslice, .truth false, .slice 1 0 (.un 1), .skip, .int .i64] ++ sk 46, heap := [.skip, .arr 3 [.int .i64]] }
def tR : Tmpl := { slots := sk 6 ++ [.nilslice, .truth false] ++ sk 49, heap := [.skip] }
def u0 : Tmpl := { slots := [.skip, .skip, .int .i64, .skip, .skip, .skip, .nilslice, .truth false, .empty 0, .int .i64, .skip] ++ sk 46, heap := [.skip] }
def u1 : Tmpl := { slots := [.skip, .skip, .int .i64, .skip, .skip, .skip, .nilslice, .truth false, .slice 1 0 (.un 1), .int .i64, .skip] ++ sk 46, heap := [.skip, .arr 3 [.int .i64]] }
def ls1 (s : St DC) : List Nat := match s.slots.getD 8 .dead with
  | .slice b _ _ _ => [0, b]
  | _ => [0]
def ls0 (s : St DC) : List Nat := [0]
def e0 (M B Y K : Int) : Env DC := ⟨[M, B, Y, K], [], [], []⟩
def e1 (M B Y K : Int) (n : Nat) (F : Nat → Int) : Env DC := ⟨[M, B, Y, K], [], [n, n], [F]⟩
def f0 (Y K : Int) : Env DC := ⟨[Y, K], [], [], []⟩
def f1 (Y K : Int) (n : Nat) (F : Nat → Int) : Env DC := ⟨[Y, K], [], [n, n], [F]⟩
noncomputable def rd (s : St DC) : T DC (Ex DC × List (W DC)) := ev Tryd.prog cx 10 200 (.code (loopAt Tryd.prog 10 2)) s
noncomputable def rd0 (s : St DC) : T DC (Ex DC × List (W DC)) := ev Tryd.prog cx 10 200 (.code (loopAt Tryd.prog 10 0)) s
def bitT (M K : Int) : Bool := litCmp .eql (litBin .and .u64 (litBin .shr .u64 M K) 1) 0
def refT (B Y K : Int) : Bool := cond (litCmp .geq B (IntKind.u64.wrap Y)) true (litCmp .geq (litBin .add .u64 B (IntKind.u64.wrap K)) (IntKind.u64.wrap Y))
def nxt (K : Int) : Int := litBin .add .i64 K 1
def val (B K : Int) : Int := litBin .add .i64 (IntKind.i64.wrap B) K
section
variable (M B Y K : Int) (n : Nat) (F : Nat → Int)
set_option maxRecDepth 100000 in
theorem r0x : (viewT t0 1 ls0 (t0.fill (e0 M B Y K)) (rd (t0.fill (e0 M B Y K)))).route [false] = some ([litCmp .lss K 64], (.exit 2, some (e0 M B Y K))) := by kernel_rfl
set_option maxRecDepth 100000 in
theorem r1x : (viewT t1 1 ls1 (t1.fill (e1 M B Y K n F)) (rd (t1.fill (e1 M B Y K n F)))).route [false] = some ([litCmp .lss K 64], (.exit 2, some (e1 M B Y K n F))) := by kernel_rfl
set_option maxRecDepth 100000 in
theorem r00 : (viewT t0 1 ls0 (t0.fill (e0 M B Y K)) (rd (t0.fill (e0 M B Y K)))).route [true, true, true] = some ([litCmp .lss K 64, !(litCmp .lss K 0), bitT M K], (.normal, some (e0 M B Y (nxt K)))) := by kernel_rfl
set_option maxRecDepth 100000 in
theorem r11s : (viewT t1 1 ls1 (t1.fill (e1 M B Y K n F)) (rd (t1.fill (e1 M B Y K n F)))).route [true, true, true] = some ([litCmp .lss K 64, !(litCmp .lss K 0), bitT M K], (.normal, some (e1 M B Y (nxt K) n F))) := by kernel_rfl
set_option maxRecDepth 100000 in
theorem r01 : (viewT t1 1 ls1 (t0.fill (e0 M B Y K)) (rd (t0.fill (e0 M B Y K)))).route [true, true, false, false] = some ([litCmp .lss K 64, !(litCmp .lss K 0), bitT M K, refT B Y K], (.normal, some (e1 M B Y (nxt K) 1 (fun i => if i = 0 then val B K else 0)))) := by kernel_rfl
set_option maxRecDepth 100000 in
theorem r11 : (viewT t1 1 ls1 (t1.fill (e1 M B Y K n F)) (rd (t1.fill (e1 M B Y K n F)))).route [true, true, false, false, true] = some ([litCmp .lss K 64, !(litCmp .lss K 0), bitT M K, refT B Y K, decide (n ≤ n) && decide (n < 1000000)], (.normal, some (e1 M B Y (nxt K) (n + 1) (fun i => if i = n then val B K else F i)))) := by kernel_rfl
set_option maxRecDepth 100000 in
theorem r0R : (viewT tR 1 ls0 (t0.fill (e0 M B Y K)) (rd (t0.fill (e0 M B Y K)))).route [true, true, false, true] = some ([litCmp .lss K 64, !(litCmp .lss K 0), bitT M K, refT B Y K], (.ret, some ⟨[], [], [], []⟩)) := by kernel_rfl
set_option maxRecDepth 100000 in
theorem r1R : (viewT tR 1 ls0 (t1.fill (e1 M B Y K n F)) (rd (t1.fill (e1 M B Y K n F)))).route [true, true, false, true] = some ([litCmp .lss K 64, !(litCmp .lss K 0), bitT M K, refT B Y K], (.ret, some ⟨[], [], [], []⟩)) := by kernel_rfl
set_option maxRecDepth 100000 in
theorem s0x : (viewT u0 1 ls0 (u0.fill (f0 Y K)) (rd0 (u0.fill (f0 Y K)))).route [false] = some ([litCmp .lss K Y], (.exit 0, some (f0 Y K))) := by kernel_rfl
set_option maxRecDepth 100000 in
theorem s1x : (viewT u1 1 ls1 (u1.fill (f1 Y K n F)) (rd0 (u1.fill (f1 Y K n F)))).route [false] = some ([litCmp .lss K Y], (.exit 0, some (f1 Y K n F))) := by kernel_rfl
set_option maxRecDepth 100000 in
theorem s01 : (viewT u1 1 ls1 (u0.fill (f0 Y K)) (rd0 (u0.fill (f0 Y K)))).route [true] = some ([litCmp .lss K Y], (.normal, some (f1 Y (nxt K) 1 (fun i => if i = 0 then K else 0)))) := by kernel_rfl
set_option maxRecDepth 100000 in
theorem s11 : (viewT u1 1 ls1 (u1.fill (f1 Y K n F)) (rd0 (u1.fill (f1 Y K n F)))).route [true, true] = some ([litCmp .lss K Y, decide (n ≤ n) && decide (n < 1000000)], (.normal, some (f1 Y (nxt K) (n + 1) (fun i => if i = n then K else F i)))) := by kernel_rfl
end

/-! ### Whole numbers -/
theorem lss64 {k : Nat} : litCmp .lss (k : Int) 64 = decide (k < 64) := by
  rw [lss_eq]
  congr 1
  apply propext
  omega
theorem lss_nat {k y : Nat} : litCmp .lss (k : Int) (y : Int) = decide (k < y) := by
  rw [lss_eq]
  congr 1
  apply propext
  omega
theorem pos_nat {k : Nat} : (!(litCmp .lss (k : Int) 0)) = true := by rw [lss_eq, decide_eq_false (by omega)]; rfl
theorem bit_nat' {m k : Nat} (hm : m < 18446744073709551616) (hk : k < 64) : bitT (m : Int) (k : Int) = !m.testBit k := by
  unfold bitT
  have h1 : m >>> k < 18446744073709551616 := by rw [Nat.shiftRight_eq_div_pow]; exact Nat.lt_of_le_of_lt (Nat.div_le_self _ _) hm
  rw [shr_nat m k (by omega), show (1 : Int) = ((1 : Nat) : Int) from rfl, and_nat h1 (by decide), eql_eq, Nat.and_comm]
  unfold Nat.testBit
  rw [bne, Bool.not_not]
  cases h : (1 &&& m >>> k == 0) with
  | true => exact decide_eq_true (by have := beq_iff_eq.1 h; omega)
  | false => exact decide_eq_false (by have := beq_eq_false_iff_ne.1 h; omega)
theorem ref_nat {b y k : Nat} (hy : y ≤ 8) (hb : b < 18446744073709551616) (hk : k < 64) : refT (b : Int) (y : Int) (k : Int) = !(pass b y k) := by
  unfold refT pass
  rw [geq_eq, geq_eq, Ev.wrap64, Ev.wrap64, add_eq]
  by_cases h : b < y
  · rw [decide_eq_false (by omega), cond_false, decide_eq_true h, Bool.true_and, ← decide_not]
    congr 1
    apply propext
    omega
  · rw [decide_eq_true (by omega), cond_true, decide_eq_false h]
    rfl
theorem add_i64 {x y : Int} (h : -9223372036854775808 ≤ x + y ∧ x + y < 9223372036854775808) : litBin .add .i64 x y = x + y := wrap64i h
theorem val_nat {b y k : Nat} (hy : y ≤ 8) (h : pass b y k = true) : val (b : Int) (k : Int) = ((b + k : Nat) : Int) := by
  unfold pass at h
  rw [Bool.and_eq_true, decide_eq_true_eq, decide_eq_true_eq] at h
  unfold val
  rw [wrap64i (by omega), add_i64 (by omega)]
  omega
theorem nxt_nat {k : Nat} (h : k < 64) : nxt (k : Int) = ((k + 1 : Nat) : Int) := by
  unfold nxt
  rw [add_i64 (by omega)]
  rfl

/-! ### The loop over the bits -/
def S (e : Env DC) (g : Nat × List Int) : St DC := match g.2 with
  | [] => t0.fill (e0 (e.i.getD 0 0) (e.i.getD 1 0) (e.i.getD 2 0) (g.1 : Int))
  | _ :: _ => t1.fill (e1 (e.i.getD 0 0) (e.i.getD 1 0) (e.i.getD 2 0) (g.1 : Int) g.2.length (listF g.2))
theorem S_snoc (e : Env DC) (k : Nat) (xs : List Int) (x : Int) : S e (k, xs ++ [x]) = t1.fill (e1 (e.i.getD 0 0) (e.i.getD 1 0) (e.i.getD 2 0) (k : Int) (xs.length + 1) (listF (xs ++ [x]))) := by
  cases xs with
  | nil => rfl
  | cons y ys => unfold S; simp only [List.cons_append]; rw [← List.cons_append, List.length_append]; rfl
theorem S_low (e : Env DC) (g : Nat × List Int) : 1 ≤ (S e g).heap.length := by
  obtain ⟨k, xs⟩ := g
  cases xs with
  | nil => exact Nat.le_refl _
  | cons x xs => exact Nat.le_succ _
def Start (q : Nat → Nat → Nat → Prop) (e : Env DC) : Prop := ∃ m b y : Nat, e = e0 m b y 0 ∧ m < 18446744073709551616 ∧ b < 18446744073709551616 ∧ y ≤ 8 ∧ q m b y
def vals (m b k : Nat) : List Int := (remL m k).map fun i => ((b + i : Nat) : Int)
theorem rem_le (m k : Nat) : (remL m k).length ≤ 64 := by
  have := List.length_filter_le (fun i => m.testBit i) (List.range' k (64 - k))
  simp at this
  unfold remL
  omega
/-- A round whose bit is not set. -/
theorem go_past {I : Nat × List Int → Prop} {mm : Nat × List Int → Nat} {Out : Ex DC → St DC → Prop} {m b y k : Nat} {xs : List Int} (hm : m < 18446744073709551616) (hk : k < 64) (h0 : m.testBit k = false)
    (hI : I (k + 1, xs)) (hmm : mm (k + 1, xs) < mm (k, xs)) : RoundOk (S (e0 m b y 0)) I mm 1 Out (k, xs) (rd (S (e0 m b y 0) (k, xs))) := by
  have q1 : litCmp .lss (k : Int) 64 = true := by rw [lss64]; exact decide_eq_true hk
  have q3 : bitT (m : Int) (k : Int) = true := by rw [bit_nat' hm hk, h0]; rfl
  cases xs with
  | nil =>
    have hr := route_at (r00 (m : Int) (b : Int) (y : Int) (k : Int)) (Code.three q1 pos_nat q3)
    rw [nxt_nat hk] at hr
    exact view_next (S := S (e0 m b y 0)) (g := (k, [])) hr rfl hI hmm
  | cons z zs =>
    have hr := route_at (r11s (m : Int) (b : Int) (y : Int) (k : Int) (z :: zs).length (listF (z :: zs))) (Code.three q1 pos_nat q3)
    rw [nxt_nat hk] at hr
    exact view_next (S := S (e0 m b y 0)) (g := (k, z :: zs)) hr rfl hI hmm
/-- One whose bit is set, and means a hart. -/
theorem go_on {I : Nat × List Int → Prop} {mm : Nat × List Int → Nat} {Out : Ex DC → St DC → Prop} {m b y k : Nat} {xs : List Int} (hm : m < 18446744073709551616) (hb : b < 18446744073709551616) (hy : y ≤ 8) (hk : k < 64) (h0 : m.testBit k = true) (hp : pass b y k = true) (hl : xs.length < 1000000)
    (hI : I (k + 1, xs ++ [((b + k : Nat) : Int)])) (hmm : mm (k + 1, xs ++ [((b + k : Nat) : Int)]) < mm (k, xs)) : RoundOk (S (e0 m b y 0)) I mm 1 Out (k, xs) (rd (S (e0 m b y 0) (k, xs))) := by
  have q1 : litCmp .lss (k : Int) 64 = true := by rw [lss64]; exact decide_eq_true hk
  have q3 : bitT (m : Int) (k : Int) = false := by rw [bit_nat' hm hk, h0]; rfl
  have q4 : refT (b : Int) (y : Int) (k : Int) = false := by rw [ref_nat hy hb hk, hp]; rfl
  have hS := S_snoc (e0 m b y 0) (k + 1) xs ((b + k : Nat) : Int)
  cases xs with
  | nil =>
    have hr := route_at (r01 (m : Int) (b : Int) (y : Int) (k : Int)) (show [_, _, _, _] = [true, true, false, false] by rw [q1, pos_nat, q3, q4])
    rw [nxt_nat hk, val_nat hy hp, listF_one] at hr
    exact view_next (S := S (e0 m b y 0)) (g := (k, [])) hr hS.symm hI hmm
  | cons z zs =>
    have hr := route_at (r11 (m : Int) (b : Int) (y : Int) (k : Int) (z :: zs).length (listF (z :: zs))) (show [_, _, _, _, _] = [true, true, false, false, true] by rw [q1, pos_nat, q3, q4, decide_eq_true (Nat.le_refl _), decide_eq_true hl]; rfl)
    rw [nxt_nat hk, val_nat hy hp, listF_snoc] at hr
    exact view_next (S := S (e0 m b y 0)) (g := (k, z :: zs)) hr hS.symm hI hmm

def IA (q : Nat → Nat → Nat → Prop) (e : Env DC) (g : Nat × List Int) : Prop := ∃ m b y : Nat, e = e0 m b y 0 ∧ m < 18446744073709551616 ∧ b < 18446744073709551616 ∧ y ≤ 8 ∧ q m b y ∧ g.1 ≤ 64 ∧ (remL m g.1).all (pass b y) = true ∧ g.2 ++ vals m b g.1 = vals m b 0
theorem IA_round {q : Nat → Nat → Nat → Prop} {m b y k : Nat} {xs : List Int} {Out : Ex DC → St DC → Prop} (hk : k < 64) (hI : IA q (e0 m b y 0) (k, xs)) : RoundOk (S (e0 m b y 0)) (IA q (e0 m b y 0)) (fun g => 64 - g.1) 1 Out (k, xs) (rd (S (e0 m b y 0) (k, xs))) := by
  obtain ⟨m', b', y', he, hm, hb, hy, hq, hk', hall, hsum⟩ := hI
  simp only [e0, Env.mk.injEq, List.cons.injEq] at he
  have h1 : m = m' := by have := he.1.1; omega
  have h2 : b = b' := by have := he.1.2.1; omega
  have h3 : y = y' := by have := he.1.2.2.1; omega
  subst h1 h2 h3
  simp only [] at hk' hall hsum
  have hstep := rem_step (m := m) hk
  cases h0 : m.testBit k with
  | false =>
    rw [h0] at hstep
    simp only [Bool.false_eq_true, if_false] at hstep
    refine go_past hm hk h0 ⟨m, b, y, rfl, hm, hb, hy, hq, by simp; omega, ?_, ?_⟩ (by simp only []; omega)
    · rw [← hstep]; exact hall
    · unfold vals at hsum ⊢
      rw [← hstep]
      exact hsum
  | true =>
    rw [h0] at hstep
    simp only [if_true] at hstep
    rw [hstep, List.all_cons, Bool.and_eq_true] at hall
    have hlen : xs.length ≤ 64 := by
      have := congrArg List.length hsum
      simp only [vals, List.length_append, List.length_map] at this
      have := rem_le m 0
      omega
    refine go_on hm hb hy hk h0 hall.1 (by omega) ⟨m, b, y, rfl, hm, hb, hy, hq, by simp; omega, hall.2, ?_⟩ (by simp only []; omega)
    unfold vals at hsum ⊢
    rw [hstep, List.map_cons] at hsum
    simp only [List.append_assoc]
    exact hsum
def qN (m b y : Nat) : Prop := (bitsL m).all (pass b y) = true ∧ m ≠ 0
noncomputable def askN (e : Env DC) : Bool := yes (Start qN e)
def resN (e : Env DC) : Env DC := e1 (e.i.getD 0 0) (e.i.getD 1 0) (e.i.getD 2 0) 64 (vals (e.i.getD 0 0).toNat (e.i.getD 1 0).toNat 0).length (listF (vals (e.i.getD 0 0).toNat (e.i.getD 1 0).toNat 0))
theorem blockN (hw : Within Tryd.prog 10 (.block 2 (.loop (loopAt Tryd.prog 10 2)))) (s : St DC) (r : Ex DC × List (W DC)) (hr : (loopSumG (D := DC) t0 t1 1 [0] askN resN .normal s).pick = some r) (w0 : World) (own : List Nat) (ρ : List Rb) (a : Act) (w : World) (H : SR w0 own ρ s a w) :
    (Go.Code.block 2 (.loop (loopAt Tryd.prog 10 2))).wp Tryd.prog (CodePost w0 own ρ s r) a w := by
  refine loopSumG_ok (n := 200) (x1 := .exit 2) (S := S) (I := IA qN) (m := fun _ g => 64 - g.1) (g0 := fun e => (0, [])) cx_ok (.inl ⟨rfl, rfl⟩) (fun e he => ?_) (fun e g _ => S_low e g) (fun e g he hI => ?_) hw s r hr w0 own ρ a w H
  · obtain ⟨m, b, y, rfl, h1, h2, h3, h4, h5⟩ := of_yes he
    exact ⟨⟨m, b, y, rfl, h1, h2, h3, ⟨h4, h5⟩, by simp, by rw [rem_zero]; exact h4, rfl⟩, rfl⟩
  · have hI' := hI
    obtain ⟨m, b, y, rfl, hm, hb, hy, hq, hk, hall, hsum⟩ := hI
    obtain ⟨k, xs⟩ := g
    simp only [] at hk hall hsum
    by_cases h64 : k = 64
    · subst h64
      have hx : xs = vals m b 0 := by
        unfold vals at hsum
        rw [rem_end, List.map_nil, List.append_nil] at hsum
        exact hsum
      have hne : xs ≠ [] := by
        rw [hx]
        unfold vals
        intro e
        rw [rem_zero] at e
        exact hq.2 ((bits_nil hm).1 (List.map_eq_nil_iff.1 e))
      cases xs with
      | nil => exact absurd rfl hne
      | cons z zs =>
        have hrr := route_at (r1x (m : Int) (b : Int) (y : Int) ((64 : Nat) : Int) (z :: zs).length (listF (z :: zs))) (show [_] = [false] from rfl)
        refine view_out (S := S (e0 m b y 0)) (g := (64, z :: zs)) hrr (by simp) (by simp) ?_
        rw [hx]
        rfl
    · exact IA_round (by omega) hI'
def qE (m b y : Nat) : Prop := m = 0
noncomputable def askE (e : Env DC) : Bool := yes (Start qE e)
def resE (e : Env DC) : Env DC := e0 (e.i.getD 0 0) (e.i.getD 1 0) (e.i.getD 2 0) 64
theorem blockE (hw : Within Tryd.prog 10 (.block 2 (.loop (loopAt Tryd.prog 10 2)))) (s : St DC) (r : Ex DC × List (W DC)) (hr : (loopSumG (D := DC) t0 t0 1 [0] askE resE .normal s).pick = some r) (w0 : World) (own : List Nat) (ρ : List Rb) (a : Act) (w : World) (H : SR w0 own ρ s a w) :
    (Go.Code.block 2 (.loop (loopAt Tryd.prog 10 2))).wp Tryd.prog (CodePost w0 own ρ s r) a w := by
  have hz : remL 0 0 = [] := by rw [rem_zero, (bits_nil (by decide)).2 rfl]
  refine loopSumG_ok (n := 200) (x1 := .exit 2) (S := S) (I := IA qE) (m := fun _ g => 64 - g.1) (g0 := fun e => (0, [])) cx_ok (.inl ⟨rfl, rfl⟩) (fun e he => ?_) (fun e g _ => S_low e g) (fun e g he hI => ?_) hw s r hr w0 own ρ a w H
  · obtain ⟨m, b, y, rfl, h1, h2, h3, h4⟩ := of_yes he
    have h4' : m = 0 := h4
    subst h4'
    exact ⟨⟨0, b, y, rfl, h1, h2, h3, rfl, by simp, by rw [hz]; rfl, rfl⟩, rfl⟩
  · have hI' := hI
    obtain ⟨m, b, y, rfl, hm, hb, hy, hq, hk, hall, hsum⟩ := hI
    obtain ⟨k, xs⟩ := g
    simp only [] at hk hall hsum
    by_cases h64 : k = 64
    · subst h64
      have hq' : m = 0 := hq
      subst hq'
      have hx : xs = [] := by
        unfold vals at hsum
        rw [rem_end, List.map_nil, List.append_nil, hz] at hsum
        exact hsum
      subst hx
      exact view_out (S := S (e0 (0 : Nat) b y 0)) (g := (64, [])) (route_at (r0x (((0 : Nat) : Nat) : Int) (b : Int) (y : Int) ((64 : Nat) : Int)) (show [_] = [false] from rfl)) (by simp) (by simp) rfl
    · exact IA_round (by omega) hI'
def qR (m b y : Nat) : Prop := (bitsL m).all (pass b y) = false
noncomputable def askR (e : Env DC) : Bool := yes (Start qR e)
def resR (e : Env DC) : Env DC := ⟨[], [], [], []⟩
def IR (e : Env DC) (g : Nat × List Int) : Prop := ∃ m b y : Nat, e = e0 m b y 0 ∧ m < 18446744073709551616 ∧ b < 18446744073709551616 ∧ y ≤ 8 ∧ g.1 ≤ 64 ∧ (remL m g.1).all (pass b y) = false ∧ g.2.length ≤ g.1
theorem blockR (hw : Within Tryd.prog 10 (.block 2 (.loop (loopAt Tryd.prog 10 2)))) (s : St DC) (r : Ex DC × List (W DC)) (hr : (loopSumG (D := DC) t0 tR 1 [0] askR resR .ret s).pick = some r) (w0 : World) (own : List Nat) (ρ : List Rb) (a : Act) (w : World) (H : SR w0 own ρ s a w) :
    (Go.Code.block 2 (.loop (loopAt Tryd.prog 10 2))).wp Tryd.prog (CodePost w0 own ρ s r) a w := by
  refine loopSumG_ok (n := 200) (x1 := .ret) (S := S) (I := IR) (m := fun _ g => 64 - g.1) (g0 := fun e => (0, [])) cx_ok (.inr ⟨rfl, by simp, by simp, by simp⟩) (fun e he => ?_) (fun e g _ => S_low e g) (fun e g he hI => ?_) hw s r hr w0 own ρ a w H
  · obtain ⟨m, b, y, rfl, h1, h2, h3, h4⟩ := of_yes he
    exact ⟨⟨m, b, y, rfl, h1, h2, h3, by simp, by rw [rem_zero]; exact h4, by simp⟩, rfl⟩
  · obtain ⟨m, b, y, rfl, hm, hb, hy, hk, hall, hlen⟩ := hI
    obtain ⟨k, xs⟩ := g
    simp only [] at hk hall hlen
    by_cases h64 : k = 64
    · subst h64
      rw [rem_end] at hall
      cases hall
    · have hk' : k < 64 := by omega
      have hstep := rem_step (m := m) hk'
      cases h0 : m.testBit k with
      | false =>
        rw [h0] at hstep
        simp only [Bool.false_eq_true, if_false] at hstep
        exact go_past hm hk' h0 ⟨m, b, y, rfl, hm, hb, hy, by simp; omega, by rw [← hstep]; exact hall, by simp; omega⟩ (by simp only []; omega)
      | true =>
        rw [h0] at hstep
        simp only [if_true] at hstep
        cases hp : pass b y k with
        | true =>
          rw [hstep, List.all_cons, hp, Bool.true_and] at hall
          exact go_on hm hb hy hk' h0 hp (by omega) ⟨m, b, y, rfl, hm, hb, hy, by simp; omega, hall, by simp; omega⟩ (by simp only []; omega)
        | false =>
          have q1 : litCmp .lss (k : Int) 64 = true := by rw [lss64]; exact decide_eq_true hk'
          have q3 : bitT (m : Int) (k : Int) = false := by rw [bit_nat' hm hk', h0]; rfl
          have q4 : refT (b : Int) (y : Int) (k : Int) = true := by rw [ref_nat hy hb hk', hp]; rfl
          cases xs with
          | nil => exact view_out (S := S (e0 m b y 0)) (g := (k, [])) (route_at (r0R (m : Int) (b : Int) (y : Int) (k : Int)) (show [_, _, _, _] = [true, true, false, true] by rw [q1, pos_nat, q3, q4])) (by simp) (by simp) rfl
          | cons z zs => exact view_out (S := S (e0 m b y 0)) (g := (k, z :: zs)) (route_at (r1R (m : Int) (b : Int) (y : Int) (k : Int) (z :: zs).length (listF (z :: zs))) (show [_, _, _, _] = [true, true, false, true] by rw [q1, pos_nat, q3, q4])) (by simp) (by simp) rfl

/-! ### The loop over all -/
def S0 (e : Env DC) (g : Nat × List Int) : St DC := match g.2 with
  | [] => u0.fill (f0 (e.i.getD 0 0) (g.1 : Int))
  | _ :: _ => u1.fill (f1 (e.i.getD 0 0) (g.1 : Int) g.2.length (listF g.2))
theorem S0_snoc (e : Env DC) (k : Nat) (xs : List Int) (x : Int) : S0 e (k, xs ++ [x]) = u1.fill (f1 (e.i.getD 0 0) (k : Int) (xs.length + 1) (listF (xs ++ [x]))) := by
  cases xs with
  | nil => rfl
  | cons y ys => unfold S0; simp only [List.cons_append]; rw [← List.cons_append, List.length_append]; rfl
theorem S0_low (e : Env DC) (g : Nat × List Int) : 1 ≤ (S0 e g).heap.length := by
  obtain ⟨k, xs⟩ := g
  cases xs with
  | nil => exact Nat.le_refl _
  | cons x xs => exact Nat.le_succ _
def rng (k : Nat) : List Int := (List.range k).map fun (i : Nat) => (i : Int)
theorem rng_succ (k : Nat) : rng (k + 1) = rng k ++ [(k : Int)] := by unfold rng; rw [List.range_succ, List.map_append]; rfl
theorem rng_len (k : Nat) : (rng k).length = k := by simp [rng]
noncomputable def askA (e : Env DC) : Bool := yes (∃ y : Nat, e = f0 y 0 ∧ 0 < y ∧ y ≤ 8)
def resA (e : Env DC) : Env DC := f1 (e.i.getD 0 0) (e.i.getD 0 0) (rng (e.i.getD 0 0).toNat).length (listF (rng (e.i.getD 0 0).toNat))
theorem blockA (hw : Within Tryd.prog 10 (.block 0 (.loop (loopAt Tryd.prog 10 0)))) (s : St DC) (r : Ex DC × List (W DC)) (hr : (loopSumG (D := DC) u0 u1 1 [0] askA resA .normal s).pick = some r) (w0 : World) (own : List Nat) (ρ : List Rb) (a : Act) (w : World) (H : SR w0 own ρ s a w) :
    (Go.Code.block 0 (.loop (loopAt Tryd.prog 10 0))).wp Tryd.prog (CodePost w0 own ρ s r) a w := by
  refine loopSumG_ok (n := 200) (x1 := .exit 0) (S := S0) (I := fun e g => ∃ y : Nat, e = f0 y 0 ∧ 0 < y ∧ y ≤ 8 ∧ g.1 ≤ y ∧ g.2 = rng g.1) (m := fun e g => (e.i.getD 0 0).toNat - g.1) (g0 := fun e => (0, [])) cx_ok (.inl ⟨rfl, rfl⟩) (fun e he => ?_) (fun e g _ => S0_low e g) (fun e g he hI => ?_) hw s r hr w0 own ρ a w H
  · obtain ⟨y, rfl, h1, h2⟩ := of_yes he
    exact ⟨⟨y, rfl, h1, h2, by simp, rfl⟩, rfl⟩
  · obtain ⟨y, rfl, h1, h2, hk, hx⟩ := hI
    obtain ⟨k, xs⟩ := g
    simp only [] at hk hx
    by_cases hky : k = y
    · subst hky
      cases xs with
      | nil =>
        have := congrArg List.length hx
        rw [rng_len] at this
        simp at this
        omega
      | cons z zs =>
        have hrr := route_at (s1x (k : Int) (k : Int) (z :: zs).length (listF (z :: zs))) (show [_] = [false] by rw [lss_nat, decide_eq_false (Nat.lt_irrefl _)])
        refine view_out (S := S0 (f0 k 0)) (g := (k, z :: zs)) hrr (by simp) (by simp) ?_
        rw [hx]
        rfl
    · have hlt : k < y := by omega
      have hn : nxt (k : Int) = ((k + 1 : Nat) : Int) := nxt_nat (by omega)
      have hS := S0_snoc (f0 y 0) (k + 1) xs (k : Int)
      have hI2 : ∃ y' : Nat, f0 (y : Int) 0 = f0 (y' : Int) 0 ∧ 0 < y' ∧ y' ≤ 8 ∧ (k + 1, xs ++ [(k : Int)]).1 ≤ y' ∧ (k + 1, xs ++ [(k : Int)]).2 = rng (k + 1, xs ++ [(k : Int)]).1 := ⟨y, rfl, h1, h2, hlt, by simp only []; rw [hx, rng_succ]⟩
      have hmm : ((f0 (y : Int) 0).i.getD 0 0).toNat - (k + 1, xs ++ [(k : Int)]).1 < ((f0 (y : Int) 0).i.getD 0 0).toNat - (k, xs).1 := by
        show (y : Int).toNat - (k + 1) < (y : Int).toNat - k
        omega
      cases xs with
      | nil =>
        have hrr := route_at (s01 (y : Int) (k : Int)) (show [_] = [true] by rw [lss_nat, decide_eq_true hlt])
        rw [hn, listF_one] at hrr
        exact view_next (S := S0 (f0 y 0)) (g := (k, [])) hrr hS.symm hI2 hmm
      | cons z zs =>
        have hl : (z :: zs).length < 1000000 := by rw [hx, rng_len]; omega
        have hrr := route_at (s11 (y : Int) (k : Int) (z :: zs).length (listF (z :: zs))) (show [_, _] = [true, true] by rw [lss_nat, decide_eq_true hlt, decide_eq_true (Nat.le_refl _), decide_eq_true hl]; rfl)
        rw [hn, listF_snoc] at hrr
        exact view_next (S := S0 (f0 y 0)) (g := (k, z :: zs)) hrr hS.symm hI2 hmm
noncomputable def askB (e : Env DC) : Bool := yes (e = f0 (0 : Nat) 0)
def resB (e : Env DC) : Env DC := e
theorem blockB (hw : Within Tryd.prog 10 (.block 0 (.loop (loopAt Tryd.prog 10 0)))) (s : St DC) (r : Ex DC × List (W DC)) (hr : (loopSumG (D := DC) u0 u0 1 [0] askB resB .normal s).pick = some r) (w0 : World) (own : List Nat) (ρ : List Rb) (a : Act) (w : World) (H : SR w0 own ρ s a w) :
    (Go.Code.block 0 (.loop (loopAt Tryd.prog 10 0))).wp Tryd.prog (CodePost w0 own ρ s r) a w := by
  refine loopSumG_ok (n := 200) (x1 := .exit 0) (S := S0) (I := fun e g => e = f0 (0 : Nat) 0 ∧ g = (0, [])) (m := fun e g => 0) (g0 := fun e => (0, [])) cx_ok (.inl ⟨rfl, rfl⟩) (fun e he => ?_) (fun e g _ => S0_low e g) (fun e g he hI => ?_) hw s r hr w0 own ρ a w H
  · have h := of_yes he
    exact ⟨⟨h, rfl⟩, by rw [h]; rfl⟩
  · obtain ⟨rfl, rfl⟩ := hI
    exact view_out (S := S0 (f0 (0 : Nat) 0)) (g := (0, [])) (route_at (s0x ((0 : Nat) : Int) ((0 : Nat) : Int)) (show [_] = [false] from rfl)) (by simp) (by simp) rfl

noncomputable def cxA : Cx DC := cx.block 10 0 (loopSumG u0 u1 1 [0] askA resA .normal)
theorem cxA_ok : Ok Tryd.prog cxA := cx_ok.block (by kernel_rfl) blockA
noncomputable def cxN : Cx DC := cxA.block 10 2 (loopSumG t0 t1 1 [0] askN resN .normal)
noncomputable def cxE : Cx DC := cxA.block 10 2 (loopSumG t0 t0 1 [0] askE resE .normal)
noncomputable def cxR : Cx DC := cxA.block 10 2 (loopSumG t0 tR 1 [0] askR resR .ret)
noncomputable def cxB0 : Cx DC := cx.block 10 0 (loopSumG u0 u0 1 [0] askB resB .normal)
noncomputable def cxB : Cx DC := cxB0.block 10 2 (loopSumG t0 tR 1 [0] askR resR .ret)
theorem cxN_ok : Ok Tryd.prog cxN := cxA_ok.block (by kernel_rfl) blockN
theorem cxE_ok : Ok Tryd.prog cxE := cxA_ok.block (by kernel_rfl) blockE
theorem cxR_ok : Ok Tryd.prog cxR := cxA_ok.block (by kernel_rfl) blockR
theorem cxB_ok : Ok Tryd.prog cxB := (cx_ok.block (by kernel_rfl) blockB).block (by kernel_rfl) blockR
end Ref
end Go.Proofs.YtbjlkapfpcmjfaaDoor.Mask
