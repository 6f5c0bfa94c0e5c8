/- The code's Harts: a list of numbers. Conditions: none. -/
import Derived.Test.YtbjlkapfpcmjfaaDoorMaskBits
namespace Go.Proofs.YtbjlkapfpcmjfaaDoor.Mask
open Go.RowKit Ev
set_option linter.unusedVariables false
set_option linter.unusedSimpArgs false

def sk (n : Nat) : List TV := List.replicate n .skip
def lsL {D : Dom} (i : Nat) (s : St D) : List Nat := match s.slots.getD i .dead with
  | .slice b _ _ _ => [b]
  | _ => []
def lsN {D : Dom} (s : St D) : List Nat := []

namespace Code
def t0 : Tmpl := { slots := [.int .u64, .int .u64, .skip, .skip, .skip, .skip, .nilslice, .truth false, .int .u64, .nilslice] ++ sk 37, heap := [] }
def t1 : Tmpl := { slots := [.int .u64, .int .u64, .skip, .skip, .skip, .skip, .nilslice, .truth false, .int .u64, .slice 0 0 (.un 1)] ++ sk 37, heap := [.arr 3 [.int .i64]] }
def tR : Tmpl := { slots := sk 6 ++ [.nilslice, .truth false] ++ sk 39, heap := [] }
def e0 (M B Y : Int) : Env DC := ⟨[M, B, Y], [], [], []⟩
def e1 (M B Y : Int) (n : Nat) (F : Nat → Int) : Env DC := ⟨[M, B, Y], [], [n, n], [F]⟩
noncomputable def rd (s : St DC) : T DC (Ex DC × List (W DC)) := ev Tryd.prog cx 8 200 (.code (loopAt Tryd.prog 8 0)) s
def inT (M : Int) : Bool := decide (0 ≤ M ∧ M < 18446744073709551616)
def refT (M B Y : Int) : Bool := cond (litCmp .geq B Y) true (litCmp .geq (IntKind.u64.wrap (tzI M)) (litBin .sub .u64 Y B))
def nxt (M : Int) : Int := litBin .and .u64 M (litBin .sub .u64 M 1)
def val (M B : Int) : Int := IntKind.i64.wrap (litBin .add .u64 B (IntKind.u64.wrap (tzI M)))
set_option maxRecDepth 100000 in
theorem r0x (M B Y : Int) : (viewT t0 0 (lsL 9) (t0.fill (e0 M B Y)) (rd (t0.fill (e0 M B Y)))).route [false] = some ([litCmp .neq M 0], (.exit 0, some (e0 M B Y))) := by kernel_rfl
set_option maxRecDepth 100000 in
theorem r1x (M B Y : Int) (n : Nat) (F : Nat → Int) : (viewT t1 0 (lsL 9) (t1.fill (e1 M B Y n F)) (rd (t1.fill (e1 M B Y n F)))).route [false] = some ([litCmp .neq M 0], (.exit 0, some (e1 M B Y n F))) := by kernel_rfl
set_option maxRecDepth 100000 in
theorem r01 (M B Y : Int) : (viewT t1 0 (lsL 9) (t0.fill (e0 M B Y)) (rd (t0.fill (e0 M B Y)))).route [true, true, false] = some ([litCmp .neq M 0, inT M, refT M B Y], (.normal, some (e1 (nxt M) B Y 1 (fun i => if i = 0 then val M B else 0)))) := by kernel_rfl
set_option maxRecDepth 100000 in
theorem r11 (M B Y : Int) (n : Nat) (F : Nat → Int) : (viewT t1 0 (lsL 9) (t1.fill (e1 M B Y n F)) (rd (t1.fill (e1 M B Y n F)))).route [true, true, false, true] = some ([litCmp .neq M 0, inT M, refT M B Y, decide (n ≤ n) && decide (n < 1000000)], (.normal, some (e1 (nxt M) B Y (n + 1) (fun i => if i = n then val M B else F i)))) := by kernel_rfl
set_option maxRecDepth 100000 in
theorem r0R (M B Y : Int) : (viewT tR 0 lsN (t0.fill (e0 M B Y)) (rd (t0.fill (e0 M B Y)))).route [true, true, true] = some ([litCmp .neq M 0, inT M, refT M B Y], (.ret, some ⟨[], [], [], []⟩)) := by kernel_rfl
set_option maxRecDepth 100000 in
theorem r1R (M B Y : Int) (n : Nat) (F : Nat → Int) : (viewT tR 0 lsN (t1.fill (e1 M B Y n F)) (rd (t1.fill (e1 M B Y n F)))).route [true, true, true] = some ([litCmp .neq M 0, inT M, refT M B Y], (.ret, some ⟨[], [], [], []⟩)) := by kernel_rfl

/-! ### The loop -/
def vals (m b : Nat) : List Int := (bitsL m).map fun k => ((b + k : Nat) : Int)
/-- The state: what is left of the mask, and the list so far. -/
def S (e : Env DC) (g : Nat × List Int) : St DC := match g.2 with
  | [] => t0.fill (e0 (g.1 : Int) (e.i.getD 1 0) (e.i.getD 2 0))
  | _ :: _ => t1.fill (e1 (g.1 : Int) (e.i.getD 1 0) (e.i.getD 2 0) g.2.length (listF g.2))
theorem S_snoc (e : Env DC) (M : Nat) (xs : List Int) (x : Int) : S e (M, xs ++ [x]) = t1.fill (e1 (M : Int) (e.i.getD 1 0) (e.i.getD 2 0) (xs.length + 1) (listF (xs ++ [x]))) := by
  cases xs with
  | nil => rfl
  | cons y ys => unfold S; simp only [List.cons_append]; rw [← List.cons_append, List.length_append]; rfl
def Start (q : Nat → Nat → Nat → Prop) (e : Env DC) : Prop := ∃ m b y : Nat, e = e0 m b y ∧ m < 18446744073709551616 ∧ y ≤ 8 ∧ q m b y
theorem inT_nat {m : Nat} (h : m < 18446744073709551616) : inT (m : Int) = true := decide_eq_true ⟨by omega, by omega⟩
theorem neq0 {m : Nat} : litCmp .neq (m : Int) 0 = decide (m ≠ 0) := by
  rw [neq_eq, ← decide_not]
  congr 1
  apply propext
  omega
theorem three {a b c a' b' c' : Bool} (h1 : a = a') (h2 : b = b') (h3 : c = c') : [a, b, c] = [a', b', c'] := by rw [h1, h2, h3]
theorem bits_le (m : Nat) : (bitsL m).length ≤ 64 := by
  have := List.length_filter_le (fun k => m.testBit k) (List.range 64)
  simpa [bitsL] using this

/-- A round that goes on. -/
theorem go_on {e : Env DC} {I : Nat × List Int → Prop} {mm : Nat × List Int → Nat} {Out : Ex DC → St DC → Prop} {b y M : Nat} {xs : List Int} (hb : e.i.getD 1 0 = (b : Int)) (hy' : e.i.getD 2 0 = (y : Int)) (hM : M < 18446744073709551616) (hy : y ≤ 8) (h0 : M ≠ 0) (hp : pass b y (Lib.ctz 64 M) = true) (hl : xs.length < 1000000)
    (hI : I (M &&& (M - 1), xs ++ [((b + Lib.ctz 64 M : Nat) : Int)])) (hm : mm (M &&& (M - 1), xs ++ [((b + Lib.ctz 64 M : Nat) : Int)]) < mm (M, xs)) : RoundOk (S e) I mm 0 Out (M, xs) (rd (S e (M, xs))) := by
  obtain ⟨hk, _⟩ := ctz_spec h0 hM
  have q1 : litCmp .neq (M : Int) 0 = true := by rw [neq0]; exact decide_eq_true h0
  have q3 : refT (M : Int) (b : Int) (y : Int) = false := by unfold refT; rw [tzI_nat, refuse_I hy hk, hp]; rfl
  have hv : val (M : Int) (b : Int) = ((b + Lib.ctz 64 M : Nat) : Int) := by unfold val; rw [tzI_nat, value_I hy hp]
  have hn : nxt (M : Int) = ((M &&& (M - 1) : Nat) : Int) := next_I h0 hM
  have hS := S_snoc e (M &&& (M - 1)) xs ((b + Lib.ctz 64 M : Nat) : Int)
  rw [hb, hy'] at hS
  cases xs with
  | nil =>
    have hr := route_at (r01 (M : Int) (b : Int) (y : Int)) (three q1 (inT_nat hM) q3)
    rw [hv, hn, listF_one] at hr
    have hs : S e (M, []) = t0.fill (e0 M b y) := by unfold S; rw [hb, hy']
    rw [hs]
    exact view_next (S := S e) (g := (M, [])) (by rw [hs]; exact hr) hS.symm hI hm
  | cons z zs =>
    have hr := route_at (r11 (M : Int) (b : Int) (y : Int) (z :: zs).length (listF (z :: zs))) (show [_, _, _, _] = [true, true, false, true] by rw [q1, inT_nat hM, q3, decide_eq_true (Nat.le_refl _), decide_eq_true hl]; rfl)
    rw [hv, hn, listF_snoc] at hr
    have hs : S e (M, z :: zs) = t1.fill (e1 M b y (z :: zs).length (listF (z :: zs))) := by unfold S; rw [hb, hy']
    rw [hs]
    exact view_next (S := S e) (g := (M, z :: zs)) (by rw [hs]; exact hr) hS.symm hI hm

theorem fill_t0 (e : Env DC) (M b y : Nat) : S (e0 M b y) (M, []) = t0.fill (e0 M b y) := rfl
theorem S_low (e : Env DC) (g : Nat × List Int) : 0 ≤ (S e g).heap.length := Nat.zero_le _

/-- All are there. -/
def qN (m b y : Nat) : Prop := (bitsL m).all (pass b y) = true ∧ m ≠ 0
noncomputable def askN (e : Env DC) : Bool := yes (Start qN e)
def resN (e : Env DC) : Env DC := e1 0 (e.i.getD 1 0) (e.i.getD 2 0) (vals (e.i.getD 0 0).toNat (e.i.getD 1 0).toNat).length (listF (vals (e.i.getD 0 0).toNat (e.i.getD 1 0).toNat))
def IN (e : Env DC) (g : Nat × List Int) : Prop := ∃ m b y : Nat, e = e0 m b y ∧ y ≤ 8 ∧ m ≠ 0 ∧ m < 18446744073709551616 ∧ g.1 < 18446744073709551616 ∧ (bitsL g.1).all (pass b y) = true ∧ g.2 ++ vals g.1 b = vals m b
theorem blockN (hw : Within Tryd.prog 8 (.block 0 (.loop (loopAt Tryd.prog 8 0)))) (s : St DC) (r : Ex DC × List (W DC)) (hr : (loopSumG (D := DC) t0 t1 0 [] askN resN .normal s).pick = some r) (w0 : World) (own : List Nat) (ρ : List Rb) (a : Act) (w : World) (H : SR w0 own ρ s a w) :
    (Go.Code.block 0 (.loop (loopAt Tryd.prog 8 0))).wp Tryd.prog (CodePost w0 own ρ s r) a w := by
  refine loopSumG_ok (n := 200) (x1 := .exit 0) (S := S) (I := IN) (m := fun _ g => (bitsL g.1).length) (g0 := fun e => ((e.i.getD 0 0).toNat, [])) cx_ok (.inl ⟨rfl, rfl⟩) (fun e he => ?_) (fun e g _ => Nat.zero_le _) (fun e g he hI => ?_) hw s r hr w0 own ρ a w H
  · obtain ⟨m, b, y, rfl, h1, h2, h3, h4⟩ := of_yes he
    exact ⟨⟨m, b, y, rfl, h2, h4, h1, h1, h3, rfl⟩, rfl⟩
  · obtain ⟨m, b, y, rfl, hy, hm0, hm, hM, hall, hsum⟩ := hI
    obtain ⟨M, xs⟩ := g
    simp only [] at hM hall hsum
    by_cases h0 : M = 0
    · subst h0
      have hx : xs = vals m b := by
        have : vals 0 b = [] := by unfold vals; rw [(bits_nil (by decide)).2 rfl]; rfl
        rw [this, List.append_nil] at hsum
        exact hsum
      have hne : xs ≠ [] := by
        rw [hx]
        unfold vals
        intro e
        exact hm0 ((bits_nil hm).1 (List.map_eq_nil_iff.1 e))
      cases xs with
      | nil => exact absurd rfl hne
      | cons z zs =>
        have hrr := route_at (r1x 0 (b : Int) (y : Int) (z :: zs).length (listF (z :: zs))) (show [_] = [false] from rfl)
        refine view_out (S := S (e0 m b y)) (g := (0, z :: zs)) hrr (by simp) (by simp) ?_
        rw [hx]
        rfl
    · have hstep := bits_step h0 hM
      have hp : pass b y (Lib.ctz 64 M) = true := by
        rw [hstep, List.all_cons, Bool.and_eq_true] at hall
        exact hall.1
      have hlen : xs.length + (bitsL M).length ≤ 64 := by
        have := congrArg List.length hsum
        simp only [vals, List.length_append, List.length_map] at this
        have := bits_le m
        omega
      refine go_on (b := b) (y := y) rfl rfl hM hy h0 hp (by omega) ⟨m, b, y, rfl, hy, hm0, hm, next_lt hM, ?_, ?_⟩ ?_
      · rw [hstep, List.all_cons, Bool.and_eq_true] at hall
        exact hall.2
      · rw [← hsum]
        unfold vals
        rw [hstep, List.map_cons, List.append_assoc]
        rfl
      · simp only []
        rw [hstep, List.length_cons]
        omega
/-- None is meant. -/
def qE (m b y : Nat) : Prop := m = 0
noncomputable def askE (e : Env DC) : Bool := yes (Start qE e)
def resE (e : Env DC) : Env DC := e
theorem blockE (hw : Within Tryd.prog 8 (.block 0 (.loop (loopAt Tryd.prog 8 0)))) (s : St DC) (r : Ex DC × List (W DC)) (hr : (loopSumG (D := DC) t0 t0 0 [] askE resE .normal s).pick = some r) (w0 : World) (own : List Nat) (ρ : List Rb) (a : Act) (w : World) (H : SR w0 own ρ s a w) :
    (Go.Code.block 0 (.loop (loopAt Tryd.prog 8 0))).wp Tryd.prog (CodePost w0 own ρ s r) a w := by
  refine loopSumG_ok (n := 200) (x1 := .exit 0) (S := S) (I := fun e g => Start qE e ∧ g = (0, [])) (m := fun _ g => 0) (g0 := fun e => (0, [])) cx_ok (.inl ⟨rfl, rfl⟩) (fun e he => ?_) (fun e g _ => Nat.zero_le _) (fun e g he hI => ?_) hw s r hr w0 own ρ a w H
  · refine ⟨⟨of_yes he, rfl⟩, ?_⟩
    obtain ⟨m, b, y, rfl, h1, h2, h3⟩ := of_yes he
    have h3' : m = 0 := h3
    subst h3'
    rfl
  · obtain ⟨⟨m, b, y, rfl, h1, h2, h3⟩, rfl⟩ := hI
    have h3' : m = 0 := h3
    subst h3'
    exact view_out (S := S (e0 (0 : Nat) b y)) (g := (0, [])) (route_at (r0x 0 (b : Int) (y : Int)) (show [_] = [false] from rfl)) (by simp) (by simp) rfl
/-- One is not there. -/
def qR (m b y : Nat) : Prop := (bitsL m).all (pass b y) = false
noncomputable def askR (e : Env DC) : Bool := yes (Start qR e)
def resR (e : Env DC) : Env DC := ⟨[], [], [], []⟩
theorem blockR (hw : Within Tryd.prog 8 (.block 0 (.loop (loopAt Tryd.prog 8 0)))) (s : St DC) (r : Ex DC × List (W DC)) (hr : (loopSumG (D := DC) t0 tR 0 [] askR resR .ret s).pick = some r) (w0 : World) (own : List Nat) (ρ : List Rb) (a : Act) (w : World) (H : SR w0 own ρ s a w) :
    (Go.Code.block 0 (.loop (loopAt Tryd.prog 8 0))).wp Tryd.prog (CodePost w0 own ρ s r) a w := by
  refine loopSumG_ok (n := 200) (x1 := .ret) (S := S) (I := fun e g => ∃ m b y : Nat, e = e0 m b y ∧ y ≤ 8 ∧ g.1 < 18446744073709551616 ∧ (bitsL g.1).all (pass b y) = false ∧ g.2.length + (bitsL g.1).length ≤ 64) (m := fun _ g => (bitsL g.1).length) (g0 := fun e => ((e.i.getD 0 0).toNat, [])) cx_ok (.inr ⟨rfl, by simp, by simp, by simp⟩) (fun e he => ?_) (fun e g _ => Nat.zero_le _) (fun e g he hI => ?_) hw s r hr w0 own ρ a w H
  · obtain ⟨m, b, y, rfl, h1, h2, h3⟩ := of_yes he
    exact ⟨⟨m, b, y, rfl, h2, h1, h3, by have := bits_le m; simpa [e0] using this⟩, rfl⟩
  · obtain ⟨m, b, y, rfl, hy, hM, hall, hlen⟩ := hI
    obtain ⟨M, xs⟩ := g
    simp only [] at hM hall hlen
    by_cases h0 : M = 0
    · subst h0
      rw [(bits_nil (by decide)).2 rfl] at hall
      cases hall
    · have hstep := bits_step h0 hM
      cases hp : pass b y (Lib.ctz 64 M) with
      | true =>
        refine go_on (b := b) (y := y) rfl rfl hM hy h0 hp (by omega) ⟨m, b, y, rfl, hy, next_lt hM, ?_, ?_⟩ ?_
        · rw [hstep, List.all_cons, hp, Bool.true_and] at hall
          exact hall
        · rw [hstep, List.length_cons] at hlen
          simp only [List.length_append, List.length_singleton]
          omega
        · simp only []
          rw [hstep, List.length_cons]
          omega
      | false =>
        obtain ⟨hk, _⟩ := ctz_spec h0 hM
        have q1 : litCmp .neq (M : Int) 0 = true := by rw [neq0]; exact decide_eq_true h0
        have q3 : refT (M : Int) (b : Int) (y : Int) = true := by unfold refT; rw [tzI_nat, refuse_I hy hk, hp]; rfl
        cases xs with
        | nil => exact view_out (S := S (e0 m b y)) (g := (M, [])) (route_at (r0R (M : Int) (b : Int) (y : Int)) (three q1 (inT_nat hM) q3)) (by simp) (by simp) rfl
        | cons z zs => exact view_out (S := S (e0 m b y)) (g := (M, z :: zs)) (route_at (r1R (M : Int) (b : Int) (y : Int) (z :: zs).length (listF (z :: zs))) (three q1 (inT_nat hM) q3)) (by simp) (by simp) rfl

noncomputable def cxN : Cx DC := cx.block 8 0 (loopSumG t0 t1 0 [] askN resN .normal)
noncomputable def cxE : Cx DC := cx.block 8 0 (loopSumG t0 t0 0 [] askE resE .normal)
noncomputable def cxR : Cx DC := cx.block 8 0 (loopSumG t0 tR 0 [] askR resR .ret)
theorem cxN_ok : Ok Tryd.prog cxN := cx_ok.block (by kernel_rfl) blockN
theorem cxE_ok : Ok Tryd.prog cxE := cx_ok.block (by kernel_rfl) blockE
theorem cxR_ok : Ok Tryd.prog cxR := cx_ok.block (by kernel_rfl) blockR
end Code
end Go.Proofs.YtbjlkapfpcmjfaaDoor.Mask
