/- What the reference does of a store to reservations, as terms. Conditions: none. -/
import Derived.Test.YtgljicadcegilaaResBits
import Derived.Test.YtgljicadcegilaaEvLoop
import Derived.Test.YtgljicadcegilaaEvPureA
import Derived.Test.YtgljicadcegilaaEvTails
namespace Go.Proofs.Ytgljicadcegilaa.Ev
open Go.RowKit
set_option linter.unusedVariables false
set_option linter.unusedSimpArgs false

def inG (g : Int) : Bool := cond (litCmp .geq g 0) (litCmp .lss g 8) false
/-- What becomes of a reservation by a store of another hart. -/
def stF (k g x n A : Int) (b : Bool) : Bool := cond b (!(cond (litCmp .neq k g) (hitS x n A) false)) false
def m8 (A : Int) : Bool := decide (0 ≤ A ∧ A < 18446744073709551616 ∧ A % 8 = 0)
def ask36 (x n A0 A1 A2 A3 A4 A5 A6 A7 : Int) : Bool := decide (0 ≤ x ∧ x < 18446744073709551616) && (decide (n ≤ 64) && (m8 A0 && (m8 A1 && (m8 A2 && (m8 A3 && (m8 A4 && (m8 A5 && (m8 A6 && (m8 A7)))))))))
namespace Res36
def sl : List TV := [.ptr 0 0, .int .i64, .int .u64, .int .i64] ++ List.replicate 4 .skip
def hp : List TO := [.cells 54 [.bool, .bool, .bool, .bool, .bool, .bool, .bool, .bool, .int .u64, .int .u64, .int .u64, .int .u64, .int .u64, .int .u64, .int .u64, .int .u64]]
def tm : Tmpl := { slots := sl ++ [.int .i64] ++ List.replicate 47 .skip, heap := hp }
def tm' : Tmpl := { slots := sl ++ List.replicate 48 .skip, heap := hp }
def nxs (k g i : Int) (b : Bool) (A x : Int) : Bool := cond (cond (litCmp .neq k g) (cond b (litCmp .eql A (litBin .sub .u64 (litBin .add .u64 x (IntKind.wrap .u64 i)) (litBin .rem .u64 (litBin .add .u64 x (IntKind.wrap .u64 i)) 8))) false) false) false b
def res (e : Env DC) : Env DC := ⟨e.i.take 3 ++ e.i.drop 4, [stF 0 (e.i.getD 0 0) (e.i.getD 1 0) (e.i.getD 2 0) (e.i.getD 4 0) (e.b.getD 0 false), stF 1 (e.i.getD 0 0) (e.i.getD 1 0) (e.i.getD 2 0) (e.i.getD 5 0) (e.b.getD 1 false), stF 2 (e.i.getD 0 0) (e.i.getD 1 0) (e.i.getD 2 0) (e.i.getD 6 0) (e.b.getD 2 false), stF 3 (e.i.getD 0 0) (e.i.getD 1 0) (e.i.getD 2 0) (e.i.getD 7 0) (e.b.getD 3 false), stF 4 (e.i.getD 0 0) (e.i.getD 1 0) (e.i.getD 2 0) (e.i.getD 8 0) (e.b.getD 4 false), stF 5 (e.i.getD 0 0) (e.i.getD 1 0) (e.i.getD 2 0) (e.i.getD 9 0) (e.b.getD 5 false), stF 6 (e.i.getD 0 0) (e.i.getD 1 0) (e.i.getD 2 0) (e.i.getD 10 0) (e.b.getD 6 false), stF 7 (e.i.getD 0 0) (e.i.getD 1 0) (e.i.getD 2 0) (e.i.getD 11 0) (e.b.getD 7 false)], [], []⟩
set_option maxRecDepth 100000 in
theorem goes (g x n i A0 A1 A2 A3 A4 A5 A6 A7 : Int) (s0 s1 s2 s3 s4 s5 s6 s7 : Bool) : (viewT tm 1 (fun _ => [0]) (tm.fill ⟨[g, x, n, i, A0, A1, A2, A3, A4, A5, A6, A7], [s0, s1, s2, s3, s4, s5, s6, s7], [], []⟩) (ev Try.prog cx 36 400 (.code (loopAt Try.prog 36 0)) (tm.fill ⟨[g, x, n, i, A0, A1, A2, A3, A4, A5, A6, A7], [s0, s1, s2, s3, s4, s5, s6, s7], [], []⟩))).route [true] = some ([litCmp .lss i n], (.normal, some ⟨[g, x, n, litBin .add .i64 i 1, A0, A1, A2, A3, A4, A5, A6, A7], [nxs 0 g i s0 A0 x, nxs 1 g i s1 A1 x, nxs 2 g i s2 A2 x, nxs 3 g i s3 A3 x, nxs 4 g i s4 A4 x, nxs 5 g i s5 A5 x, nxs 6 g i s6 A6 x, nxs 7 g i s7 A7 x], [], []⟩)) := by kernel_rfl
set_option maxRecDepth 100000 in
theorem ends (g x n i A0 A1 A2 A3 A4 A5 A6 A7 : Int) (s0 s1 s2 s3 s4 s5 s6 s7 : Bool) : (viewT tm 1 (fun _ => [0]) (tm.fill ⟨[g, x, n, i, A0, A1, A2, A3, A4, A5, A6, A7], [s0, s1, s2, s3, s4, s5, s6, s7], [], []⟩) (ev Try.prog cx 36 400 (.code (loopAt Try.prog 36 0)) (tm.fill ⟨[g, x, n, i, A0, A1, A2, A3, A4, A5, A6, A7], [s0, s1, s2, s3, s4, s5, s6, s7], [], []⟩))).route [false] = some ([litCmp .lss i n], (.exit 0, some ⟨[g, x, n, i, A0, A1, A2, A3, A4, A5, A6, A7], [s0, s1, s2, s3, s4, s5, s6, s7], [], []⟩)) := by kernel_rfl

structure Kp (k g x A : Int) (q : Nat) (s t : Bool) : Prop where
  inA : inU A
  m8 : A % 8 = 0
  iff : t = true ↔ s = true ∧ ¬ (k ≠ g ∧ ∃ m : Nat, m < q ∧ (x + m) % 18446744073709551616 / 8 = A / 8)
theorem Kp.next {k g x A : Int} {q : Nat} {s t : Bool} (h : Kp k g x A q s t) (hx : inU x) (hq : q < 64) : Kp k g x A (q + 1) s (nxs k g (q : Int) t A x) := by
  refine ⟨h.inA, h.m8, ?_⟩
  have hA := h.inA
  have hm := h.m8
  unfold inU at hA
  have e : nxs k g (q : Int) t A x = (t && !(decide (k ≠ g) && decide ((x + q) % 18446744073709551616 / 8 = A / 8))) := by
    unfold nxs
    have h1 : litBin .add .u64 x (IntKind.wrap .u64 (q : Int)) = (x + q) % 18446744073709551616 := by
      rw [add_eq, Ev.wrap64, Int.emod_eq_of_lt (by omega : 0 ≤ (q : Int)) (by omega)]
    have h2 : litBin .rem .u64 ((x + q) % 18446744073709551616) 8 = (x + q) % 18446744073709551616 % 8 := by
      show ((x + q) % 18446744073709551616).tmod 8 = _
      rw [Int.tmod_eq_emod_of_nonneg (by omega)]
    rw [h1, h2, sub_eq, neq_eq, eql_eq]
    have h3 : decide (A = ((x + ↑q) % 18446744073709551616 - (x + ↑q) % 18446744073709551616 % 8) % 18446744073709551616) = decide ((x + q) % 18446744073709551616 / 8 = A / 8) := decide_eq_decide.2 (by omega)
    rw [h3]
    by_cases hk : k = g
    · rw [decide_eq_true hk, decide_eq_false (by simp [hk] : ¬ k ≠ g)]
      cases t <;> rfl
    · rw [decide_eq_false hk, decide_eq_true (show k ≠ g from hk)]
      cases t <;> cases decide ((x + q) % 18446744073709551616 / 8 = A / 8) <;> rfl
  rw [e, Bool.and_eq_true, h.iff, Bool.not_eq_true', Bool.and_eq_false_iff]
  simp only [decide_eq_false_iff_not]
  constructor
  · rintro ⟨⟨h1, h2⟩, h3⟩
    refine ⟨h1, fun ⟨hk, m, hm1, hm2⟩ => ?_⟩
    rcases (by omega : m < q ∨ m = q) with hlt | he
    · exact h2 ⟨hk, m, hlt, hm2⟩
    · subst he
      rcases h3 with h3 | h3
      · exact h3 hk
      · exact h3 hm2
  · rintro ⟨h1, h2⟩
    refine ⟨⟨h1, fun ⟨hk, m, hm1, hm2⟩ => h2 ⟨hk, m, by omega, hm2⟩⟩, ?_⟩
    by_cases hk : k = g
    · exact .inl (fun h => h hk)
    · exact .inr (fun h => h2 ⟨hk, q, by omega, h⟩)
theorem Kp.last {k g x A n : Int} {s t : Bool} (h : Kp k g x A n.toNat s t) (hx : inU x) (hn : n ≤ 64) : t = stF k g x n A s := by
  have hh := hit_iff' (n := n) hx h.inA hn
  have e : stF k g x n A s = true ↔ s = true ∧ ¬ (k ≠ g ∧ ∃ m : Nat, m < n.toNat ∧ (x + m) % 18446744073709551616 / 8 = A / 8) := by
    rw [← hh]
    unfold stF
    rw [neq_eq]
    by_cases hk : k = g
    · rw [decide_eq_true hk]
      cases s <;> simp [hk]
    · rw [decide_eq_false hk]
      cases s <;> cases hitS x n A <;> simp [hk]
  have e2 := h.iff.trans e.symm
  cases t
  · cases hs : stF k g x n A s
    · rfl
    · exact absurd (e2.2 hs) (by simp)
  · exact (e2.1 rfl).symm

def I (e0 e : Env DC) : Prop := ∃ (g x n A0 A1 A2 A3 A4 A5 A6 A7 : Int) (s0 s1 s2 s3 s4 s5 s6 s7 t0 t1 t2 t3 t4 t5 t6 t7 : Bool) (q : Nat), e0 = ⟨[g, x, n, 0, A0, A1, A2, A3, A4, A5, A6, A7], [s0, s1, s2, s3, s4, s5, s6, s7], [], []⟩ ∧ e = ⟨[g, x, n, (q : Int), A0, A1, A2, A3, A4, A5, A6, A7], [t0, t1, t2, t3, t4, t5, t6, t7], [], []⟩ ∧ q ≤ n.toNat ∧ n ≤ 64 ∧ inU x ∧ Kp 0 g x A0 q s0 t0 ∧ Kp 1 g x A1 q s1 t1 ∧ Kp 2 g x A2 q s2 t2 ∧ Kp 3 g x A3 q s3 t3 ∧ Kp 4 g x A4 q s4 t4 ∧ Kp 5 g x A5 q s5 t5 ∧ Kp 6 g x A6 q s6 t6 ∧ Kp 7 g x A7 q s7 t7
def F (e0 e : Env DC) : Prop := ∃ (g x n A0 A1 A2 A3 A4 A5 A6 A7 : Int) (s0 s1 s2 s3 s4 s5 s6 s7 : Bool) (q : Nat), e0 = ⟨[g, x, n, 0, A0, A1, A2, A3, A4, A5, A6, A7], [s0, s1, s2, s3, s4, s5, s6, s7], [], []⟩ ∧ e = ⟨[g, x, n, (q : Int), A0, A1, A2, A3, A4, A5, A6, A7], [(stF 0 g x n A0 s0), (stF 1 g x n A1 s1), (stF 2 g x n A2 s2), (stF 3 g x n A3 s3), (stF 4 g x n A4 s4), (stF 5 g x n A5 s5), (stF 6 g x n A6 s6), (stF 7 g x n A7 s7)], [], []⟩
noncomputable def ask (e : Env DC) : Bool := yes (I e e)
noncomputable def X : Cx DC := cx.block 36 0 (loopSumF (D := DC) tm tm' 1 [0] ask res)
theorem round (e0 e : Env DC) (h : I e0 e) : RoundT (I e0) (fun e => (65 - (e.i.getD 3 0)).toNat) (F e0) 0 e (viewT tm 1 (fun _ => [0]) (tm.fill e) (ev Try.prog cx 36 400 (.code (loopAt Try.prog 36 0)) (tm.fill e))) := by
  obtain ⟨g, x, n, A0, A1, A2, A3, A4, A5, A6, A7, s0, s1, s2, s3, s4, s5, s6, s7, t0, t1, t2, t3, t4, t5, t6, t7, q, rfl, rfl, hq, hn, hx, k0, k1, k2, k3, k4, k5, k6, k7⟩ := h
  by_cases hlt : q < n.toNat
  · refine ⟨_, _, route_at (goes g x n (q : Int) A0 A1 A2 A3 A4 A5 A6 A7 t0 t1 t2 t3 t4 t5 t6 t7) ?_, .inl ⟨rfl, _, rfl, ⟨g, x, n, A0, A1, A2, A3, A4, A5, A6, A7, s0, s1, s2, s3, s4, s5, s6, s7, nxs 0 g q t0 A0 x, nxs 1 g q t1 A1 x, nxs 2 g q t2 A2 x, nxs 3 g q t3 A3 x, nxs 4 g q t4 A4 x, nxs 5 g q t5 A5 x, nxs 6 g q t6 A6 x, nxs 7 g q t7 A7 x, q + 1, rfl, by rw [addi q (by omega)], by omega, hn, hx, k0.next hx (by omega), k1.next hx (by omega), k2.next hx (by omega), k3.next hx (by omega), k4.next hx (by omega), k5.next hx (by omega), k6.next hx (by omega), k7.next hx (by omega)⟩, ?_⟩⟩
    · rw [lss_eq, decide_eq_true (by omega)]
    · simp only [List.getD_cons_succ, List.getD_cons_zero]
      rw [addi q (by omega)]
      omega
  · have : q = n.toNat := by omega
    subst this
    refine ⟨_, _, route_at (ends g x n (n.toNat : Int) A0 A1 A2 A3 A4 A5 A6 A7 t0 t1 t2 t3 t4 t5 t6 t7) ?_, .inr ⟨rfl, _, rfl, g, x, n, A0, A1, A2, A3, A4, A5, A6, A7, s0, s1, s2, s3, s4, s5, s6, s7, n.toNat, rfl, ?_⟩⟩
    · rw [lss_eq, decide_eq_false (by omega)]
    · rw [k0.last hx hn, k1.last hx hn, k2.last hx hn, k3.last hx hn, k4.last hx hn, k5.last hx hn, k6.last hx hn, k7.last hx hn]
theorem X_ok : Ok Try.prog X := by
  refine cx_ok.block (by kernel_rfl) fun hw s r hr => loopSumF_ok (I := I) (m := fun _ e => (65 - (e.i.getD 3 0)).toNat) (Fin := F) cx_ok (fun e he => of_yes he) round ?_ hw s r hr
  rintro e0 e1 ⟨g, x, n, A0, A1, A2, A3, A4, A5, A6, A7, s0, s1, s2, s3, s4, s5, s6, s7, q, rfl, rfl⟩
  kernel_rfl
def asks (g x n A0 A1 A2 A3 A4 A5 A6 A7 : Int) (s0 s1 s2 s3 s4 s5 s6 s7 : Bool) : Env DC := ⟨[g, x, n, 0, A0, A1, A2, A3, A4, A5, A6, A7], [s0, s1, s2, s3, s4, s5, s6, s7], [], []⟩
set_option maxRecDepth 100000 in
theorem none1 (g x n A0 A1 A2 A3 A4 A5 A6 A7 : Int) (s0 s1 s2 s3 s4 s5 s6 s7 : Bool) : (call Try.prog X 380 36 [.ptr 0 (.lit 0), .int .i64 (.sym g), .int .u64 (.sym x), .int .i64 (.sym n)] [.cells 54 [.bool (.sym s0), .bool (.sym s1), .bool (.sym s2), .bool (.sym s3), .bool (.sym s4), .bool (.sym s5), .bool (.sym s6), .bool (.sym s7), .int .u64 (.sym A0), .int .u64 (.sym A1), .int .u64 (.sym A2), .int .u64 (.sym A3), .int .u64 (.sym A4), .int .u64 (.sym A5), .int .u64 (.sym A6), .int .u64 (.sym A7)]]).route [true] = some ([!(inG g)], (.val (.tuple []), [])) := by kernel_rfl
set_option maxRecDepth 100000 in
theorem some1 (g x n A0 A1 A2 A3 A4 A5 A6 A7 : Int) (s0 s1 s2 s3 s4 s5 s6 s7 : Bool) : (call Try.prog X 380 36 [.ptr 0 (.lit 0), .int .i64 (.sym g), .int .u64 (.sym x), .int .i64 (.sym n)] [.cells 54 [.bool (.sym s0), .bool (.sym s1), .bool (.sym s2), .bool (.sym s3), .bool (.sym s4), .bool (.sym s5), .bool (.sym s6), .bool (.sym s7), .int .u64 (.sym A0), .int .u64 (.sym A1), .int .u64 (.sym A2), .int .u64 (.sym A3), .int .u64 (.sym A4), .int .u64 (.sym A5), .int .u64 (.sym A6), .int .u64 (.sym A7)]]).route [false, true] = some ([!(inG g), ask (asks g x n A0 A1 A2 A3 A4 A5 A6 A7 s0 s1 s2 s3 s4 s5 s6 s7)], (.val (.tuple []), [.obj 0 (.cells 54 [.bool (.sym (stF 0 g x n A0 s0)), .bool (.sym (stF 1 g x n A1 s1)), .bool (.sym (stF 2 g x n A2 s2)), .bool (.sym (stF 3 g x n A3 s3)), .bool (.sym (stF 4 g x n A4 s4)), .bool (.sym (stF 5 g x n A5 s5)), .bool (.sym (stF 6 g x n A6 s6)), .bool (.sym (stF 7 g x n A7 s7)), .int .u64 (.sym A0), .int .u64 (.sym A1), .int .u64 (.sym A2), .int .u64 (.sym A3), .int .u64 (.sym A4), .int .u64 (.sym A5), .int .u64 (.sym A6), .int .u64 (.sym A7)])])) := by kernel_rfl
theorem ask_of {g x n A0 A1 A2 A3 A4 A5 A6 A7 : Int} (s0 s1 s2 s3 s4 s5 s6 s7 : Bool) (h : ask36 x n A0 A1 A2 A3 A4 A5 A6 A7 = true) : ask (asks g x n A0 A1 A2 A3 A4 A5 A6 A7 s0 s1 s2 s3 s4 s5 s6 s7) = true := by
  unfold ask36 m8 at h
  simp only [Bool.and_eq_true, decide_eq_true_eq] at h
  obtain ⟨hx, hn, h0, h1, h2, h3, h4, h5, h6, h7⟩ := h
  exact yes_of ⟨g, x, n, A0, A1, A2, A3, A4, A5, A6, A7, s0, s1, s2, s3, s4, s5, s6, s7, s0, s1, s2, s3, s4, s5, s6, s7, 0, rfl, rfl, Nat.zero_le _, hn, hx, ⟨⟨h0.1, h0.2.1⟩, h0.2.2, ⟨fun h => ⟨h, fun ⟨_, m, hm, _⟩ => (by omega)⟩, fun h => h.1⟩⟩, ⟨⟨h1.1, h1.2.1⟩, h1.2.2, ⟨fun h => ⟨h, fun ⟨_, m, hm, _⟩ => (by omega)⟩, fun h => h.1⟩⟩, ⟨⟨h2.1, h2.2.1⟩, h2.2.2, ⟨fun h => ⟨h, fun ⟨_, m, hm, _⟩ => (by omega)⟩, fun h => h.1⟩⟩, ⟨⟨h3.1, h3.2.1⟩, h3.2.2, ⟨fun h => ⟨h, fun ⟨_, m, hm, _⟩ => (by omega)⟩, fun h => h.1⟩⟩, ⟨⟨h4.1, h4.2.1⟩, h4.2.2, ⟨fun h => ⟨h, fun ⟨_, m, hm, _⟩ => (by omega)⟩, fun h => h.1⟩⟩, ⟨⟨h5.1, h5.2.1⟩, h5.2.2, ⟨fun h => ⟨h, fun ⟨_, m, hm, _⟩ => (by omega)⟩, fun h => h.1⟩⟩, ⟨⟨h6.1, h6.2.1⟩, h6.2.2, ⟨fun h => ⟨h, fun ⟨_, m, hm, _⟩ => (by omega)⟩, fun h => h.1⟩⟩, ⟨⟨h7.1, h7.2.1⟩, h7.2.2, ⟨fun h => ⟨h, fun ⟨_, m, hm, _⟩ => (by omega)⟩, fun h => h.1⟩⟩⟩
end Res36

/-- Its writes, cell by cell. -/
def w36 (b : Nat) (g x n A0 A1 A2 A3 A4 A5 A6 A7 : Int) (s0 s1 s2 s3 s4 s5 s6 s7 : Bool) : List (W DC) := [.cell b 0 (.bool (.sym (stF 0 g x n A0 s0))), .cell b 1 (.bool (.sym (stF 1 g x n A1 s1))), .cell b 2 (.bool (.sym (stF 2 g x n A2 s2))), .cell b 3 (.bool (.sym (stF 3 g x n A3 s3))), .cell b 4 (.bool (.sym (stF 4 g x n A4 s4))), .cell b 5 (.bool (.sym (stF 5 g x n A5 s5))), .cell b 6 (.bool (.sym (stF 6 g x n A6 s6))), .cell b 7 (.bool (.sym (stF 7 g x n A7 s7)))]
noncomputable def g36 (args : List (AV DC)) (h : List (AO DC)) : Option (T DC (AV DC × List (W DC))) := match args with
  | [.ptr b (.lit 0), .int .i64 g, .int .u64 x, .int .i64 n] => match h[b]? with
    | some (.cells 54 [.bool S0, .bool S1, .bool S2, .bool S3, .bool S4, .bool S5, .bool S6, .bool S7, .int .u64 A0, .int .u64 A1, .int .u64 A2, .int .u64 A3, .int .u64 A4, .int .u64 A5, .int .u64 A6, .int .u64 A7]) => some (.br (!(inG g.den)) (.ret (.tuple [], [])) (.br (ask36 x.den n.den A0.den A1.den A2.den A3.den A4.den A5.den A6.den A7.den) (.ret (.tuple [], w36 b g.den x.den n.den A0.den A1.den A2.den A3.den A4.den A5.den A6.den A7.den S0.den S1.den S2.den S3.den S4.den S5.den S6.den S7.den)) .fail))
    | _ => none
  | _ => none
theorem setObj_at {t : TypeId} : ∀ (h : List (AO DC)) (b i : Nat) (v : AV DC) (cs : List (AV DC)), h[b]? = some (.cells t cs) → (setObj h b i v)[b]? = some (.cells t (cs.set i v))
  | [], _, _, _, _, h => by cases h
  | o :: h, 0, i, v, cs, hb => by
    simp only [List.getElem?_cons_zero, Option.some.injEq] at hb
    subst hb
    rfl
  | o :: h, b + 1, i, v, cs, hb => by
    have := setObj_at h b i v cs hb
    cases o <;> exact this
theorem covA (σ : Nat → Option Nat) (S0 S1 S2 S3 S4 S5 S6 S7 : AB DC) (A0 A1 A2 A3 A4 A5 A6 A7 : AI DC) : covP σ [.bool S0, .bool S1, .bool S2, .bool S3, .bool S4, .bool S5, .bool S6, .bool S7, .int .u64 A0, .int .u64 A1, .int .u64 A2, .int .u64 A3, .int .u64 A4, .int .u64 A5, .int .u64 A6, .int .u64 A7] [.bool (.sym S0.den), .bool (.sym S1.den), .bool (.sym S2.den), .bool (.sym S3.den), .bool (.sym S4.den), .bool (.sym S5.den), .bool (.sym S6.den), .bool (.sym S7.den), .int .u64 (.sym A0.den), .int .u64 (.sym A1.den), .int .u64 (.sym A2.den), .int .u64 (.sym A3.den), .int .u64 (.sym A4.den), .int .u64 (.sym A5.den), .int .u64 (.sym A6.den), .int .u64 (.sym A7.den)] ∧ covP σ [.bool (.sym S0.den), .bool (.sym S1.den), .bool (.sym S2.den), .bool (.sym S3.den), .bool (.sym S4.den), .bool (.sym S5.den), .bool (.sym S6.den), .bool (.sym S7.den), .int .u64 (.sym A0.den), .int .u64 (.sym A1.den), .int .u64 (.sym A2.den), .int .u64 (.sym A3.den), .int .u64 (.sym A4.den), .int .u64 (.sym A5.den), .int .u64 (.sym A6.den), .int .u64 (.sym A7.den)] [.bool S0, .bool S1, .bool S2, .bool S3, .bool S4, .bool S5, .bool S6, .bool S7, .int .u64 A0, .int .u64 A1, .int .u64 A2, .int .u64 A3, .int .u64 A4, .int .u64 A5, .int .u64 A6, .int .u64 A7] :=
  ⟨⟨rfl, rfl, rfl, rfl, rfl, rfl, rfl, rfl, ⟨rfl, rfl⟩, ⟨rfl, rfl⟩, ⟨rfl, rfl⟩, ⟨rfl, rfl⟩, ⟨rfl, rfl⟩, ⟨rfl, rfl⟩, ⟨rfl, rfl⟩, ⟨rfl, rfl⟩, trivial⟩, ⟨rfl, rfl, rfl, rfl, rfl, rfl, rfl, rfl, ⟨rfl, rfl⟩, ⟨rfl, rfl⟩, ⟨rfl, rfl⟩, ⟨rfl, rfl⟩, ⟨rfl, rfl⟩, ⟨rfl, rfl⟩, ⟨rfl, rfl⟩, ⟨rfl, rfl⟩, trivial⟩⟩
noncomputable def cxs : Cx DC := (cx.tails [(38, 9, 0)]).sum 36 g36
theorem cxs_ok : Ok Try.prog cxs := (cx_ok.tails _).sum (by kernel_rfl) fun args h t r ht hp => by
  unfold g36 at ht
  split at ht
  · rename_i b g x n
    split at ht
    · rename_i S0 S1 S2 S3 S4 S5 S6 S7 A0 A1 A2 A3 A4 A5 A6 A7 hb
      cases ht
      have hcov : ∀ σ, _ := fun σ => covA σ S0 S1 S2 S3 S4 S5 S6 S7 A0 A1 A2 A3 A4 A5 A6 A7
      rcases T.br_some hp with ⟨h1, h2⟩ | ⟨h1, h2⟩
      · have := T.ret_some h2
        subst this
        have hr := route_pick [true] _ _ (by
          have := Res36.none1 g.den x.den n.den A0.den A1.den A2.den A3.den A4.den A5.den A6.den A7.den S0.den S1.den S2.den S3.den S4.den S5.den S6.den S7.den
          rw [h1] at this
          exact this)
        refine frame_old [b] (fn_ok Res36.X_ok hr) ⟨⟨rfl, rfl⟩, ⟨rfl, rfl⟩, ⟨rfl, rfl⟩, ⟨rfl, rfl⟩, trivial⟩ ⟨?_, trivial⟩ rfl (by simp) (fun jj i o hj ho => ?_) rfl (fun _ _ => rfl) (fun jj i o hj ho => ?_) trivial
        · rw [hb]; exact ⟨rfl, (hcov _).1⟩
        · cases jj with
          | zero => cases hj; rw [hb] at ho; cases ho; rfl
          | succ jj => cases hj
        · cases jj with
          | zero =>
            cases hj
            have ho' : h[b]? = some o := ho
            rw [hb] at ho'
            cases ho'
            exact ⟨_, rfl, rfl, (hcov _).2⟩
          | succ jj => cases hj
      · rcases T.br_some h2 with ⟨h3, h4⟩ | ⟨_, h4⟩
        · have := T.ret_some h4
          subst this
          have hr := route_pick [false, true] _ _ (by
            have := Res36.some1 g.den x.den n.den A0.den A1.den A2.den A3.den A4.den A5.den A6.den A7.den S0.den S1.den S2.den S3.den S4.den S5.den S6.den S7.den
            rw [h1, Res36.ask_of S0.den S1.den S2.den S3.den S4.den S5.den S6.den S7.den h3] at this
            exact this)
          have hlen : ∀ (l : List (W DC)) (s : St DC), l.all (isCellOf [b]) = true → (s.apps l).heap.length = s.heap.length := fun l s hl => (cells_spec l s hl).2.2
          refine frame_old [b] (fn_ok Res36.X_ok hr) ⟨⟨rfl, rfl⟩, ⟨rfl, rfl⟩, ⟨rfl, rfl⟩, ⟨rfl, rfl⟩, trivial⟩ ⟨?_, trivial⟩ rfl (by simp) (fun jj i o hj ho => ?_) ?_ (fun i hi => ?_) (fun jj i o hj ho => ?_) trivial
          · rw [hb]; exact ⟨rfl, (hcov _).1⟩
          · cases jj with
            | zero => cases hj; rw [hb] at ho; cases ho; rfl
            | succ jj => cases hj
          · simp only [w36, St.apps, St.app, setObj_len]
          · have hne : i ≠ b := fun e => hi (by simp [e])
            simp only [w36, St.apps, St.app]
            rw [setObj_ne _ b 7 _ i hne, setObj_ne _ b 6 _ i hne, setObj_ne _ b 5 _ i hne, setObj_ne _ b 4 _ i hne, setObj_ne _ b 3 _ i hne, setObj_ne _ b 2 _ i hne, setObj_ne _ b 1 _ i hne, setObj_ne _ b 0 _ i hne]
          · cases jj with
            | zero =>
              cases hj
              simp only [w36, St.apps, St.app] at ho
              rw [setObj_at _ b 7 _ _ (setObj_at _ b 6 _ _ (setObj_at _ b 5 _ _ (setObj_at _ b 4 _ _ (setObj_at _ b 3 _ _ (setObj_at _ b 2 _ _ (setObj_at _ b 1 _ _ (setObj_at _ b 0 _ _ hb)))))))] at ho
              cases ho
              exact ⟨_, rfl, rfl, ⟨rfl, rfl, rfl, rfl, rfl, rfl, rfl, rfl, ⟨rfl, rfl⟩, ⟨rfl, rfl⟩, ⟨rfl, rfl⟩, ⟨rfl, rfl⟩, ⟨rfl, rfl⟩, ⟨rfl, rfl⟩, ⟨rfl, rfl⟩, ⟨rfl, rfl⟩, trivial⟩⟩
            | succ jj => cases hj
        · cases h4
    · cases ht
  · cases ht
end Go.Proofs.Ytgljicadcegilaa.Ev
