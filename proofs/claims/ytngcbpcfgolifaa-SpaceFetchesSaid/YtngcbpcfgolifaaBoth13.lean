/- The loop that makes memory two times, in law 13's statements of a memory and a thing that is done. Conditions: none. -/
import Derived.Test.YtngcbpcfgolifaaShown13
namespace Go.Proofs.Ytngcbpcfgolifaa.Ev
open Go.RowKit
set_option linter.unusedVariables false
set_option linter.unusedSimpArgs false
namespace Both73
def sl (i : TV) : List TV := [.skip, .num .i64 (-1), .ptr 3 0, .skip, .ptr 4 0, .skip, .skip, .skip, .ptr 6 0, .skip, .ptr 8 0, .skip, i] ++ List.replicate 85 .skip
def hp : List TO := [.rows 0 [.int .u32, .int .u64], .cells 118 [.int .u8, .slice 0 0 .any], .cells 120 [.int .u8, .int .u64, .int .u64, .int .u64, .int .u64, .int .u64, .int .u64, .int .u64, .int .u64, .int .u64, .int .u64, .int .u64, .int .u64, .int .i64, .int .i64, .int .u64, .int .u64, .int .u8], .cells 118 [.int .u8, .slice 0 0 .any], .cells 122 [.nilptr, .nilptr], .arr 5 [.int .u8], tMem 156 5, .arr 5 [.int .u8], tMem 63 7]
def tm : Tmpl := { slots := sl (.int .i64), heap := hp }
def tm' : Tmpl := { slots := sl .skip, heap := hp }
def g0 (i : Int) (n' : Nat) : Bool := cond (litCmp .lss i ((n' : Nat) : Int)) (litCmp .lss i 64) false
def b0 (i : Int) (n' : Nat) : Bool := decide (0 ≤ i ∧ i < ((n' : Nat) : Int))
def b1 (i : Int) (n : Nat) : Bool := decide ((Int.toNat i) < n)
noncomputable def g1 (i pg o0 o1 o2 o3 o4 o5 o6 o7 o8 o9 o10 o11 o12 o13 o14 o15 o16 o17 : Int) (n n' N L C N2 L2 C2 : Nat) (A X F G : Nat → Int) : Bool := ((b0 i n') && (b1 i n)) && (((b0 i n') && ((b1 i n) && (askM L C N F (atE (A (Int.toNat i))) 8 && yes (inU (X (Int.toNat i)))))) && ((b0 i n') && ((b1 i n) && (askM L2 C2 N2 G (atE (A (Int.toNat i))) 8 && yes (inU (X (Int.toNat i)))))))
set_option maxRecDepth 100000 in
theorem goes (i pg o0 o1 o2 o3 o4 o5 o6 o7 o8 o9 o10 o11 o12 o13 o14 o15 o16 o17 : Int) (n n' N L C N2 L2 C2 : Nat) (A X F G : Nat → Int) : (viewT tm 9 (fun _ => [0, 1, 2, 3, 4, 5, 6, 7, 8]) (tm.fill ⟨[i, pg, o0, o1, o2, o3, o4, o5, o6, o7, o8, o9, o10, o11, o12, o13, o14, o15, o16, o17, pg], [], [n, n', n', N, L, C, N2, L2, C2], [A, X, F, G]⟩) (ev Try.prog cxs 73 400 (.code (loopAt Try.prog 73 0)) (tm.fill ⟨[i, pg, o0, o1, o2, o3, o4, o5, o6, o7, o8, o9, o10, o11, o12, o13, o14, o15, o16, o17, pg], [], [n, n', n', N, L, C, N2, L2, C2], [A, X, F, G]⟩))).route [true, true] =
    some ([g0 i n', g1 i pg o0 o1 o2 o3 o4 o5 o6 o7 o8 o9 o10 o11 o12 o13 o14 o15 o16 o17 n n' N L C N2 L2 C2 A X F G], (.normal, some ⟨[litBin .add .i64 i 1, pg, o0, o1, o2, o3, o4, o5, o6, o7, o8, o9, o10, o11, o12, o13, o14, o15, o16, o17, pg], [], [n, n', n', N, L, C, N2, L2, C2], [A, X, putF F N (atE (A (Int.toNat i))) 8 (X (Int.toNat i)), putF G N2 (atE (A (Int.toNat i))) 8 (X (Int.toNat i))]⟩)) := by kernel_rfl
set_option maxRecDepth 100000 in
theorem ends (i pg o0 o1 o2 o3 o4 o5 o6 o7 o8 o9 o10 o11 o12 o13 o14 o15 o16 o17 : Int) (n n' N L C N2 L2 C2 : Nat) (A X F G : Nat → Int) : (viewT tm 9 (fun _ => [0, 1, 2, 3, 4, 5, 6, 7, 8]) (tm.fill ⟨[i, pg, o0, o1, o2, o3, o4, o5, o6, o7, o8, o9, o10, o11, o12, o13, o14, o15, o16, o17, pg], [], [n, n', n', N, L, C, N2, L2, C2], [A, X, F, G]⟩) (ev Try.prog cxs 73 400 (.code (loopAt Try.prog 73 0)) (tm.fill ⟨[i, pg, o0, o1, o2, o3, o4, o5, o6, o7, o8, o9, o10, o11, o12, o13, o14, o15, o16, o17, pg], [], [n, n', n', N, L, C, N2, L2, C2], [A, X, F, G]⟩))).route [false] =
    some ([g0 i n'], (.exit 0, some ⟨[i, pg, o0, o1, o2, o3, o4, o5, o6, o7, o8, o9, o10, o11, o12, o13, o14, o15, o16, o17, pg], [], [n, n', n', N, L, C, N2, L2, C2], [A, X, F, G]⟩)) := by kernel_rfl
def I (e0 e : Env DC) : Prop := ∃ (pg o0 o1 o2 o3 o4 o5 o6 o7 o8 o9 o10 o11 o12 o13 o14 o15 o16 o17 : Int) (n N q : Nat) (A X F : Nat → Int), e0 = ⟨[0, pg, o0, o1, o2, o3, o4, o5, o6, o7, o8, o9, o10, o11, o12, o13, o14, o15, o16, o17, pg], [], [n, n, n, N, N, N, N, N, N], [A, X, F, F]⟩ ∧ e = ⟨[(q : Int), pg, o0, o1, o2, o3, o4, o5, o6, o7, o8, o9, o10, o11, o12, o13, o14, o15, o16, o17, pg], [], [n, n, n, N, N, N, N, N, N], [A, X, memL F A X N q, memL F A X N q]⟩ ∧ MemOk N F ∧ (∀ j, j < n → inU (X j)) ∧ q ≤ n ∧ q ≤ 64
def Fn (e0 e : Env DC) : Prop := ∃ (pg o0 o1 o2 o3 o4 o5 o6 o7 o8 o9 o10 o11 o12 o13 o14 o15 o16 o17 : Int) (n N q : Nat) (A X F : Nat → Int), e0 = ⟨[0, pg, o0, o1, o2, o3, o4, o5, o6, o7, o8, o9, o10, o11, o12, o13, o14, o15, o16, o17, pg], [], [n, n, n, N, N, N, N, N, N], [A, X, F, F]⟩ ∧ e = ⟨[(q : Int), pg, o0, o1, o2, o3, o4, o5, o6, o7, o8, o9, o10, o11, o12, o13, o14, o15, o16, o17, pg], [], [n, n, n, N, N, N, N, N, N], [A, X, memL F A X N (min n 64), memL F A X N (min n 64)]⟩
def fin (e : Env DC) : Nat → Int := memL (e.f.getD 2 (fun _ => 0)) (e.f.getD 0 (fun _ => 0)) (e.f.getD 1 (fun _ => 0)) (e.n.getD 3 0) (min (e.n.getD 0 0) 64)
def res (e : Env DC) : Env DC := ⟨e.i.tail, [], e.n, [e.f.getD 0 (fun _ => 0), e.f.getD 1 (fun _ => 0), fin e, fin e]⟩
noncomputable def ask (e : Env DC) : Bool := yes (I e e)
noncomputable def X : Cx DC := cxs.block 73 0 (loopSumF (D := DC) tm tm' 9 [0, 1, 2, 3, 4, 5, 6, 7, 8] ask res)
theorem round (e0 e : Env DC) (h : I e0 e) : RoundT (I e0) (fun e => (65 - (e.i.getD 0 0)).toNat) (Fn e0) 0 e (viewT tm 9 (fun _ => [0, 1, 2, 3, 4, 5, 6, 7, 8]) (tm.fill e) (ev Try.prog cxs 73 400 (.code (loopAt Try.prog 73 0)) (tm.fill e))) := by
  obtain ⟨pg, o0, o1, o2, o3, o4, o5, o6, o7, o8, o9, o10, o11, o12, o13, o14, o15, o16, o17, n, N, q, A, X, F, rfl, rfl, hm, hX, hq, hq2⟩ := h
  by_cases hlt : q < n ∧ q < 64
  · have hadd : litBin .add .i64 (q : Int) 1 = ((q + 1 : Nat) : Int) := by rw [addi]; omega
    have h0 : g0 (q : Int) n = true := by
      unfold g0
      rw [lss_eq, lss_eq, decide_eq_true (by omega), decide_eq_true (by omega)]
      rfl
    have e0 : b0 (q : Int) n = true := decide_eq_true (by omega)
    have e1 : b1 (q : Int) n = true := decide_eq_true (by omega)
    refine ⟨_, _, route_at (goes (q : Int) pg o0 o1 o2 o3 o4 o5 o6 o7 o8 o9 o10 o11 o12 o13 o14 o15 o16 o17 n n N N N N N N A X (memL F A X N q) (memL F A X N q)) ?_, .inl ⟨rfl, _, rfl, ⟨pg, o0, o1, o2, o3, o4, o5, o6, o7, o8, o9, o10, o11, o12, o13, o14, o15, o16, o17, n, N, q + 1, A, X, F, rfl, ?_, hm, hX, by omega, by omega⟩, ?_⟩⟩
    · have hx : yes (inU (X (Int.toNat (q : Int)))) = true := yes_of (hX q (by omega))
      unfold g1
      rw [h0, e0, e1, askM_of (memL_ok (A := A) (X := X) hm q) (show inU (atE (A (Int.toNat (q : Int)))) from inU.add _ _) inI8, hx]
      rfl
    · rw [hadd]
      rfl
    · simp only [List.getD_cons_succ, List.getD_cons_zero]
      rw [hadd]
      omega
  · refine ⟨_, _, route_at (ends (q : Int) pg o0 o1 o2 o3 o4 o5 o6 o7 o8 o9 o10 o11 o12 o13 o14 o15 o16 o17 n n N N N N N N A X (memL F A X N q) (memL F A X N q)) ?_, .inr ⟨rfl, _, rfl, pg, o0, o1, o2, o3, o4, o5, o6, o7, o8, o9, o10, o11, o12, o13, o14, o15, o16, o17, n, N, q, A, X, F, rfl, ?_⟩⟩
    · unfold g0
      rw [lss_eq, lss_eq]
      by_cases h1 : q < n
      · rw [decide_eq_true (by omega), decide_eq_false (by omega : ¬ (q : Int) < 64)]
        rfl
      · rw [decide_eq_false (by omega)]
        rfl
    · rw [show min n 64 = q by omega]
theorem X_ok : Ok Try.prog X := by
  refine cxs_ok.block (by kernel_rfl) fun hw s r hr => loopSumF_ok (I := I) (m := fun _ e => (65 - (e.i.getD 0 0)).toNat) (Fin := Fn) cxs_ok (fun e he => of_yes he) round ?_ hw s r hr
  rintro e0 e1 ⟨pg, o0, o1, o2, o3, o4, o5, o6, o7, o8, o9, o10, o11, o12, o13, o14, o15, o16, o17, n, N, q, A, X, F, rfl, rfl⟩
  kernel_rfl
end Both73
end Go.Proofs.Ytngcbpcfgolifaa.Ev
