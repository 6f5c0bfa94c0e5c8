/- The next time of a clock, of the code and of the reference, as one term. Conditions: none. -/
import Derived.Test.YtbjlkapfpcmjfaaCx
import Derived.Test.YtbjlkapfpcmjfaaEvPureA
namespace Go.Proofs.Ytbjlkapfpcmjfaa.Ev
open Go.RowKit
set_option linter.unusedVariables false
set_option linter.unusedSimpArgs false

def nx (n a r : Int) : Int := cond (litCmp .gtr a n) (cond (litCmp .lss a r) a r) r
def best (n a0 a1 a2 a3 a4 a5 a6 a7 : Int) : Int := nx n a7 (nx n a6 (nx n a5 (nx n a4 (nx n a3 (nx n a2 (nx n a1 (nx n a0 18446744073709551615)))))))
def nextV (b : Int) : Int := cond (litCmp .eql b 18446744073709551615) 0 b
def nextB (b : Int) : Bool := cond (litCmp .eql b 18446744073709551615) false true
def nx' (n a r : Int) : Int := cond (cond (litCmp .gtr a n) (litCmp .lss a r) false) a r
def best' (n a0 a1 a2 a3 a4 a5 a6 a7 : Int) : Int := nx' n a7 (nx' n a6 (nx' n a5 (nx' n a4 (nx' n a3 (nx' n a2 (nx' n a1 (nx' n a0 18446744073709551615)))))))
theorem nx_eq (n a r : Int) : nx' n a r = nx n a r := by
  unfold nx nx'
  cases litCmp .gtr a n <;> rfl
theorem best_eq (n a0 a1 a2 a3 a4 a5 a6 a7 : Int) : best' n a0 a1 a2 a3 a4 a5 a6 a7 = best n a0 a1 a2 a3 a4 a5 a6 a7 := by
  unfold best best'
  simp only [nx_eq]
set_option maxRecDepth 100000 in
theorem next1 (t : TypeId) (n a0 a1 a2 a3 a4 a5 a6 a7 : Int) : (call Try.prog cx 380 44 [.ptr 0 (.lit 0)] [.cells t [.int .u64 (.sym n), .int .u64 (.sym a0), .int .u64 (.sym a1), .int .u64 (.sym a2), .int .u64 (.sym a3), .int .u64 (.sym a4), .int .u64 (.sym a5), .int .u64 (.sym a6), .int .u64 (.sym a7)]]).route [] =
    some ([], (.val (.tuple [.int .u64 (.sym (nextV (best n a0 a1 a2 a3 a4 a5 a6 a7))), .bool (.sym (nextB (best n a0 a1 a2 a3 a4 a5 a6 a7)))]), [])) := by kernel_rfl
set_option maxRecDepth 100000 in
theorem rnext1 (t : TypeId) (n a0 a1 a2 a3 a4 a5 a6 a7 : Int) : (call Try.prog cx 380 56 [.ptr 0 (.lit 0)] [.cells t [.int .u64 (.sym n), .int .u64 (.sym a0), .int .u64 (.sym a1), .int .u64 (.sym a2), .int .u64 (.sym a3), .int .u64 (.sym a4), .int .u64 (.sym a5), .int .u64 (.sym a6), .int .u64 (.sym a7)]]).route [] =
    some ([], (.val (.tuple [.int .u64 (.sym (nextV (best' n a0 a1 a2 a3 a4 a5 a6 a7))), .bool (.sym (nextB (best' n a0 a1 a2 a3 a4 a5 a6 a7)))]), [])) := by kernel_rfl

/-- A function that reads one block alone, of numbers. -/
theorem reads {P : Program} {X : Cx DC} (hX : Ok P X) {n : Nat} {f : FuncId} {b : Nat} {t : TypeId} {cs cs' : List (AV DC)} {h : List (AO DC)} {v v' : AV DC} {rest rest' : List (AV DC)}
    (hr : (call P X n f (.ptr 0 (.lit 0) :: rest') [.cells t cs']).route [] = some ([], (.val v', []))) (hb : h[b]? = some (.cells t cs)) (hc : ∀ σ, covP σ cs cs') (hc2 : ∀ σ, covP σ cs' cs) (hrest : covL (at' [b]) rest rest') (hv : ∀ σ, covV σ v' v) : FnOk P f (.ptr b (.lit 0) :: rest) h (v, []) := by
  have hp := route_pick [] _ _ hr
  refine frame_old [b] (fn_ok hX (r := (v', [])) hp) ⟨⟨rfl, rfl⟩, hrest⟩ ⟨?_, trivial⟩ rfl (by simp) (fun j i o hj ho => ?_) rfl (fun _ _ => rfl) (fun j i o hj ho => ?_) (hv _)
  · rw [hb]
    exact ⟨rfl, hc _⟩
  · cases j with
    | zero =>
      cases hj
      rw [hb] at ho
      cases ho
      rfl
    | succ j => cases hj
  · cases j with
    | zero =>
      cases hj
      have ho' : h[b]? = some o := ho
      rw [hb] at ho'
      cases ho'
      exact ⟨_, rfl, rfl, hc2 _⟩
    | succ j => cases hj

def gNext (args : List (AV DC)) (h : List (AO DC)) : Option (T DC (AV DC × List (W DC))) := match args with
  | [.ptr b (.lit 0)] => match h[b]? with
    | some (.cells t [.int .u64 n, .int .u64 a0, .int .u64 a1, .int .u64 a2, .int .u64 a3, .int .u64 a4, .int .u64 a5, .int .u64 a6, .int .u64 a7]) => some (.ret (.tuple [.int .u64 (.sym (nextV (best n.den a0.den a1.den a2.den a3.den a4.den a5.den a6.den a7.den))), .bool (.sym (nextB (best n.den a0.den a1.den a2.den a3.den a4.den a5.den a6.den a7.den)))], []))
    | _ => none
  | _ => none
theorem cov9 (σ : Nat → Option Nat) (n a0 a1 a2 a3 a4 a5 a6 a7 : AI DC) : covP σ [.int .u64 n, .int .u64 a0, .int .u64 a1, .int .u64 a2, .int .u64 a3, .int .u64 a4, .int .u64 a5, .int .u64 a6, .int .u64 a7] [.int .u64 (.sym n.den), .int .u64 (.sym a0.den), .int .u64 (.sym a1.den), .int .u64 (.sym a2.den), .int .u64 (.sym a3.den), .int .u64 (.sym a4.den), .int .u64 (.sym a5.den), .int .u64 (.sym a6.den), .int .u64 (.sym a7.den)] :=
  ⟨⟨rfl, rfl⟩, ⟨rfl, rfl⟩, ⟨rfl, rfl⟩, ⟨rfl, rfl⟩, ⟨rfl, rfl⟩, ⟨rfl, rfl⟩, ⟨rfl, rfl⟩, ⟨rfl, rfl⟩, ⟨rfl, rfl⟩, trivial⟩
theorem cov9' (σ : Nat → Option Nat) (n a0 a1 a2 a3 a4 a5 a6 a7 : AI DC) : covP σ [.int .u64 (.sym n.den), .int .u64 (.sym a0.den), .int .u64 (.sym a1.den), .int .u64 (.sym a2.den), .int .u64 (.sym a3.den), .int .u64 (.sym a4.den), .int .u64 (.sym a5.den), .int .u64 (.sym a6.den), .int .u64 (.sym a7.den)] [.int .u64 n, .int .u64 a0, .int .u64 a1, .int .u64 a2, .int .u64 a3, .int .u64 a4, .int .u64 a5, .int .u64 a6, .int .u64 a7] :=
  ⟨⟨rfl, rfl⟩, ⟨rfl, rfl⟩, ⟨rfl, rfl⟩, ⟨rfl, rfl⟩, ⟨rfl, rfl⟩, ⟨rfl, rfl⟩, ⟨rfl, rfl⟩, ⟨rfl, rfl⟩, ⟨rfl, rfl⟩, trivial⟩
noncomputable def cxq1 : Cx DC := cx.sum 44 gNext
theorem cxq1_ok : Ok Try.prog cxq1 := cx_ok.sum (by kernel_rfl) fun args h t r ht hp => by
  unfold gNext at ht
  split at ht
  · rename_i b
    split at ht
    · rename_i t' n a0 a1 a2 a3 a4 a5 a6 a7 hb
      cases ht
      have := T.ret_some hp
      subst this
      exact reads cx_ok (rest := []) (rest' := []) (next1 t' n.den a0.den a1.den a2.den a3.den a4.den a5.den a6.den a7.den) hb (fun σ => cov9 σ _ _ _ _ _ _ _ _ _) (fun σ => cov9' σ _ _ _ _ _ _ _ _ _) trivial fun σ => ⟨⟨rfl, rfl⟩, rfl, trivial⟩
    · cases ht
  · cases ht
noncomputable def cxq : Cx DC := cxq1.sum 56 gNext
theorem cxq_ok : Ok Try.prog cxq := cxq1_ok.sum (by kernel_rfl) fun args h t r ht hp => by
  unfold gNext at ht
  split at ht
  · rename_i b
    split at ht
    · rename_i t' n a0 a1 a2 a3 a4 a5 a6 a7 hb
      cases ht
      have := T.ret_some hp
      subst this
      exact reads cx_ok (rest := []) (rest' := []) (rnext1 t' n.den a0.den a1.den a2.den a3.den a4.den a5.den a6.den a7.den) hb (fun σ => cov9 σ _ _ _ _ _ _ _ _ _) (fun σ => cov9' σ _ _ _ _ _ _ _ _ _) trivial fun σ => ⟨⟨rfl, by rw [best_eq]⟩, (by rw [best_eq]; exact rfl), trivial⟩
    · cases ht
  · cases ht
end Go.Proofs.Ytbjlkapfpcmjfaa.Ev
