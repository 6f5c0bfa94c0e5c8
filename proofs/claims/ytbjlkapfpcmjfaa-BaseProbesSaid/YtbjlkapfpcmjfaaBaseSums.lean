/- Which extensions there are, and what is told of one, as terms. Conditions: none. -/
import Derived.Test.YtbjlkapfpcmjfaaNameSum
namespace Go.Proofs.Ytbjlkapfpcmjfaa.BaseSums
open Go.RowKit Ev
set_option linter.unusedVariables false
set_option linter.unusedSimpArgs false

def kn (e : Int) : Bool := (litCmp .geq (cond (litCmp .eql e 16) 0 (cond (litCmp .eql e 1414090053) 1 (cond (litCmp .eql e 7557193) 2 (cond (litCmp .eql e 1380339267) 3 (cond (litCmp .eql e 4739917) 4 (cond (litCmp .eql e 1397904212) 5 (cond (litCmp .eql e 1145193294) 6 (cond (litCmp .eql e 5262677) 7 (-1))))))))) 0)
set_option maxRecDepth 100000 in
theorem known1 (e : Int) : ((call Try.prog cx3 380 40 [.int .u64 (.sym e)] []).route []).map (fun p => (p.1, p.2.1)) = some ([], .val (.bool (.sym (kn e)))) := by kernel_rfl
set_option maxRecDepth 100000 in
theorem call1 (e : Int) : ((call Try.prog cx3 380 34 [.int .u64 (.lit 3), .int .u64 (.sym e)] []).route []).map (fun p => (p.1, p.2.1)) = some ([], .val (.tuple [.int .i64 (.lit 0), .int .u64 (.sym (cond (kn e) 1 0))])) := by kernel_rfl

theorem pure_okV {P : Program} {X : Cx DC} (hX : Ok P X) {n : Nat} {f : FuncId} {args args' : List (AV DC)} {h : List (AO DC)} {v v' : AV DC} {l : List (W DC)} (hr : (call P X n f args' []).pick = some (.val v, l)) (ha : covL (at' []) args args') (hu : ∀ σ, covV σ v v') : FnOk P f args h (v', []) := by
  have hn : ∀ (i j : Nat), (List.replicate h.length (none : Option Nat))[i]? = some (some j) → False := fun i j e => by
    rw [List.getElem?_replicate] at e
    split at e <;> cases e
  refine frame [] (List.replicate h.length none) (fn_ok hX (r := (v, l)) hr) ha ?_ rfl ⟨by simp [St.apps], Nat.le_refl _, fun i e => ?_, fun i j _ e => (hn i j e).elim, fun i o hi e => ?_, fun i j o e => (hn i j e).elim, fun i i' j o o' e => (hn i j e).elim⟩ (hu _)
  · trivial
  · refine ⟨?_, rfl, fun j e => by cases e⟩
    rw [List.getElem?_replicate] at e
    split at e
    · assumption
    · cases e
  · have : i < h.length := (List.getElem?_eq_some_iff.1 e).1
    omega

def g40 (args : List (AV DC)) (h : List (AO DC)) : Option (T DC (AV DC × List (W DC))) := match args with
  | [.int .u64 x] => some (.ret (.bool (.sym (kn x.den)), []))
  | _ => none
def g34 (args : List (AV DC)) (h : List (AO DC)) : Option (T DC (AV DC × List (W DC))) := match args with
  | [.int .u64 (.lit 3), .int .u64 x] => some (.ret (.tuple [.int .i64 (.lit 0), .int .u64 (.sym (cond (kn x.den) 1 0))], []))
  | _ => none
noncomputable def cx_known : Cx DC := cx4.sum 40 g40
theorem cx_known_ok : Ok Try.prog cx_known := cx4_ok.sum (by kernel_rfl) fun args h t r ht hp => by
  unfold g40 at ht
  split at ht
  · rename_i x
    cases ht
    have := T.ret_some hp
    subst this
    obtain ⟨l, hl⟩ := road_at (known1 x.den) rfl
    exact pure_okV cx3_ok hl ⟨⟨rfl, rfl⟩, trivial⟩ fun σ => rfl
  · cases ht
noncomputable def cx_call : Cx DC := cx_known.sum 34 g34
theorem cx_call_ok : Ok Try.prog cx_call := cx_known_ok.sum (by kernel_rfl) fun args h t r ht hp => by
  unfold g34 at ht
  split at ht
  · rename_i x
    cases ht
    have := T.ret_some hp
    subst this
    obtain ⟨l, hl⟩ := road_at (call1 x.den) rfl
    exact pure_okV cx3_ok hl ⟨⟨rfl, rfl⟩, ⟨rfl, rfl⟩, trivial⟩ fun σ => ⟨⟨rfl, rfl⟩, ⟨rfl, rfl⟩, trivial⟩
  · cases ht
end Go.Proofs.Ytbjlkapfpcmjfaa.BaseSums
