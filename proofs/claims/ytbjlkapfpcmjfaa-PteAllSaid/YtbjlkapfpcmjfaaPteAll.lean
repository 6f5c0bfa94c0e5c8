/- The statement 'PteAll': what any entry is, what may be done by it, and which address it makes of any, is as the document says. Conditions: none. -/
import Derived.Test.YtbjlkapfpcmjfaaPteAll0
import Derived.Test.YtbjlkapfpcmjfaaPteAll1
import Derived.Test.YtbjlkapfpcmjfaaPteAll2
import Derived.Test.YtbjlkapfpcmjfaaPteAllX
namespace Go.Proofs.Ytbjlkapfpcmjfaa.PteAll
open Go.RowKit Go.WideShapes Go.ChangeShapes Go.ChangeAt Ev
set_option linter.unusedVariables false
set_option linter.unusedSimpArgs false

set_option maxRecDepth 100000 in
/-- A level that there is not. -/
theorem other (e pg va st lv kd pr : Int) (we : (Lit.int .u64 e).wf = true) (wpg : (Lit.int .u64 pg).wf = true) (wva : (Lit.int .u64 va).wf = true) (wst : (Lit.int .u64 st).wf = true) (wlv : (Lit.int .i64 lv).wf = true) (wkd : (Lit.int .i64 kd).wf = true) (wpr : (Lit.int .i64 pr).wf = true) (hl : (cond (litCmp .geq lv 0) (litCmp .leq lv 2) false) = false) :
    ∃ b : Bool, (call Try.prog cx 400 18 [.int .u64 (.sym e), .int .u64 (.sym pg), .agg [.int .u64 (.sym va), .int .u64 (.sym st), .int .i64 (.sym lv), .int .i64 (.sym kd), .int .i64 (.sym pr)]] []).pick.map (·.1) = some (.val (.bool (.sym b))) ∧ b = true := by
  have h := PteAllX.law e pg va st lv kd pr we wpg wva wst wlv wkd wpr
  have h0 : (cond (cond (litCmp .eql (litBin .or .u64 (litBin .shl .u64 (litBin .and .u64 pg 17592186044415) 10) (litBin .and .u64 e 1023)) (litBin .add .u64 (litBin .shl .u64 (litBin .rem .u64 pg 17592186044416) 10) (litBin .rem .u64 e 1024))) (cond (litCmp .eql (litBin .and .u64 (litBin .shr .u64 e 10) 17592186044415) (litBin .rem .u64 (litBin .shr .u64 e 10) 17592186044416)) (cond ((cond (litCmp .neq (litBin .and .u64 e 1) 0) (cond (litCmp .neq (litBin .and .u64 e 6) 4) (litCmp .eql (litBin .shr .u64 e 54) 0) false) false) == (cond (litCmp .eql (litBin .and .u64 (litBin .shr .u64 e 0) 1) 1) (cond (!(litCmp .eql (litBin .and .u64 (litBin .shr .u64 e 2) 1) 1)) (litCmp .eql (litBin .shr .u64 e 54) 0) (cond (litCmp .eql (litBin .and .u64 (litBin .shr .u64 e 1) 1) 1) (litCmp .eql (litBin .shr .u64 e 54) 0) false)) false)) (cond ((cond (cond (litCmp .neq (litBin .and .u64 e 1) 0) (cond (litCmp .neq (litBin .and .u64 e 6) 4) (litCmp .eql (litBin .shr .u64 e 54) 0) false) false) (litCmp .neq (litBin .and .u64 e 10) 0) false) == (cond (cond (litCmp .eql (litBin .and .u64 (litBin .shr .u64 e 0) 1) 1) (cond (!(litCmp .eql (litBin .and .u64 (litBin .shr .u64 e 2) 1) 1)) (litCmp .eql (litBin .shr .u64 e 54) 0) (cond (litCmp .eql (litBin .and .u64 (litBin .shr .u64 e 1) 1) 1) (litCmp .eql (litBin .shr .u64 e 54) 0) false)) false) (cond (litCmp .eql (litBin .and .u64 (litBin .shr .u64 e 1) 1) 1) true (litCmp .eql (litBin .and .u64 (litBin .shr .u64 e 3) 1) 1)) false)) ((cond (cond (litCmp .neq (litBin .and .u64 e 1) 0) (cond (litCmp .neq (litBin .and .u64 e 6) 4) (litCmp .eql (litBin .shr .u64 e 54) 0) false) false) (litCmp .eql (litBin .and .u64 e 222) 0) false) == (cond (cond (litCmp .eql (litBin .and .u64 (litBin .shr .u64 e 0) 1) 1) (cond (!(litCmp .eql (litBin .and .u64 (litBin .shr .u64 e 2) 1) 1)) (litCmp .eql (litBin .shr .u64 e 54) 0) (cond (litCmp .eql (litBin .and .u64 (litBin .shr .u64 e 1) 1) 1) (litCmp .eql (litBin .shr .u64 e 54) 0) false)) false) (cond (!(litCmp .eql (litBin .and .u64 (litBin .shr .u64 e 1) 1) 1)) (cond (!(litCmp .eql (litBin .and .u64 (litBin .shr .u64 e 2) 1) 1)) (cond (!(litCmp .eql (litBin .and .u64 (litBin .shr .u64 e 3) 1) 1)) (cond (!(litCmp .eql (litBin .and .u64 (litBin .shr .u64 e 4) 1) 1)) (cond (!(litCmp .eql (litBin .and .u64 (litBin .shr .u64 e 6) 1) 1)) (!(litCmp .eql (litBin .and .u64 (litBin .shr .u64 e 7) 1) 1)) false) false) false) false) false) false)) false) false) false) false) (cond ((cond (cond (cond (litCmp .neq (litBin .and .u64 e 1) 0) (cond (litCmp .neq (litBin .and .u64 e 6) 4) (litCmp .eql (litBin .shr .u64 e 54) 0) false) false) (litCmp .neq (litBin .and .u64 e 10) 0) false) (cond (cond (litCmp .eql pr 0) (cond (litCmp .eql (litBin .and .u64 e 16) 16) true (cond (litCmp .eql pr 1) (cond (!(litCmp .eql (litBin .and .u64 e 16) 16)) true (cond (litCmp .neq (litBin .and .u64 st 262144) 0) (litCmp .neq kd 0) false)) false)) (cond (litCmp .eql pr 1) (cond (!(litCmp .eql (litBin .and .u64 e 16) 16)) true (cond (litCmp .neq (litBin .and .u64 st 262144) 0) (litCmp .neq kd 0) false)) false)) (cond (cond (litCmp .eql kd 0) (litCmp .eql (litBin .and .u64 e 8) 8) (cond (litCmp .eql kd 1) (cond (litCmp .eql (litBin .and .u64 e 2) 2) true (cond (litCmp .neq (litBin .and .u64 st 524288) 0) (litCmp .eql (litBin .and .u64 e 8) 8) false)) (cond (litCmp .eql kd 2) (litCmp .eql (litBin .and .u64 e 132) 132) false))) (litCmp .eql (litBin .and .u64 e 64) 64) false) false) false) == (cond (cond (!(cond (cond (litCmp .eql (litBin .and .u64 (litBin .shr .u64 e 0) 1) 1) (cond (!(litCmp .eql (litBin .and .u64 (litBin .shr .u64 e 2) 1) 1)) (litCmp .eql (litBin .shr .u64 e 54) 0) (cond (litCmp .eql (litBin .and .u64 (litBin .shr .u64 e 1) 1) 1) (litCmp .eql (litBin .shr .u64 e 54) 0) false)) false) (cond (litCmp .eql (litBin .and .u64 (litBin .shr .u64 e 1) 1) 1) true (litCmp .eql (litBin .and .u64 (litBin .shr .u64 e 3) 1) 1)) false)) true (!(litCmp .eql (litBin .and .u64 (litBin .shr .u64 e 6) 1) 1))) false (cond (litCmp .eql pr 0) (cond (cond (litCmp .eql kd 0) (litCmp .eql (litBin .and .u64 (litBin .shr .u64 e 3) 1) 1) (cond (litCmp .eql kd 1) (cond (litCmp .eql (litBin .and .u64 (litBin .shr .u64 e 1) 1) 1) true (cond (litCmp .eql (litBin .and .u64 (litBin .shr .u64 st 19) 1) 1) (litCmp .eql (litBin .and .u64 (litBin .shr .u64 e 3) 1) 1) false)) (cond (litCmp .eql kd 2) (cond (litCmp .eql (litBin .and .u64 (litBin .shr .u64 e 2) 1) 1) (litCmp .eql (litBin .and .u64 (litBin .shr .u64 e 7) 1) 1) false) false))) (litCmp .eql (litBin .and .u64 (litBin .shr .u64 e 4) 1) 1) false) (cond (cond (litCmp .eql kd 0) (litCmp .eql (litBin .and .u64 (litBin .shr .u64 e 3) 1) 1) (cond (litCmp .eql kd 1) (cond (litCmp .eql (litBin .and .u64 (litBin .shr .u64 e 1) 1) 1) true (cond (litCmp .eql (litBin .and .u64 (litBin .shr .u64 st 19) 1) 1) (litCmp .eql (litBin .and .u64 (litBin .shr .u64 e 3) 1) 1) false)) (cond (litCmp .eql kd 2) (cond (litCmp .eql (litBin .and .u64 (litBin .shr .u64 e 2) 1) 1) (litCmp .eql (litBin .and .u64 (litBin .shr .u64 e 7) 1) 1) false) false))) (cond (litCmp .eql pr 1) (cond (!(litCmp .eql (litBin .and .u64 (litBin .shr .u64 e 4) 1) 1)) true (cond (litCmp .neq kd 0) (litCmp .eql (litBin .and .u64 (litBin .shr .u64 st 18) 1) 1) false)) false) false)))) (cond (litCmp .eql (litBin .shl .u64 (litBin .and .u64 (litBin .shr .u64 e 10) 17592186044415) 12) (litBin .mul .u64 (litBin .rem .u64 (litBin .shr .u64 e 10) 17592186044416) 4096)) ((cond (litCmp .eql (litBin .shr .i64 (IntKind.wrap .i64 va) 38) 0) true (litCmp .eql (litBin .shr .i64 (IntKind.wrap .i64 va) 38) (-1))) == (cond (litCmp .eql (litBin .shr .u64 va 38) 0) true (litCmp .eql (litBin .shr .u64 va 38) 67108863))) false) false) false) = true := h
  obtain ⟨g1, h1⟩ := cond_and h0
  obtain ⟨g2, h2⟩ := cond_and h1
  obtain ⟨g3, g4⟩ := cond_and h2
  refine ⟨_, route_pick1 (PteAllX.road e pg va st lv kd pr) ?_, g4⟩
  rw [hl, g1, g2, g3]
  rfl

theorem level (lv : Int) (h0 : ¬ lv = 0) (h1 : ¬ lv = 1) (h2 : ¬ lv = 2) : (cond (litCmp .geq lv 0) (litCmp .leq lv 2) false) = false := by
  rw [geq_eq, leq_eq]
  by_cases h : 0 ≤ lv
  · rw [decide_eq_true h]
    exact decide_eq_false (by omega)
  · rw [decide_eq_false h]
    rfl

set_option maxRecDepth 100000 in
set_option maxHeartbeats 4000000 in
theorem run : ∀ vs, ArgsOk [.one (.int .u64), .one (.int .u64), .agg [.int .u64, .int .u64, .int .i64, .int .i64, .int .i64]] vs → ∀ w, Calls Try.prog 18 vs.toArray w fun e w' => e = .returned (.bool true) ∧ Below w.heap.size w w' := by
  intro vs h w
  obtain ⟨_, _, rfl, ⟨e, rfl, we⟩, _, _, rfl, ⟨pg, rfl, wpg⟩, _, _, rfl, ⟨_, rfl, _, _, rfl, ⟨va, rfl, wva⟩, _, _, rfl, ⟨st, rfl, wst⟩, _, _, rfl, ⟨lv, rfl, wlv⟩, _, _, rfl, ⟨kd, rfl, wkd⟩, _, _, rfl, ⟨pr, rfl, wpr⟩, rfl⟩, rfl⟩ := h
  by_cases h0 : lv = 0
  · subst h0
    have h1 := PteAll0.evals e pg va st kd pr
    have h3 := PteAll0.law e pg va st kd pr we wpg wva wst wkd wpr
    have h2 : VRels [] ([.int .u64 (.sym e), .int .u64 (.sym pg), .agg [.int .u64 (.sym va), .int .u64 (.sym st), .int .i64 (.lit 0), .int .i64 (.sym kd), .int .i64 (.sym pr)]] : List (AV DC)) [.int .u64 e, .int .u64 pg, .agg [.int .u64 va, .int .u64 st, .int .i64 0, .int .i64 kd, .int .i64 pr].toArray] :=
      ⟨_, _, rfl, rfl, _, _, rfl, rfl, _, _, rfl, ⟨_, rfl, _, _, rfl, rfl, _, _, rfl, rfl, _, _, rfl, rfl, _, _, rfl, rfl, _, _, rfl, rfl, rfl⟩, rfl⟩
    have h4 := law_true3 cx_ok h2 h1 h3 w
    exact h4
  by_cases h1 : lv = 1
  · subst h1
    have h1 := PteAll1.evals e pg va st kd pr
    have h3 := PteAll1.law e pg va st kd pr we wpg wva wst wkd wpr
    have h2 : VRels [] ([.int .u64 (.sym e), .int .u64 (.sym pg), .agg [.int .u64 (.sym va), .int .u64 (.sym st), .int .i64 (.lit 1), .int .i64 (.sym kd), .int .i64 (.sym pr)]] : List (AV DC)) [.int .u64 e, .int .u64 pg, .agg [.int .u64 va, .int .u64 st, .int .i64 1, .int .i64 kd, .int .i64 pr].toArray] :=
      ⟨_, _, rfl, rfl, _, _, rfl, rfl, _, _, rfl, ⟨_, rfl, _, _, rfl, rfl, _, _, rfl, rfl, _, _, rfl, rfl, _, _, rfl, rfl, _, _, rfl, rfl, rfl⟩, rfl⟩
    have h4 := law_true3 cx_ok h2 h1 h3 w
    exact h4
  by_cases h2 : lv = 2
  · subst h2
    have h1 := PteAll2.evals e pg va st kd pr
    have h3 := PteAll2.law e pg va st kd pr we wpg wva wst wkd wpr
    have h2 : VRels [] ([.int .u64 (.sym e), .int .u64 (.sym pg), .agg [.int .u64 (.sym va), .int .u64 (.sym st), .int .i64 (.lit 2), .int .i64 (.sym kd), .int .i64 (.sym pr)]] : List (AV DC)) [.int .u64 e, .int .u64 pg, .agg [.int .u64 va, .int .u64 st, .int .i64 2, .int .i64 kd, .int .i64 pr].toArray] :=
      ⟨_, _, rfl, rfl, _, _, rfl, rfl, _, _, rfl, ⟨_, rfl, _, _, rfl, rfl, _, _, rfl, rfl, _, _, rfl, rfl, _, _, rfl, rfl, _, _, rfl, rfl, rfl⟩, rfl⟩
    have h4 := law_true3 cx_ok h2 h1 h3 w
    exact h4
  obtain ⟨b, k1, k2⟩ := other e pg va st lv kd pr we wpg wva wst wlv wkd wpr (level lv h0 h1 h2)
  have k3 := (rfl : List.map absV [.int .u64 e, .int .u64 pg, .agg [.int .u64 va, .int .u64 st, .int .i64 lv, .int .i64 kd, .int .i64 pr].toArray] = [.int .u64 (.sym e), .int .u64 (.sym pg), .agg [.int .u64 (.sym va), .int .u64 (.sym st), .int .i64 (.sym lv), .int .i64 (.sym kd), .int .i64 (.sym pr)]])
  have k4 := law_true2 cx_ok k3 k1 k2 w
  exact k4

set_option maxRecDepth 100000 in
theorem lifted (os : Os) (started : os.Started) (H : Type) (enc : TypeId × Value → H) :
    ReturnsInHanded {} Try.checked os 18 .any (Rows.pteAllSpec.pre6 enc Try.prog Try.f18 Rows.pteAllRow.domain false) (Rows.pteAllSpec.post enc Try.prog Try.f18 false true false false) := by
  refine returnsInHanded_of_change (C := Try.checked) own started (by kernel_rfl) Try.func18
    (ChangeSpec.witness6 (enc := enc) (C := Try.checked) false ⟨#[], #[.int .u64 0, .int .u64 0, .agg #[.int .u64 0, .int .u64 0, .int .i64 0, .int .i64 0, .int .i64 0]], []⟩ 8 (by kernel_rfl) (by kernel_rfl) (by kernel_rfl) (by kernel_rfl)) ?_
  intro W base args ds gs before hval hW _ _
  exact lifted_plain (P := Try.prog) (f := 18) (fn := Try.f18) (s := Rows.pteAllSpec) (tb := 4) rfl
    (fun ds h => by
      match ds, h with
      | [d1, d2, d3], _ => rfl)
    (by kernel_rfl) rfl (by kernel_rfl) run W base args ds gs before hval hW

theorem over : Rows.pteAllRow.holds Try.pinned (OpenSpec.ofChange Rows.pteAllSpec) :=
  OpenClaim.holds_of_wide 18 Try.f18 rfl rfl rfl rfl rfl rfl rfl ⟨rfl, rfl, rfl, rfl, rfl⟩ rfl rfl rfl rfl rfl (by kernel_rfl) Try.func18 (by kernel_rfl)
    (of_decide_eq_true (by kernel_rfl)) (by unfold Func.isWrapper; first | (rw [if_pos (by decide +kernel)]; kernel_rfl) | (rw [if_neg (by decide +kernel)]; exact ⟨rfl, rfl⟩))
    (fun os started H enc _ => lifted os started H enc)

/-- The statement. -/
theorem proved : Rows.PteAllSaid :=
  over
#print axioms proved
end Go.Proofs.Ytbjlkapfpcmjfaa.PteAll
