/- The statement 'TrapAll': what registers become by a trap and on the way back, and which interrupt is taken, is as the document says. Conditions: none. -/
import Derived.Test.YtbjlkapfpcmjfaaTrapBits
namespace Go.Proofs.Ytbjlkapfpcmjfaa.TrapAll
open Go.RowKit Go.WideShapes Go.ChangeShapes Go.ChangeAt Ev
set_option linter.unusedVariables false
set_option linter.unusedSimpArgs false

def val (c0 : Int) (c1 : Int) (c2 : Int) (c3 : Int) (c4 : Int) (c5 : Int) (c6 : Int) (c7 : Int) (c8 : Int) (c9 : Int) (c10 : Int) (c11 : Int) (tp : Int) (tc : Int) (tpc : Int) (tv : Int) (ti : Bool) : Bool := (cond ((litCmp .eql (cond (litCmp .eql tp 1) (litBin .or .u64 (litBin .andNot .u64 (cond (litCmp .neq (litBin .and .u64 c0 2) 0) (litBin .or .u64 c0 32) (litBin .andNot .u64 c0 32)) 258) 256) (litBin .andNot .u64 (cond (litCmp .neq (litBin .and .u64 c0 2) 0) (litBin .or .u64 c0 32) (litBin .andNot .u64 c0 32)) 258)) (cond (litCmp .eql tp 1) (litBin .or .u64 (litBin .andNot .u64 (litBin .andNot .u64 (cond (litCmp .eql (litBin .and .u64 (litBin .shr .u64 c0 1) 1) 1) (litBin .or .u64 (litBin .andNot .u64 c0 32) 32) (litBin .andNot .u64 c0 32)) 2) 256) 256) (litBin .andNot .u64 (litBin .andNot .u64 (cond (litCmp .eql (litBin .and .u64 (litBin .shr .u64 c0 1) 1) 1) (litBin .or .u64 (litBin .andNot .u64 c0 32) 32) (litBin .andNot .u64 c0 32)) 2) 256))) && ((litCmp .eql c1 c1) && ((litCmp .eql c2 c2) && ((litCmp .eql c3 c3) && ((litCmp .eql c4 c4) && ((litCmp .eql (litBin .andNot .u64 tpc 1) (litBin .sub .u64 tpc (litBin .rem .u64 tpc 2))) && ((litCmp .eql (cond ti (litBin .add .u64 (IntKind.wrap .u64 tc) 9223372036854775808) (IntKind.wrap .u64 tc)) (cond ti (litBin .add .u64 (IntKind.wrap .u64 tc) 9223372036854775808) (IntKind.wrap .u64 tc))) && ((litCmp .eql tv tv) && ((litCmp .eql c8 c8) && ((litCmp .eql c9 c9) && ((litCmp .eql c10 c10) && (litCmp .eql c11 c11)))))))))))) (cond (litCmp .eql (cond ti (litBin .add .u64 (litBin .andNot .u64 c2 3) (litBin .mul .u64 (litBin .mul .u64 (litBin .and .u64 c2 1) 4) (IntKind.wrap .u64 tc))) (litBin .andNot .u64 c2 3)) (cond (cond ti (litCmp .eql (litBin .rem .u64 c2 2) 1) false) (litBin .add .u64 (litBin .sub .u64 c2 (litBin .rem .u64 c2 4)) (litBin .mul .u64 4 (IntKind.wrap .u64 tc))) (litBin .sub .u64 c2 (litBin .rem .u64 c2 4)))) (cond ((litCmp .eql (litBin .or .u64 (litBin .andNot .u64 (cond (litCmp .neq (litBin .and .u64 c0 32) 0) (litBin .or .u64 c0 2) (litBin .andNot .u64 c0 2)) 256) 32) (litBin .andNot .u64 (litBin .or .u64 (litBin .andNot .u64 (cond (litCmp .eql (litBin .and .u64 (litBin .shr .u64 c0 5) 1) 1) (litBin .or .u64 (litBin .andNot .u64 c0 2) 2) (litBin .andNot .u64 c0 2)) 32) 32) 256)) && ((litCmp .eql c1 c1) && ((litCmp .eql c2 c2) && ((litCmp .eql c3 c3) && ((litCmp .eql c4 c4) && ((litCmp .eql c5 c5) && ((litCmp .eql c6 c6) && ((litCmp .eql c7 c7) && ((litCmp .eql c8 c8) && ((litCmp .eql c9 c9) && ((litCmp .eql c10 c10) && (litCmp .eql c11 c11)))))))))))) (cond (litCmp .eql c5 c5) (cond (litCmp .eql (cond (litCmp .neq (litBin .and .u64 c0 256) 0) 1 0) (cond (litCmp .eql (litBin .and .u64 (litBin .shr .u64 c0 8) 1) 1) 1 0)) (cond (litCmp .eql (cond (cond (litCmp .neq tp 0) (cond (litCmp .neq tp 1) true (litCmp .eql (litBin .and .u64 c0 2) 0)) false) 0 (cond (litCmp .eql (litBin .and .u64 (litBin .shr .u64 (litBin .and .u64 c8 c1) 1) 1) 1) 1 (cond (litCmp .eql (litBin .and .u64 (litBin .shr .u64 (litBin .and .u64 c8 c1) 5) 1) 1) 5 0))) (cond (cond (cond (litCmp .eql tp 0) true (cond (litCmp .eql tp 1) (litCmp .eql (litBin .and .u64 (litBin .shr .u64 c0 1) 1) 1) false)) (litCmp .eql (litBin .and .u64 (litBin .shr .u64 (litBin .and .u64 c8 c1) 1) 1) 1) false) 1 (cond (cond (cond (litCmp .eql tp 0) true (cond (litCmp .eql tp 1) (litCmp .eql (litBin .and .u64 (litBin .shr .u64 c0 1) 1) 1) false)) (litCmp .eql (litBin .and .u64 (litBin .shr .u64 (litBin .and .u64 c8 c1) 5) 1) 1) false) 5 0))) (cond ((cond (cond (litCmp .neq tp 0) (cond (litCmp .neq tp 1) true (litCmp .eql (litBin .and .u64 c0 2) 0)) false) false (cond (litCmp .eql (litBin .and .u64 (litBin .shr .u64 (litBin .and .u64 c8 c1) 1) 1) 1) true (litCmp .eql (litBin .and .u64 (litBin .shr .u64 (litBin .and .u64 c8 c1) 5) 1) 1))) == (cond (cond (cond (litCmp .eql tp 0) true (cond (litCmp .eql tp 1) (litCmp .eql (litBin .and .u64 (litBin .shr .u64 c0 1) 1) 1) false)) (litCmp .eql (litBin .and .u64 (litBin .shr .u64 (litBin .and .u64 c8 c1) 1) 1) 1) false) true (cond (cond (litCmp .eql tp 0) true (cond (litCmp .eql tp 1) (litCmp .eql (litBin .and .u64 (litBin .shr .u64 c0 1) 1) 1) false)) (litCmp .eql (litBin .and .u64 (litBin .shr .u64 (litBin .and .u64 c8 c1) 5) 1) 1) false))) ((cond (litCmp .eql (litBin .and .u64 (litBin .shr .u64 (litBin .and .u64 c8 c1) 1) 1) 1) true (litCmp .eql (litBin .and .u64 (litBin .shr .u64 (litBin .and .u64 c8 c1) 5) 1) 1)) == (cond (litCmp .eql (litBin .and .u64 (litBin .shr .u64 (litBin .and .u64 c8 c1) 1) 1) 1) true (litCmp .eql (litBin .and .u64 (litBin .shr .u64 (litBin .and .u64 c8 c1) 5) 1) 1))) false) false) false) false) false) false) false)
set_option maxRecDepth 100000 in
theorem road (c0 : Int) (c1 : Int) (c2 : Int) (c3 : Int) (c4 : Int) (c5 : Int) (c6 : Int) (c7 : Int) (c8 : Int) (c9 : Int) (c10 : Int) (c11 : Int) (tp : Int) (tc : Int) (tpc : Int) (tv : Int) (ti : Bool) : ((call Try.prog cxt 400 17 [.agg [.int .u64 (.sym c0), .int .u64 (.sym c1), .int .u64 (.sym c2), .int .u64 (.sym c3), .int .u64 (.sym c4), .int .u64 (.sym c5), .int .u64 (.sym c6), .int .u64 (.sym c7), .int .u64 (.sym c8), .int .u64 (.sym c9), .int .u64 (.sym c10), .int .u64 (.sym c11)], .agg [.int .i64 (.sym tp), .int .i64 (.sym tc), .int .u64 (.sym tpc), .int .u64 (.sym tv), .bool (.sym ti)]] []).route []).map (fun p => (p.1, p.2.1)) = some ([], .val (.bool (.sym (val c0 c1 c2 c3 c4 c5 c6 c7 c8 c9 c10 c11 tp tc tpc tv ti)))) := by kernel_rfl
set_option maxRecDepth 100000 in
set_option maxHeartbeats 4000000 in
theorem law {c0 c1 c2 c3 c4 c5 c6 c7 c8 c9 c10 c11 tp tc tpc tv : Int} {ti : Bool} (wc0 : (Lit.int .u64 c0).wf = true) (wc1 : (Lit.int .u64 c1).wf = true) (wc2 : (Lit.int .u64 c2).wf = true) (wc3 : (Lit.int .u64 c3).wf = true) (wc4 : (Lit.int .u64 c4).wf = true) (wc5 : (Lit.int .u64 c5).wf = true) (wc6 : (Lit.int .u64 c6).wf = true) (wc7 : (Lit.int .u64 c7).wf = true) (wc8 : (Lit.int .u64 c8).wf = true) (wc9 : (Lit.int .u64 c9).wf = true) (wc10 : (Lit.int .u64 c10).wf = true) (wc11 : (Lit.int .u64 c11).wf = true) (wtp : (Lit.int .i64 tp).wf = true) (wtc : (Lit.int .i64 tc).wf = true) (wtpc : (Lit.int .u64 tpc).wf = true) (wtv : (Lit.int .u64 tv).wf = true) : val c0 c1 c2 c3 c4 c5 c6 c7 c8 c9 c10 c11 tp tc tpc tv ti = true := by
  show (cond ((litCmp .eql (E (litCmp .eql tp 1) c0) (E2 (litCmp .eql tp 1) c0)) && ((litCmp .eql c1 c1) && ((litCmp .eql c2 c2) && ((litCmp .eql c3 c3) && ((litCmp .eql c4 c4) && ((litCmp .eql (litBin .andNot .u64 tpc 1) (litBin .sub .u64 tpc (litBin .rem .u64 tpc 2))) && ((litCmp .eql (cond ti (litBin .add .u64 (IntKind.wrap .u64 tc) 9223372036854775808) (IntKind.wrap .u64 tc)) (cond ti (litBin .add .u64 (IntKind.wrap .u64 tc) 9223372036854775808) (IntKind.wrap .u64 tc))) && ((litCmp .eql tv tv) && ((litCmp .eql c8 c8) && ((litCmp .eql c9 c9) && ((litCmp .eql c10 c10) && (litCmp .eql c11 c11)))))))))))) (cond (litCmp .eql (cond ti (litBin .add .u64 (litBin .andNot .u64 c2 3) (litBin .mul .u64 (litBin .mul .u64 (litBin .and .u64 c2 1) 4) (IntKind.wrap .u64 tc))) (litBin .andNot .u64 c2 3)) (cond (cond ti (litCmp .eql (litBin .rem .u64 c2 2) 1) false) (litBin .add .u64 (litBin .sub .u64 c2 (litBin .rem .u64 c2 4)) (litBin .mul .u64 4 (IntKind.wrap .u64 tc))) (litBin .sub .u64 c2 (litBin .rem .u64 c2 4)))) (cond ((litCmp .eql (B c0) (B2 c0)) && ((litCmp .eql c1 c1) && ((litCmp .eql c2 c2) && ((litCmp .eql c3 c3) && ((litCmp .eql c4 c4) && ((litCmp .eql c5 c5) && ((litCmp .eql c6 c6) && ((litCmp .eql c7 c7) && ((litCmp .eql c8 c8) && ((litCmp .eql c9 c9) && ((litCmp .eql c10 c10) && (litCmp .eql c11 c11)))))))))))) (cond (litCmp .eql c5 c5) (cond (litCmp .eql (cond (litCmp .neq (litBin .and .u64 c0 256) 0) 1 0) (cond (litCmp .eql (litBin .and .u64 (litBin .shr .u64 c0 8) 1) 1) 1 0)) (cond (litCmp .eql (cond (cond (litCmp .neq tp 0) (cond (litCmp .neq tp 1) true (litCmp .eql (litBin .and .u64 c0 2) 0)) false) 0 (cond (litCmp .eql (litBin .and .u64 (litBin .shr .u64 (litBin .and .u64 c8 c1) 1) 1) 1) 1 (cond (litCmp .eql (litBin .and .u64 (litBin .shr .u64 (litBin .and .u64 c8 c1) 5) 1) 1) 5 0))) (cond (cond (cond (litCmp .eql tp 0) true (cond (litCmp .eql tp 1) (litCmp .eql (litBin .and .u64 (litBin .shr .u64 c0 1) 1) 1) false)) (litCmp .eql (litBin .and .u64 (litBin .shr .u64 (litBin .and .u64 c8 c1) 1) 1) 1) false) 1 (cond (cond (cond (litCmp .eql tp 0) true (cond (litCmp .eql tp 1) (litCmp .eql (litBin .and .u64 (litBin .shr .u64 c0 1) 1) 1) false)) (litCmp .eql (litBin .and .u64 (litBin .shr .u64 (litBin .and .u64 c8 c1) 5) 1) 1) false) 5 0))) (cond ((cond (cond (litCmp .neq tp 0) (cond (litCmp .neq tp 1) true (litCmp .eql (litBin .and .u64 c0 2) 0)) false) false (cond (litCmp .eql (litBin .and .u64 (litBin .shr .u64 (litBin .and .u64 c8 c1) 1) 1) 1) true (litCmp .eql (litBin .and .u64 (litBin .shr .u64 (litBin .and .u64 c8 c1) 5) 1) 1))) == (cond (cond (cond (litCmp .eql tp 0) true (cond (litCmp .eql tp 1) (litCmp .eql (litBin .and .u64 (litBin .shr .u64 c0 1) 1) 1) false)) (litCmp .eql (litBin .and .u64 (litBin .shr .u64 (litBin .and .u64 c8 c1) 1) 1) 1) false) true (cond (cond (litCmp .eql tp 0) true (cond (litCmp .eql tp 1) (litCmp .eql (litBin .and .u64 (litBin .shr .u64 c0 1) 1) 1) false)) (litCmp .eql (litBin .and .u64 (litBin .shr .u64 (litBin .and .u64 c8 c1) 5) 1) 1) false))) ((cond (litCmp .eql (litBin .and .u64 (litBin .shr .u64 (litBin .and .u64 c8 c1) 1) 1) 1) true (litCmp .eql (litBin .and .u64 (litBin .shr .u64 (litBin .and .u64 c8 c1) 5) 1) 1)) == (cond (litCmp .eql (litBin .and .u64 (litBin .shr .u64 (litBin .and .u64 c8 c1) 1) 1) 1) true (litCmp .eql (litBin .and .u64 (litBin .shr .u64 (litBin .and .u64 c8 c1) 5) 1) 1))) false) false) false) false) false) false) false) = true
  have hc0 := inU_wf wc0
  have hc2 := inU_wf wc2
  have htpc := inU_wf wtpc
  rw [E_E2 hc0, B_B2 hc0]
  have e1 : litBin .andNot .u64 tpc 1 = litBin .sub .u64 tpc (litBin .rem .u64 tpc 2) := by
    rw [andNot1 htpc, sub_eq, rem2 htpc]
    unfold inU at htpc
    omega
  have e2 : cond ti (litBin .add .u64 (litBin .andNot .u64 c2 3) (litBin .mul .u64 (litBin .mul .u64 (litBin .and .u64 c2 1) 4) (IntKind.wrap .u64 tc))) (litBin .andNot .u64 c2 3) = cond (cond ti (litCmp .eql (litBin .rem .u64 c2 2) 1) false) (litBin .add .u64 (litBin .sub .u64 c2 (litBin .rem .u64 c2 4)) (litBin .mul .u64 4 (IntKind.wrap .u64 tc))) (litBin .sub .u64 c2 (litBin .rem .u64 c2 4)) := by
    have h4 : litBin .sub .u64 c2 (litBin .rem .u64 c2 4) = c2 - c2 % 4 := by
      rw [sub_eq, rem4 hc2]
      unfold inU at hc2
      omega
    rw [h4, andNot3 hc2, rem2 hc2, and1 hc2]
    cases ti
    · rfl
    · rw [cond_true, cond_true]
      have hm : ∀ x y : Int, litBin .mul .u64 x y = (x * y) % 18446744073709551616 := fun x y => wrap64 _
      unfold inU at hc2
      rcases (by omega : c2 % 2 = 0 ∨ c2 % 2 = 1) with h | h
      · rw [h]
        show litBin .add .u64 (c2 - c2 % 4) (litBin .mul .u64 0 (IntKind.wrap .u64 tc)) = c2 - c2 % 4
        rw [hm, add_eq]
        omega
      · rw [h]
        rfl
  rw [e1, e2]
  simp only [eql_self, Bool.and_self, cond_true]
  have e3 : litCmp .neq (litBin .and .u64 c0 256) 0 = litCmp .eql (litBin .and .u64 (litBin .shr .u64 c0 8) 1) 1 := by rw [neq256 hc0, at8 hc0]
  have e4 : litCmp .eql (litBin .and .u64 (litBin .shr .u64 c0 1) 1) 1 = !litCmp .eql (litBin .and .u64 c0 2) 0 := by rw [eql2 hc0, at1 hc0, Bool.not_not]
  rw [e3, e4, eql_self]
  simp only [neq_not]
  have ex := eql_apart tp 0 1 (by decide)
  generalize litCmp .eql tp 0 = p0 at ex ⊢
  rw [ex]
  generalize litCmp .eql tp 1 = p1
  generalize litCmp .eql (litBin .and .u64 c0 2) 0 = q
  generalize litCmp .eql (litBin .and .u64 (litBin .shr .u64 (litBin .and .u64 c8 c1) 1) 1) 1 = r
  generalize litCmp .eql (litBin .and .u64 (litBin .shr .u64 (litBin .and .u64 c8 c1) 5) 1) 1 = t
  clear ex e1 e2 e3 e4
  revert p0 p1 q r t
  decide

theorem sums (c0 : Int) (c1 : Int) (c2 : Int) (c3 : Int) (c4 : Int) (c5 : Int) (c6 : Int) (c7 : Int) (c8 : Int) (c9 : Int) (c10 : Int) (c11 : Int) (tp : Int) (tc : Int) (tpc : Int) (tv : Int) (ti : Bool) (wc0 : (Lit.int .u64 c0).wf = true) (wc1 : (Lit.int .u64 c1).wf = true) (wc2 : (Lit.int .u64 c2).wf = true) (wc3 : (Lit.int .u64 c3).wf = true) (wc4 : (Lit.int .u64 c4).wf = true) (wc5 : (Lit.int .u64 c5).wf = true) (wc6 : (Lit.int .u64 c6).wf = true) (wc7 : (Lit.int .u64 c7).wf = true) (wc8 : (Lit.int .u64 c8).wf = true) (wc9 : (Lit.int .u64 c9).wf = true) (wc10 : (Lit.int .u64 c10).wf = true) (wc11 : (Lit.int .u64 c11).wf = true) (wtp : (Lit.int .i64 tp).wf = true) (wtc : (Lit.int .i64 tc).wf = true) (wtpc : (Lit.int .u64 tpc).wf = true) (wtv : (Lit.int .u64 tv).wf = true) :
    ∃ c : Bool, (call Try.prog cxt 400 17 [.agg [.int .u64 (.sym c0), .int .u64 (.sym c1), .int .u64 (.sym c2), .int .u64 (.sym c3), .int .u64 (.sym c4), .int .u64 (.sym c5), .int .u64 (.sym c6), .int .u64 (.sym c7), .int .u64 (.sym c8), .int .u64 (.sym c9), .int .u64 (.sym c10), .int .u64 (.sym c11)], .agg [.int .i64 (.sym tp), .int .i64 (.sym tc), .int .u64 (.sym tpc), .int .u64 (.sym tv), .bool (.sym ti)]] []).pick.map (·.1) = some (.val (.bool (.sym c))) ∧ c = true :=
  ⟨_, route_pick1 (road c0 c1 c2 c3 c4 c5 c6 c7 c8 c9 c10 c11 tp tc tpc tv ti) rfl, law wc0 wc1 wc2 wc3 wc4 wc5 wc6 wc7 wc8 wc9 wc10 wc11 wtp wtc wtpc wtv⟩

set_option maxRecDepth 100000 in
set_option maxHeartbeats 4000000 in
theorem run : ∀ vs, ArgsOk [.agg [.int .u64, .int .u64, .int .u64, .int .u64, .int .u64, .int .u64, .int .u64, .int .u64, .int .u64, .int .u64, .int .u64, .int .u64], .agg [.int .i64, .int .i64, .int .u64, .int .u64, .bool]] vs → ∀ w, Calls Try.prog 17 vs.toArray w fun e w' => e = .returned (.bool true) ∧ Below w.heap.size w w' := by
  intro vs h w
  obtain ⟨_, _, rfl, ⟨_, rfl, _, _, rfl, ⟨c0, rfl, wc0⟩, _, _, rfl, ⟨c1, rfl, wc1⟩, _, _, rfl, ⟨c2, rfl, wc2⟩, _, _, rfl, ⟨c3, rfl, wc3⟩, _, _, rfl, ⟨c4, rfl, wc4⟩, _, _, rfl, ⟨c5, rfl, wc5⟩, _, _, rfl, ⟨c6, rfl, wc6⟩, _, _, rfl, ⟨c7, rfl, wc7⟩, _, _, rfl, ⟨c8, rfl, wc8⟩, _, _, rfl, ⟨c9, rfl, wc9⟩, _, _, rfl, ⟨c10, rfl, wc10⟩, _, _, rfl, ⟨c11, rfl, wc11⟩, rfl⟩, _, _, rfl, ⟨_, rfl, _, _, rfl, ⟨tp, rfl, wtp⟩, _, _, rfl, ⟨tc, rfl, wtc⟩, _, _, rfl, ⟨tpc, rfl, wtpc⟩, _, _, rfl, ⟨tv, rfl, wtv⟩, _, _, rfl, ⟨ti, rfl⟩, rfl⟩, rfl⟩ := h
  obtain ⟨c, k1, k2⟩ := sums c0 c1 c2 c3 c4 c5 c6 c7 c8 c9 c10 c11 tp tc tpc tv ti wc0 wc1 wc2 wc3 wc4 wc5 wc6 wc7 wc8 wc9 wc10 wc11 wtp wtc wtpc wtv
  have k3 := (rfl : List.map absV [.agg [.int .u64 c0, .int .u64 c1, .int .u64 c2, .int .u64 c3, .int .u64 c4, .int .u64 c5, .int .u64 c6, .int .u64 c7, .int .u64 c8, .int .u64 c9, .int .u64 c10, .int .u64 c11].toArray, .agg [.int .i64 tp, .int .i64 tc, .int .u64 tpc, .int .u64 tv, .bool ti].toArray] = [.agg [.int .u64 (.sym c0), .int .u64 (.sym c1), .int .u64 (.sym c2), .int .u64 (.sym c3), .int .u64 (.sym c4), .int .u64 (.sym c5), .int .u64 (.sym c6), .int .u64 (.sym c7), .int .u64 (.sym c8), .int .u64 (.sym c9), .int .u64 (.sym c10), .int .u64 (.sym c11)], .agg [.int .i64 (.sym tp), .int .i64 (.sym tc), .int .u64 (.sym tpc), .int .u64 (.sym tv), .bool (.sym ti)]])
  have k4 := law_true2 cxt_ok k3 k1 k2 w
  exact k4

set_option maxRecDepth 100000 in
theorem lifted (os : Os) (started : os.Started) (H : Type) (enc : TypeId × Value → H) :
    ReturnsInHanded {} Try.checked os 17 .any (Rows.trapAllSpec.pre6 enc Try.prog Try.f17 Rows.trapAllRow.domain false) (Rows.trapAllSpec.post enc Try.prog Try.f17 false true false false) := by
  refine returnsInHanded_of_change (C := Try.checked) own started (by kernel_rfl) Try.func17
    (ChangeSpec.witness6 (enc := enc) (C := Try.checked) false ⟨#[], #[.agg #[.int .u64 0, .int .u64 0, .int .u64 0, .int .u64 0, .int .u64 0, .int .u64 0, .int .u64 0, .int .u64 0, .int .u64 0, .int .u64 0, .int .u64 0, .int .u64 0], .agg #[.int .i64 0, .int .i64 0, .int .u64 0, .int .u64 0, .bool false]], []⟩ 8 (by kernel_rfl) (by kernel_rfl) (by kernel_rfl) (by kernel_rfl)) ?_
  intro W base args ds gs before hval hW _ _
  exact lifted_plain (P := Try.prog) (f := 17) (fn := Try.f17) (s := Rows.trapAllSpec) (tb := 4) rfl
    (fun ds h => by
      match ds, h with
      | [d1, d2], _ => rfl)
    (by kernel_rfl) rfl (by kernel_rfl) run W base args ds gs before hval hW

theorem over : Rows.trapAllRow.holds Try.pinned (OpenSpec.ofChange Rows.trapAllSpec) :=
  OpenClaim.holds_of_wide 17 Try.f17 rfl rfl rfl rfl rfl rfl rfl ⟨rfl, rfl, rfl, rfl, rfl⟩ rfl rfl rfl rfl rfl (by kernel_rfl) Try.func17 (by kernel_rfl)
    (of_decide_eq_true (by kernel_rfl)) (by unfold Func.isWrapper; first | (rw [if_pos (by decide +kernel)]; kernel_rfl) | (rw [if_neg (by decide +kernel)]; exact ⟨rfl, rfl⟩))
    (fun os started H enc _ => lifted os started H enc)

/-- The statement. -/
theorem proved : Rows.TrapAllSaid :=
  over
#print axioms proved
end Go.Proofs.Ytbjlkapfpcmjfaa.TrapAll
