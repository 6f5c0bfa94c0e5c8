/- The statement 'BaseAll': what any call of this extension tells, which extensions there are, and the name of any error, is as the document says. Conditions: none. -/
import Derived.Test.YtbjlkapfpcmjfaaCx3
namespace Go.Proofs.Ytbjlkapfpcmjfaa.BaseAll
open Go.RowKit Go.WideShapes Go.ChangeShapes Go.ChangeAt Ev
set_option linter.unusedVariables false
set_option linter.unusedSimpArgs false

def test0 (f : Int) (a : Int) (n : Int) : Bool := ((cond (litCmp .geq f 7) true (cond (cond (litCmp .eql f 3) (litCmp .geq (cond (litCmp .eql a 16) 0 (cond (litCmp .eql a 1414090053) 1 (cond (litCmp .eql a 7557193) 2 (cond (litCmp .eql a 1380339267) 3 (cond (litCmp .eql a 4739917) 4 (cond (litCmp .eql a 1397904212) 5 (cond (litCmp .eql a 1145193294) 6 (cond (litCmp .eql a 5262677) 7 (-1))))))))) 0) false) true ((decide (0 ≤ f ∧ f < ((7 : Nat) : Int))) && (decide ((Int.toNat f) < 7))))) && (cond (litCmp .eql (cond (litCmp .geq f 7) (-2) 0) (cond (litCmp .eql f 0) 0 (cond (litCmp .eql f 1) 0 (cond (litCmp .eql f 2) 0 (cond (litCmp .eql f 3) 0 (cond (cond (litCmp .eql f 4) (litCmp .eql f 4) (cond (litCmp .eql f 5) (litCmp .eql f 5) (litCmp .eql f 6))) 0 (-2))))))) (cond (litCmp .eql (cond (litCmp .geq f 7) 0 (cond (cond (litCmp .eql f 3) (litCmp .geq (cond (litCmp .eql a 16) 0 (cond (litCmp .eql a 1414090053) 1 (cond (litCmp .eql a 7557193) 2 (cond (litCmp .eql a 1380339267) 3 (cond (litCmp .eql a 4739917) 4 (cond (litCmp .eql a 1397904212) 5 (cond (litCmp .eql a 1145193294) 6 (cond (litCmp .eql a 5262677) 7 (-1))))))))) 0) false) 1 (cond (decide ((Int.toNat f) = 0)) 33554432 (cond (decide ((Int.toNat f) = 1)) 97 (cond (decide ((Int.toNat f) = 2)) 1 0))))) (cond (litCmp .eql f 0) 33554432 (cond (litCmp .eql f 1) 97 (cond (litCmp .eql f 2) 1 (cond (litCmp .eql f 3) (cond (cond (litCmp .eql 16 a) true (cond (litCmp .eql 1414090053 a) true (cond (litCmp .eql 7557193 a) true (cond (litCmp .eql 1380339267 a) true (cond (litCmp .eql 4739917 a) true (cond (litCmp .eql 1397904212 a) true (cond (litCmp .eql 1145193294 a) true (litCmp .eql 5262677 a)))))))) 1 0) 0))))) (cond ((litCmp .geq (cond (litCmp .eql a 16) 0 (cond (litCmp .eql a 1414090053) 1 (cond (litCmp .eql a 7557193) 2 (cond (litCmp .eql a 1380339267) 3 (cond (litCmp .eql a 4739917) 4 (cond (litCmp .eql a 1397904212) 5 (cond (litCmp .eql a 1145193294) 6 (cond (litCmp .eql a 5262677) 7 (-1))))))))) 0) == (cond (litCmp .eql 16 a) true (cond (litCmp .eql 1414090053 a) true (cond (litCmp .eql 7557193 a) true (cond (litCmp .eql 1380339267 a) true (cond (litCmp .eql 4739917 a) true (cond (litCmp .eql 1397904212 a) true (cond (litCmp .eql 1145193294 a) true (litCmp .eql 5262677 a))))))))) ((cond (litCmp .gtr n 0) true (litCmp .leq n (-9))) && (cond (litCmp .gtr n 0) true (litCmp .lss n (-8)))) true) true) true))
def val (f : Int) (a : Int) (n : Int) : Bool := (cond (litCmp .eql (cond (litCmp .geq f 7) (-2) 0) (cond (litCmp .eql f 0) 0 (cond (litCmp .eql f 1) 0 (cond (litCmp .eql f 2) 0 (cond (litCmp .eql f 3) 0 (cond (cond (litCmp .eql f 4) (litCmp .eql f 4) (cond (litCmp .eql f 5) (litCmp .eql f 5) (litCmp .eql f 6))) 0 (-2))))))) (cond (litCmp .eql (cond (litCmp .geq f 7) 0 (cond (cond (litCmp .eql f 3) (litCmp .geq (cond (litCmp .eql a 16) 0 (cond (litCmp .eql a 1414090053) 1 (cond (litCmp .eql a 7557193) 2 (cond (litCmp .eql a 1380339267) 3 (cond (litCmp .eql a 4739917) 4 (cond (litCmp .eql a 1397904212) 5 (cond (litCmp .eql a 1145193294) 6 (cond (litCmp .eql a 5262677) 7 (-1))))))))) 0) false) 1 (cond (decide ((Int.toNat f) = 0)) 33554432 (cond (decide ((Int.toNat f) = 1)) 97 (cond (decide ((Int.toNat f) = 2)) 1 0))))) (cond (litCmp .eql f 0) 33554432 (cond (litCmp .eql f 1) 97 (cond (litCmp .eql f 2) 1 (cond (litCmp .eql f 3) (cond (cond (litCmp .eql 16 a) true (cond (litCmp .eql 1414090053 a) true (cond (litCmp .eql 7557193 a) true (cond (litCmp .eql 1380339267 a) true (cond (litCmp .eql 4739917 a) true (cond (litCmp .eql 1397904212 a) true (cond (litCmp .eql 1145193294 a) true (litCmp .eql 5262677 a)))))))) 1 0) 0))))) ((litCmp .geq (cond (litCmp .eql a 16) 0 (cond (litCmp .eql a 1414090053) 1 (cond (litCmp .eql a 7557193) 2 (cond (litCmp .eql a 1380339267) 3 (cond (litCmp .eql a 4739917) 4 (cond (litCmp .eql a 1397904212) 5 (cond (litCmp .eql a 1145193294) 6 (cond (litCmp .eql a 5262677) 7 (-1))))))))) 0) == (cond (litCmp .eql 16 a) true (cond (litCmp .eql 1414090053 a) true (cond (litCmp .eql 7557193 a) true (cond (litCmp .eql 1380339267 a) true (cond (litCmp .eql 4739917 a) true (cond (litCmp .eql 1397904212 a) true (cond (litCmp .eql 1145193294 a) true (litCmp .eql 5262677 a))))))))) false) false)
set_option maxRecDepth 100000 in
theorem road (f : Int) (a : Int) (n : Int) : ((call Try.prog cx3 400 11 [.int .u64 (.sym f), .int .u64 (.sym a), .int .i64 (.sym n)] []).route [true]).map (fun p => (p.1, p.2.1)) = some ([test0 f a n], .val (.bool (.sym (val f a n)))) := by kernel_rfl

def testL (f a : Int) : Bool := (cond (litCmp .geq f 7) true (cond (cond (litCmp .eql f 3) (litCmp .geq (cond (litCmp .eql a 16) 0 (cond (litCmp .eql a 1414090053) 1 (cond (litCmp .eql a 7557193) 2 (cond (litCmp .eql a 1380339267) 3 (cond (litCmp .eql a 4739917) 4 (cond (litCmp .eql a 1397904212) 5 (cond (litCmp .eql a 1145193294) 6 (cond (litCmp .eql a 5262677) 7 (-1))))))))) 0) false) true ((decide (0 ≤ f ∧ f < ((7 : Nat) : Int))) && (decide ((Int.toNat f) < 7)))))
set_option maxRecDepth 100000 in
theorem road0 (f a n : Int) : ((call Try.prog cx3 400 11 [.int .u64 (.sym f), .int .u64 (.sym a), .int .i64 (.lit 0)] []).route [true]).map (fun p => (p.1, p.2.1)) = some ([testL f a], .val (.bool (.sym (val f a n)))) := by kernel_rfl
set_option maxRecDepth 100000 in
theorem road1 (f a n : Int) : ((call Try.prog cx3 400 11 [.int .u64 (.sym f), .int .u64 (.sym a), .int .i64 (.lit (-1))] []).route [true]).map (fun p => (p.1, p.2.1)) = some ([testL f a], .val (.bool (.sym (val f a n)))) := by kernel_rfl
set_option maxRecDepth 100000 in
theorem road2 (f a n : Int) : ((call Try.prog cx3 400 11 [.int .u64 (.sym f), .int .u64 (.sym a), .int .i64 (.lit (-2))] []).route [true]).map (fun p => (p.1, p.2.1)) = some ([testL f a], .val (.bool (.sym (val f a n)))) := by kernel_rfl
set_option maxRecDepth 100000 in
theorem road3 (f a n : Int) : ((call Try.prog cx3 400 11 [.int .u64 (.sym f), .int .u64 (.sym a), .int .i64 (.lit (-3))] []).route [true]).map (fun p => (p.1, p.2.1)) = some ([testL f a], .val (.bool (.sym (val f a n)))) := by kernel_rfl
set_option maxRecDepth 100000 in
theorem road4 (f a n : Int) : ((call Try.prog cx3 400 11 [.int .u64 (.sym f), .int .u64 (.sym a), .int .i64 (.lit (-4))] []).route [true]).map (fun p => (p.1, p.2.1)) = some ([testL f a], .val (.bool (.sym (val f a n)))) := by kernel_rfl
set_option maxRecDepth 100000 in
theorem road5 (f a n : Int) : ((call Try.prog cx3 400 11 [.int .u64 (.sym f), .int .u64 (.sym a), .int .i64 (.lit (-5))] []).route [true]).map (fun p => (p.1, p.2.1)) = some ([testL f a], .val (.bool (.sym (val f a n)))) := by kernel_rfl
set_option maxRecDepth 100000 in
theorem road6 (f a n : Int) : ((call Try.prog cx3 400 11 [.int .u64 (.sym f), .int .u64 (.sym a), .int .i64 (.lit (-6))] []).route [true]).map (fun p => (p.1, p.2.1)) = some ([testL f a], .val (.bool (.sym (val f a n)))) := by kernel_rfl
set_option maxRecDepth 100000 in
theorem road7 (f a n : Int) : ((call Try.prog cx3 400 11 [.int .u64 (.sym f), .int .u64 (.sym a), .int .i64 (.lit (-7))] []).route [true]).map (fun p => (p.1, p.2.1)) = some ([testL f a], .val (.bool (.sym (val f a n)))) := by kernel_rfl
set_option maxRecDepth 100000 in
theorem road8 (f a n : Int) : ((call Try.prog cx3 400 11 [.int .u64 (.sym f), .int .u64 (.sym a), .int .i64 (.lit (-8))] []).route [true]).map (fun p => (p.1, p.2.1)) = some ([testL f a], .val (.bool (.sym (val f a n)))) := by kernel_rfl

theorem eql_sym (x y : Int) : litCmp .eql x y = litCmp .eql y x := decide_eq_decide.2 ⟨Eq.symm, Eq.symm⟩
theorem known (a : Int) : (cond (litCmp .eql 16 a) true (cond (litCmp .eql 1414090053 a) true (cond (litCmp .eql 7557193 a) true (cond (litCmp .eql 1380339267 a) true (cond (litCmp .eql 4739917 a) true (cond (litCmp .eql 1397904212 a) true (cond (litCmp .eql 1145193294 a) true (litCmp .eql 5262677 a)))))))) = (litCmp .geq (cond (litCmp .eql a 16) 0 (cond (litCmp .eql a 1414090053) 1 (cond (litCmp .eql a 7557193) 2 (cond (litCmp .eql a 1380339267) 3 (cond (litCmp .eql a 4739917) 4 (cond (litCmp .eql a 1397904212) 5 (cond (litCmp .eql a 1145193294) 6 (cond (litCmp .eql a 5262677) 7 (-1))))))))) 0) := by
  rw [eql_sym 16 a, eql_sym 1414090053 a, eql_sym 7557193 a, eql_sym 1380339267 a, eql_sym 4739917 a, eql_sym 1397904212 a, eql_sym 1145193294 a, eql_sym 5262677 a]
  generalize litCmp .eql a 16 = b0
  generalize litCmp .eql a 1414090053 = b1
  generalize litCmp .eql a 7557193 = b2
  generalize litCmp .eql a 1380339267 = b3
  generalize litCmp .eql a 4739917 = b4
  generalize litCmp .eql a 1397904212 = b5
  generalize litCmp .eql a 1145193294 = b6
  generalize litCmp .eql a 5262677 = b7
  revert b0 b1 b2 b3 b4 b5 b6 b7
  decide
theorem law {f a n : Int} (wf : (Lit.int .u64 f).wf = true) : val f a n = true ∧ testL f a = true ∧ (0 < n ∨ n < -8 → test0 f a n = true) := by
  have hf := inU_wf wf
  unfold inU at hf
  unfold val testL test0
  rw [known a]
  generalize (litCmp .geq (cond (litCmp .eql a 16) 0 (cond (litCmp .eql a 1414090053) 1 (cond (litCmp .eql a 7557193) 2 (cond (litCmp .eql a 1380339267) 3 (cond (litCmp .eql a 4739917) 4 (cond (litCmp .eql a 1397904212) 5 (cond (litCmp .eql a 1145193294) 6 (cond (litCmp .eql a 5262677) 7 (-1))))))))) 0) = K
  have hn : 0 < n ∨ n < -8 → (cond (litCmp .gtr n 0) true (litCmp .leq n (-9))) = true ∧ (cond (litCmp .gtr n 0) true (litCmp .lss n (-8))) = true := by
    intro h
    by_cases h0 : 0 < n
    · have h1 : litCmp .gtr n 0 = true := decide_eq_true h0
      rw [h1]
      exact ⟨rfl, rfl⟩
    · have h2 : litCmp .leq n (-9) = true := decide_eq_true (by omega)
      have h3 : litCmp .lss n (-8) = true := decide_eq_true (by omega)
      rw [h2, h3, Bool.cond_self]
      exact ⟨rfl, rfl⟩
  generalize (cond (litCmp .gtr n 0) true (litCmp .leq n (-9))) = N at *
  generalize (cond (litCmp .gtr n 0) true (litCmp .lss n (-8))) = M at *
  by_cases h : 7 ≤ f
  · have h1 : litCmp .geq f 7 = true := decide_eq_true h
    have e0 : litCmp .eql f 0 = false := decide_eq_false (by omega)
    have e1 : litCmp .eql f 1 = false := decide_eq_false (by omega)
    have e2 : litCmp .eql f 2 = false := decide_eq_false (by omega)
    have e3 : litCmp .eql f 3 = false := decide_eq_false (by omega)
    have e4 : litCmp .eql f 4 = false := decide_eq_false (by omega)
    have e5 : litCmp .eql f 5 = false := decide_eq_false (by omega)
    have e6 : litCmp .eql f 6 = false := decide_eq_false (by omega)
    rw [h1, e0, e1, e2, e3, e4, e5, e6]
    refine ⟨by cases K <;> rfl, rfl, fun h => ?_⟩
    obtain ⟨r1, r2⟩ := hn h
    rw [r1, r2]
    cases K <;> rfl
  · have hk : f = 0 ∨ f = 1 ∨ f = 2 ∨ f = 3 ∨ f = 4 ∨ f = 5 ∨ f = 6 := by omega
    rcases hk with h | h | h | h | h | h | h <;> subst h <;> refine ⟨by cases K <;> rfl, by cases K <;> rfl, fun h => ?_⟩ <;> obtain ⟨r1, r2⟩ := hn h <;> rw [r1, r2] <;> cases K <;> rfl

theorem sums (f a n : Int) (wf : (Lit.int .u64 f).wf = true) : ∃ args : List (AV DC), VRels [] args [.int .u64 f, .int .u64 a, .int .i64 n] ∧
    ∃ c : Bool, (call Try.prog cx3 400 11 args []).pick.map (·.1) = some (.val (.bool (.sym c))) ∧ c = true := by
  obtain ⟨l1, l2, l3⟩ := law (a := a) (n := n) wf
  by_cases h : 0 < n ∨ n < -8
  · exact ⟨_, absVs_rel [.int .u64 f, .int .u64 a, .int .i64 n], _, route_pick1 (road f a n) (by rw [l3 h]), l1⟩
  · have hk : n = 0 ∨ n = -1 ∨ n = -2 ∨ n = -3 ∨ n = -4 ∨ n = -5 ∨ n = -6 ∨ n = -7 ∨ n = -8 := by omega
    have hv : ∀ m : Int, n = m → VRels [] [.int .u64 (.sym f), .int .u64 (.sym a), .int .i64 (.lit m)] [.int .u64 f, .int .u64 a, .int .i64 n] := fun m e => by
      subst e
      exact ⟨_, _, rfl, rfl, _, _, rfl, rfl, _, _, rfl, rfl, rfl⟩
    rcases hk with h | h | h | h | h | h | h | h | h
    · exact ⟨_, hv _ h, _, route_pick1 (road0 f a n) (by rw [l2]), l1⟩
    · exact ⟨_, hv _ h, _, route_pick1 (road1 f a n) (by rw [l2]), l1⟩
    · exact ⟨_, hv _ h, _, route_pick1 (road2 f a n) (by rw [l2]), l1⟩
    · exact ⟨_, hv _ h, _, route_pick1 (road3 f a n) (by rw [l2]), l1⟩
    · exact ⟨_, hv _ h, _, route_pick1 (road4 f a n) (by rw [l2]), l1⟩
    · exact ⟨_, hv _ h, _, route_pick1 (road5 f a n) (by rw [l2]), l1⟩
    · exact ⟨_, hv _ h, _, route_pick1 (road6 f a n) (by rw [l2]), l1⟩
    · exact ⟨_, hv _ h, _, route_pick1 (road7 f a n) (by rw [l2]), l1⟩
    · exact ⟨_, hv _ h, _, route_pick1 (road8 f a n) (by rw [l2]), l1⟩

set_option maxRecDepth 100000 in
set_option maxHeartbeats 4000000 in
theorem run : ∀ vs, ArgsOk [.one (.int .u64), .one (.int .u64), .one (.int .i64)] vs → ∀ w, Calls Try.prog 11 vs.toArray w fun e w' => e = .returned (.bool true) ∧ Below w.heap.size w w' := by
  intro vs h w
  obtain ⟨_, _, rfl, ⟨f, rfl, wf⟩, _, _, rfl, ⟨a, rfl, wa⟩, _, _, rfl, ⟨n, rfl, wn⟩, rfl⟩ := h
  obtain ⟨args, k3, c, k1, k2⟩ := sums f a n wf
  have k4 := law_true3 cx3_ok k3 k1 k2 w
  exact k4

set_option maxRecDepth 100000 in
theorem lifted (os : Os) (started : os.Started) (H : Type) (enc : TypeId × Value → H) :
    ReturnsInHanded {} Try.checked os 11 .any (Rows.baseAllSpec.pre6 enc Try.prog Try.f11 Rows.baseAllRow.domain false) (Rows.baseAllSpec.post enc Try.prog Try.f11 false true false false) := by
  refine returnsInHanded_of_change (C := Try.checked) own started (by kernel_rfl) Try.func11
    (ChangeSpec.witness6 (enc := enc) (C := Try.checked) false ⟨#[], #[.int .u64 0, .int .u64 0, .int .i64 0], []⟩ 8 (by kernel_rfl) (by kernel_rfl) (by kernel_rfl) (by kernel_rfl)) ?_
  intro W base args ds gs before hval hW _ _
  exact lifted_plain (P := Try.prog) (f := 11) (fn := Try.f11) (s := Rows.baseAllSpec) (tb := 4) rfl
    (fun ds h => by
      match ds, h with
      | [d1, d2, d3], _ => rfl)
    (by kernel_rfl) rfl (by kernel_rfl) run W base args ds gs before hval hW

theorem over : Rows.baseAllRow.holds Try.pinned (OpenSpec.ofChange Rows.baseAllSpec) :=
  OpenClaim.holds_of_wide 11 Try.f11 rfl rfl rfl rfl rfl rfl rfl ⟨rfl, rfl, rfl, rfl, rfl⟩ rfl rfl rfl rfl rfl (by kernel_rfl) Try.func11 (by kernel_rfl)
    (of_decide_eq_true (by kernel_rfl)) (by unfold Func.isWrapper; first | (rw [if_pos (by decide +kernel)]; kernel_rfl) | (rw [if_neg (by decide +kernel)]; exact ⟨rfl, rfl⟩))
    (fun os started H enc _ => lifted os started H enc)

/-- The statement. -/
theorem proved : Rows.BaseAllSaid :=
  over
#print axioms proved
end Go.Proofs.Ytbjlkapfpcmjfaa.BaseAll
