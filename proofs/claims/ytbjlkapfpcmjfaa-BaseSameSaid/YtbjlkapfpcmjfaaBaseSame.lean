/- The statement 'BaseSame': a call of this extension tells the same whenever it is made, and functions beyond are not there. Conditions: none. -/
import Derived.Test.YtbjlkapfpcmjfaaCx2
namespace Go.Proofs.Ytbjlkapfpcmjfaa.BaseSame
open Go.RowKit Go.WideShapes Go.ChangeShapes Go.ChangeAt Ev
set_option linter.unusedVariables false
set_option linter.unusedSimpArgs false

def test0 (f : Int) (a : Int) (b : Int) : Bool := ((cond (litCmp .geq f 7) true (cond (cond (litCmp .eql f 3) (litCmp .geq (cond (litCmp .eql a 16) 0 (cond (litCmp .eql a 1414090053) 1 (cond (litCmp .eql a 7557193) 2 (cond (litCmp .eql a 1380339267) 3 (cond (litCmp .eql a 4739917) 4 (cond (litCmp .eql a 1397904212) 5 (cond (litCmp .eql a 1145193294) 6 (cond (litCmp .eql a 5262677) 7 (-1))))))))) 0) false) true ((decide (0 ≤ f ∧ f < ((7 : Nat) : Int))) && (decide ((Int.toNat f) < 7))))) && ((cond (litCmp .geq f 7) true (cond (cond (litCmp .eql f 3) (litCmp .geq (cond (litCmp .eql b 16) 0 (cond (litCmp .eql b 1414090053) 1 (cond (litCmp .eql b 7557193) 2 (cond (litCmp .eql b 1380339267) 3 (cond (litCmp .eql b 4739917) 4 (cond (litCmp .eql b 1397904212) 5 (cond (litCmp .eql b 1145193294) 6 (cond (litCmp .eql b 5262677) 7 (-1))))))))) 0) false) true ((decide (0 ≤ f ∧ f < ((7 : Nat) : Int))) && (decide ((Int.toNat f) < 7))))) && (cond (litCmp .geq f 7) true (cond (cond (litCmp .eql f 3) (litCmp .geq (cond (litCmp .eql a 16) 0 (cond (litCmp .eql a 1414090053) 1 (cond (litCmp .eql a 7557193) 2 (cond (litCmp .eql a 1380339267) 3 (cond (litCmp .eql a 4739917) 4 (cond (litCmp .eql a 1397904212) 5 (cond (litCmp .eql a 1145193294) 6 (cond (litCmp .eql a 5262677) 7 (-1))))))))) 0) false) true ((decide (0 ≤ f ∧ f < ((7 : Nat) : Int))) && (decide ((Int.toNat f) < 7)))))))
def val (f : Int) (a : Int) (b : Int) : Bool := (cond (cond (litCmp .neq (cond (litCmp .geq f 7) (-2) 0) (cond (litCmp .geq f 7) (-2) 0)) true (cond (litCmp .neq (cond (litCmp .geq f 7) 0 (cond (cond (litCmp .eql f 3) (litCmp .geq (cond (litCmp .eql a 16) 0 (cond (litCmp .eql a 1414090053) 1 (cond (litCmp .eql a 7557193) 2 (cond (litCmp .eql a 1380339267) 3 (cond (litCmp .eql a 4739917) 4 (cond (litCmp .eql a 1397904212) 5 (cond (litCmp .eql a 1145193294) 6 (cond (litCmp .eql a 5262677) 7 (-1))))))))) 0) false) 1 (cond (decide ((Int.toNat f) = 0)) 33554432 (cond (decide ((Int.toNat f) = 1)) 97 (cond (decide ((Int.toNat f) = 2)) 1 0))))) (cond (litCmp .geq f 7) 0 (cond (cond (litCmp .eql f 3) (litCmp .geq (cond (litCmp .eql a 16) 0 (cond (litCmp .eql a 1414090053) 1 (cond (litCmp .eql a 7557193) 2 (cond (litCmp .eql a 1380339267) 3 (cond (litCmp .eql a 4739917) 4 (cond (litCmp .eql a 1397904212) 5 (cond (litCmp .eql a 1145193294) 6 (cond (litCmp .eql a 5262677) 7 (-1))))))))) 0) false) 1 (cond (decide ((Int.toNat f) = 0)) 33554432 (cond (decide ((Int.toNat f) = 1)) 97 (cond (decide ((Int.toNat f) = 2)) 1 0)))))) true (litCmp .neq (cond (litCmp .geq f 7) (-2) 0) (cond (litCmp .geq f 7) (-2) 0)))) false (cond (litCmp .gtr f 6) (cond (litCmp .eql (cond (litCmp .geq f 7) (-2) 0) (-2)) (litCmp .eql (cond (litCmp .geq f 7) 0 (cond (cond (litCmp .eql f 3) (litCmp .geq (cond (litCmp .eql a 16) 0 (cond (litCmp .eql a 1414090053) 1 (cond (litCmp .eql a 7557193) 2 (cond (litCmp .eql a 1380339267) 3 (cond (litCmp .eql a 4739917) 4 (cond (litCmp .eql a 1397904212) 5 (cond (litCmp .eql a 1145193294) 6 (cond (litCmp .eql a 5262677) 7 (-1))))))))) 0) false) 1 (cond (decide ((Int.toNat f) = 0)) 33554432 (cond (decide ((Int.toNat f) = 1)) 97 (cond (decide ((Int.toNat f) = 2)) 1 0))))) 0) false) (cond (litCmp .eql (cond (litCmp .geq f 7) (-2) 0) 0) (cond (litCmp .eql f 3) (cond (litCmp .neq f 3) (cond (litCmp .lss f 4) true (litCmp .eql (cond (litCmp .geq f 7) 0 (cond (cond (litCmp .eql f 3) (litCmp .geq (cond (litCmp .eql a 16) 0 (cond (litCmp .eql a 1414090053) 1 (cond (litCmp .eql a 7557193) 2 (cond (litCmp .eql a 1380339267) 3 (cond (litCmp .eql a 4739917) 4 (cond (litCmp .eql a 1397904212) 5 (cond (litCmp .eql a 1145193294) 6 (cond (litCmp .eql a 5262677) 7 (-1))))))))) 0) false) 1 (cond (decide ((Int.toNat f) = 0)) 33554432 (cond (decide ((Int.toNat f) = 1)) 97 (cond (decide ((Int.toNat f) = 2)) 1 0))))) 0)) (cond (litCmp .leq (cond (litCmp .geq f 7) 0 (cond (cond (litCmp .eql f 3) (litCmp .geq (cond (litCmp .eql a 16) 0 (cond (litCmp .eql a 1414090053) 1 (cond (litCmp .eql a 7557193) 2 (cond (litCmp .eql a 1380339267) 3 (cond (litCmp .eql a 4739917) 4 (cond (litCmp .eql a 1397904212) 5 (cond (litCmp .eql a 1145193294) 6 (cond (litCmp .eql a 5262677) 7 (-1))))))))) 0) false) 1 (cond (decide ((Int.toNat f) = 0)) 33554432 (cond (decide ((Int.toNat f) = 1)) 97 (cond (decide ((Int.toNat f) = 2)) 1 0))))) 1) (cond (litCmp .lss f 4) true (litCmp .eql (cond (litCmp .geq f 7) 0 (cond (cond (litCmp .eql f 3) (litCmp .geq (cond (litCmp .eql a 16) 0 (cond (litCmp .eql a 1414090053) 1 (cond (litCmp .eql a 7557193) 2 (cond (litCmp .eql a 1380339267) 3 (cond (litCmp .eql a 4739917) 4 (cond (litCmp .eql a 1397904212) 5 (cond (litCmp .eql a 1145193294) 6 (cond (litCmp .eql a 5262677) 7 (-1))))))))) 0) false) 1 (cond (decide ((Int.toNat f) = 0)) 33554432 (cond (decide ((Int.toNat f) = 1)) 97 (cond (decide ((Int.toNat f) = 2)) 1 0))))) 0)) false)) (cond (litCmp .eql (cond (litCmp .geq f 7) 0 (cond (cond (litCmp .eql f 3) (litCmp .geq (cond (litCmp .eql a 16) 0 (cond (litCmp .eql a 1414090053) 1 (cond (litCmp .eql a 7557193) 2 (cond (litCmp .eql a 1380339267) 3 (cond (litCmp .eql a 4739917) 4 (cond (litCmp .eql a 1397904212) 5 (cond (litCmp .eql a 1145193294) 6 (cond (litCmp .eql a 5262677) 7 (-1))))))))) 0) false) 1 (cond (decide ((Int.toNat f) = 0)) 33554432 (cond (decide ((Int.toNat f) = 1)) 97 (cond (decide ((Int.toNat f) = 2)) 1 0))))) (cond (litCmp .geq f 7) 0 (cond (cond (litCmp .eql f 3) (litCmp .geq (cond (litCmp .eql b 16) 0 (cond (litCmp .eql b 1414090053) 1 (cond (litCmp .eql b 7557193) 2 (cond (litCmp .eql b 1380339267) 3 (cond (litCmp .eql b 4739917) 4 (cond (litCmp .eql b 1397904212) 5 (cond (litCmp .eql b 1145193294) 6 (cond (litCmp .eql b 5262677) 7 (-1))))))))) 0) false) 1 (cond (decide ((Int.toNat f) = 0)) 33554432 (cond (decide ((Int.toNat f) = 1)) 97 (cond (decide ((Int.toNat f) = 2)) 1 0)))))) (cond (litCmp .neq f 3) (cond (litCmp .lss f 4) true (litCmp .eql (cond (litCmp .geq f 7) 0 (cond (cond (litCmp .eql f 3) (litCmp .geq (cond (litCmp .eql a 16) 0 (cond (litCmp .eql a 1414090053) 1 (cond (litCmp .eql a 7557193) 2 (cond (litCmp .eql a 1380339267) 3 (cond (litCmp .eql a 4739917) 4 (cond (litCmp .eql a 1397904212) 5 (cond (litCmp .eql a 1145193294) 6 (cond (litCmp .eql a 5262677) 7 (-1))))))))) 0) false) 1 (cond (decide ((Int.toNat f) = 0)) 33554432 (cond (decide ((Int.toNat f) = 1)) 97 (cond (decide ((Int.toNat f) = 2)) 1 0))))) 0)) (cond (litCmp .leq (cond (litCmp .geq f 7) 0 (cond (cond (litCmp .eql f 3) (litCmp .geq (cond (litCmp .eql a 16) 0 (cond (litCmp .eql a 1414090053) 1 (cond (litCmp .eql a 7557193) 2 (cond (litCmp .eql a 1380339267) 3 (cond (litCmp .eql a 4739917) 4 (cond (litCmp .eql a 1397904212) 5 (cond (litCmp .eql a 1145193294) 6 (cond (litCmp .eql a 5262677) 7 (-1))))))))) 0) false) 1 (cond (decide ((Int.toNat f) = 0)) 33554432 (cond (decide ((Int.toNat f) = 1)) 97 (cond (decide ((Int.toNat f) = 2)) 1 0))))) 1) (cond (litCmp .lss f 4) true (litCmp .eql (cond (litCmp .geq f 7) 0 (cond (cond (litCmp .eql f 3) (litCmp .geq (cond (litCmp .eql a 16) 0 (cond (litCmp .eql a 1414090053) 1 (cond (litCmp .eql a 7557193) 2 (cond (litCmp .eql a 1380339267) 3 (cond (litCmp .eql a 4739917) 4 (cond (litCmp .eql a 1397904212) 5 (cond (litCmp .eql a 1145193294) 6 (cond (litCmp .eql a 5262677) 7 (-1))))))))) 0) false) 1 (cond (decide ((Int.toNat f) = 0)) 33554432 (cond (decide ((Int.toNat f) = 1)) 97 (cond (decide ((Int.toNat f) = 2)) 1 0))))) 0)) false)) false)) false)))
set_option maxRecDepth 100000 in
theorem road (f : Int) (a : Int) (b : Int) : ((call Try.prog cx2 400 9 [.int .u64 (.sym f), .agg [.int .u64 (.sym a), .int .u64 (.sym b)]] []).route [true]).map (fun p => (p.1, p.2.1)) = some ([test0 f a b], .val (.bool (.sym (val f a b)))) := by kernel_rfl

def idx (a : Int) : Int := (cond (litCmp .eql a 16) 0 (cond (litCmp .eql a 1414090053) 1 (cond (litCmp .eql a 7557193) 2 (cond (litCmp .eql a 1380339267) 3 (cond (litCmp .eql a 4739917) 4 (cond (litCmp .eql a 1397904212) 5 (cond (litCmp .eql a 1145193294) 6 (cond (litCmp .eql a 5262677) 7 (-1)))))))))
theorem law {f a b : Int} (wf : (Lit.int .u64 f).wf = true) : test0 f a b = true ∧ val f a b = true := by
  have hf := inU_wf wf
  unfold inU at hf
  have e1 : test0 f a b = test0 f a b := rfl
  unfold test0 val
  show _ ∧ _
  generalize (litCmp .geq (cond (litCmp .eql a 16) 0 (cond (litCmp .eql a 1414090053) 1 (cond (litCmp .eql a 7557193) 2 (cond (litCmp .eql a 1380339267) 3 (cond (litCmp .eql a 4739917) 4 (cond (litCmp .eql a 1397904212) 5 (cond (litCmp .eql a 1145193294) 6 (cond (litCmp .eql a 5262677) 7 (-1))))))))) 0) = K
  generalize (litCmp .geq (cond (litCmp .eql b 16) 0 (cond (litCmp .eql b 1414090053) 1 (cond (litCmp .eql b 7557193) 2 (cond (litCmp .eql b 1380339267) 3 (cond (litCmp .eql b 4739917) 4 (cond (litCmp .eql b 1397904212) 5 (cond (litCmp .eql b 1145193294) 6 (cond (litCmp .eql b 5262677) 7 (-1))))))))) 0) = L
  clear e1
  by_cases h : 7 ≤ f
  · have h1 : litCmp .geq f 7 = true := decide_eq_true h
    have h2 : litCmp .gtr f 6 = true := decide_eq_true (by omega)
    rw [h1, h2]
    exact ⟨rfl, rfl⟩
  · have hk : f = 0 ∨ f = 1 ∨ f = 2 ∨ f = 3 ∨ f = 4 ∨ f = 5 ∨ f = 6 := by omega
    rcases hk with h | h | h | h | h | h | h <;> subst h <;> cases K <;> cases L <;> exact ⟨rfl, rfl⟩

theorem sums (f a b : Int) (wf : (Lit.int .u64 f).wf = true) (wa : (Lit.int .u64 a).wf = true) (wb : (Lit.int .u64 b).wf = true) :
    ∃ c : Bool, (call Try.prog cx2 400 9 [.int .u64 (.sym f), .agg [.int .u64 (.sym a), .int .u64 (.sym b)]] []).pick.map (·.1) = some (.val (.bool (.sym c))) ∧ c = true :=
  ⟨_, route_pick1 (road f a b) (by rw [(law wf).1]), (law wf).2⟩

set_option maxRecDepth 100000 in
set_option maxHeartbeats 4000000 in
theorem run : ∀ vs, ArgsOk [.one (.int .u64), .agg [.int .u64, .int .u64]] vs → ∀ w, Calls Try.prog 9 vs.toArray w fun e w' => e = .returned (.bool true) ∧ Below w.heap.size w w' := by
  intro vs h w
  obtain ⟨_, _, rfl, ⟨f, rfl, wf⟩, _, _, rfl, ⟨_, rfl, _, _, rfl, ⟨a, rfl, wa⟩, _, _, rfl, ⟨b, rfl, wb⟩, rfl⟩, rfl⟩ := h
  obtain ⟨c, k1, k2⟩ := sums f a b wf wa wb
  have k3 := (rfl : List.map absV [.int .u64 f, .agg [.int .u64 a, .int .u64 b].toArray] = [.int .u64 (.sym f), .agg [.int .u64 (.sym a), .int .u64 (.sym b)]])
  have k4 := law_true2 cx2_ok k3 k1 k2 w
  exact k4

set_option maxRecDepth 100000 in
theorem lifted (os : Os) (started : os.Started) (H : Type) (enc : TypeId × Value → H) :
    ReturnsInHanded {} Try.checked os 9 .any (Rows.baseSameSpec.pre6 enc Try.prog Try.f9 Rows.baseSameRow.domain false) (Rows.baseSameSpec.post enc Try.prog Try.f9 false true false false) := by
  refine returnsInHanded_of_change (C := Try.checked) own started (by kernel_rfl) Try.func9
    (ChangeSpec.witness6 (enc := enc) (C := Try.checked) false ⟨#[], #[.int .u64 0, .agg #[.int .u64 0, .int .u64 0]], []⟩ 8 (by kernel_rfl) (by kernel_rfl) (by kernel_rfl) (by kernel_rfl)) ?_
  intro W base args ds gs before hval hW _ _
  exact lifted_plain (P := Try.prog) (f := 9) (fn := Try.f9) (s := Rows.baseSameSpec) (tb := 4) rfl
    (fun ds h => by
      match ds, h with
      | [d1, d2], _ => rfl)
    (by kernel_rfl) rfl (by kernel_rfl) run W base args ds gs before hval hW

theorem over : Rows.baseSameRow.holds Try.pinned (OpenSpec.ofChange Rows.baseSameSpec) :=
  OpenClaim.holds_of_wide 9 Try.f9 rfl rfl rfl rfl rfl rfl rfl ⟨rfl, rfl, rfl, rfl, rfl⟩ rfl rfl rfl rfl rfl (by kernel_rfl) Try.func9 (by kernel_rfl)
    (of_decide_eq_true (by kernel_rfl)) (by unfold Func.isWrapper; first | (rw [if_pos (by decide +kernel)]; kernel_rfl) | (rw [if_neg (by decide +kernel)]; exact ⟨rfl, rfl⟩))
    (fun os started H enc _ => lifted os started H enc)

/-- The statement. -/
theorem proved : Rows.BaseSameSaid :=
  over
#print axioms proved
end Go.Proofs.Ytbjlkapfpcmjfaa.BaseSame
