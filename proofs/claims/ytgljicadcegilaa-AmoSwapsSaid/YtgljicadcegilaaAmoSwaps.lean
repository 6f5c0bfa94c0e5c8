/- The statement 'AmoSwaps': what is swapped in is told back; what is added, and taken away, leaves what was. Conditions: none. -/
import Derived.Test.YtgljicadcegilaaWords
namespace Go.Proofs.Ytgljicadcegilaa.AmoSwaps
open Go.RowKit Go.WideShapes Go.ChangeShapes Go.ChangeAt Ev
set_option linter.unusedVariables false
set_option linter.unusedSimpArgs false

set_option maxRecDepth 100000 in
theorem road (a b : Int) : ((call Try.prog cx 400 14 [.int .u64 (.sym a), .int .u64 (.sym b)] []).route [true, true, true, true, true, true, true, true]).map (fun p => (p.1, p.2.1)) = some ([(litCmp .eql b b), (litCmp .eql a a), (litCmp .eql (IntKind.wrap .u64 (IntKind.wrap .u32 (IntKind.wrap .u64 (litBin .shr .i64 (IntKind.wrap .i64 (litBin .shl .u64 b 32)) 32)))) (litBin .rem .u64 b 4294967296)), (litCmp .eql (IntKind.wrap .u64 (litBin .shr .i64 (IntKind.wrap .i64 (litBin .shl .u64 (IntKind.wrap .u64 (IntKind.wrap .u32 (IntKind.wrap .u64 (litBin .shr .i64 (IntKind.wrap .i64 (litBin .shl .u64 b 32)) 32)))) 32)) 32)) (IntKind.wrap .u64 (IntKind.wrap .i64 (IntKind.wrap .i32 b)))), (litCmp .eql (litBin .add .u64 (litBin .add .u64 a b) (litUna .neg .u64 b)) a), (litCmp .eql (IntKind.wrap .u64 (IntKind.wrap .u32 (litBin .add .u64 (IntKind.wrap .u64 (litBin .shr .i64 (IntKind.wrap .i64 (litBin .shl .u64 (IntKind.wrap .u64 (IntKind.wrap .u32 (litBin .add .u64 (IntKind.wrap .u64 (litBin .shr .i64 (IntKind.wrap .i64 (litBin .shl .u64 a 32)) 32)) (IntKind.wrap .u64 (litBin .shr .i64 (IntKind.wrap .i64 (litBin .shl .u64 b 32)) 32))))) 32)) 32)) (IntKind.wrap .u64 (litBin .shr .i64 (IntKind.wrap .i64 (litBin .shl .u64 (litUna .neg .u64 b) 32)) 32))))) (litBin .rem .u64 a 4294967296)), (litCmp .eql (litBin .xor .u64 (litBin .xor .u64 a b) b) a), (litCmp .eql b b)], .val (.bool (.sym (litCmp .eql a a)))) := by kernel_rfl

theorem sums (a b : Int) (wa : (Lit.int .u64 a).wf = true) (wb : (Lit.int .u64 b).wf = true) :
    ∃ c : Bool, (call Try.prog cx 400 14 [.int .u64 (.sym a), .int .u64 (.sym b)] []).pick.map (·.1) = some (.val (.bool (.sym c))) ∧ c = true := by
  have ha := inU_wf wa
  have hb := inU_wf wb
  refine ⟨_, route_pick1 (road a b) ?_, eql_self a⟩
  rw [sx32, sx32, sx32, sx32, sx32, xor_back ha hb, eql_self, eql_self, rem32 ha, rem32 hb, low32, low32, low32]
  unfold inU at ha hb
  rw [eql_of (sx_mod b), eql_of (show sx (sx b % 4294967296) = IntKind.wrap .u64 (IntKind.wrap .i64 (IntKind.wrap .i32 b)) by rw [Ev.wrap64, wrapi, wrapi32]; unfold sx; omega),
    eql_of (show litBin .add .u64 (litBin .add .u64 a b) (litUna .neg .u64 b) = a by rw [add_eq, add_eq, neg_eq]; omega), eql_of]
  rw [add_eq, add_eq, neg_eq]
  unfold sx
  omega

set_option maxRecDepth 100000 in
set_option maxHeartbeats 4000000 in
theorem run : ∀ vs, ArgsOk [.one (.int .u64), .one (.int .u64)] vs → ∀ w, Calls Try.prog 14 vs.toArray w fun e w' => e = .returned (.bool true) ∧ Below w.heap.size w w' := by
  intro vs h w
  obtain ⟨_, _, rfl, ⟨a, rfl, wa⟩, _, _, rfl, ⟨b, rfl, wb⟩, rfl⟩ := h
  obtain ⟨c, k1, k2⟩ := sums a b wa wb
  have k3 := (rfl : List.map absV [.int .u64 a, .int .u64 b] = [.int .u64 (.sym a), .int .u64 (.sym b)])
  have k4 := law_true2 cx_ok k3 k1 k2 w
  exact k4

set_option maxRecDepth 100000 in
theorem lifted (os : Os) (started : os.Started) (H : Type) (enc : TypeId × Value → H) :
    ReturnsInHanded {} Try.checked os 14 .any (Rows.amoSwapsSpec.pre6 enc Try.prog Try.f14 Rows.amoSwapsRow.domain false) (Rows.amoSwapsSpec.post enc Try.prog Try.f14 false true false false) := by
  refine returnsInHanded_of_change (C := Try.checked) own started (by kernel_rfl) Try.func14
    (ChangeSpec.witness6 (enc := enc) (C := Try.checked) false ⟨#[], #[.int .u64 0, .int .u64 0], []⟩ 8 (by kernel_rfl) (by kernel_rfl) (by kernel_rfl) (by kernel_rfl)) ?_
  intro W base args ds gs before hval hW _ _
  exact lifted_plain (P := Try.prog) (f := 14) (fn := Try.f14) (s := Rows.amoSwapsSpec) (tb := 4) rfl
    (fun ds h => by
      match ds, h with
      | [d1, d2], _ => rfl)
    (by kernel_rfl) rfl (by kernel_rfl) run W base args ds gs before hval hW

theorem over : Rows.amoSwapsRow.holds Try.pinned (OpenSpec.ofChange Rows.amoSwapsSpec) :=
  OpenClaim.holds_of_wide 14 Try.f14 rfl rfl rfl rfl rfl rfl rfl ⟨rfl, rfl, rfl, rfl, rfl⟩ rfl rfl rfl rfl rfl (by kernel_rfl) Try.func14 (by kernel_rfl)
    (of_decide_eq_true (by kernel_rfl)) (by unfold Func.isWrapper; first | (rw [if_pos (by decide +kernel)]; kernel_rfl) | (rw [if_neg (by decide +kernel)]; exact ⟨rfl, rfl⟩))
    (fun os started H enc _ => lifted os started H enc)

/-- The statement. -/
theorem proved : Rows.AmoSwapsSaid :=
  over
#print axioms proved
end Go.Proofs.Ytgljicadcegilaa.AmoSwaps
