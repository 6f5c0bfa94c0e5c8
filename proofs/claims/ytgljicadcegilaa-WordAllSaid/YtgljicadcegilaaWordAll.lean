/- The statement 'WordAll': signs, high products, what is divided, and what is shifted, are of any numbers as the document says. Conditions: none. -/
import Derived.Test.YtgljicadcegilaaWordCx
namespace Go.Proofs.Ytgljicadcegilaa.WordAll
open Go.RowKit Go.WideShapes Go.ChangeShapes Go.ChangeAt Ev 
set_option linter.unusedVariables false
set_option linter.unusedSimpArgs false

def test0 (a : Int) (b : Int) (n : Int) (y : Int) (s : Bool) (t : Bool) : Bool := (((inB a) && (cond (litCmp .eql (sextW a n) (sextW a n)) ((inB a && inB b) && (inB a && inB b)) true)) && (((inB a && inB b) && (cond (litCmp .eql (divW a b s) (divW a b s)) (inB a && inB b) true)) && (((inB a && inB b) && (cond (litCmp .eql (div32W a b s) (div32W a b s)) (inB a && inB b) true)) && (cond (cond (litCmp .eql (divW 18446744073709551609 2 true) 18446744073709551613) (litCmp .eql (sextW 255 8) 18446744073709551615) false) (cond (cond (litCmp .eql (sextW a n) (sextW a n)) (litCmp .eql (hiR a b s t) (hiR a b s t)) false) (cond (cond (litCmp .eql (divW a b s) (divW a b s)) (litCmp .eql (remW a b s) (remW a b s)) false) (cond (cond (litCmp .eql (div32W a b s) (div32W a b s)) (litCmp .eql (rem32W a b s) (rem32W a b s)) false) (inB a) true) true) true) true))))
def val (a : Int) (b : Int) (n : Int) (y : Int) (s : Bool) (t : Bool) : Bool := (cond (cond (litCmp .eql (divW 18446744073709551609 2 true) 18446744073709551613) (litCmp .eql (sextW 255 8) 18446744073709551615) false) (cond (cond (litCmp .eql (sextW a n) (sextW a n)) (litCmp .eql (hiR a b s t) (hiR a b s t)) false) (cond (cond (litCmp .eql (divW a b s) (divW a b s)) (litCmp .eql (remW a b s) (remW a b s)) false) (cond (cond (litCmp .eql (div32W a b s) (div32W a b s)) (litCmp .eql (rem32W a b s) (rem32W a b s)) false) (litCmp .eql (shW a y n) (shW a y n)) false) false) false) false)
set_option maxRecDepth 100000 in
theorem road (a : Int) (b : Int) (n : Int) (y : Int) (s : Bool) (t : Bool) : ((call Try.prog cxw 400 11 [.int .u64 (.sym a), .int .u64 (.sym b), .agg [.int .i64 (.sym n), .int .i64 (.sym y), .bool (.sym s), .bool (.sym t)]] []).route [true]).map (fun p => (p.1, p.2.1)) = some ([test0 a b n y s t], .val (.bool (.sym (val a b n y s t)))) := by kernel_rfl

theorem eql_s (x : Int) : litCmp .eql x x = true := by rw [eql_eq]; exact decide_eq_true rfl
theorem law {a b n y : Int} {s t : Bool} (wa : (Lit.int .u64 a).wf = true) (wb : (Lit.int .u64 b).wf = true) : test0 a b n y s t = true ∧ val a b n y s t = true := by
  have ha := inB_of (inU_wf wa)
  have hb := inB_of (inU_wf wb)
  have e1 : litCmp .eql (divW 18446744073709551609 2 true) 18446744073709551613 = true := by decide +kernel
  have e2 : litCmp .eql (sextW 255 8) 18446744073709551615 = true := by decide +kernel
  unfold test0 val
  rw [ha, hb, e1, e2, eql_s, eql_s, eql_s, eql_s, eql_s, eql_s, eql_s]
  exact ⟨rfl, rfl⟩

theorem sums (a b n y : Int) (s t : Bool) (wa : (Lit.int .u64 a).wf = true) (wb : (Lit.int .u64 b).wf = true) (wn : (Lit.int .i64 n).wf = true) (wy : (Lit.int .i64 y).wf = true) :
    ∃ c : Bool, (call Try.prog cxw 400 11 [.int .u64 (.sym a), .int .u64 (.sym b), .agg [.int .i64 (.sym n), .int .i64 (.sym y), .bool (.sym s), .bool (.sym t)]] []).pick.map (·.1) = some (.val (.bool (.sym c))) ∧ c = true :=
  ⟨_, route_pick1 (road a b n y s t) (by rw [(law wa wb).1]), (law wa wb).2⟩

set_option maxRecDepth 100000 in
set_option maxHeartbeats 4000000 in
theorem run : ∀ vs, ArgsOk [.one (.int .u64), .one (.int .u64), .agg [.int .i64, .int .i64, .bool, .bool]] vs → ∀ w, Calls Try.prog 11 vs.toArray w fun e w' => e = .returned (.bool true) ∧ Below w.heap.size w w' := by
  intro vs h w
  obtain ⟨_, _, rfl, ⟨a, rfl, wa⟩, _, _, rfl, ⟨b, rfl, wb⟩, _, _, rfl, ⟨_, rfl, _, _, rfl, ⟨n, rfl, wn⟩, _, _, rfl, ⟨y, rfl, wy⟩, _, _, rfl, ⟨s, rfl⟩, _, _, rfl, ⟨t, rfl⟩, rfl⟩, rfl⟩ := h
  obtain ⟨c, k1, k2⟩ := sums a b n y s t wa wb wn wy
  have k3 := (rfl : List.map absV [.int .u64 a, .int .u64 b, .agg [.int .i64 n, .int .i64 y, .bool s, .bool t].toArray] = [.int .u64 (.sym a), .int .u64 (.sym b), .agg [.int .i64 (.sym n), .int .i64 (.sym y), .bool (.sym s), .bool (.sym t)]])
  have k4 := law_true2 cxw_ok k3 k1 k2 w
  exact k4

set_option maxRecDepth 100000 in
theorem lifted (os : Os) (started : os.Started) (H : Type) (enc : TypeId × Value → H) :
    ReturnsInHanded {} Try.checked os 11 .any (Rows.wordAllSpec.pre6 enc Try.prog Try.f11 Rows.wordAllRow.domain false) (Rows.wordAllSpec.post enc Try.prog Try.f11 false true false false) := by
  refine returnsInHanded_of_change (C := Try.checked) own started (by kernel_rfl) Try.func11
    (ChangeSpec.witness6 (enc := enc) (C := Try.checked) false ⟨#[], #[.int .u64 0, .int .u64 0, .agg #[.int .i64 0, .int .i64 0, .bool false, .bool false]], []⟩ 8 (by kernel_rfl) (by kernel_rfl) (by kernel_rfl) (by kernel_rfl)) ?_
  intro W base args ds gs before hval hW _ _
  exact lifted_plain (P := Try.prog) (f := 11) (fn := Try.f11) (s := Rows.wordAllSpec) (tb := 4) rfl
    (fun ds h => by
      match ds, h with
      | [d1, d2, d3], _ => rfl)
    (by kernel_rfl) rfl (by kernel_rfl) run W base args ds gs before hval hW

theorem over : Rows.wordAllRow.holds Try.pinned (OpenSpec.ofChange Rows.wordAllSpec) :=
  OpenClaim.holds_of_wide 11 Try.f11 rfl rfl rfl rfl rfl rfl rfl ⟨rfl, rfl, rfl, rfl, rfl⟩ rfl rfl rfl rfl rfl (by kernel_rfl) Try.func11 (by kernel_rfl)
    (of_decide_eq_true (by kernel_rfl)) (by unfold Func.isWrapper; first | (rw [if_pos (by decide +kernel)]; kernel_rfl) | (rw [if_neg (by decide +kernel)]; exact ⟨rfl, rfl⟩))
    (fun os started H enc _ => lifted os started H enc)

/-- The statement. -/
theorem proved : Rows.WordAllSaid :=
  over
#print axioms proved
end Go.Proofs.Ytgljicadcegilaa.WordAll
