/- The statement 'SpaceBytes': a load is what loads of its bytes are, and it faults where the first of these does that is not let. Conditions: none. -/
import Derived.Test.YtngcbpcfgolifaaSpcB8
import Derived.Test.YtngcbpcfgolifaaHead
namespace Go.Proofs.Ytngcbpcfgolifaa.SpaceBytes
open Go.RowKit Go.WideShapes Go.ChangeShapes Go.ChangeAt Ev
set_option linter.unusedVariables false
set_option linter.unusedSimpArgs false

noncomputable def v1_0 (pg : Int) (n : Nat) (A X : Nat → Int) (kind st c1 c2 c3 c4 c5 c6 c7 c8 satp c10 c11 pr how va x nn : Int) : Bool := (cond (cond (!(ldF (memB pg A X n) (szN pg) satp st pr va 1)) true (cond (litCmp .neq (ldX (memB pg A X n) (szN pg) satp st pr va 1) 0) true (litCmp .neq (ldC (memB pg A X n) (szN pg) satp st pr va 1) (ldC (memB pg A X n) (szN pg) satp st pr (litBin .add .u64 va 0) 1)))) false (cond (litCmp .eql (ldV (memB pg A X n) (szN pg) satp st pr va 1) (ldV (memB pg A X n) (szN pg) satp st pr (litBin .add .u64 va 0) 1)) true (cond (litCmp .eql (litBin .rem .u64 va 1) 0) (litCmp .eql (ldV (memB pg A X n) (szN pg) satp st pr va 1) va) false)))
set_option maxRecDepth 100000 in
theorem road1_0 (pg : Int) (n : Nat) (A X : Nat → Int) (kind st c1 c2 c3 c4 c5 c6 c7 c8 satp c10 c11 pr how va x nn : Int) : ((call Try.prog (cxL 1) 400 17 [.agg [.int .u8 (.sym pg), .slice 0 (.lit 0) (.rc n 1 0) .any], .agg [(.int .u8 (.sym kind)), (.int .u64 (.sym st)), (.int .u64 (.sym c1)), (.int .u64 (.sym c2)), (.int .u64 (.sym c3)), (.int .u64 (.sym c4)), (.int .u64 (.sym c5)), (.int .u64 (.sym c6)), (.int .u64 (.sym c7)), (.int .u64 (.sym c8)), (.int .u64 (.sym satp)), (.int .u64 (.sym c10)), (.int .u64 (.sym c11)), (.int .i64 (.sym pr)), (.int .i64 (.sym how)), (.int .u64 (.sym va)), (.int .u64 (.sym x)), (.int .u8 (.sym nn))]] [.rows 0 n [(.int .u32, A), (.int .u64, X)]]).route [true, true, true, true, true]).map (fun p => (p.1, p.2.1)) = some ([((!(cond (litCmp .lss (pgs pg) 1) true (litCmp .gtr (pgs pg) 16))) && ((decide (0 ≤ (litBin .mul .i64 (pgs pg) 4096) ∧ (litBin .mul .i64 (pgs pg) 4096) < ((16777216 : Nat) : Int))) && ((!(cond (litCmp .lss (pgs pg) 1) true (litCmp .gtr (pgs pg) 16))) && ((decide (0 ≤ (litBin .mul .i64 (pgs pg) 4096) ∧ (litBin .mul .i64 (pgs pg) 4096) < ((16777216 : Nat) : Int))) && (Both73.ask ⟨[0, pg, kind, st, c1, c2, c3, c4, c5, c6, c7, c8, satp, c10, c11, pr, how, va, x, nn, pg], [], [n, n, n, (szN pg), (szN pg), (szN pg), (szN pg), (szN pg), (szN pg)], [A, X, (fun _ => 0), (fun _ => 0)]⟩))))), (szq 1 nn), (askL (szN pg) (szN pg) (szN pg) (memB pg A X n) satp st va 1), (askL (szN pg) (szN pg) (szN pg) (memB pg A X n) satp st (litBin .add .u64 va 0) 1), (ldF (memB pg A X n) (szN pg) satp st pr (litBin .add .u64 va 0) 1)], .val (.bool (.sym (v1_0 pg n A X kind st c1 c2 c3 c4 c5 c6 c7 c8 satp c10 c11 pr how va x nn)))) := by kernel_rfl
noncomputable def v1_1 (pg : Int) (n : Nat) (A X : Nat → Int) (kind st c1 c2 c3 c4 c5 c6 c7 c8 satp c10 c11 pr how va x nn : Int) : Bool := (cond (!(ldF (memB pg A X n) (szN pg) satp st pr va 1)) (litCmp .eql (ldX (memB pg A X n) (szN pg) satp st pr va 1) (litBin .add .u64 0 (litBin .shl .u64 (ldX (memB pg A X n) (szN pg) satp st pr (litBin .add .u64 va 0) 1) 0))) false)
set_option maxRecDepth 100000 in
theorem road1_1 (pg : Int) (n : Nat) (A X : Nat → Int) (kind st c1 c2 c3 c4 c5 c6 c7 c8 satp c10 c11 pr how va x nn : Int) : ((call Try.prog (cxL 1) 400 17 [.agg [.int .u8 (.sym pg), .slice 0 (.lit 0) (.rc n 1 0) .any], .agg [(.int .u8 (.sym kind)), (.int .u64 (.sym st)), (.int .u64 (.sym c1)), (.int .u64 (.sym c2)), (.int .u64 (.sym c3)), (.int .u64 (.sym c4)), (.int .u64 (.sym c5)), (.int .u64 (.sym c6)), (.int .u64 (.sym c7)), (.int .u64 (.sym c8)), (.int .u64 (.sym satp)), (.int .u64 (.sym c10)), (.int .u64 (.sym c11)), (.int .i64 (.sym pr)), (.int .i64 (.sym how)), (.int .u64 (.sym va)), (.int .u64 (.sym x)), (.int .u8 (.sym nn))]] [.rows 0 n [(.int .u32, A), (.int .u64, X)]]).route [true, true, true, true, false]).map (fun p => (p.1, p.2.1)) = some ([((!(cond (litCmp .lss (pgs pg) 1) true (litCmp .gtr (pgs pg) 16))) && ((decide (0 ≤ (litBin .mul .i64 (pgs pg) 4096) ∧ (litBin .mul .i64 (pgs pg) 4096) < ((16777216 : Nat) : Int))) && ((!(cond (litCmp .lss (pgs pg) 1) true (litCmp .gtr (pgs pg) 16))) && ((decide (0 ≤ (litBin .mul .i64 (pgs pg) 4096) ∧ (litBin .mul .i64 (pgs pg) 4096) < ((16777216 : Nat) : Int))) && (Both73.ask ⟨[0, pg, kind, st, c1, c2, c3, c4, c5, c6, c7, c8, satp, c10, c11, pr, how, va, x, nn, pg], [], [n, n, n, (szN pg), (szN pg), (szN pg), (szN pg), (szN pg), (szN pg)], [A, X, (fun _ => 0), (fun _ => 0)]⟩))))), (szq 1 nn), (askL (szN pg) (szN pg) (szN pg) (memB pg A X n) satp st va 1), (askL (szN pg) (szN pg) (szN pg) (memB pg A X n) satp st (litBin .add .u64 va 0) 1), (ldF (memB pg A X n) (szN pg) satp st pr (litBin .add .u64 va 0) 1)], .val (.bool (.sym (v1_1 pg n A X kind st c1 c2 c3 c4 c5 c6 c7 c8 satp c10 c11 pr how va x nn)))) := by kernel_rfl
noncomputable def v2_0 (pg : Int) (n : Nat) (A X : Nat → Int) (kind st c1 c2 c3 c4 c5 c6 c7 c8 satp c10 c11 pr how va x nn : Int) : Bool := (cond (cond (!(ldF (memB pg A X n) (szN pg) satp st pr va 2)) true (cond (litCmp .neq (ldX (memB pg A X n) (szN pg) satp st pr va 2) 0) true (litCmp .neq (ldC (memB pg A X n) (szN pg) satp st pr va 2) (ldC (memB pg A X n) (szN pg) satp st pr (litBin .add .u64 va 0) 1)))) false (cond (litCmp .eql (ldV (memB pg A X n) (szN pg) satp st pr va 2) (ldV (memB pg A X n) (szN pg) satp st pr (litBin .add .u64 va 0) 1)) true (cond (litCmp .eql (litBin .rem .u64 va 2) 0) (litCmp .eql (ldV (memB pg A X n) (szN pg) satp st pr va 2) va) false)))
set_option maxRecDepth 100000 in
theorem road2_0 (pg : Int) (n : Nat) (A X : Nat → Int) (kind st c1 c2 c3 c4 c5 c6 c7 c8 satp c10 c11 pr how va x nn : Int) : ((call Try.prog (cxL 2) 400 17 [.agg [.int .u8 (.sym pg), .slice 0 (.lit 0) (.rc n 1 0) .any], .agg [(.int .u8 (.sym kind)), (.int .u64 (.sym st)), (.int .u64 (.sym c1)), (.int .u64 (.sym c2)), (.int .u64 (.sym c3)), (.int .u64 (.sym c4)), (.int .u64 (.sym c5)), (.int .u64 (.sym c6)), (.int .u64 (.sym c7)), (.int .u64 (.sym c8)), (.int .u64 (.sym satp)), (.int .u64 (.sym c10)), (.int .u64 (.sym c11)), (.int .i64 (.sym pr)), (.int .i64 (.sym how)), (.int .u64 (.sym va)), (.int .u64 (.sym x)), (.int .u8 (.sym nn))]] [.rows 0 n [(.int .u32, A), (.int .u64, X)]]).route [true, true, true, true, true]).map (fun p => (p.1, p.2.1)) = some ([((!(cond (litCmp .lss (pgs pg) 1) true (litCmp .gtr (pgs pg) 16))) && ((decide (0 ≤ (litBin .mul .i64 (pgs pg) 4096) ∧ (litBin .mul .i64 (pgs pg) 4096) < ((16777216 : Nat) : Int))) && ((!(cond (litCmp .lss (pgs pg) 1) true (litCmp .gtr (pgs pg) 16))) && ((decide (0 ≤ (litBin .mul .i64 (pgs pg) 4096) ∧ (litBin .mul .i64 (pgs pg) 4096) < ((16777216 : Nat) : Int))) && (Both73.ask ⟨[0, pg, kind, st, c1, c2, c3, c4, c5, c6, c7, c8, satp, c10, c11, pr, how, va, x, nn, pg], [], [n, n, n, (szN pg), (szN pg), (szN pg), (szN pg), (szN pg), (szN pg)], [A, X, (fun _ => 0), (fun _ => 0)]⟩))))), (szq 2 nn), (askL (szN pg) (szN pg) (szN pg) (memB pg A X n) satp st va 2), (askL (szN pg) (szN pg) (szN pg) (memB pg A X n) satp st (litBin .add .u64 va 0) 1), (ldF (memB pg A X n) (szN pg) satp st pr (litBin .add .u64 va 0) 1)], .val (.bool (.sym (v2_0 pg n A X kind st c1 c2 c3 c4 c5 c6 c7 c8 satp c10 c11 pr how va x nn)))) := by kernel_rfl
noncomputable def v2_1 (pg : Int) (n : Nat) (A X : Nat → Int) (kind st c1 c2 c3 c4 c5 c6 c7 c8 satp c10 c11 pr how va x nn : Int) : Bool := (cond (cond (!(ldF (memB pg A X n) (szN pg) satp st pr va 2)) true (cond (litCmp .neq (ldX (memB pg A X n) (szN pg) satp st pr va 2) 0) true (litCmp .neq (ldC (memB pg A X n) (szN pg) satp st pr va 2) (ldC (memB pg A X n) (szN pg) satp st pr (litBin .add .u64 va 1) 1)))) false (cond (litCmp .eql (ldV (memB pg A X n) (szN pg) satp st pr va 2) (ldV (memB pg A X n) (szN pg) satp st pr (litBin .add .u64 va 1) 1)) true (cond (litCmp .eql (litBin .rem .u64 va 2) 0) (litCmp .eql (ldV (memB pg A X n) (szN pg) satp st pr va 2) va) false)))
set_option maxRecDepth 100000 in
theorem road2_1 (pg : Int) (n : Nat) (A X : Nat → Int) (kind st c1 c2 c3 c4 c5 c6 c7 c8 satp c10 c11 pr how va x nn : Int) : ((call Try.prog (cxL 2) 400 17 [.agg [.int .u8 (.sym pg), .slice 0 (.lit 0) (.rc n 1 0) .any], .agg [(.int .u8 (.sym kind)), (.int .u64 (.sym st)), (.int .u64 (.sym c1)), (.int .u64 (.sym c2)), (.int .u64 (.sym c3)), (.int .u64 (.sym c4)), (.int .u64 (.sym c5)), (.int .u64 (.sym c6)), (.int .u64 (.sym c7)), (.int .u64 (.sym c8)), (.int .u64 (.sym satp)), (.int .u64 (.sym c10)), (.int .u64 (.sym c11)), (.int .i64 (.sym pr)), (.int .i64 (.sym how)), (.int .u64 (.sym va)), (.int .u64 (.sym x)), (.int .u8 (.sym nn))]] [.rows 0 n [(.int .u32, A), (.int .u64, X)]]).route [true, true, true, true, false, true, true]).map (fun p => (p.1, p.2.1)) = some ([((!(cond (litCmp .lss (pgs pg) 1) true (litCmp .gtr (pgs pg) 16))) && ((decide (0 ≤ (litBin .mul .i64 (pgs pg) 4096) ∧ (litBin .mul .i64 (pgs pg) 4096) < ((16777216 : Nat) : Int))) && ((!(cond (litCmp .lss (pgs pg) 1) true (litCmp .gtr (pgs pg) 16))) && ((decide (0 ≤ (litBin .mul .i64 (pgs pg) 4096) ∧ (litBin .mul .i64 (pgs pg) 4096) < ((16777216 : Nat) : Int))) && (Both73.ask ⟨[0, pg, kind, st, c1, c2, c3, c4, c5, c6, c7, c8, satp, c10, c11, pr, how, va, x, nn, pg], [], [n, n, n, (szN pg), (szN pg), (szN pg), (szN pg), (szN pg), (szN pg)], [A, X, (fun _ => 0), (fun _ => 0)]⟩))))), (szq 2 nn), (askL (szN pg) (szN pg) (szN pg) (memB pg A X n) satp st va 2), (askL (szN pg) (szN pg) (szN pg) (memB pg A X n) satp st (litBin .add .u64 va 0) 1), (ldF (memB pg A X n) (szN pg) satp st pr (litBin .add .u64 va 0) 1), (askL (szN pg) (szN pg) (szN pg) (memB pg A X n) satp st (litBin .add .u64 va 1) 1), (ldF (memB pg A X n) (szN pg) satp st pr (litBin .add .u64 va 1) 1)], .val (.bool (.sym (v2_1 pg n A X kind st c1 c2 c3 c4 c5 c6 c7 c8 satp c10 c11 pr how va x nn)))) := by kernel_rfl
noncomputable def v2_2 (pg : Int) (n : Nat) (A X : Nat → Int) (kind st c1 c2 c3 c4 c5 c6 c7 c8 satp c10 c11 pr how va x nn : Int) : Bool := (cond (!(ldF (memB pg A X n) (szN pg) satp st pr va 2)) (litCmp .eql (ldX (memB pg A X n) (szN pg) satp st pr va 2) (litBin .add .u64 (litBin .add .u64 0 (litBin .shl .u64 (ldX (memB pg A X n) (szN pg) satp st pr (litBin .add .u64 va 0) 1) 0)) (litBin .shl .u64 (ldX (memB pg A X n) (szN pg) satp st pr (litBin .add .u64 va 1) 1) 8))) false)
set_option maxRecDepth 100000 in
theorem road2_2 (pg : Int) (n : Nat) (A X : Nat → Int) (kind st c1 c2 c3 c4 c5 c6 c7 c8 satp c10 c11 pr how va x nn : Int) : ((call Try.prog (cxL 2) 400 17 [.agg [.int .u8 (.sym pg), .slice 0 (.lit 0) (.rc n 1 0) .any], .agg [(.int .u8 (.sym kind)), (.int .u64 (.sym st)), (.int .u64 (.sym c1)), (.int .u64 (.sym c2)), (.int .u64 (.sym c3)), (.int .u64 (.sym c4)), (.int .u64 (.sym c5)), (.int .u64 (.sym c6)), (.int .u64 (.sym c7)), (.int .u64 (.sym c8)), (.int .u64 (.sym satp)), (.int .u64 (.sym c10)), (.int .u64 (.sym c11)), (.int .i64 (.sym pr)), (.int .i64 (.sym how)), (.int .u64 (.sym va)), (.int .u64 (.sym x)), (.int .u8 (.sym nn))]] [.rows 0 n [(.int .u32, A), (.int .u64, X)]]).route [true, true, true, true, false, true, false]).map (fun p => (p.1, p.2.1)) = some ([((!(cond (litCmp .lss (pgs pg) 1) true (litCmp .gtr (pgs pg) 16))) && ((decide (0 ≤ (litBin .mul .i64 (pgs pg) 4096) ∧ (litBin .mul .i64 (pgs pg) 4096) < ((16777216 : Nat) : Int))) && ((!(cond (litCmp .lss (pgs pg) 1) true (litCmp .gtr (pgs pg) 16))) && ((decide (0 ≤ (litBin .mul .i64 (pgs pg) 4096) ∧ (litBin .mul .i64 (pgs pg) 4096) < ((16777216 : Nat) : Int))) && (Both73.ask ⟨[0, pg, kind, st, c1, c2, c3, c4, c5, c6, c7, c8, satp, c10, c11, pr, how, va, x, nn, pg], [], [n, n, n, (szN pg), (szN pg), (szN pg), (szN pg), (szN pg), (szN pg)], [A, X, (fun _ => 0), (fun _ => 0)]⟩))))), (szq 2 nn), (askL (szN pg) (szN pg) (szN pg) (memB pg A X n) satp st va 2), (askL (szN pg) (szN pg) (szN pg) (memB pg A X n) satp st (litBin .add .u64 va 0) 1), (ldF (memB pg A X n) (szN pg) satp st pr (litBin .add .u64 va 0) 1), (askL (szN pg) (szN pg) (szN pg) (memB pg A X n) satp st (litBin .add .u64 va 1) 1), (ldF (memB pg A X n) (szN pg) satp st pr (litBin .add .u64 va 1) 1)], .val (.bool (.sym (v2_2 pg n A X kind st c1 c2 c3 c4 c5 c6 c7 c8 satp c10 c11 pr how va x nn)))) := by kernel_rfl
noncomputable def v4_0 (pg : Int) (n : Nat) (A X : Nat → Int) (kind st c1 c2 c3 c4 c5 c6 c7 c8 satp c10 c11 pr how va x nn : Int) : Bool := (cond (cond (!(ldF (memB pg A X n) (szN pg) satp st pr va 4)) true (cond (litCmp .neq (ldX (memB pg A X n) (szN pg) satp st pr va 4) 0) true (litCmp .neq (ldC (memB pg A X n) (szN pg) satp st pr va 4) (ldC (memB pg A X n) (szN pg) satp st pr (litBin .add .u64 va 0) 1)))) false (cond (litCmp .eql (ldV (memB pg A X n) (szN pg) satp st pr va 4) (ldV (memB pg A X n) (szN pg) satp st pr (litBin .add .u64 va 0) 1)) true (cond (litCmp .eql (litBin .rem .u64 va 4) 0) (litCmp .eql (ldV (memB pg A X n) (szN pg) satp st pr va 4) va) false)))
set_option maxRecDepth 100000 in
theorem road4_0 (pg : Int) (n : Nat) (A X : Nat → Int) (kind st c1 c2 c3 c4 c5 c6 c7 c8 satp c10 c11 pr how va x nn : Int) : ((call Try.prog (cxL 4) 400 17 [.agg [.int .u8 (.sym pg), .slice 0 (.lit 0) (.rc n 1 0) .any], .agg [(.int .u8 (.sym kind)), (.int .u64 (.sym st)), (.int .u64 (.sym c1)), (.int .u64 (.sym c2)), (.int .u64 (.sym c3)), (.int .u64 (.sym c4)), (.int .u64 (.sym c5)), (.int .u64 (.sym c6)), (.int .u64 (.sym c7)), (.int .u64 (.sym c8)), (.int .u64 (.sym satp)), (.int .u64 (.sym c10)), (.int .u64 (.sym c11)), (.int .i64 (.sym pr)), (.int .i64 (.sym how)), (.int .u64 (.sym va)), (.int .u64 (.sym x)), (.int .u8 (.sym nn))]] [.rows 0 n [(.int .u32, A), (.int .u64, X)]]).route [true, true, true, true, true]).map (fun p => (p.1, p.2.1)) = some ([((!(cond (litCmp .lss (pgs pg) 1) true (litCmp .gtr (pgs pg) 16))) && ((decide (0 ≤ (litBin .mul .i64 (pgs pg) 4096) ∧ (litBin .mul .i64 (pgs pg) 4096) < ((16777216 : Nat) : Int))) && ((!(cond (litCmp .lss (pgs pg) 1) true (litCmp .gtr (pgs pg) 16))) && ((decide (0 ≤ (litBin .mul .i64 (pgs pg) 4096) ∧ (litBin .mul .i64 (pgs pg) 4096) < ((16777216 : Nat) : Int))) && (Both73.ask ⟨[0, pg, kind, st, c1, c2, c3, c4, c5, c6, c7, c8, satp, c10, c11, pr, how, va, x, nn, pg], [], [n, n, n, (szN pg), (szN pg), (szN pg), (szN pg), (szN pg), (szN pg)], [A, X, (fun _ => 0), (fun _ => 0)]⟩))))), (szq 4 nn), (askL (szN pg) (szN pg) (szN pg) (memB pg A X n) satp st va 4), (askL (szN pg) (szN pg) (szN pg) (memB pg A X n) satp st (litBin .add .u64 va 0) 1), (ldF (memB pg A X n) (szN pg) satp st pr (litBin .add .u64 va 0) 1)], .val (.bool (.sym (v4_0 pg n A X kind st c1 c2 c3 c4 c5 c6 c7 c8 satp c10 c11 pr how va x nn)))) := by kernel_rfl
noncomputable def v4_1 (pg : Int) (n : Nat) (A X : Nat → Int) (kind st c1 c2 c3 c4 c5 c6 c7 c8 satp c10 c11 pr how va x nn : Int) : Bool := (cond (cond (!(ldF (memB pg A X n) (szN pg) satp st pr va 4)) true (cond (litCmp .neq (ldX (memB pg A X n) (szN pg) satp st pr va 4) 0) true (litCmp .neq (ldC (memB pg A X n) (szN pg) satp st pr va 4) (ldC (memB pg A X n) (szN pg) satp st pr (litBin .add .u64 va 1) 1)))) false (cond (litCmp .eql (ldV (memB pg A X n) (szN pg) satp st pr va 4) (ldV (memB pg A X n) (szN pg) satp st pr (litBin .add .u64 va 1) 1)) true (cond (litCmp .eql (litBin .rem .u64 va 4) 0) (litCmp .eql (ldV (memB pg A X n) (szN pg) satp st pr va 4) va) false)))
set_option maxRecDepth 100000 in
theorem road4_1 (pg : Int) (n : Nat) (A X : Nat → Int) (kind st c1 c2 c3 c4 c5 c6 c7 c8 satp c10 c11 pr how va x nn : Int) : ((call Try.prog (cxL 4) 400 17 [.agg [.int .u8 (.sym pg), .slice 0 (.lit 0) (.rc n 1 0) .any], .agg [(.int .u8 (.sym kind)), (.int .u64 (.sym st)), (.int .u64 (.sym c1)), (.int .u64 (.sym c2)), (.int .u64 (.sym c3)), (.int .u64 (.sym c4)), (.int .u64 (.sym c5)), (.int .u64 (.sym c6)), (.int .u64 (.sym c7)), (.int .u64 (.sym c8)), (.int .u64 (.sym satp)), (.int .u64 (.sym c10)), (.int .u64 (.sym c11)), (.int .i64 (.sym pr)), (.int .i64 (.sym how)), (.int .u64 (.sym va)), (.int .u64 (.sym x)), (.int .u8 (.sym nn))]] [.rows 0 n [(.int .u32, A), (.int .u64, X)]]).route [true, true, true, true, false, true, true]).map (fun p => (p.1, p.2.1)) = some ([((!(cond (litCmp .lss (pgs pg) 1) true (litCmp .gtr (pgs pg) 16))) && ((decide (0 ≤ (litBin .mul .i64 (pgs pg) 4096) ∧ (litBin .mul .i64 (pgs pg) 4096) < ((16777216 : Nat) : Int))) && ((!(cond (litCmp .lss (pgs pg) 1) true (litCmp .gtr (pgs pg) 16))) && ((decide (0 ≤ (litBin .mul .i64 (pgs pg) 4096) ∧ (litBin .mul .i64 (pgs pg) 4096) < ((16777216 : Nat) : Int))) && (Both73.ask ⟨[0, pg, kind, st, c1, c2, c3, c4, c5, c6, c7, c8, satp, c10, c11, pr, how, va, x, nn, pg], [], [n, n, n, (szN pg), (szN pg), (szN pg), (szN pg), (szN pg), (szN pg)], [A, X, (fun _ => 0), (fun _ => 0)]⟩))))), (szq 4 nn), (askL (szN pg) (szN pg) (szN pg) (memB pg A X n) satp st va 4), (askL (szN pg) (szN pg) (szN pg) (memB pg A X n) satp st (litBin .add .u64 va 0) 1), (ldF (memB pg A X n) (szN pg) satp st pr (litBin .add .u64 va 0) 1), (askL (szN pg) (szN pg) (szN pg) (memB pg A X n) satp st (litBin .add .u64 va 1) 1), (ldF (memB pg A X n) (szN pg) satp st pr (litBin .add .u64 va 1) 1)], .val (.bool (.sym (v4_1 pg n A X kind st c1 c2 c3 c4 c5 c6 c7 c8 satp c10 c11 pr how va x nn)))) := by kernel_rfl
noncomputable def v4_2 (pg : Int) (n : Nat) (A X : Nat → Int) (kind st c1 c2 c3 c4 c5 c6 c7 c8 satp c10 c11 pr how va x nn : Int) : Bool := (cond (cond (!(ldF (memB pg A X n) (szN pg) satp st pr va 4)) true (cond (litCmp .neq (ldX (memB pg A X n) (szN pg) satp st pr va 4) 0) true (litCmp .neq (ldC (memB pg A X n) (szN pg) satp st pr va 4) (ldC (memB pg A X n) (szN pg) satp st pr (litBin .add .u64 va 2) 1)))) false (cond (litCmp .eql (ldV (memB pg A X n) (szN pg) satp st pr va 4) (ldV (memB pg A X n) (szN pg) satp st pr (litBin .add .u64 va 2) 1)) true (cond (litCmp .eql (litBin .rem .u64 va 4) 0) (litCmp .eql (ldV (memB pg A X n) (szN pg) satp st pr va 4) va) false)))
set_option maxRecDepth 100000 in
theorem road4_2 (pg : Int) (n : Nat) (A X : Nat → Int) (kind st c1 c2 c3 c4 c5 c6 c7 c8 satp c10 c11 pr how va x nn : Int) : ((call Try.prog (cxL 4) 400 17 [.agg [.int .u8 (.sym pg), .slice 0 (.lit 0) (.rc n 1 0) .any], .agg [(.int .u8 (.sym kind)), (.int .u64 (.sym st)), (.int .u64 (.sym c1)), (.int .u64 (.sym c2)), (.int .u64 (.sym c3)), (.int .u64 (.sym c4)), (.int .u64 (.sym c5)), (.int .u64 (.sym c6)), (.int .u64 (.sym c7)), (.int .u64 (.sym c8)), (.int .u64 (.sym satp)), (.int .u64 (.sym c10)), (.int .u64 (.sym c11)), (.int .i64 (.sym pr)), (.int .i64 (.sym how)), (.int .u64 (.sym va)), (.int .u64 (.sym x)), (.int .u8 (.sym nn))]] [.rows 0 n [(.int .u32, A), (.int .u64, X)]]).route [true, true, true, true, false, true, false, true, true]).map (fun p => (p.1, p.2.1)) = some ([((!(cond (litCmp .lss (pgs pg) 1) true (litCmp .gtr (pgs pg) 16))) && ((decide (0 ≤ (litBin .mul .i64 (pgs pg) 4096) ∧ (litBin .mul .i64 (pgs pg) 4096) < ((16777216 : Nat) : Int))) && ((!(cond (litCmp .lss (pgs pg) 1) true (litCmp .gtr (pgs pg) 16))) && ((decide (0 ≤ (litBin .mul .i64 (pgs pg) 4096) ∧ (litBin .mul .i64 (pgs pg) 4096) < ((16777216 : Nat) : Int))) && (Both73.ask ⟨[0, pg, kind, st, c1, c2, c3, c4, c5, c6, c7, c8, satp, c10, c11, pr, how, va, x, nn, pg], [], [n, n, n, (szN pg), (szN pg), (szN pg), (szN pg), (szN pg), (szN pg)], [A, X, (fun _ => 0), (fun _ => 0)]⟩))))), (szq 4 nn), (askL (szN pg) (szN pg) (szN pg) (memB pg A X n) satp st va 4), (askL (szN pg) (szN pg) (szN pg) (memB pg A X n) satp st (litBin .add .u64 va 0) 1), (ldF (memB pg A X n) (szN pg) satp st pr (litBin .add .u64 va 0) 1), (askL (szN pg) (szN pg) (szN pg) (memB pg A X n) satp st (litBin .add .u64 va 1) 1), (ldF (memB pg A X n) (szN pg) satp st pr (litBin .add .u64 va 1) 1), (askL (szN pg) (szN pg) (szN pg) (memB pg A X n) satp st (litBin .add .u64 va 2) 1), (ldF (memB pg A X n) (szN pg) satp st pr (litBin .add .u64 va 2) 1)], .val (.bool (.sym (v4_2 pg n A X kind st c1 c2 c3 c4 c5 c6 c7 c8 satp c10 c11 pr how va x nn)))) := by kernel_rfl
noncomputable def v4_3 (pg : Int) (n : Nat) (A X : Nat → Int) (kind st c1 c2 c3 c4 c5 c6 c7 c8 satp c10 c11 pr how va x nn : Int) : Bool := (cond (cond (!(ldF (memB pg A X n) (szN pg) satp st pr va 4)) true (cond (litCmp .neq (ldX (memB pg A X n) (szN pg) satp st pr va 4) 0) true (litCmp .neq (ldC (memB pg A X n) (szN pg) satp st pr va 4) (ldC (memB pg A X n) (szN pg) satp st pr (litBin .add .u64 va 3) 1)))) false (cond (litCmp .eql (ldV (memB pg A X n) (szN pg) satp st pr va 4) (ldV (memB pg A X n) (szN pg) satp st pr (litBin .add .u64 va 3) 1)) true (cond (litCmp .eql (litBin .rem .u64 va 4) 0) (litCmp .eql (ldV (memB pg A X n) (szN pg) satp st pr va 4) va) false)))
set_option maxRecDepth 100000 in
theorem road4_3 (pg : Int) (n : Nat) (A X : Nat → Int) (kind st c1 c2 c3 c4 c5 c6 c7 c8 satp c10 c11 pr how va x nn : Int) : ((call Try.prog (cxL 4) 400 17 [.agg [.int .u8 (.sym pg), .slice 0 (.lit 0) (.rc n 1 0) .any], .agg [(.int .u8 (.sym kind)), (.int .u64 (.sym st)), (.int .u64 (.sym c1)), (.int .u64 (.sym c2)), (.int .u64 (.sym c3)), (.int .u64 (.sym c4)), (.int .u64 (.sym c5)), (.int .u64 (.sym c6)), (.int .u64 (.sym c7)), (.int .u64 (.sym c8)), (.int .u64 (.sym satp)), (.int .u64 (.sym c10)), (.int .u64 (.sym c11)), (.int .i64 (.sym pr)), (.int .i64 (.sym how)), (.int .u64 (.sym va)), (.int .u64 (.sym x)), (.int .u8 (.sym nn))]] [.rows 0 n [(.int .u32, A), (.int .u64, X)]]).route [true, true, true, true, false, true, false, true, false, true, true]).map (fun p => (p.1, p.2.1)) = some ([((!(cond (litCmp .lss (pgs pg) 1) true (litCmp .gtr (pgs pg) 16))) && ((decide (0 ≤ (litBin .mul .i64 (pgs pg) 4096) ∧ (litBin .mul .i64 (pgs pg) 4096) < ((16777216 : Nat) : Int))) && ((!(cond (litCmp .lss (pgs pg) 1) true (litCmp .gtr (pgs pg) 16))) && ((decide (0 ≤ (litBin .mul .i64 (pgs pg) 4096) ∧ (litBin .mul .i64 (pgs pg) 4096) < ((16777216 : Nat) : Int))) && (Both73.ask ⟨[0, pg, kind, st, c1, c2, c3, c4, c5, c6, c7, c8, satp, c10, c11, pr, how, va, x, nn, pg], [], [n, n, n, (szN pg), (szN pg), (szN pg), (szN pg), (szN pg), (szN pg)], [A, X, (fun _ => 0), (fun _ => 0)]⟩))))), (szq 4 nn), (askL (szN pg) (szN pg) (szN pg) (memB pg A X n) satp st va 4), (askL (szN pg) (szN pg) (szN pg) (memB pg A X n) satp st (litBin .add .u64 va 0) 1), (ldF (memB pg A X n) (szN pg) satp st pr (litBin .add .u64 va 0) 1), (askL (szN pg) (szN pg) (szN pg) (memB pg A X n) satp st (litBin .add .u64 va 1) 1), (ldF (memB pg A X n) (szN pg) satp st pr (litBin .add .u64 va 1) 1), (askL (szN pg) (szN pg) (szN pg) (memB pg A X n) satp st (litBin .add .u64 va 2) 1), (ldF (memB pg A X n) (szN pg) satp st pr (litBin .add .u64 va 2) 1), (askL (szN pg) (szN pg) (szN pg) (memB pg A X n) satp st (litBin .add .u64 va 3) 1), (ldF (memB pg A X n) (szN pg) satp st pr (litBin .add .u64 va 3) 1)], .val (.bool (.sym (v4_3 pg n A X kind st c1 c2 c3 c4 c5 c6 c7 c8 satp c10 c11 pr how va x nn)))) := by kernel_rfl
noncomputable def v4_4 (pg : Int) (n : Nat) (A X : Nat → Int) (kind st c1 c2 c3 c4 c5 c6 c7 c8 satp c10 c11 pr how va x nn : Int) : Bool := (cond (!(ldF (memB pg A X n) (szN pg) satp st pr va 4)) (litCmp .eql (ldX (memB pg A X n) (szN pg) satp st pr va 4) (litBin .add .u64 (litBin .add .u64 (litBin .add .u64 (litBin .add .u64 0 (litBin .shl .u64 (ldX (memB pg A X n) (szN pg) satp st pr (litBin .add .u64 va 0) 1) 0)) (litBin .shl .u64 (ldX (memB pg A X n) (szN pg) satp st pr (litBin .add .u64 va 1) 1) 8)) (litBin .shl .u64 (ldX (memB pg A X n) (szN pg) satp st pr (litBin .add .u64 va 2) 1) 16)) (litBin .shl .u64 (ldX (memB pg A X n) (szN pg) satp st pr (litBin .add .u64 va 3) 1) 24))) false)
set_option maxRecDepth 100000 in
theorem road4_4 (pg : Int) (n : Nat) (A X : Nat → Int) (kind st c1 c2 c3 c4 c5 c6 c7 c8 satp c10 c11 pr how va x nn : Int) : ((call Try.prog (cxL 4) 400 17 [.agg [.int .u8 (.sym pg), .slice 0 (.lit 0) (.rc n 1 0) .any], .agg [(.int .u8 (.sym kind)), (.int .u64 (.sym st)), (.int .u64 (.sym c1)), (.int .u64 (.sym c2)), (.int .u64 (.sym c3)), (.int .u64 (.sym c4)), (.int .u64 (.sym c5)), (.int .u64 (.sym c6)), (.int .u64 (.sym c7)), (.int .u64 (.sym c8)), (.int .u64 (.sym satp)), (.int .u64 (.sym c10)), (.int .u64 (.sym c11)), (.int .i64 (.sym pr)), (.int .i64 (.sym how)), (.int .u64 (.sym va)), (.int .u64 (.sym x)), (.int .u8 (.sym nn))]] [.rows 0 n [(.int .u32, A), (.int .u64, X)]]).route [true, true, true, true, false, true, false, true, false, true, false]).map (fun p => (p.1, p.2.1)) = some ([((!(cond (litCmp .lss (pgs pg) 1) true (litCmp .gtr (pgs pg) 16))) && ((decide (0 ≤ (litBin .mul .i64 (pgs pg) 4096) ∧ (litBin .mul .i64 (pgs pg) 4096) < ((16777216 : Nat) : Int))) && ((!(cond (litCmp .lss (pgs pg) 1) true (litCmp .gtr (pgs pg) 16))) && ((decide (0 ≤ (litBin .mul .i64 (pgs pg) 4096) ∧ (litBin .mul .i64 (pgs pg) 4096) < ((16777216 : Nat) : Int))) && (Both73.ask ⟨[0, pg, kind, st, c1, c2, c3, c4, c5, c6, c7, c8, satp, c10, c11, pr, how, va, x, nn, pg], [], [n, n, n, (szN pg), (szN pg), (szN pg), (szN pg), (szN pg), (szN pg)], [A, X, (fun _ => 0), (fun _ => 0)]⟩))))), (szq 4 nn), (askL (szN pg) (szN pg) (szN pg) (memB pg A X n) satp st va 4), (askL (szN pg) (szN pg) (szN pg) (memB pg A X n) satp st (litBin .add .u64 va 0) 1), (ldF (memB pg A X n) (szN pg) satp st pr (litBin .add .u64 va 0) 1), (askL (szN pg) (szN pg) (szN pg) (memB pg A X n) satp st (litBin .add .u64 va 1) 1), (ldF (memB pg A X n) (szN pg) satp st pr (litBin .add .u64 va 1) 1), (askL (szN pg) (szN pg) (szN pg) (memB pg A X n) satp st (litBin .add .u64 va 2) 1), (ldF (memB pg A X n) (szN pg) satp st pr (litBin .add .u64 va 2) 1), (askL (szN pg) (szN pg) (szN pg) (memB pg A X n) satp st (litBin .add .u64 va 3) 1), (ldF (memB pg A X n) (szN pg) satp st pr (litBin .add .u64 va 3) 1)], .val (.bool (.sym (v4_4 pg n A X kind st c1 c2 c3 c4 c5 c6 c7 c8 satp c10 c11 pr how va x nn)))) := by kernel_rfl
theorem law1 {pg : Int} {n : Nat} {A X : Nat → Int} {kind st c1 c2 c3 c4 c5 c6 c7 c8 satp c10 c11 pr how va x nn : Int} (hpg : 0 ≤ pg ∧ pg < 256) (hX : ∀ j, j < n → inU (X j)) (hst : inU st) (hsatp : inU satp) (hva : inU va) (wnn : 0 ≤ nn ∧ nn < 256) (hnn : sizeS nn = 1) :
    ∃ (ds cs : List Bool) (v : Bool), ((call Try.prog (cxL 1) 400 17 [.agg [.int .u8 (.sym pg), .slice 0 (.lit 0) (.rc n 1 0) .any], .agg [(.int .u8 (.sym kind)), (.int .u64 (.sym st)), (.int .u64 (.sym c1)), (.int .u64 (.sym c2)), (.int .u64 (.sym c3)), (.int .u64 (.sym c4)), (.int .u64 (.sym c5)), (.int .u64 (.sym c6)), (.int .u64 (.sym c7)), (.int .u64 (.sym c8)), (.int .u64 (.sym satp)), (.int .u64 (.sym c10)), (.int .u64 (.sym c11)), (.int .i64 (.sym pr)), (.int .i64 (.sym how)), (.int .u64 (.sym va)), (.int .u64 (.sym x)), (.int .u8 (.sym nn))]] [.rows 0 n [(.int .u32, A), (.int .u64, X)]]).route ds).map (fun p => (p.1, p.2.1)) = some (cs, .val (.bool (.sym v))) ∧ cs = ds ∧ v = true := by
  have hm : MemOk (szN pg) (memB pg A X n) := memB_ok hpg
  have hN : ((szN pg : Nat) : Int) % 8 = 0 := by
    rw [(szN_eq hpg).1]
    omega
  have hq : szq 1 nn = true := szq_of wnn hnn
  have pT : (!(cond (litCmp .lss (pgs pg) 1) true (litCmp .gtr (pgs pg) 16))) = true := by
    have := (pgT_f hpg).1
    unfold pgT at this
    rw [this]
    rfl
  have pU : decide (0 ≤ (litBin .mul .i64 (pgs pg) 4096) ∧ (litBin .mul .i64 (pgs pg) 4096) < ((16777216 : Nat) : Int)) = true := (pgT_f hpg).2
  have hask : Both73.ask ⟨[0, pg, kind, st, c1, c2, c3, c4, c5, c6, c7, c8, satp, c10, c11, pr, how, va, x, nn, pg], [], [n, n, n, szN pg, szN pg, szN pg, szN pg, szN pg, szN pg], [A, X, (fun _ => 0), (fun _ => 0)]⟩ = true :=
    yes_of ⟨pg, kind, st, c1, c2, c3, c4, c5, c6, c7, c8, satp, c10, c11, pr, how, va, x, nn, n, szN pg, 0, A, X, fun _ => 0, rfl, rfl, MemOk.zero (szN_eq hpg).2, hX, by omega, by omega⟩
  have qn : askL (szN pg) (szN pg) (szN pg) (memB pg A X n) satp st va 1 = true := yes_of ⟨⟨rfl, rfl, hm, hN⟩, hsatp, hst, hva, rfl⟩
  have q0 : askL (szN pg) (szN pg) (szN pg) (memB pg A X n) satp st (litBin .add .u64 va 0) 1 = true := yes_of ⟨⟨rfl, rfl, hm, hN⟩, hsatp, hst, inU.add _ _, rfl⟩
  have o0 : ldF (memB pg A X n) (szN pg) satp st pr (litBin .add .u64 va 0) 1 = ldA (memB pg A X n) (szN pg) satp st pr va 0 := one_F (inU.add _ _)
  cases g0 : ldA (memB pg A X n) (szN pg) satp st pr va 0
  rotate_left
  · rw [g0] at o0
    refine ⟨_, _, _, road1_0 pg n A X kind st c1 c2 c3 c4 c5 c6 c7 c8 satp c10 c11 pr how va x nn, ?_, ?_⟩
    · simp only [pT, pU, hask, hq, qn, q0, o0, Bool.and_self, Bool.cond_self, cond_true, cond_false]
      try rfl
    · have e0 : ldI (memB pg A X n) (szN pg) satp st pr va 1 = some 0 := by unfold ldI; simp only [show ixs 1 = [0] from rfl, firstL, g0, cond_true, cond_false]
      have e1 : ldF (memB pg A X n) (szN pg) satp st pr va 1 = true := by unfold ldF; rw [e0]
      have e2 : ldX (memB pg A X n) (szN pg) satp st pr va 1 = 0 := by unfold ldX; rw [e0]
      have e3 : ldC (memB pg A X n) (szN pg) satp st pr va 1 = ldC (memB pg A X n) (szN pg) satp st pr (litBin .add .u64 va 0) 1 := by rw [one_C (inU.add _ _) g0]; unfold ldC; rw [e0]
      have e4 : ldV (memB pg A X n) (szN pg) satp st pr va 1 = ldV (memB pg A X n) (szN pg) satp st pr (litBin .add .u64 va 0) 1 := by rw [one_V (inU.add _ _) g0]; unfold ldV; rw [e0]
      unfold v1_0
      rw [e1, e2, e3, e4, eql_self]
      simp only [neq_eq, decide_true, Bool.not_true, cond_true, cond_false]
  rw [g0] at o0
  refine ⟨_, _, _, road1_1 pg n A X kind st c1 c2 c3 c4 c5 c6 c7 c8 satp c10 c11 pr how va x nn, ?_, ?_⟩
  · simp only [pT, pU, hask, hq, qn, q0, o0, Bool.and_self, Bool.cond_self, cond_true, cond_false]
    try rfl
  · have e0 : ldI (memB pg A X n) (szN pg) satp st pr va 1 = none := by unfold ldI; simp only [show ixs 1 = [0] from rfl, firstL, g0, cond_true, cond_false]
    have e1 : ldF (memB pg A X n) (szN pg) satp st pr va 1 = false := by unfold ldF; rw [e0]
    have e2 : ldX (memB pg A X n) (szN pg) satp st pr va 1 = orL (ldB (memB pg A X n) (szN pg) satp st pr va) 0 (ixs 1) := by unfold ldX; rw [e0]
    have hs := sum_eq (satp := satp) (st := st) (pr := pr) (va := va) hm 1 (by omega)
    unfold v1_1
    rw [e1, e2]
    have x0 : ldX (memB pg A X n) (szN pg) satp st pr (litBin .add .u64 va 0) 1 = ldB (memB pg A X n) (szN pg) satp st pr va 0 := one_X hm (inU.add _ _) g0
    rw [x0]
    exact decide_eq_true hs
theorem law2 {pg : Int} {n : Nat} {A X : Nat → Int} {kind st c1 c2 c3 c4 c5 c6 c7 c8 satp c10 c11 pr how va x nn : Int} (hpg : 0 ≤ pg ∧ pg < 256) (hX : ∀ j, j < n → inU (X j)) (hst : inU st) (hsatp : inU satp) (hva : inU va) (wnn : 0 ≤ nn ∧ nn < 256) (hnn : sizeS nn = 2) :
    ∃ (ds cs : List Bool) (v : Bool), ((call Try.prog (cxL 2) 400 17 [.agg [.int .u8 (.sym pg), .slice 0 (.lit 0) (.rc n 1 0) .any], .agg [(.int .u8 (.sym kind)), (.int .u64 (.sym st)), (.int .u64 (.sym c1)), (.int .u64 (.sym c2)), (.int .u64 (.sym c3)), (.int .u64 (.sym c4)), (.int .u64 (.sym c5)), (.int .u64 (.sym c6)), (.int .u64 (.sym c7)), (.int .u64 (.sym c8)), (.int .u64 (.sym satp)), (.int .u64 (.sym c10)), (.int .u64 (.sym c11)), (.int .i64 (.sym pr)), (.int .i64 (.sym how)), (.int .u64 (.sym va)), (.int .u64 (.sym x)), (.int .u8 (.sym nn))]] [.rows 0 n [(.int .u32, A), (.int .u64, X)]]).route ds).map (fun p => (p.1, p.2.1)) = some (cs, .val (.bool (.sym v))) ∧ cs = ds ∧ v = true := by
  have hm : MemOk (szN pg) (memB pg A X n) := memB_ok hpg
  have hN : ((szN pg : Nat) : Int) % 8 = 0 := by
    rw [(szN_eq hpg).1]
    omega
  have hq : szq 2 nn = true := szq_of wnn hnn
  have pT : (!(cond (litCmp .lss (pgs pg) 1) true (litCmp .gtr (pgs pg) 16))) = true := by
    have := (pgT_f hpg).1
    unfold pgT at this
    rw [this]
    rfl
  have pU : decide (0 ≤ (litBin .mul .i64 (pgs pg) 4096) ∧ (litBin .mul .i64 (pgs pg) 4096) < ((16777216 : Nat) : Int)) = true := (pgT_f hpg).2
  have hask : Both73.ask ⟨[0, pg, kind, st, c1, c2, c3, c4, c5, c6, c7, c8, satp, c10, c11, pr, how, va, x, nn, pg], [], [n, n, n, szN pg, szN pg, szN pg, szN pg, szN pg, szN pg], [A, X, (fun _ => 0), (fun _ => 0)]⟩ = true :=
    yes_of ⟨pg, kind, st, c1, c2, c3, c4, c5, c6, c7, c8, satp, c10, c11, pr, how, va, x, nn, n, szN pg, 0, A, X, fun _ => 0, rfl, rfl, MemOk.zero (szN_eq hpg).2, hX, by omega, by omega⟩
  have qn : askL (szN pg) (szN pg) (szN pg) (memB pg A X n) satp st va 2 = true := yes_of ⟨⟨rfl, rfl, hm, hN⟩, hsatp, hst, hva, rfl⟩
  have q0 : askL (szN pg) (szN pg) (szN pg) (memB pg A X n) satp st (litBin .add .u64 va 0) 1 = true := yes_of ⟨⟨rfl, rfl, hm, hN⟩, hsatp, hst, inU.add _ _, rfl⟩
  have o0 : ldF (memB pg A X n) (szN pg) satp st pr (litBin .add .u64 va 0) 1 = ldA (memB pg A X n) (szN pg) satp st pr va 0 := one_F (inU.add _ _)
  have q1 : askL (szN pg) (szN pg) (szN pg) (memB pg A X n) satp st (litBin .add .u64 va 1) 1 = true := yes_of ⟨⟨rfl, rfl, hm, hN⟩, hsatp, hst, inU.add _ _, rfl⟩
  have o1 : ldF (memB pg A X n) (szN pg) satp st pr (litBin .add .u64 va 1) 1 = ldA (memB pg A X n) (szN pg) satp st pr va 1 := one_F (inU.add _ _)
  cases g0 : ldA (memB pg A X n) (szN pg) satp st pr va 0
  rotate_left
  · rw [g0] at o0
    refine ⟨_, _, _, road2_0 pg n A X kind st c1 c2 c3 c4 c5 c6 c7 c8 satp c10 c11 pr how va x nn, ?_, ?_⟩
    · simp only [pT, pU, hask, hq, qn, q0, o0, Bool.and_self, Bool.cond_self, cond_true, cond_false]
      try rfl
    · have e0 : ldI (memB pg A X n) (szN pg) satp st pr va 2 = some 0 := by unfold ldI; simp only [show ixs 2 = [0, 1] from rfl, firstL, g0, cond_true, cond_false]
      have e1 : ldF (memB pg A X n) (szN pg) satp st pr va 2 = true := by unfold ldF; rw [e0]
      have e2 : ldX (memB pg A X n) (szN pg) satp st pr va 2 = 0 := by unfold ldX; rw [e0]
      have e3 : ldC (memB pg A X n) (szN pg) satp st pr va 2 = ldC (memB pg A X n) (szN pg) satp st pr (litBin .add .u64 va 0) 1 := by rw [one_C (inU.add _ _) g0]; unfold ldC; rw [e0]
      have e4 : ldV (memB pg A X n) (szN pg) satp st pr va 2 = ldV (memB pg A X n) (szN pg) satp st pr (litBin .add .u64 va 0) 1 := by rw [one_V (inU.add _ _) g0]; unfold ldV; rw [e0]
      unfold v2_0
      rw [e1, e2, e3, e4, eql_self]
      simp only [neq_eq, decide_true, Bool.not_true, cond_true, cond_false]
  rw [g0] at o0
  cases g1 : ldA (memB pg A X n) (szN pg) satp st pr va 1
  rotate_left
  · rw [g1] at o1
    refine ⟨_, _, _, road2_1 pg n A X kind st c1 c2 c3 c4 c5 c6 c7 c8 satp c10 c11 pr how va x nn, ?_, ?_⟩
    · simp only [pT, pU, hask, hq, qn, q0, q1, o0, o1, Bool.and_self, Bool.cond_self, cond_true, cond_false]
      try rfl
    · have e0 : ldI (memB pg A X n) (szN pg) satp st pr va 2 = some 1 := by unfold ldI; simp only [show ixs 2 = [0, 1] from rfl, firstL, g0, g1, cond_true, cond_false]
      have e1 : ldF (memB pg A X n) (szN pg) satp st pr va 2 = true := by unfold ldF; rw [e0]
      have e2 : ldX (memB pg A X n) (szN pg) satp st pr va 2 = 0 := by unfold ldX; rw [e0]
      have e3 : ldC (memB pg A X n) (szN pg) satp st pr va 2 = ldC (memB pg A X n) (szN pg) satp st pr (litBin .add .u64 va 1) 1 := by rw [one_C (inU.add _ _) g1]; unfold ldC; rw [e0]
      have e4 : ldV (memB pg A X n) (szN pg) satp st pr va 2 = ldV (memB pg A X n) (szN pg) satp st pr (litBin .add .u64 va 1) 1 := by rw [one_V (inU.add _ _) g1]; unfold ldV; rw [e0]
      unfold v2_1
      rw [e1, e2, e3, e4, eql_self]
      simp only [neq_eq, decide_true, Bool.not_true, cond_true, cond_false]
  rw [g1] at o1
  refine ⟨_, _, _, road2_2 pg n A X kind st c1 c2 c3 c4 c5 c6 c7 c8 satp c10 c11 pr how va x nn, ?_, ?_⟩
  · simp only [pT, pU, hask, hq, qn, q0, q1, o0, o1, Bool.and_self, Bool.cond_self, cond_true, cond_false]
    try rfl
  · have e0 : ldI (memB pg A X n) (szN pg) satp st pr va 2 = none := by unfold ldI; simp only [show ixs 2 = [0, 1] from rfl, firstL, g0, g1, cond_true, cond_false]
    have e1 : ldF (memB pg A X n) (szN pg) satp st pr va 2 = false := by unfold ldF; rw [e0]
    have e2 : ldX (memB pg A X n) (szN pg) satp st pr va 2 = orL (ldB (memB pg A X n) (szN pg) satp st pr va) 0 (ixs 2) := by unfold ldX; rw [e0]
    have hs := sum_eq (satp := satp) (st := st) (pr := pr) (va := va) hm 2 (by omega)
    unfold v2_2
    rw [e1, e2]
    have x0 : ldX (memB pg A X n) (szN pg) satp st pr (litBin .add .u64 va 0) 1 = ldB (memB pg A X n) (szN pg) satp st pr va 0 := one_X hm (inU.add _ _) g0
    have x1 : ldX (memB pg A X n) (szN pg) satp st pr (litBin .add .u64 va 1) 1 = ldB (memB pg A X n) (szN pg) satp st pr va 1 := one_X hm (inU.add _ _) g1
    rw [x0, x1]
    exact decide_eq_true hs
theorem law4 {pg : Int} {n : Nat} {A X : Nat → Int} {kind st c1 c2 c3 c4 c5 c6 c7 c8 satp c10 c11 pr how va x nn : Int} (hpg : 0 ≤ pg ∧ pg < 256) (hX : ∀ j, j < n → inU (X j)) (hst : inU st) (hsatp : inU satp) (hva : inU va) (wnn : 0 ≤ nn ∧ nn < 256) (hnn : sizeS nn = 4) :
    ∃ (ds cs : List Bool) (v : Bool), ((call Try.prog (cxL 4) 400 17 [.agg [.int .u8 (.sym pg), .slice 0 (.lit 0) (.rc n 1 0) .any], .agg [(.int .u8 (.sym kind)), (.int .u64 (.sym st)), (.int .u64 (.sym c1)), (.int .u64 (.sym c2)), (.int .u64 (.sym c3)), (.int .u64 (.sym c4)), (.int .u64 (.sym c5)), (.int .u64 (.sym c6)), (.int .u64 (.sym c7)), (.int .u64 (.sym c8)), (.int .u64 (.sym satp)), (.int .u64 (.sym c10)), (.int .u64 (.sym c11)), (.int .i64 (.sym pr)), (.int .i64 (.sym how)), (.int .u64 (.sym va)), (.int .u64 (.sym x)), (.int .u8 (.sym nn))]] [.rows 0 n [(.int .u32, A), (.int .u64, X)]]).route ds).map (fun p => (p.1, p.2.1)) = some (cs, .val (.bool (.sym v))) ∧ cs = ds ∧ v = true := by
  have hm : MemOk (szN pg) (memB pg A X n) := memB_ok hpg
  have hN : ((szN pg : Nat) : Int) % 8 = 0 := by
    rw [(szN_eq hpg).1]
    omega
  have hq : szq 4 nn = true := szq_of wnn hnn
  have pT : (!(cond (litCmp .lss (pgs pg) 1) true (litCmp .gtr (pgs pg) 16))) = true := by
    have := (pgT_f hpg).1
    unfold pgT at this
    rw [this]
    rfl
  have pU : decide (0 ≤ (litBin .mul .i64 (pgs pg) 4096) ∧ (litBin .mul .i64 (pgs pg) 4096) < ((16777216 : Nat) : Int)) = true := (pgT_f hpg).2
  have hask : Both73.ask ⟨[0, pg, kind, st, c1, c2, c3, c4, c5, c6, c7, c8, satp, c10, c11, pr, how, va, x, nn, pg], [], [n, n, n, szN pg, szN pg, szN pg, szN pg, szN pg, szN pg], [A, X, (fun _ => 0), (fun _ => 0)]⟩ = true :=
    yes_of ⟨pg, kind, st, c1, c2, c3, c4, c5, c6, c7, c8, satp, c10, c11, pr, how, va, x, nn, n, szN pg, 0, A, X, fun _ => 0, rfl, rfl, MemOk.zero (szN_eq hpg).2, hX, by omega, by omega⟩
  have qn : askL (szN pg) (szN pg) (szN pg) (memB pg A X n) satp st va 4 = true := yes_of ⟨⟨rfl, rfl, hm, hN⟩, hsatp, hst, hva, rfl⟩
  have q0 : askL (szN pg) (szN pg) (szN pg) (memB pg A X n) satp st (litBin .add .u64 va 0) 1 = true := yes_of ⟨⟨rfl, rfl, hm, hN⟩, hsatp, hst, inU.add _ _, rfl⟩
  have o0 : ldF (memB pg A X n) (szN pg) satp st pr (litBin .add .u64 va 0) 1 = ldA (memB pg A X n) (szN pg) satp st pr va 0 := one_F (inU.add _ _)
  have q1 : askL (szN pg) (szN pg) (szN pg) (memB pg A X n) satp st (litBin .add .u64 va 1) 1 = true := yes_of ⟨⟨rfl, rfl, hm, hN⟩, hsatp, hst, inU.add _ _, rfl⟩
  have o1 : ldF (memB pg A X n) (szN pg) satp st pr (litBin .add .u64 va 1) 1 = ldA (memB pg A X n) (szN pg) satp st pr va 1 := one_F (inU.add _ _)
  have q2 : askL (szN pg) (szN pg) (szN pg) (memB pg A X n) satp st (litBin .add .u64 va 2) 1 = true := yes_of ⟨⟨rfl, rfl, hm, hN⟩, hsatp, hst, inU.add _ _, rfl⟩
  have o2 : ldF (memB pg A X n) (szN pg) satp st pr (litBin .add .u64 va 2) 1 = ldA (memB pg A X n) (szN pg) satp st pr va 2 := one_F (inU.add _ _)
  have q3 : askL (szN pg) (szN pg) (szN pg) (memB pg A X n) satp st (litBin .add .u64 va 3) 1 = true := yes_of ⟨⟨rfl, rfl, hm, hN⟩, hsatp, hst, inU.add _ _, rfl⟩
  have o3 : ldF (memB pg A X n) (szN pg) satp st pr (litBin .add .u64 va 3) 1 = ldA (memB pg A X n) (szN pg) satp st pr va 3 := one_F (inU.add _ _)
  cases g0 : ldA (memB pg A X n) (szN pg) satp st pr va 0
  rotate_left
  · rw [g0] at o0
    refine ⟨_, _, _, road4_0 pg n A X kind st c1 c2 c3 c4 c5 c6 c7 c8 satp c10 c11 pr how va x nn, ?_, ?_⟩
    · simp only [pT, pU, hask, hq, qn, q0, o0, Bool.and_self, Bool.cond_self, cond_true, cond_false]
      try rfl
    · have e0 : ldI (memB pg A X n) (szN pg) satp st pr va 4 = some 0 := by unfold ldI; simp only [show ixs 4 = [0, 1, 2, 3] from rfl, firstL, g0, cond_true, cond_false]
      have e1 : ldF (memB pg A X n) (szN pg) satp st pr va 4 = true := by unfold ldF; rw [e0]
      have e2 : ldX (memB pg A X n) (szN pg) satp st pr va 4 = 0 := by unfold ldX; rw [e0]
      have e3 : ldC (memB pg A X n) (szN pg) satp st pr va 4 = ldC (memB pg A X n) (szN pg) satp st pr (litBin .add .u64 va 0) 1 := by rw [one_C (inU.add _ _) g0]; unfold ldC; rw [e0]
      have e4 : ldV (memB pg A X n) (szN pg) satp st pr va 4 = ldV (memB pg A X n) (szN pg) satp st pr (litBin .add .u64 va 0) 1 := by rw [one_V (inU.add _ _) g0]; unfold ldV; rw [e0]
      unfold v4_0
      rw [e1, e2, e3, e4, eql_self]
      simp only [neq_eq, decide_true, Bool.not_true, cond_true, cond_false]
  rw [g0] at o0
  cases g1 : ldA (memB pg A X n) (szN pg) satp st pr va 1
  rotate_left
  · rw [g1] at o1
    refine ⟨_, _, _, road4_1 pg n A X kind st c1 c2 c3 c4 c5 c6 c7 c8 satp c10 c11 pr how va x nn, ?_, ?_⟩
    · simp only [pT, pU, hask, hq, qn, q0, q1, o0, o1, Bool.and_self, Bool.cond_self, cond_true, cond_false]
      try rfl
    · have e0 : ldI (memB pg A X n) (szN pg) satp st pr va 4 = some 1 := by unfold ldI; simp only [show ixs 4 = [0, 1, 2, 3] from rfl, firstL, g0, g1, cond_true, cond_false]
      have e1 : ldF (memB pg A X n) (szN pg) satp st pr va 4 = true := by unfold ldF; rw [e0]
      have e2 : ldX (memB pg A X n) (szN pg) satp st pr va 4 = 0 := by unfold ldX; rw [e0]
      have e3 : ldC (memB pg A X n) (szN pg) satp st pr va 4 = ldC (memB pg A X n) (szN pg) satp st pr (litBin .add .u64 va 1) 1 := by rw [one_C (inU.add _ _) g1]; unfold ldC; rw [e0]
      have e4 : ldV (memB pg A X n) (szN pg) satp st pr va 4 = ldV (memB pg A X n) (szN pg) satp st pr (litBin .add .u64 va 1) 1 := by rw [one_V (inU.add _ _) g1]; unfold ldV; rw [e0]
      unfold v4_1
      rw [e1, e2, e3, e4, eql_self]
      simp only [neq_eq, decide_true, Bool.not_true, cond_true, cond_false]
  rw [g1] at o1
  cases g2 : ldA (memB pg A X n) (szN pg) satp st pr va 2
  rotate_left
  · rw [g2] at o2
    refine ⟨_, _, _, road4_2 pg n A X kind st c1 c2 c3 c4 c5 c6 c7 c8 satp c10 c11 pr how va x nn, ?_, ?_⟩
    · simp only [pT, pU, hask, hq, qn, q0, q1, q2, o0, o1, o2, Bool.and_self, Bool.cond_self, cond_true, cond_false]
      try rfl
    · have e0 : ldI (memB pg A X n) (szN pg) satp st pr va 4 = some 2 := by unfold ldI; simp only [show ixs 4 = [0, 1, 2, 3] from rfl, firstL, g0, g1, g2, cond_true, cond_false]
      have e1 : ldF (memB pg A X n) (szN pg) satp st pr va 4 = true := by unfold ldF; rw [e0]
      have e2 : ldX (memB pg A X n) (szN pg) satp st pr va 4 = 0 := by unfold ldX; rw [e0]
      have e3 : ldC (memB pg A X n) (szN pg) satp st pr va 4 = ldC (memB pg A X n) (szN pg) satp st pr (litBin .add .u64 va 2) 1 := by rw [one_C (inU.add _ _) g2]; unfold ldC; rw [e0]
      have e4 : ldV (memB pg A X n) (szN pg) satp st pr va 4 = ldV (memB pg A X n) (szN pg) satp st pr (litBin .add .u64 va 2) 1 := by rw [one_V (inU.add _ _) g2]; unfold ldV; rw [e0]
      unfold v4_2
      rw [e1, e2, e3, e4, eql_self]
      simp only [neq_eq, decide_true, Bool.not_true, cond_true, cond_false]
  rw [g2] at o2
  cases g3 : ldA (memB pg A X n) (szN pg) satp st pr va 3
  rotate_left
  · rw [g3] at o3
    refine ⟨_, _, _, road4_3 pg n A X kind st c1 c2 c3 c4 c5 c6 c7 c8 satp c10 c11 pr how va x nn, ?_, ?_⟩
    · simp only [pT, pU, hask, hq, qn, q0, q1, q2, q3, o0, o1, o2, o3, Bool.and_self, Bool.cond_self, cond_true, cond_false]
      try rfl
    · have e0 : ldI (memB pg A X n) (szN pg) satp st pr va 4 = some 3 := by unfold ldI; simp only [show ixs 4 = [0, 1, 2, 3] from rfl, firstL, g0, g1, g2, g3, cond_true, cond_false]
      have e1 : ldF (memB pg A X n) (szN pg) satp st pr va 4 = true := by unfold ldF; rw [e0]
      have e2 : ldX (memB pg A X n) (szN pg) satp st pr va 4 = 0 := by unfold ldX; rw [e0]
      have e3 : ldC (memB pg A X n) (szN pg) satp st pr va 4 = ldC (memB pg A X n) (szN pg) satp st pr (litBin .add .u64 va 3) 1 := by rw [one_C (inU.add _ _) g3]; unfold ldC; rw [e0]
      have e4 : ldV (memB pg A X n) (szN pg) satp st pr va 4 = ldV (memB pg A X n) (szN pg) satp st pr (litBin .add .u64 va 3) 1 := by rw [one_V (inU.add _ _) g3]; unfold ldV; rw [e0]
      unfold v4_3
      rw [e1, e2, e3, e4, eql_self]
      simp only [neq_eq, decide_true, Bool.not_true, cond_true, cond_false]
  rw [g3] at o3
  refine ⟨_, _, _, road4_4 pg n A X kind st c1 c2 c3 c4 c5 c6 c7 c8 satp c10 c11 pr how va x nn, ?_, ?_⟩
  · simp only [pT, pU, hask, hq, qn, q0, q1, q2, q3, o0, o1, o2, o3, Bool.and_self, Bool.cond_self, cond_true, cond_false]
    try rfl
  · have e0 : ldI (memB pg A X n) (szN pg) satp st pr va 4 = none := by unfold ldI; simp only [show ixs 4 = [0, 1, 2, 3] from rfl, firstL, g0, g1, g2, g3, cond_true, cond_false]
    have e1 : ldF (memB pg A X n) (szN pg) satp st pr va 4 = false := by unfold ldF; rw [e0]
    have e2 : ldX (memB pg A X n) (szN pg) satp st pr va 4 = orL (ldB (memB pg A X n) (szN pg) satp st pr va) 0 (ixs 4) := by unfold ldX; rw [e0]
    have hs := sum_eq (satp := satp) (st := st) (pr := pr) (va := va) hm 4 (by omega)
    unfold v4_4
    rw [e1, e2]
    have x0 : ldX (memB pg A X n) (szN pg) satp st pr (litBin .add .u64 va 0) 1 = ldB (memB pg A X n) (szN pg) satp st pr va 0 := one_X hm (inU.add _ _) g0
    have x1 : ldX (memB pg A X n) (szN pg) satp st pr (litBin .add .u64 va 1) 1 = ldB (memB pg A X n) (szN pg) satp st pr va 1 := one_X hm (inU.add _ _) g1
    have x2 : ldX (memB pg A X n) (szN pg) satp st pr (litBin .add .u64 va 2) 1 = ldB (memB pg A X n) (szN pg) satp st pr va 2 := one_X hm (inU.add _ _) g2
    have x3 : ldX (memB pg A X n) (szN pg) satp st pr (litBin .add .u64 va 3) 1 = ldB (memB pg A X n) (szN pg) satp st pr va 3 := one_X hm (inU.add _ _) g3
    rw [x0, x1, x2, x3]
    exact decide_eq_true hs

theorem run : ∀ xs h, Abs [.duo [.int .u8] [.int .u32, .int .u64], .plain (.agg [.int .u8, .int .u64, .int .u64, .int .u64, .int .u64, .int .u64, .int .u64, .int .u64, .int .u64, .int .u64, .int .u64, .int .u64, .int .u64, .int .i64, .int .i64, .int .u64, .int .u64, .int .u8])] 0 xs h → ∃ (X : Cx DC) (n : Nat) (b : AB DC) (l : List (W DC)), Ok Try.prog X ∧ (call Try.prog X n 17 xs h).pick = some (.val (.bool b), l) ∧ b.den = true := by
  rintro xs h ⟨cs, n, fs, as0, h0, rfl, rfl, ⟨_, _, rfl, ⟨pg, rfl, wpg⟩, rfl⟩, hrow, ⟨_, as1, rfl, ⟨_, rfl, ⟨_, _, rfl, ⟨kind, rfl, wkind⟩, ⟨_, _, rfl, ⟨st, rfl, wst⟩, ⟨_, _, rfl, ⟨c1, rfl, wc1⟩, ⟨_, _, rfl, ⟨c2, rfl, wc2⟩, ⟨_, _, rfl, ⟨c3, rfl, wc3⟩, ⟨_, _, rfl, ⟨c4, rfl, wc4⟩, ⟨_, _, rfl, ⟨c5, rfl, wc5⟩, ⟨_, _, rfl, ⟨c6, rfl, wc6⟩, ⟨_, _, rfl, ⟨c7, rfl, wc7⟩, ⟨_, _, rfl, ⟨c8, rfl, wc8⟩, ⟨_, _, rfl, ⟨satp, rfl, wsatp⟩, ⟨_, _, rfl, ⟨c10, rfl, wc10⟩, ⟨_, _, rfl, ⟨c11, rfl, wc11⟩, ⟨_, _, rfl, ⟨pr, rfl, wpr⟩, ⟨_, _, rfl, ⟨how, rfl, whow⟩, ⟨_, _, rfl, ⟨va, rfl, wva⟩, ⟨_, _, rfl, ⟨x, rfl, wx⟩, ⟨_, _, rfl, ⟨nn, rfl, wnn⟩, rfl⟩⟩⟩⟩⟩⟩⟩⟩⟩⟩⟩⟩⟩⟩⟩⟩⟩⟩⟩, rfl, rfl⟩⟩
  obtain ⟨hn, hlen, hF⟩ := hrow
  match fs, hlen with
  | [A, X], _ =>
    rcases size_cases (wf8 wnn) with hz | hz | hz | hz
    · obtain ⟨ds, cs, v, hr, hcs, hv⟩ := law1 (n := n) (A := A) (X := X) (kind := kind) (st := st) (c1 := c1) (c2 := c2) (c3 := c3) (c4 := c4) (c5 := c5) (c6 := c6) (c7 := c7) (c8 := c8) (satp := satp) (c10 := c10) (c11 := c11) (pr := pr) (how := how) (va := va) (x := x) (nn := nn) (wf8 wpg) (fun j hj => inU_wf (hF 1 .u64 X rfl rfl j hj)) (inU_wf wst) (inU_wf wsatp) (inU_wf wva) (wf8 wnn) hz
      exact (road_at hr hcs).elim fun l hl => ⟨cxL 1, 400, .sym _, l, cxL_ok 1, hl, hv⟩
    · obtain ⟨ds, cs, v, hr, hcs, hv⟩ := law2 (n := n) (A := A) (X := X) (kind := kind) (st := st) (c1 := c1) (c2 := c2) (c3 := c3) (c4 := c4) (c5 := c5) (c6 := c6) (c7 := c7) (c8 := c8) (satp := satp) (c10 := c10) (c11 := c11) (pr := pr) (how := how) (va := va) (x := x) (nn := nn) (wf8 wpg) (fun j hj => inU_wf (hF 1 .u64 X rfl rfl j hj)) (inU_wf wst) (inU_wf wsatp) (inU_wf wva) (wf8 wnn) hz
      exact (road_at hr hcs).elim fun l hl => ⟨cxL 2, 400, .sym _, l, cxL_ok 2, hl, hv⟩
    · obtain ⟨ds, cs, v, hr, hcs, hv⟩ := law4 (n := n) (A := A) (X := X) (kind := kind) (st := st) (c1 := c1) (c2 := c2) (c3 := c3) (c4 := c4) (c5 := c5) (c6 := c6) (c7 := c7) (c8 := c8) (satp := satp) (c10 := c10) (c11 := c11) (pr := pr) (how := how) (va := va) (x := x) (nn := nn) (wf8 wpg) (fun j hj => inU_wf (hF 1 .u64 X rfl rfl j hj)) (inU_wf wst) (inU_wf wsatp) (inU_wf wva) (wf8 wnn) hz
      exact (road_at hr hcs).elim fun l hl => ⟨cxL 4, 400, .sym _, l, cxL_ok 4, hl, hv⟩
    · obtain ⟨ds, cs, v, hr, hcs, hv⟩ := law8 (n := n) (A := A) (X := X) (kind := kind) (st := st) (c1 := c1) (c2 := c2) (c3 := c3) (c4 := c4) (c5 := c5) (c6 := c6) (c7 := c7) (c8 := c8) (satp := satp) (c10 := c10) (c11 := c11) (pr := pr) (how := how) (va := va) (x := x) (nn := nn) (wf8 wpg) (fun j hj => inU_wf (hF 1 .u64 X rfl rfl j hj)) (inU_wf wst) (inU_wf wsatp) (inU_wf wva) (wf8 wnn) hz
      exact (road_at hr hcs).elim fun l hl => ⟨cxL 8, 400, .sym _, l, cxL_ok 8, hl, hv⟩

set_option maxRecDepth 100000 in
theorem lifted (os : Os) (started : os.Started) (H : Type) (enc : TypeId × Value → H) :
    ReturnsInHanded {} Try.checked os 17 .any (Rows.spaceBytesSpec.pre6 enc Try.prog Try.f17 Rows.spaceBytesRow.domain false) (Rows.spaceBytesSpec.post enc Try.prog Try.f17 false true false false) := by
  refine returnsInHanded_of_change (C := Try.checked) own started (by kernel_rfl) Try.func17
    (ChangeSpec.witness6 (enc := enc) (C := Try.checked) false ⟨#[], #[.agg #[.int .u8 0, .slice none 0 0], .agg #[.int .u8 0, .int .u64 0, .int .u64 0, .int .u64 0, .int .u64 0, .int .u64 0, .int .u64 0, .int .u64 0, .int .u64 0, .int .u64 0, .int .u64 0, .int .u64 0, .int .u64 0, .int .i64 0, .int .i64 0, .int .u64 0, .int .u64 0, .int .u8 0]], []⟩ 8 (by kernel_rfl) (by kernel_rfl) (by kernel_rfl) (by kernel_rfl)) ?_
  intro W base args ds gs before hval hW _ _
  exact lifted_cases (P := Try.prog) (f := 17) (fn := Try.f17) (s := Rows.spaceBytesSpec) rfl
    (fun ds h => by
      match ds, h with
      | [d1, d2], _ => rfl)
    (by kernel_rfl) rfl (by kernel_rfl) (by kernel_rfl) (by kernel_rfl) run W base args ds gs before hval hW
theorem closed : joinedFacts Try.prog 17 Try.f17 Rows.spaceBytesSpec Rows.spaceBytesRow = true := by
  unfold joinedFacts
  rw [may_enter, lifts_final, make_cut]
  repeat' (with_reducible refine Bool.and_eq_true_iff.mpr ⟨?_, ?_⟩)
  all_goals kernel_rfl

theorem over : Rows.spaceBytesRow.holds Try.pinned (OpenSpec.ofChange Rows.spaceBytesSpec) :=
  OpenClaim.holds_of_wide 17 Try.f17 rfl rfl rfl rfl rfl rfl rfl ⟨rfl, rfl, rfl, rfl, rfl⟩ rfl rfl rfl rfl rfl (by kernel_rfl) Try.func17 closed
    (of_decide_eq_true (by kernel_rfl)) (by unfold Func.isWrapper; first | (rw [if_pos (by decide +kernel)]; kernel_rfl) | (rw [if_neg (by decide +kernel)]; exact ⟨rfl, rfl⟩))
    (fun os started H enc _ => lifted os started H enc)

/-- The statement. -/
theorem proved : Rows.SpaceBytesSaid :=
  over
#print axioms proved
end Go.Proofs.Ytngcbpcfgolifaa.SpaceBytes
