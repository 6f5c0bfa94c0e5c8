/- The statement 'SpaceBytes' at eight bytes: a load is what loads of its bytes are, and it faults where the first of these does that is not let. Conditions: none. -/
import Derived.Test.YtngcbpcfgolifaaSpcLoad
namespace Go.Proofs.Ytngcbpcfgolifaa.SpaceBytes
open Go.RowKit Go.WideShapes Go.ChangeShapes Go.ChangeAt Ev
set_option linter.unusedVariables false
set_option linter.unusedSimpArgs false

noncomputable def cxL (k : Int) : Cx DC := (Both73.X.sum 74 (gSize k)).sum 75 gLoad
theorem cxL_ok (k : Int) : Ok Try.prog (cxL k) := (Both73.X_ok.sum (by kernel_rfl) fun args h t r ht hp => gSize_ok ht hp).sum (by kernel_rfl) fun args h t r ht hp => gLoad_ok ht hp
section
variable {F : Nat → Int} {N : Nat} {satp st pr va i : Int}
theorem one_I (h : inU va) : ldI F N satp st pr va 1 = cond (sF F N N satp st pr 1 va 1) (some 0) none := by
  show cond (ldA F N satp st pr va 0) (some 0) none = _
  unfold ldA
  rw [add0 h]
theorem one_F (h : inU va) : ldF F N satp st pr va 1 = sF F N N satp st pr 1 va 1 := by
  unfold ldF
  rw [one_I h]
  cases sF F N N satp st pr 1 va 1 <;> rfl
theorem one_C (h : inU va) (hf : sF F N N satp st pr 1 va 1 = true) : ldC F N satp st pr va 1 = sC F N N satp st pr 1 va 1 := by
  unfold ldC
  rw [one_I h, hf]
  show sC F N N satp st pr 1 (litBin .add .u64 va 0) 1 = _
  rw [add0 h]
theorem one_V (h : inU va) (hf : sF F N N satp st pr 1 va 1 = true) : ldV F N satp st pr va 1 = va := by
  unfold ldV
  rw [one_I h, hf]
  show litBin .add .u64 va 0 = _
  rw [add0 h]
theorem or0 {b : Int} (h : 0 ≤ b ∧ b < 256) : litBin .or .u64 0 (litBin .shl .u64 b 0) = b := by
  obtain ⟨c, rfl⟩ : ∃ c : Nat, b = (c : Int) := ⟨b.toNat, by omega⟩
  have ho := or_step (a := 0) (c := c) (k := 0) (by omega) (by decide) (by omega)
  rw [Ev.wrap64, show ((c : Int) % 18446744073709551616) = (c : Int) by omega] at ho
  simpa using ho
theorem one_X (hm : MemOk N F) (h : inU va) (hf : sF F N N satp st pr 1 va 1 = false) : ldX F N satp st pr va 1 = getS F N (sT F N N satp st pr 1 va 1) 1 := by
  unfold ldX
  rw [one_I h, hf]
  show litBin .or .u64 0 (litBin .shl .u64 (ldB F N satp st pr va 0) (8 * 0)) = _
  have e : ldB F N satp st pr va 0 = getS F N (sT F N N satp st pr 1 va 1) 1 := by unfold ldB; rw [add0 h]
  rw [e]
  exact or0 (Page.byte_bd hm (Page.sT_inU hm h))
theorem sum_eq (hm : MemOk N F) (k : Nat) (hk : k ≤ 8) : Page.orN (fun j => ldB F N satp st pr va (j : Int)) k = Page.addN (fun j => ldB F N satp st pr va (j : Int)) k :=
  Page.or_add (fun j _ => Page.byte_bd hm (Page.sT_inU hm (inU.add _ _))) hk
end

noncomputable def v8_0 (pg : Int) (n : Nat) (A X : Nat → Int) (kind st c1 c2 c3 c4 c5 c6 c7 c8 satp c10 c11 pr how va x nn : Int) : Bool := (cond (cond (!(ldF (memB pg A X n) (szN pg) satp st pr va 8)) true (cond (litCmp .neq (ldX (memB pg A X n) (szN pg) satp st pr va 8) 0) true (litCmp .neq (ldC (memB pg A X n) (szN pg) satp st pr va 8) (ldC (memB pg A X n) (szN pg) satp st pr (litBin .add .u64 va 0) 1)))) false (cond (litCmp .eql (ldV (memB pg A X n) (szN pg) satp st pr va 8) (ldV (memB pg A X n) (szN pg) satp st pr (litBin .add .u64 va 0) 1)) true (cond (litCmp .eql (litBin .rem .u64 va 8) 0) (litCmp .eql (ldV (memB pg A X n) (szN pg) satp st pr va 8) va) false)))
set_option maxRecDepth 100000 in
theorem road8_0 (pg : Int) (n : Nat) (A X : Nat → Int) (kind st c1 c2 c3 c4 c5 c6 c7 c8 satp c10 c11 pr how va x nn : Int) : ((call Try.prog (cxL 8) 400 17 [.agg [.int .u8 (.sym pg), .slice 0 (.lit 0) (.rc n 1 0) .any], .agg [(.int .u8 (.sym kind)), (.int .u64 (.sym st)), (.int .u64 (.sym c1)), (.int .u64 (.sym c2)), (.int .u64 (.sym c3)), (.int .u64 (.sym c4)), (.int .u64 (.sym c5)), (.int .u64 (.sym c6)), (.int .u64 (.sym c7)), (.int .u64 (.sym c8)), (.int .u64 (.sym satp)), (.int .u64 (.sym c10)), (.int .u64 (.sym c11)), (.int .i64 (.sym pr)), (.int .i64 (.sym how)), (.int .u64 (.sym va)), (.int .u64 (.sym x)), (.int .u8 (.sym nn))]] [.rows 0 n [(.int .u32, A), (.int .u64, X)]]).route [true, true, true, true, true]).map (fun p => (p.1, p.2.1)) = some ([((!(cond (litCmp .lss (pgs pg) 1) true (litCmp .gtr (pgs pg) 16))) && ((decide (0 ≤ (litBin .mul .i64 (pgs pg) 4096) ∧ (litBin .mul .i64 (pgs pg) 4096) < ((16777216 : Nat) : Int))) && ((!(cond (litCmp .lss (pgs pg) 1) true (litCmp .gtr (pgs pg) 16))) && ((decide (0 ≤ (litBin .mul .i64 (pgs pg) 4096) ∧ (litBin .mul .i64 (pgs pg) 4096) < ((16777216 : Nat) : Int))) && (Both73.ask ⟨[0, pg, kind, st, c1, c2, c3, c4, c5, c6, c7, c8, satp, c10, c11, pr, how, va, x, nn, pg], [], [n, n, n, (szN pg), (szN pg), (szN pg), (szN pg), (szN pg), (szN pg)], [A, X, (fun _ => 0), (fun _ => 0)]⟩))))), (szq 8 nn), (askL (szN pg) (szN pg) (szN pg) (memB pg A X n) satp st va 8), (askL (szN pg) (szN pg) (szN pg) (memB pg A X n) satp st (litBin .add .u64 va 0) 1), (ldF (memB pg A X n) (szN pg) satp st pr (litBin .add .u64 va 0) 1)], .val (.bool (.sym (v8_0 pg n A X kind st c1 c2 c3 c4 c5 c6 c7 c8 satp c10 c11 pr how va x nn)))) := by kernel_rfl
noncomputable def v8_1 (pg : Int) (n : Nat) (A X : Nat → Int) (kind st c1 c2 c3 c4 c5 c6 c7 c8 satp c10 c11 pr how va x nn : Int) : Bool := (cond (cond (!(ldF (memB pg A X n) (szN pg) satp st pr va 8)) true (cond (litCmp .neq (ldX (memB pg A X n) (szN pg) satp st pr va 8) 0) true (litCmp .neq (ldC (memB pg A X n) (szN pg) satp st pr va 8) (ldC (memB pg A X n) (szN pg) satp st pr (litBin .add .u64 va 1) 1)))) false (cond (litCmp .eql (ldV (memB pg A X n) (szN pg) satp st pr va 8) (ldV (memB pg A X n) (szN pg) satp st pr (litBin .add .u64 va 1) 1)) true (cond (litCmp .eql (litBin .rem .u64 va 8) 0) (litCmp .eql (ldV (memB pg A X n) (szN pg) satp st pr va 8) va) false)))
set_option maxRecDepth 100000 in
theorem road8_1 (pg : Int) (n : Nat) (A X : Nat → Int) (kind st c1 c2 c3 c4 c5 c6 c7 c8 satp c10 c11 pr how va x nn : Int) : ((call Try.prog (cxL 8) 400 17 [.agg [.int .u8 (.sym pg), .slice 0 (.lit 0) (.rc n 1 0) .any], .agg [(.int .u8 (.sym kind)), (.int .u64 (.sym st)), (.int .u64 (.sym c1)), (.int .u64 (.sym c2)), (.int .u64 (.sym c3)), (.int .u64 (.sym c4)), (.int .u64 (.sym c5)), (.int .u64 (.sym c6)), (.int .u64 (.sym c7)), (.int .u64 (.sym c8)), (.int .u64 (.sym satp)), (.int .u64 (.sym c10)), (.int .u64 (.sym c11)), (.int .i64 (.sym pr)), (.int .i64 (.sym how)), (.int .u64 (.sym va)), (.int .u64 (.sym x)), (.int .u8 (.sym nn))]] [.rows 0 n [(.int .u32, A), (.int .u64, X)]]).route [true, true, true, true, false, true, true]).map (fun p => (p.1, p.2.1)) = some ([((!(cond (litCmp .lss (pgs pg) 1) true (litCmp .gtr (pgs pg) 16))) && ((decide (0 ≤ (litBin .mul .i64 (pgs pg) 4096) ∧ (litBin .mul .i64 (pgs pg) 4096) < ((16777216 : Nat) : Int))) && ((!(cond (litCmp .lss (pgs pg) 1) true (litCmp .gtr (pgs pg) 16))) && ((decide (0 ≤ (litBin .mul .i64 (pgs pg) 4096) ∧ (litBin .mul .i64 (pgs pg) 4096) < ((16777216 : Nat) : Int))) && (Both73.ask ⟨[0, pg, kind, st, c1, c2, c3, c4, c5, c6, c7, c8, satp, c10, c11, pr, how, va, x, nn, pg], [], [n, n, n, (szN pg), (szN pg), (szN pg), (szN pg), (szN pg), (szN pg)], [A, X, (fun _ => 0), (fun _ => 0)]⟩))))), (szq 8 nn), (askL (szN pg) (szN pg) (szN pg) (memB pg A X n) satp st va 8), (askL (szN pg) (szN pg) (szN pg) (memB pg A X n) satp st (litBin .add .u64 va 0) 1), (ldF (memB pg A X n) (szN pg) satp st pr (litBin .add .u64 va 0) 1), (askL (szN pg) (szN pg) (szN pg) (memB pg A X n) satp st (litBin .add .u64 va 1) 1), (ldF (memB pg A X n) (szN pg) satp st pr (litBin .add .u64 va 1) 1)], .val (.bool (.sym (v8_1 pg n A X kind st c1 c2 c3 c4 c5 c6 c7 c8 satp c10 c11 pr how va x nn)))) := by kernel_rfl
noncomputable def v8_2 (pg : Int) (n : Nat) (A X : Nat → Int) (kind st c1 c2 c3 c4 c5 c6 c7 c8 satp c10 c11 pr how va x nn : Int) : Bool := (cond (cond (!(ldF (memB pg A X n) (szN pg) satp st pr va 8)) true (cond (litCmp .neq (ldX (memB pg A X n) (szN pg) satp st pr va 8) 0) true (litCmp .neq (ldC (memB pg A X n) (szN pg) satp st pr va 8) (ldC (memB pg A X n) (szN pg) satp st pr (litBin .add .u64 va 2) 1)))) false (cond (litCmp .eql (ldV (memB pg A X n) (szN pg) satp st pr va 8) (ldV (memB pg A X n) (szN pg) satp st pr (litBin .add .u64 va 2) 1)) true (cond (litCmp .eql (litBin .rem .u64 va 8) 0) (litCmp .eql (ldV (memB pg A X n) (szN pg) satp st pr va 8) va) false)))
set_option maxRecDepth 100000 in
theorem road8_2 (pg : Int) (n : Nat) (A X : Nat → Int) (kind st c1 c2 c3 c4 c5 c6 c7 c8 satp c10 c11 pr how va x nn : Int) : ((call Try.prog (cxL 8) 400 17 [.agg [.int .u8 (.sym pg), .slice 0 (.lit 0) (.rc n 1 0) .any], .agg [(.int .u8 (.sym kind)), (.int .u64 (.sym st)), (.int .u64 (.sym c1)), (.int .u64 (.sym c2)), (.int .u64 (.sym c3)), (.int .u64 (.sym c4)), (.int .u64 (.sym c5)), (.int .u64 (.sym c6)), (.int .u64 (.sym c7)), (.int .u64 (.sym c8)), (.int .u64 (.sym satp)), (.int .u64 (.sym c10)), (.int .u64 (.sym c11)), (.int .i64 (.sym pr)), (.int .i64 (.sym how)), (.int .u64 (.sym va)), (.int .u64 (.sym x)), (.int .u8 (.sym nn))]] [.rows 0 n [(.int .u32, A), (.int .u64, X)]]).route [true, true, true, true, false, true, false, true, true]).map (fun p => (p.1, p.2.1)) = some ([((!(cond (litCmp .lss (pgs pg) 1) true (litCmp .gtr (pgs pg) 16))) && ((decide (0 ≤ (litBin .mul .i64 (pgs pg) 4096) ∧ (litBin .mul .i64 (pgs pg) 4096) < ((16777216 : Nat) : Int))) && ((!(cond (litCmp .lss (pgs pg) 1) true (litCmp .gtr (pgs pg) 16))) && ((decide (0 ≤ (litBin .mul .i64 (pgs pg) 4096) ∧ (litBin .mul .i64 (pgs pg) 4096) < ((16777216 : Nat) : Int))) && (Both73.ask ⟨[0, pg, kind, st, c1, c2, c3, c4, c5, c6, c7, c8, satp, c10, c11, pr, how, va, x, nn, pg], [], [n, n, n, (szN pg), (szN pg), (szN pg), (szN pg), (szN pg), (szN pg)], [A, X, (fun _ => 0), (fun _ => 0)]⟩))))), (szq 8 nn), (askL (szN pg) (szN pg) (szN pg) (memB pg A X n) satp st va 8), (askL (szN pg) (szN pg) (szN pg) (memB pg A X n) satp st (litBin .add .u64 va 0) 1), (ldF (memB pg A X n) (szN pg) satp st pr (litBin .add .u64 va 0) 1), (askL (szN pg) (szN pg) (szN pg) (memB pg A X n) satp st (litBin .add .u64 va 1) 1), (ldF (memB pg A X n) (szN pg) satp st pr (litBin .add .u64 va 1) 1), (askL (szN pg) (szN pg) (szN pg) (memB pg A X n) satp st (litBin .add .u64 va 2) 1), (ldF (memB pg A X n) (szN pg) satp st pr (litBin .add .u64 va 2) 1)], .val (.bool (.sym (v8_2 pg n A X kind st c1 c2 c3 c4 c5 c6 c7 c8 satp c10 c11 pr how va x nn)))) := by kernel_rfl
noncomputable def v8_3 (pg : Int) (n : Nat) (A X : Nat → Int) (kind st c1 c2 c3 c4 c5 c6 c7 c8 satp c10 c11 pr how va x nn : Int) : Bool := (cond (cond (!(ldF (memB pg A X n) (szN pg) satp st pr va 8)) true (cond (litCmp .neq (ldX (memB pg A X n) (szN pg) satp st pr va 8) 0) true (litCmp .neq (ldC (memB pg A X n) (szN pg) satp st pr va 8) (ldC (memB pg A X n) (szN pg) satp st pr (litBin .add .u64 va 3) 1)))) false (cond (litCmp .eql (ldV (memB pg A X n) (szN pg) satp st pr va 8) (ldV (memB pg A X n) (szN pg) satp st pr (litBin .add .u64 va 3) 1)) true (cond (litCmp .eql (litBin .rem .u64 va 8) 0) (litCmp .eql (ldV (memB pg A X n) (szN pg) satp st pr va 8) va) false)))
set_option maxRecDepth 100000 in
theorem road8_3 (pg : Int) (n : Nat) (A X : Nat → Int) (kind st c1 c2 c3 c4 c5 c6 c7 c8 satp c10 c11 pr how va x nn : Int) : ((call Try.prog (cxL 8) 400 17 [.agg [.int .u8 (.sym pg), .slice 0 (.lit 0) (.rc n 1 0) .any], .agg [(.int .u8 (.sym kind)), (.int .u64 (.sym st)), (.int .u64 (.sym c1)), (.int .u64 (.sym c2)), (.int .u64 (.sym c3)), (.int .u64 (.sym c4)), (.int .u64 (.sym c5)), (.int .u64 (.sym c6)), (.int .u64 (.sym c7)), (.int .u64 (.sym c8)), (.int .u64 (.sym satp)), (.int .u64 (.sym c10)), (.int .u64 (.sym c11)), (.int .i64 (.sym pr)), (.int .i64 (.sym how)), (.int .u64 (.sym va)), (.int .u64 (.sym x)), (.int .u8 (.sym nn))]] [.rows 0 n [(.int .u32, A), (.int .u64, X)]]).route [true, true, true, true, false, true, false, true, false, true, true]).map (fun p => (p.1, p.2.1)) = some ([((!(cond (litCmp .lss (pgs pg) 1) true (litCmp .gtr (pgs pg) 16))) && ((decide (0 ≤ (litBin .mul .i64 (pgs pg) 4096) ∧ (litBin .mul .i64 (pgs pg) 4096) < ((16777216 : Nat) : Int))) && ((!(cond (litCmp .lss (pgs pg) 1) true (litCmp .gtr (pgs pg) 16))) && ((decide (0 ≤ (litBin .mul .i64 (pgs pg) 4096) ∧ (litBin .mul .i64 (pgs pg) 4096) < ((16777216 : Nat) : Int))) && (Both73.ask ⟨[0, pg, kind, st, c1, c2, c3, c4, c5, c6, c7, c8, satp, c10, c11, pr, how, va, x, nn, pg], [], [n, n, n, (szN pg), (szN pg), (szN pg), (szN pg), (szN pg), (szN pg)], [A, X, (fun _ => 0), (fun _ => 0)]⟩))))), (szq 8 nn), (askL (szN pg) (szN pg) (szN pg) (memB pg A X n) satp st va 8), (askL (szN pg) (szN pg) (szN pg) (memB pg A X n) satp st (litBin .add .u64 va 0) 1), (ldF (memB pg A X n) (szN pg) satp st pr (litBin .add .u64 va 0) 1), (askL (szN pg) (szN pg) (szN pg) (memB pg A X n) satp st (litBin .add .u64 va 1) 1), (ldF (memB pg A X n) (szN pg) satp st pr (litBin .add .u64 va 1) 1), (askL (szN pg) (szN pg) (szN pg) (memB pg A X n) satp st (litBin .add .u64 va 2) 1), (ldF (memB pg A X n) (szN pg) satp st pr (litBin .add .u64 va 2) 1), (askL (szN pg) (szN pg) (szN pg) (memB pg A X n) satp st (litBin .add .u64 va 3) 1), (ldF (memB pg A X n) (szN pg) satp st pr (litBin .add .u64 va 3) 1)], .val (.bool (.sym (v8_3 pg n A X kind st c1 c2 c3 c4 c5 c6 c7 c8 satp c10 c11 pr how va x nn)))) := by kernel_rfl
noncomputable def v8_4 (pg : Int) (n : Nat) (A X : Nat → Int) (kind st c1 c2 c3 c4 c5 c6 c7 c8 satp c10 c11 pr how va x nn : Int) : Bool := (cond (cond (!(ldF (memB pg A X n) (szN pg) satp st pr va 8)) true (cond (litCmp .neq (ldX (memB pg A X n) (szN pg) satp st pr va 8) 0) true (litCmp .neq (ldC (memB pg A X n) (szN pg) satp st pr va 8) (ldC (memB pg A X n) (szN pg) satp st pr (litBin .add .u64 va 4) 1)))) false (cond (litCmp .eql (ldV (memB pg A X n) (szN pg) satp st pr va 8) (ldV (memB pg A X n) (szN pg) satp st pr (litBin .add .u64 va 4) 1)) true (cond (litCmp .eql (litBin .rem .u64 va 8) 0) (litCmp .eql (ldV (memB pg A X n) (szN pg) satp st pr va 8) va) false)))
set_option maxRecDepth 100000 in
theorem road8_4 (pg : Int) (n : Nat) (A X : Nat → Int) (kind st c1 c2 c3 c4 c5 c6 c7 c8 satp c10 c11 pr how va x nn : Int) : ((call Try.prog (cxL 8) 400 17 [.agg [.int .u8 (.sym pg), .slice 0 (.lit 0) (.rc n 1 0) .any], .agg [(.int .u8 (.sym kind)), (.int .u64 (.sym st)), (.int .u64 (.sym c1)), (.int .u64 (.sym c2)), (.int .u64 (.sym c3)), (.int .u64 (.sym c4)), (.int .u64 (.sym c5)), (.int .u64 (.sym c6)), (.int .u64 (.sym c7)), (.int .u64 (.sym c8)), (.int .u64 (.sym satp)), (.int .u64 (.sym c10)), (.int .u64 (.sym c11)), (.int .i64 (.sym pr)), (.int .i64 (.sym how)), (.int .u64 (.sym va)), (.int .u64 (.sym x)), (.int .u8 (.sym nn))]] [.rows 0 n [(.int .u32, A), (.int .u64, X)]]).route [true, true, true, true, false, true, false, true, false, true, false, true, true]).map (fun p => (p.1, p.2.1)) = some ([((!(cond (litCmp .lss (pgs pg) 1) true (litCmp .gtr (pgs pg) 16))) && ((decide (0 ≤ (litBin .mul .i64 (pgs pg) 4096) ∧ (litBin .mul .i64 (pgs pg) 4096) < ((16777216 : Nat) : Int))) && ((!(cond (litCmp .lss (pgs pg) 1) true (litCmp .gtr (pgs pg) 16))) && ((decide (0 ≤ (litBin .mul .i64 (pgs pg) 4096) ∧ (litBin .mul .i64 (pgs pg) 4096) < ((16777216 : Nat) : Int))) && (Both73.ask ⟨[0, pg, kind, st, c1, c2, c3, c4, c5, c6, c7, c8, satp, c10, c11, pr, how, va, x, nn, pg], [], [n, n, n, (szN pg), (szN pg), (szN pg), (szN pg), (szN pg), (szN pg)], [A, X, (fun _ => 0), (fun _ => 0)]⟩))))), (szq 8 nn), (askL (szN pg) (szN pg) (szN pg) (memB pg A X n) satp st va 8), (askL (szN pg) (szN pg) (szN pg) (memB pg A X n) satp st (litBin .add .u64 va 0) 1), (ldF (memB pg A X n) (szN pg) satp st pr (litBin .add .u64 va 0) 1), (askL (szN pg) (szN pg) (szN pg) (memB pg A X n) satp st (litBin .add .u64 va 1) 1), (ldF (memB pg A X n) (szN pg) satp st pr (litBin .add .u64 va 1) 1), (askL (szN pg) (szN pg) (szN pg) (memB pg A X n) satp st (litBin .add .u64 va 2) 1), (ldF (memB pg A X n) (szN pg) satp st pr (litBin .add .u64 va 2) 1), (askL (szN pg) (szN pg) (szN pg) (memB pg A X n) satp st (litBin .add .u64 va 3) 1), (ldF (memB pg A X n) (szN pg) satp st pr (litBin .add .u64 va 3) 1), (askL (szN pg) (szN pg) (szN pg) (memB pg A X n) satp st (litBin .add .u64 va 4) 1), (ldF (memB pg A X n) (szN pg) satp st pr (litBin .add .u64 va 4) 1)], .val (.bool (.sym (v8_4 pg n A X kind st c1 c2 c3 c4 c5 c6 c7 c8 satp c10 c11 pr how va x nn)))) := by kernel_rfl
noncomputable def v8_5 (pg : Int) (n : Nat) (A X : Nat → Int) (kind st c1 c2 c3 c4 c5 c6 c7 c8 satp c10 c11 pr how va x nn : Int) : Bool := (cond (cond (!(ldF (memB pg A X n) (szN pg) satp st pr va 8)) true (cond (litCmp .neq (ldX (memB pg A X n) (szN pg) satp st pr va 8) 0) true (litCmp .neq (ldC (memB pg A X n) (szN pg) satp st pr va 8) (ldC (memB pg A X n) (szN pg) satp st pr (litBin .add .u64 va 5) 1)))) false (cond (litCmp .eql (ldV (memB pg A X n) (szN pg) satp st pr va 8) (ldV (memB pg A X n) (szN pg) satp st pr (litBin .add .u64 va 5) 1)) true (cond (litCmp .eql (litBin .rem .u64 va 8) 0) (litCmp .eql (ldV (memB pg A X n) (szN pg) satp st pr va 8) va) false)))
set_option maxRecDepth 100000 in
theorem road8_5 (pg : Int) (n : Nat) (A X : Nat → Int) (kind st c1 c2 c3 c4 c5 c6 c7 c8 satp c10 c11 pr how va x nn : Int) : ((call Try.prog (cxL 8) 400 17 [.agg [.int .u8 (.sym pg), .slice 0 (.lit 0) (.rc n 1 0) .any], .agg [(.int .u8 (.sym kind)), (.int .u64 (.sym st)), (.int .u64 (.sym c1)), (.int .u64 (.sym c2)), (.int .u64 (.sym c3)), (.int .u64 (.sym c4)), (.int .u64 (.sym c5)), (.int .u64 (.sym c6)), (.int .u64 (.sym c7)), (.int .u64 (.sym c8)), (.int .u64 (.sym satp)), (.int .u64 (.sym c10)), (.int .u64 (.sym c11)), (.int .i64 (.sym pr)), (.int .i64 (.sym how)), (.int .u64 (.sym va)), (.int .u64 (.sym x)), (.int .u8 (.sym nn))]] [.rows 0 n [(.int .u32, A), (.int .u64, X)]]).route [true, true, true, true, false, true, false, true, false, true, false, true, false, true, true]).map (fun p => (p.1, p.2.1)) = some ([((!(cond (litCmp .lss (pgs pg) 1) true (litCmp .gtr (pgs pg) 16))) && ((decide (0 ≤ (litBin .mul .i64 (pgs pg) 4096) ∧ (litBin .mul .i64 (pgs pg) 4096) < ((16777216 : Nat) : Int))) && ((!(cond (litCmp .lss (pgs pg) 1) true (litCmp .gtr (pgs pg) 16))) && ((decide (0 ≤ (litBin .mul .i64 (pgs pg) 4096) ∧ (litBin .mul .i64 (pgs pg) 4096) < ((16777216 : Nat) : Int))) && (Both73.ask ⟨[0, pg, kind, st, c1, c2, c3, c4, c5, c6, c7, c8, satp, c10, c11, pr, how, va, x, nn, pg], [], [n, n, n, (szN pg), (szN pg), (szN pg), (szN pg), (szN pg), (szN pg)], [A, X, (fun _ => 0), (fun _ => 0)]⟩))))), (szq 8 nn), (askL (szN pg) (szN pg) (szN pg) (memB pg A X n) satp st va 8), (askL (szN pg) (szN pg) (szN pg) (memB pg A X n) satp st (litBin .add .u64 va 0) 1), (ldF (memB pg A X n) (szN pg) satp st pr (litBin .add .u64 va 0) 1), (askL (szN pg) (szN pg) (szN pg) (memB pg A X n) satp st (litBin .add .u64 va 1) 1), (ldF (memB pg A X n) (szN pg) satp st pr (litBin .add .u64 va 1) 1), (askL (szN pg) (szN pg) (szN pg) (memB pg A X n) satp st (litBin .add .u64 va 2) 1), (ldF (memB pg A X n) (szN pg) satp st pr (litBin .add .u64 va 2) 1), (askL (szN pg) (szN pg) (szN pg) (memB pg A X n) satp st (litBin .add .u64 va 3) 1), (ldF (memB pg A X n) (szN pg) satp st pr (litBin .add .u64 va 3) 1), (askL (szN pg) (szN pg) (szN pg) (memB pg A X n) satp st (litBin .add .u64 va 4) 1), (ldF (memB pg A X n) (szN pg) satp st pr (litBin .add .u64 va 4) 1), (askL (szN pg) (szN pg) (szN pg) (memB pg A X n) satp st (litBin .add .u64 va 5) 1), (ldF (memB pg A X n) (szN pg) satp st pr (litBin .add .u64 va 5) 1)], .val (.bool (.sym (v8_5 pg n A X kind st c1 c2 c3 c4 c5 c6 c7 c8 satp c10 c11 pr how va x nn)))) := by kernel_rfl
noncomputable def v8_6 (pg : Int) (n : Nat) (A X : Nat → Int) (kind st c1 c2 c3 c4 c5 c6 c7 c8 satp c10 c11 pr how va x nn : Int) : Bool := (cond (cond (!(ldF (memB pg A X n) (szN pg) satp st pr va 8)) true (cond (litCmp .neq (ldX (memB pg A X n) (szN pg) satp st pr va 8) 0) true (litCmp .neq (ldC (memB pg A X n) (szN pg) satp st pr va 8) (ldC (memB pg A X n) (szN pg) satp st pr (litBin .add .u64 va 6) 1)))) false (cond (litCmp .eql (ldV (memB pg A X n) (szN pg) satp st pr va 8) (ldV (memB pg A X n) (szN pg) satp st pr (litBin .add .u64 va 6) 1)) true (cond (litCmp .eql (litBin .rem .u64 va 8) 0) (litCmp .eql (ldV (memB pg A X n) (szN pg) satp st pr va 8) va) false)))
set_option maxRecDepth 100000 in
theorem road8_6 (pg : Int) (n : Nat) (A X : Nat → Int) (kind st c1 c2 c3 c4 c5 c6 c7 c8 satp c10 c11 pr how va x nn : Int) : ((call Try.prog (cxL 8) 400 17 [.agg [.int .u8 (.sym pg), .slice 0 (.lit 0) (.rc n 1 0) .any], .agg [(.int .u8 (.sym kind)), (.int .u64 (.sym st)), (.int .u64 (.sym c1)), (.int .u64 (.sym c2)), (.int .u64 (.sym c3)), (.int .u64 (.sym c4)), (.int .u64 (.sym c5)), (.int .u64 (.sym c6)), (.int .u64 (.sym c7)), (.int .u64 (.sym c8)), (.int .u64 (.sym satp)), (.int .u64 (.sym c10)), (.int .u64 (.sym c11)), (.int .i64 (.sym pr)), (.int .i64 (.sym how)), (.int .u64 (.sym va)), (.int .u64 (.sym x)), (.int .u8 (.sym nn))]] [.rows 0 n [(.int .u32, A), (.int .u64, X)]]).route [true, true, true, true, false, true, false, true, false, true, false, true, false, true, false, true, true]).map (fun p => (p.1, p.2.1)) = some ([((!(cond (litCmp .lss (pgs pg) 1) true (litCmp .gtr (pgs pg) 16))) && ((decide (0 ≤ (litBin .mul .i64 (pgs pg) 4096) ∧ (litBin .mul .i64 (pgs pg) 4096) < ((16777216 : Nat) : Int))) && ((!(cond (litCmp .lss (pgs pg) 1) true (litCmp .gtr (pgs pg) 16))) && ((decide (0 ≤ (litBin .mul .i64 (pgs pg) 4096) ∧ (litBin .mul .i64 (pgs pg) 4096) < ((16777216 : Nat) : Int))) && (Both73.ask ⟨[0, pg, kind, st, c1, c2, c3, c4, c5, c6, c7, c8, satp, c10, c11, pr, how, va, x, nn, pg], [], [n, n, n, (szN pg), (szN pg), (szN pg), (szN pg), (szN pg), (szN pg)], [A, X, (fun _ => 0), (fun _ => 0)]⟩))))), (szq 8 nn), (askL (szN pg) (szN pg) (szN pg) (memB pg A X n) satp st va 8), (askL (szN pg) (szN pg) (szN pg) (memB pg A X n) satp st (litBin .add .u64 va 0) 1), (ldF (memB pg A X n) (szN pg) satp st pr (litBin .add .u64 va 0) 1), (askL (szN pg) (szN pg) (szN pg) (memB pg A X n) satp st (litBin .add .u64 va 1) 1), (ldF (memB pg A X n) (szN pg) satp st pr (litBin .add .u64 va 1) 1), (askL (szN pg) (szN pg) (szN pg) (memB pg A X n) satp st (litBin .add .u64 va 2) 1), (ldF (memB pg A X n) (szN pg) satp st pr (litBin .add .u64 va 2) 1), (askL (szN pg) (szN pg) (szN pg) (memB pg A X n) satp st (litBin .add .u64 va 3) 1), (ldF (memB pg A X n) (szN pg) satp st pr (litBin .add .u64 va 3) 1), (askL (szN pg) (szN pg) (szN pg) (memB pg A X n) satp st (litBin .add .u64 va 4) 1), (ldF (memB pg A X n) (szN pg) satp st pr (litBin .add .u64 va 4) 1), (askL (szN pg) (szN pg) (szN pg) (memB pg A X n) satp st (litBin .add .u64 va 5) 1), (ldF (memB pg A X n) (szN pg) satp st pr (litBin .add .u64 va 5) 1), (askL (szN pg) (szN pg) (szN pg) (memB pg A X n) satp st (litBin .add .u64 va 6) 1), (ldF (memB pg A X n) (szN pg) satp st pr (litBin .add .u64 va 6) 1)], .val (.bool (.sym (v8_6 pg n A X kind st c1 c2 c3 c4 c5 c6 c7 c8 satp c10 c11 pr how va x nn)))) := by kernel_rfl
noncomputable def v8_7 (pg : Int) (n : Nat) (A X : Nat → Int) (kind st c1 c2 c3 c4 c5 c6 c7 c8 satp c10 c11 pr how va x nn : Int) : Bool := (cond (cond (!(ldF (memB pg A X n) (szN pg) satp st pr va 8)) true (cond (litCmp .neq (ldX (memB pg A X n) (szN pg) satp st pr va 8) 0) true (litCmp .neq (ldC (memB pg A X n) (szN pg) satp st pr va 8) (ldC (memB pg A X n) (szN pg) satp st pr (litBin .add .u64 va 7) 1)))) false (cond (litCmp .eql (ldV (memB pg A X n) (szN pg) satp st pr va 8) (ldV (memB pg A X n) (szN pg) satp st pr (litBin .add .u64 va 7) 1)) true (cond (litCmp .eql (litBin .rem .u64 va 8) 0) (litCmp .eql (ldV (memB pg A X n) (szN pg) satp st pr va 8) va) false)))
set_option maxRecDepth 100000 in
theorem road8_7 (pg : Int) (n : Nat) (A X : Nat → Int) (kind st c1 c2 c3 c4 c5 c6 c7 c8 satp c10 c11 pr how va x nn : Int) : ((call Try.prog (cxL 8) 400 17 [.agg [.int .u8 (.sym pg), .slice 0 (.lit 0) (.rc n 1 0) .any], .agg [(.int .u8 (.sym kind)), (.int .u64 (.sym st)), (.int .u64 (.sym c1)), (.int .u64 (.sym c2)), (.int .u64 (.sym c3)), (.int .u64 (.sym c4)), (.int .u64 (.sym c5)), (.int .u64 (.sym c6)), (.int .u64 (.sym c7)), (.int .u64 (.sym c8)), (.int .u64 (.sym satp)), (.int .u64 (.sym c10)), (.int .u64 (.sym c11)), (.int .i64 (.sym pr)), (.int .i64 (.sym how)), (.int .u64 (.sym va)), (.int .u64 (.sym x)), (.int .u8 (.sym nn))]] [.rows 0 n [(.int .u32, A), (.int .u64, X)]]).route [true, true, true, true, false, true, false, true, false, true, false, true, false, true, false, true, false, true, true]).map (fun p => (p.1, p.2.1)) = some ([((!(cond (litCmp .lss (pgs pg) 1) true (litCmp .gtr (pgs pg) 16))) && ((decide (0 ≤ (litBin .mul .i64 (pgs pg) 4096) ∧ (litBin .mul .i64 (pgs pg) 4096) < ((16777216 : Nat) : Int))) && ((!(cond (litCmp .lss (pgs pg) 1) true (litCmp .gtr (pgs pg) 16))) && ((decide (0 ≤ (litBin .mul .i64 (pgs pg) 4096) ∧ (litBin .mul .i64 (pgs pg) 4096) < ((16777216 : Nat) : Int))) && (Both73.ask ⟨[0, pg, kind, st, c1, c2, c3, c4, c5, c6, c7, c8, satp, c10, c11, pr, how, va, x, nn, pg], [], [n, n, n, (szN pg), (szN pg), (szN pg), (szN pg), (szN pg), (szN pg)], [A, X, (fun _ => 0), (fun _ => 0)]⟩))))), (szq 8 nn), (askL (szN pg) (szN pg) (szN pg) (memB pg A X n) satp st va 8), (askL (szN pg) (szN pg) (szN pg) (memB pg A X n) satp st (litBin .add .u64 va 0) 1), (ldF (memB pg A X n) (szN pg) satp st pr (litBin .add .u64 va 0) 1), (askL (szN pg) (szN pg) (szN pg) (memB pg A X n) satp st (litBin .add .u64 va 1) 1), (ldF (memB pg A X n) (szN pg) satp st pr (litBin .add .u64 va 1) 1), (askL (szN pg) (szN pg) (szN pg) (memB pg A X n) satp st (litBin .add .u64 va 2) 1), (ldF (memB pg A X n) (szN pg) satp st pr (litBin .add .u64 va 2) 1), (askL (szN pg) (szN pg) (szN pg) (memB pg A X n) satp st (litBin .add .u64 va 3) 1), (ldF (memB pg A X n) (szN pg) satp st pr (litBin .add .u64 va 3) 1), (askL (szN pg) (szN pg) (szN pg) (memB pg A X n) satp st (litBin .add .u64 va 4) 1), (ldF (memB pg A X n) (szN pg) satp st pr (litBin .add .u64 va 4) 1), (askL (szN pg) (szN pg) (szN pg) (memB pg A X n) satp st (litBin .add .u64 va 5) 1), (ldF (memB pg A X n) (szN pg) satp st pr (litBin .add .u64 va 5) 1), (askL (szN pg) (szN pg) (szN pg) (memB pg A X n) satp st (litBin .add .u64 va 6) 1), (ldF (memB pg A X n) (szN pg) satp st pr (litBin .add .u64 va 6) 1), (askL (szN pg) (szN pg) (szN pg) (memB pg A X n) satp st (litBin .add .u64 va 7) 1), (ldF (memB pg A X n) (szN pg) satp st pr (litBin .add .u64 va 7) 1)], .val (.bool (.sym (v8_7 pg n A X kind st c1 c2 c3 c4 c5 c6 c7 c8 satp c10 c11 pr how va x nn)))) := by kernel_rfl
noncomputable def v8_8 (pg : Int) (n : Nat) (A X : Nat → Int) (kind st c1 c2 c3 c4 c5 c6 c7 c8 satp c10 c11 pr how va x nn : Int) : Bool := (cond (!(ldF (memB pg A X n) (szN pg) satp st pr va 8)) (litCmp .eql (ldX (memB pg A X n) (szN pg) satp st pr va 8) (litBin .add .u64 (litBin .add .u64 (litBin .add .u64 (litBin .add .u64 (litBin .add .u64 (litBin .add .u64 (litBin .add .u64 (litBin .add .u64 0 (litBin .shl .u64 (ldX (memB pg A X n) (szN pg) satp st pr (litBin .add .u64 va 0) 1) 0)) (litBin .shl .u64 (ldX (memB pg A X n) (szN pg) satp st pr (litBin .add .u64 va 1) 1) 8)) (litBin .shl .u64 (ldX (memB pg A X n) (szN pg) satp st pr (litBin .add .u64 va 2) 1) 16)) (litBin .shl .u64 (ldX (memB pg A X n) (szN pg) satp st pr (litBin .add .u64 va 3) 1) 24)) (litBin .shl .u64 (ldX (memB pg A X n) (szN pg) satp st pr (litBin .add .u64 va 4) 1) 32)) (litBin .shl .u64 (ldX (memB pg A X n) (szN pg) satp st pr (litBin .add .u64 va 5) 1) 40)) (litBin .shl .u64 (ldX (memB pg A X n) (szN pg) satp st pr (litBin .add .u64 va 6) 1) 48)) (litBin .shl .u64 (ldX (memB pg A X n) (szN pg) satp st pr (litBin .add .u64 va 7) 1) 56))) false)
set_option maxRecDepth 100000 in
theorem road8_8 (pg : Int) (n : Nat) (A X : Nat → Int) (kind st c1 c2 c3 c4 c5 c6 c7 c8 satp c10 c11 pr how va x nn : Int) : ((call Try.prog (cxL 8) 400 17 [.agg [.int .u8 (.sym pg), .slice 0 (.lit 0) (.rc n 1 0) .any], .agg [(.int .u8 (.sym kind)), (.int .u64 (.sym st)), (.int .u64 (.sym c1)), (.int .u64 (.sym c2)), (.int .u64 (.sym c3)), (.int .u64 (.sym c4)), (.int .u64 (.sym c5)), (.int .u64 (.sym c6)), (.int .u64 (.sym c7)), (.int .u64 (.sym c8)), (.int .u64 (.sym satp)), (.int .u64 (.sym c10)), (.int .u64 (.sym c11)), (.int .i64 (.sym pr)), (.int .i64 (.sym how)), (.int .u64 (.sym va)), (.int .u64 (.sym x)), (.int .u8 (.sym nn))]] [.rows 0 n [(.int .u32, A), (.int .u64, X)]]).route [true, true, true, true, false, true, false, true, false, true, false, true, false, true, false, true, false, true, false]).map (fun p => (p.1, p.2.1)) = some ([((!(cond (litCmp .lss (pgs pg) 1) true (litCmp .gtr (pgs pg) 16))) && ((decide (0 ≤ (litBin .mul .i64 (pgs pg) 4096) ∧ (litBin .mul .i64 (pgs pg) 4096) < ((16777216 : Nat) : Int))) && ((!(cond (litCmp .lss (pgs pg) 1) true (litCmp .gtr (pgs pg) 16))) && ((decide (0 ≤ (litBin .mul .i64 (pgs pg) 4096) ∧ (litBin .mul .i64 (pgs pg) 4096) < ((16777216 : Nat) : Int))) && (Both73.ask ⟨[0, pg, kind, st, c1, c2, c3, c4, c5, c6, c7, c8, satp, c10, c11, pr, how, va, x, nn, pg], [], [n, n, n, (szN pg), (szN pg), (szN pg), (szN pg), (szN pg), (szN pg)], [A, X, (fun _ => 0), (fun _ => 0)]⟩))))), (szq 8 nn), (askL (szN pg) (szN pg) (szN pg) (memB pg A X n) satp st va 8), (askL (szN pg) (szN pg) (szN pg) (memB pg A X n) satp st (litBin .add .u64 va 0) 1), (ldF (memB pg A X n) (szN pg) satp st pr (litBin .add .u64 va 0) 1), (askL (szN pg) (szN pg) (szN pg) (memB pg A X n) satp st (litBin .add .u64 va 1) 1), (ldF (memB pg A X n) (szN pg) satp st pr (litBin .add .u64 va 1) 1), (askL (szN pg) (szN pg) (szN pg) (memB pg A X n) satp st (litBin .add .u64 va 2) 1), (ldF (memB pg A X n) (szN pg) satp st pr (litBin .add .u64 va 2) 1), (askL (szN pg) (szN pg) (szN pg) (memB pg A X n) satp st (litBin .add .u64 va 3) 1), (ldF (memB pg A X n) (szN pg) satp st pr (litBin .add .u64 va 3) 1), (askL (szN pg) (szN pg) (szN pg) (memB pg A X n) satp st (litBin .add .u64 va 4) 1), (ldF (memB pg A X n) (szN pg) satp st pr (litBin .add .u64 va 4) 1), (askL (szN pg) (szN pg) (szN pg) (memB pg A X n) satp st (litBin .add .u64 va 5) 1), (ldF (memB pg A X n) (szN pg) satp st pr (litBin .add .u64 va 5) 1), (askL (szN pg) (szN pg) (szN pg) (memB pg A X n) satp st (litBin .add .u64 va 6) 1), (ldF (memB pg A X n) (szN pg) satp st pr (litBin .add .u64 va 6) 1), (askL (szN pg) (szN pg) (szN pg) (memB pg A X n) satp st (litBin .add .u64 va 7) 1), (ldF (memB pg A X n) (szN pg) satp st pr (litBin .add .u64 va 7) 1)], .val (.bool (.sym (v8_8 pg n A X kind st c1 c2 c3 c4 c5 c6 c7 c8 satp c10 c11 pr how va x nn)))) := by kernel_rfl
theorem law8 {pg : Int} {n : Nat} {A X : Nat → Int} {kind st c1 c2 c3 c4 c5 c6 c7 c8 satp c10 c11 pr how va x nn : Int} (hpg : 0 ≤ pg ∧ pg < 256) (hX : ∀ j, j < n → inU (X j)) (hst : inU st) (hsatp : inU satp) (hva : inU va) (wnn : 0 ≤ nn ∧ nn < 256) (hnn : sizeS nn = 8) :
    ∃ (ds cs : List Bool) (v : Bool), ((call Try.prog (cxL 8) 400 17 [.agg [.int .u8 (.sym pg), .slice 0 (.lit 0) (.rc n 1 0) .any], .agg [(.int .u8 (.sym kind)), (.int .u64 (.sym st)), (.int .u64 (.sym c1)), (.int .u64 (.sym c2)), (.int .u64 (.sym c3)), (.int .u64 (.sym c4)), (.int .u64 (.sym c5)), (.int .u64 (.sym c6)), (.int .u64 (.sym c7)), (.int .u64 (.sym c8)), (.int .u64 (.sym satp)), (.int .u64 (.sym c10)), (.int .u64 (.sym c11)), (.int .i64 (.sym pr)), (.int .i64 (.sym how)), (.int .u64 (.sym va)), (.int .u64 (.sym x)), (.int .u8 (.sym nn))]] [.rows 0 n [(.int .u32, A), (.int .u64, X)]]).route ds).map (fun p => (p.1, p.2.1)) = some (cs, .val (.bool (.sym v))) ∧ cs = ds ∧ v = true := by
  have hm : MemOk (szN pg) (memB pg A X n) := memB_ok hpg
  have hN : ((szN pg : Nat) : Int) % 8 = 0 := by
    rw [(szN_eq hpg).1]
    omega
  have hq : szq 8 nn = true := szq_of wnn hnn
  have pT : (!(cond (litCmp .lss (pgs pg) 1) true (litCmp .gtr (pgs pg) 16))) = true := by
    have := (pgT_f hpg).1
    unfold pgT at this
    rw [this]
    rfl
  have pU : decide (0 ≤ (litBin .mul .i64 (pgs pg) 4096) ∧ (litBin .mul .i64 (pgs pg) 4096) < ((16777216 : Nat) : Int)) = true := (pgT_f hpg).2
  have hask : Both73.ask ⟨[0, pg, kind, st, c1, c2, c3, c4, c5, c6, c7, c8, satp, c10, c11, pr, how, va, x, nn, pg], [], [n, n, n, szN pg, szN pg, szN pg, szN pg, szN pg, szN pg], [A, X, (fun _ => 0), (fun _ => 0)]⟩ = true :=
    yes_of ⟨pg, kind, st, c1, c2, c3, c4, c5, c6, c7, c8, satp, c10, c11, pr, how, va, x, nn, n, szN pg, 0, A, X, fun _ => 0, rfl, rfl, MemOk.zero (szN_eq hpg).2, hX, by omega, by omega⟩
  have qn : askL (szN pg) (szN pg) (szN pg) (memB pg A X n) satp st va 8 = true := yes_of ⟨⟨rfl, rfl, hm, hN⟩, hsatp, hst, hva, rfl⟩
  have q0 : askL (szN pg) (szN pg) (szN pg) (memB pg A X n) satp st (litBin .add .u64 va 0) 1 = true := yes_of ⟨⟨rfl, rfl, hm, hN⟩, hsatp, hst, inU.add _ _, rfl⟩
  have o0 : ldF (memB pg A X n) (szN pg) satp st pr (litBin .add .u64 va 0) 1 = ldA (memB pg A X n) (szN pg) satp st pr va 0 := one_F (inU.add _ _)
  have q1 : askL (szN pg) (szN pg) (szN pg) (memB pg A X n) satp st (litBin .add .u64 va 1) 1 = true := yes_of ⟨⟨rfl, rfl, hm, hN⟩, hsatp, hst, inU.add _ _, rfl⟩
  have o1 : ldF (memB pg A X n) (szN pg) satp st pr (litBin .add .u64 va 1) 1 = ldA (memB pg A X n) (szN pg) satp st pr va 1 := one_F (inU.add _ _)
  have q2 : askL (szN pg) (szN pg) (szN pg) (memB pg A X n) satp st (litBin .add .u64 va 2) 1 = true := yes_of ⟨⟨rfl, rfl, hm, hN⟩, hsatp, hst, inU.add _ _, rfl⟩
  have o2 : ldF (memB pg A X n) (szN pg) satp st pr (litBin .add .u64 va 2) 1 = ldA (memB pg A X n) (szN pg) satp st pr va 2 := one_F (inU.add _ _)
  have q3 : askL (szN pg) (szN pg) (szN pg) (memB pg A X n) satp st (litBin .add .u64 va 3) 1 = true := yes_of ⟨⟨rfl, rfl, hm, hN⟩, hsatp, hst, inU.add _ _, rfl⟩
  have o3 : ldF (memB pg A X n) (szN pg) satp st pr (litBin .add .u64 va 3) 1 = ldA (memB pg A X n) (szN pg) satp st pr va 3 := one_F (inU.add _ _)
  have q4 : askL (szN pg) (szN pg) (szN pg) (memB pg A X n) satp st (litBin .add .u64 va 4) 1 = true := yes_of ⟨⟨rfl, rfl, hm, hN⟩, hsatp, hst, inU.add _ _, rfl⟩
  have o4 : ldF (memB pg A X n) (szN pg) satp st pr (litBin .add .u64 va 4) 1 = ldA (memB pg A X n) (szN pg) satp st pr va 4 := one_F (inU.add _ _)
  have q5 : askL (szN pg) (szN pg) (szN pg) (memB pg A X n) satp st (litBin .add .u64 va 5) 1 = true := yes_of ⟨⟨rfl, rfl, hm, hN⟩, hsatp, hst, inU.add _ _, rfl⟩
  have o5 : ldF (memB pg A X n) (szN pg) satp st pr (litBin .add .u64 va 5) 1 = ldA (memB pg A X n) (szN pg) satp st pr va 5 := one_F (inU.add _ _)
  have q6 : askL (szN pg) (szN pg) (szN pg) (memB pg A X n) satp st (litBin .add .u64 va 6) 1 = true := yes_of ⟨⟨rfl, rfl, hm, hN⟩, hsatp, hst, inU.add _ _, rfl⟩
  have o6 : ldF (memB pg A X n) (szN pg) satp st pr (litBin .add .u64 va 6) 1 = ldA (memB pg A X n) (szN pg) satp st pr va 6 := one_F (inU.add _ _)
  have q7 : askL (szN pg) (szN pg) (szN pg) (memB pg A X n) satp st (litBin .add .u64 va 7) 1 = true := yes_of ⟨⟨rfl, rfl, hm, hN⟩, hsatp, hst, inU.add _ _, rfl⟩
  have o7 : ldF (memB pg A X n) (szN pg) satp st pr (litBin .add .u64 va 7) 1 = ldA (memB pg A X n) (szN pg) satp st pr va 7 := one_F (inU.add _ _)
  cases g0 : ldA (memB pg A X n) (szN pg) satp st pr va 0
  rotate_left
  · rw [g0] at o0
    refine ⟨_, _, _, road8_0 pg n A X kind st c1 c2 c3 c4 c5 c6 c7 c8 satp c10 c11 pr how va x nn, ?_, ?_⟩
    · simp only [pT, pU, hask, hq, qn, q0, o0, Bool.and_self, Bool.cond_self, cond_true, cond_false]
      try rfl
    · have e0 : ldI (memB pg A X n) (szN pg) satp st pr va 8 = some 0 := by unfold ldI; simp only [show ixs 8 = [0, 1, 2, 3, 4, 5, 6, 7] from rfl, firstL, g0, cond_true, cond_false]
      have e1 : ldF (memB pg A X n) (szN pg) satp st pr va 8 = true := by unfold ldF; rw [e0]
      have e2 : ldX (memB pg A X n) (szN pg) satp st pr va 8 = 0 := by unfold ldX; rw [e0]
      have e3 : ldC (memB pg A X n) (szN pg) satp st pr va 8 = ldC (memB pg A X n) (szN pg) satp st pr (litBin .add .u64 va 0) 1 := by rw [one_C (inU.add _ _) g0]; unfold ldC; rw [e0]
      have e4 : ldV (memB pg A X n) (szN pg) satp st pr va 8 = ldV (memB pg A X n) (szN pg) satp st pr (litBin .add .u64 va 0) 1 := by rw [one_V (inU.add _ _) g0]; unfold ldV; rw [e0]
      unfold v8_0
      rw [e1, e2, e3, e4, eql_self]
      simp only [neq_eq, decide_true, Bool.not_true, cond_true, cond_false]
  rw [g0] at o0
  cases g1 : ldA (memB pg A X n) (szN pg) satp st pr va 1
  rotate_left
  · rw [g1] at o1
    refine ⟨_, _, _, road8_1 pg n A X kind st c1 c2 c3 c4 c5 c6 c7 c8 satp c10 c11 pr how va x nn, ?_, ?_⟩
    · simp only [pT, pU, hask, hq, qn, q0, q1, o0, o1, Bool.and_self, Bool.cond_self, cond_true, cond_false]
      try rfl
    · have e0 : ldI (memB pg A X n) (szN pg) satp st pr va 8 = some 1 := by unfold ldI; simp only [show ixs 8 = [0, 1, 2, 3, 4, 5, 6, 7] from rfl, firstL, g0, g1, cond_true, cond_false]
      have e1 : ldF (memB pg A X n) (szN pg) satp st pr va 8 = true := by unfold ldF; rw [e0]
      have e2 : ldX (memB pg A X n) (szN pg) satp st pr va 8 = 0 := by unfold ldX; rw [e0]
      have e3 : ldC (memB pg A X n) (szN pg) satp st pr va 8 = ldC (memB pg A X n) (szN pg) satp st pr (litBin .add .u64 va 1) 1 := by rw [one_C (inU.add _ _) g1]; unfold ldC; rw [e0]
      have e4 : ldV (memB pg A X n) (szN pg) satp st pr va 8 = ldV (memB pg A X n) (szN pg) satp st pr (litBin .add .u64 va 1) 1 := by rw [one_V (inU.add _ _) g1]; unfold ldV; rw [e0]
      unfold v8_1
      rw [e1, e2, e3, e4, eql_self]
      simp only [neq_eq, decide_true, Bool.not_true, cond_true, cond_false]
  rw [g1] at o1
  cases g2 : ldA (memB pg A X n) (szN pg) satp st pr va 2
  rotate_left
  · rw [g2] at o2
    refine ⟨_, _, _, road8_2 pg n A X kind st c1 c2 c3 c4 c5 c6 c7 c8 satp c10 c11 pr how va x nn, ?_, ?_⟩
    · simp only [pT, pU, hask, hq, qn, q0, q1, q2, o0, o1, o2, Bool.and_self, Bool.cond_self, cond_true, cond_false]
      try rfl
    · have e0 : ldI (memB pg A X n) (szN pg) satp st pr va 8 = some 2 := by unfold ldI; simp only [show ixs 8 = [0, 1, 2, 3, 4, 5, 6, 7] from rfl, firstL, g0, g1, g2, cond_true, cond_false]
      have e1 : ldF (memB pg A X n) (szN pg) satp st pr va 8 = true := by unfold ldF; rw [e0]
      have e2 : ldX (memB pg A X n) (szN pg) satp st pr va 8 = 0 := by unfold ldX; rw [e0]
      have e3 : ldC (memB pg A X n) (szN pg) satp st pr va 8 = ldC (memB pg A X n) (szN pg) satp st pr (litBin .add .u64 va 2) 1 := by rw [one_C (inU.add _ _) g2]; unfold ldC; rw [e0]
      have e4 : ldV (memB pg A X n) (szN pg) satp st pr va 8 = ldV (memB pg A X n) (szN pg) satp st pr (litBin .add .u64 va 2) 1 := by rw [one_V (inU.add _ _) g2]; unfold ldV; rw [e0]
      unfold v8_2
      rw [e1, e2, e3, e4, eql_self]
      simp only [neq_eq, decide_true, Bool.not_true, cond_true, cond_false]
  rw [g2] at o2
  cases g3 : ldA (memB pg A X n) (szN pg) satp st pr va 3
  rotate_left
  · rw [g3] at o3
    refine ⟨_, _, _, road8_3 pg n A X kind st c1 c2 c3 c4 c5 c6 c7 c8 satp c10 c11 pr how va x nn, ?_, ?_⟩
    · simp only [pT, pU, hask, hq, qn, q0, q1, q2, q3, o0, o1, o2, o3, Bool.and_self, Bool.cond_self, cond_true, cond_false]
      try rfl
    · have e0 : ldI (memB pg A X n) (szN pg) satp st pr va 8 = some 3 := by unfold ldI; simp only [show ixs 8 = [0, 1, 2, 3, 4, 5, 6, 7] from rfl, firstL, g0, g1, g2, g3, cond_true, cond_false]
      have e1 : ldF (memB pg A X n) (szN pg) satp st pr va 8 = true := by unfold ldF; rw [e0]
      have e2 : ldX (memB pg A X n) (szN pg) satp st pr va 8 = 0 := by unfold ldX; rw [e0]
      have e3 : ldC (memB pg A X n) (szN pg) satp st pr va 8 = ldC (memB pg A X n) (szN pg) satp st pr (litBin .add .u64 va 3) 1 := by rw [one_C (inU.add _ _) g3]; unfold ldC; rw [e0]
      have e4 : ldV (memB pg A X n) (szN pg) satp st pr va 8 = ldV (memB pg A X n) (szN pg) satp st pr (litBin .add .u64 va 3) 1 := by rw [one_V (inU.add _ _) g3]; unfold ldV; rw [e0]
      unfold v8_3
      rw [e1, e2, e3, e4, eql_self]
      simp only [neq_eq, decide_true, Bool.not_true, cond_true, cond_false]
  rw [g3] at o3
  cases g4 : ldA (memB pg A X n) (szN pg) satp st pr va 4
  rotate_left
  · rw [g4] at o4
    refine ⟨_, _, _, road8_4 pg n A X kind st c1 c2 c3 c4 c5 c6 c7 c8 satp c10 c11 pr how va x nn, ?_, ?_⟩
    · simp only [pT, pU, hask, hq, qn, q0, q1, q2, q3, q4, o0, o1, o2, o3, o4, Bool.and_self, Bool.cond_self, cond_true, cond_false]
      try rfl
    · have e0 : ldI (memB pg A X n) (szN pg) satp st pr va 8 = some 4 := by unfold ldI; simp only [show ixs 8 = [0, 1, 2, 3, 4, 5, 6, 7] from rfl, firstL, g0, g1, g2, g3, g4, cond_true, cond_false]
      have e1 : ldF (memB pg A X n) (szN pg) satp st pr va 8 = true := by unfold ldF; rw [e0]
      have e2 : ldX (memB pg A X n) (szN pg) satp st pr va 8 = 0 := by unfold ldX; rw [e0]
      have e3 : ldC (memB pg A X n) (szN pg) satp st pr va 8 = ldC (memB pg A X n) (szN pg) satp st pr (litBin .add .u64 va 4) 1 := by rw [one_C (inU.add _ _) g4]; unfold ldC; rw [e0]
      have e4 : ldV (memB pg A X n) (szN pg) satp st pr va 8 = ldV (memB pg A X n) (szN pg) satp st pr (litBin .add .u64 va 4) 1 := by rw [one_V (inU.add _ _) g4]; unfold ldV; rw [e0]
      unfold v8_4
      rw [e1, e2, e3, e4, eql_self]
      simp only [neq_eq, decide_true, Bool.not_true, cond_true, cond_false]
  rw [g4] at o4
  cases g5 : ldA (memB pg A X n) (szN pg) satp st pr va 5
  rotate_left
  · rw [g5] at o5
    refine ⟨_, _, _, road8_5 pg n A X kind st c1 c2 c3 c4 c5 c6 c7 c8 satp c10 c11 pr how va x nn, ?_, ?_⟩
    · simp only [pT, pU, hask, hq, qn, q0, q1, q2, q3, q4, q5, o0, o1, o2, o3, o4, o5, Bool.and_self, Bool.cond_self, cond_true, cond_false]
      try rfl
    · have e0 : ldI (memB pg A X n) (szN pg) satp st pr va 8 = some 5 := by unfold ldI; simp only [show ixs 8 = [0, 1, 2, 3, 4, 5, 6, 7] from rfl, firstL, g0, g1, g2, g3, g4, g5, cond_true, cond_false]
      have e1 : ldF (memB pg A X n) (szN pg) satp st pr va 8 = true := by unfold ldF; rw [e0]
      have e2 : ldX (memB pg A X n) (szN pg) satp st pr va 8 = 0 := by unfold ldX; rw [e0]
      have e3 : ldC (memB pg A X n) (szN pg) satp st pr va 8 = ldC (memB pg A X n) (szN pg) satp st pr (litBin .add .u64 va 5) 1 := by rw [one_C (inU.add _ _) g5]; unfold ldC; rw [e0]
      have e4 : ldV (memB pg A X n) (szN pg) satp st pr va 8 = ldV (memB pg A X n) (szN pg) satp st pr (litBin .add .u64 va 5) 1 := by rw [one_V (inU.add _ _) g5]; unfold ldV; rw [e0]
      unfold v8_5
      rw [e1, e2, e3, e4, eql_self]
      simp only [neq_eq, decide_true, Bool.not_true, cond_true, cond_false]
  rw [g5] at o5
  cases g6 : ldA (memB pg A X n) (szN pg) satp st pr va 6
  rotate_left
  · rw [g6] at o6
    refine ⟨_, _, _, road8_6 pg n A X kind st c1 c2 c3 c4 c5 c6 c7 c8 satp c10 c11 pr how va x nn, ?_, ?_⟩
    · simp only [pT, pU, hask, hq, qn, q0, q1, q2, q3, q4, q5, q6, o0, o1, o2, o3, o4, o5, o6, Bool.and_self, Bool.cond_self, cond_true, cond_false]
      try rfl
    · have e0 : ldI (memB pg A X n) (szN pg) satp st pr va 8 = some 6 := by unfold ldI; simp only [show ixs 8 = [0, 1, 2, 3, 4, 5, 6, 7] from rfl, firstL, g0, g1, g2, g3, g4, g5, g6, cond_true, cond_false]
      have e1 : ldF (memB pg A X n) (szN pg) satp st pr va 8 = true := by unfold ldF; rw [e0]
      have e2 : ldX (memB pg A X n) (szN pg) satp st pr va 8 = 0 := by unfold ldX; rw [e0]
      have e3 : ldC (memB pg A X n) (szN pg) satp st pr va 8 = ldC (memB pg A X n) (szN pg) satp st pr (litBin .add .u64 va 6) 1 := by rw [one_C (inU.add _ _) g6]; unfold ldC; rw [e0]
      have e4 : ldV (memB pg A X n) (szN pg) satp st pr va 8 = ldV (memB pg A X n) (szN pg) satp st pr (litBin .add .u64 va 6) 1 := by rw [one_V (inU.add _ _) g6]; unfold ldV; rw [e0]
      unfold v8_6
      rw [e1, e2, e3, e4, eql_self]
      simp only [neq_eq, decide_true, Bool.not_true, cond_true, cond_false]
  rw [g6] at o6
  cases g7 : ldA (memB pg A X n) (szN pg) satp st pr va 7
  rotate_left
  · rw [g7] at o7
    refine ⟨_, _, _, road8_7 pg n A X kind st c1 c2 c3 c4 c5 c6 c7 c8 satp c10 c11 pr how va x nn, ?_, ?_⟩
    · simp only [pT, pU, hask, hq, qn, q0, q1, q2, q3, q4, q5, q6, q7, o0, o1, o2, o3, o4, o5, o6, o7, Bool.and_self, Bool.cond_self, cond_true, cond_false]
      try rfl
    · have e0 : ldI (memB pg A X n) (szN pg) satp st pr va 8 = some 7 := by unfold ldI; simp only [show ixs 8 = [0, 1, 2, 3, 4, 5, 6, 7] from rfl, firstL, g0, g1, g2, g3, g4, g5, g6, g7, cond_true, cond_false]
      have e1 : ldF (memB pg A X n) (szN pg) satp st pr va 8 = true := by unfold ldF; rw [e0]
      have e2 : ldX (memB pg A X n) (szN pg) satp st pr va 8 = 0 := by unfold ldX; rw [e0]
      have e3 : ldC (memB pg A X n) (szN pg) satp st pr va 8 = ldC (memB pg A X n) (szN pg) satp st pr (litBin .add .u64 va 7) 1 := by rw [one_C (inU.add _ _) g7]; unfold ldC; rw [e0]
      have e4 : ldV (memB pg A X n) (szN pg) satp st pr va 8 = ldV (memB pg A X n) (szN pg) satp st pr (litBin .add .u64 va 7) 1 := by rw [one_V (inU.add _ _) g7]; unfold ldV; rw [e0]
      unfold v8_7
      rw [e1, e2, e3, e4, eql_self]
      simp only [neq_eq, decide_true, Bool.not_true, cond_true, cond_false]
  rw [g7] at o7
  refine ⟨_, _, _, road8_8 pg n A X kind st c1 c2 c3 c4 c5 c6 c7 c8 satp c10 c11 pr how va x nn, ?_, ?_⟩
  · simp only [pT, pU, hask, hq, qn, q0, q1, q2, q3, q4, q5, q6, q7, o0, o1, o2, o3, o4, o5, o6, o7, Bool.and_self, Bool.cond_self, cond_true, cond_false]
    try rfl
  · have e0 : ldI (memB pg A X n) (szN pg) satp st pr va 8 = none := by unfold ldI; simp only [show ixs 8 = [0, 1, 2, 3, 4, 5, 6, 7] from rfl, firstL, g0, g1, g2, g3, g4, g5, g6, g7, cond_true, cond_false]
    have e1 : ldF (memB pg A X n) (szN pg) satp st pr va 8 = false := by unfold ldF; rw [e0]
    have e2 : ldX (memB pg A X n) (szN pg) satp st pr va 8 = orL (ldB (memB pg A X n) (szN pg) satp st pr va) 0 (ixs 8) := by unfold ldX; rw [e0]
    have hs := sum_eq (satp := satp) (st := st) (pr := pr) (va := va) hm 8 (by omega)
    unfold v8_8
    rw [e1, e2]
    have x0 : ldX (memB pg A X n) (szN pg) satp st pr (litBin .add .u64 va 0) 1 = ldB (memB pg A X n) (szN pg) satp st pr va 0 := one_X hm (inU.add _ _) g0
    have x1 : ldX (memB pg A X n) (szN pg) satp st pr (litBin .add .u64 va 1) 1 = ldB (memB pg A X n) (szN pg) satp st pr va 1 := one_X hm (inU.add _ _) g1
    have x2 : ldX (memB pg A X n) (szN pg) satp st pr (litBin .add .u64 va 2) 1 = ldB (memB pg A X n) (szN pg) satp st pr va 2 := one_X hm (inU.add _ _) g2
    have x3 : ldX (memB pg A X n) (szN pg) satp st pr (litBin .add .u64 va 3) 1 = ldB (memB pg A X n) (szN pg) satp st pr va 3 := one_X hm (inU.add _ _) g3
    have x4 : ldX (memB pg A X n) (szN pg) satp st pr (litBin .add .u64 va 4) 1 = ldB (memB pg A X n) (szN pg) satp st pr va 4 := one_X hm (inU.add _ _) g4
    have x5 : ldX (memB pg A X n) (szN pg) satp st pr (litBin .add .u64 va 5) 1 = ldB (memB pg A X n) (szN pg) satp st pr va 5 := one_X hm (inU.add _ _) g5
    have x6 : ldX (memB pg A X n) (szN pg) satp st pr (litBin .add .u64 va 6) 1 = ldB (memB pg A X n) (szN pg) satp st pr va 6 := one_X hm (inU.add _ _) g6
    have x7 : ldX (memB pg A X n) (szN pg) satp st pr (litBin .add .u64 va 7) 1 = ldB (memB pg A X n) (szN pg) satp st pr va 7 := one_X hm (inU.add _ _) g7
    rw [x0, x1, x2, x3, x4, x5, x6, x7]
    exact decide_eq_true hs

end Go.Proofs.Ytngcbpcfgolifaa.SpaceBytes
