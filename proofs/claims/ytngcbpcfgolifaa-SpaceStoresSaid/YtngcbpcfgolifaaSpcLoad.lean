/- A load of a space without what keeps leaves, as a summary: what the loads of its bytes tell. Conditions: none. -/
import Derived.Test.YtngcbpcfgolifaaSp13
namespace Go.Proofs.Ytngcbpcfgolifaa.Ev
open Go.RowKit
set_option linter.unusedVariables false
set_option linter.unusedSimpArgs false
def isNeq (o : Oper) : Bool := match o.op with
  | .binOp .neq _ _ _ _ => true
  | _ => false
noncomputable def cxnq (b : Bool) : Cx DC := cxo.more (askX Try.prog isNeq b)
theorem cxnq_ok (b : Bool) : Ok Try.prog (cxnq b) := cxo_ok.more fun o s t z ho h w0 own ρ a w hS H => askX_sound ho h hS H
def ixs (n : Int) : List Int := if n = 1 then [0] else if n = 2 then [0, 1] else if n = 4 then [0, 1, 2, 3] else [0, 1, 2, 3, 4, 5, 6, 7]
def firstL (f : Int → Bool) : List Int → Option Int
  | [] => none
  | i :: l => cond (f i) (some i) (firstL f l)
def orL (g : Int → Int) : Int → List Int → Int
  | a, [] => a
  | a, i :: l => orL g (litBin .or .u64 a (litBin .shl .u64 (g i) (8 * i))) l
section
variable (F : Nat → Int) (N : Nat) (satp st pr va n : Int)
def ldA (i : Int) : Bool := sF F N N satp st pr 1 (litBin .add .u64 va i) 1
def ldB (i : Int) : Int := getS F N (sT F N N satp st pr 1 (litBin .add .u64 va i) 1) 1
def ldI : Option Int := firstL (ldA F N satp st pr va) (ixs n)
def ldX : Int := match ldI F N satp st pr va n with
  | some _ => 0
  | none => orL (ldB F N satp st pr va) 0 (ixs n)
def ldF : Bool := match ldI F N satp st pr va n with
  | some _ => true
  | none => false
def ldC : Int := match ldI F N satp st pr va n with
  | some i => sC F N N satp st pr 1 (litBin .add .u64 va i) 1
  | none => 0
def ldV : Int := match ldI F N satp st pr va n with
  | some i => litBin .add .u64 va i
  | none => 0
end
noncomputable def askL (L C N : Nat) (F : Nat → Int) (satp st va n : Int) : Bool := yes ((L = N ∧ C = N ∧ MemOk N F ∧ (N : Int) % 8 = 0) ∧ inU satp ∧ inU st ∧ inU va ∧ num n = true)
noncomputable def outL (F : Nat → Int) (N : Nat) (satp st pr va n : Int) : AV DC := .tuple [.int .u64 (.sym (ldX F N satp st pr va n)), .agg [.bool (.sym (ldF F N satp st pr va n)), .int .i64 (.sym (ldC F N satp st pr va n)), .int .u64 (.sym (ldV F N satp st pr va n))]]
noncomputable def aL (st c1 c2 c3 c4 c5 c6 c7 c8 satp c10 c11 pr va n : Int) : List (AV DC) := [.agg [.ptr 0 (.lit 0), .nilptr], .agg [.int .u64 (.sym st), .int .u64 (.sym c1), .int .u64 (.sym c2), .int .u64 (.sym c3), .int .u64 (.sym c4), .int .u64 (.sym c5), .int .u64 (.sym c6), .int .u64 (.sym c7), .int .u64 (.sym c8), .int .u64 (.sym satp), .int .u64 (.sym c10), .int .u64 (.sym c11)], .int .i64 (.sym pr), .int .u64 (.sym va), .int .i64 (.lit n)]
theorem add0 {x : Int} (h : inU x) : litBin .add .u64 x 0 = x := by
  rw [Page.addu]
  unfold inU at h
  omega

set_option maxRecDepth 100000 in
theorem ld1u0 (N : Nat) (F : Nat → Int) (st c1 c2 c3 c4 c5 c6 c7 c8 satp c10 c11 pr va : Int) : seeM (hsM 156 N N N F) (call Try.prog (cxnq true) 300 75 (aL st c1 c2 c3 c4 c5 c6 c7 c8 satp c10 c11 pr va 1) (hsM 156 N N N F)) [true] =
    some ([((litCmp .neq (litBin .rem .u64 va 1) 0) && ((askS N N N F satp st pr 1 (litBin .add .u64 va 0) 1) && (cond (sF F N N satp st pr 1 (litBin .add .u64 va 0) 1) true (askM N N N F (litBin .add .u64 (sT F N N satp st pr 1 (litBin .add .u64 va 0) 1) 0) 1))))], .val (.tuple [(.int .u64 (.sym (cond (sF F N N satp st pr 1 (litBin .add .u64 va 0) 1) 0 (litBin .or .u64 0 (litBin .shl .u64 (getS F N (litBin .add .u64 (sT F N N satp st pr 1 (litBin .add .u64 va 0) 1) 0) 1) 0))))), (.agg [(.bool (.sym (cond (sF F N N satp st pr 1 (litBin .add .u64 va 0) 1) (sF F N N satp st pr 1 (litBin .add .u64 va 0) 1) false))), (.int .i64 (.sym (cond (sF F N N satp st pr 1 (litBin .add .u64 va 0) 1) (sC F N N satp st pr 1 (litBin .add .u64 va 0) 1) 0))), (.int .u64 (.sym (cond (sF F N N satp st pr 1 (litBin .add .u64 va 0) 1) (sV F N N satp st pr 1 (litBin .add .u64 va 0) 1) 0)))])]), hsM 156 N N N F) := by kernel_rfl
set_option maxRecDepth 100000 in
theorem ld1a0 (N : Nat) (F : Nat → Int) (st c1 c2 c3 c4 c5 c6 c7 c8 satp c10 c11 pr va : Int) : seeM (hsM 156 N N N F) (call Try.prog (cxnq false) 300 75 (aL st c1 c2 c3 c4 c5 c6 c7 c8 satp c10 c11 pr va 1) (hsM 156 N N N F)) [true] =
    some ([((!(litCmp .neq (litBin .rem .u64 va 1) 0)) && ((askS N N N F satp st pr 1 (litBin .add .u64 va 0) 1) && (cond (sF F N N satp st pr 1 (litBin .add .u64 va 0) 1) true (askM N N N F (litBin .add .u64 (sT F N N satp st pr 1 (litBin .add .u64 va 0) 1) 0) 1))))], .val (.tuple [(.int .u64 (.sym (cond (sF F N N satp st pr 1 (litBin .add .u64 va 0) 1) 0 (litBin .or .u64 0 (litBin .shl .u64 (getS F N (litBin .add .u64 (sT F N N satp st pr 1 (litBin .add .u64 va 0) 1) 0) 1) 0))))), (.agg [(.bool (.sym (cond (sF F N N satp st pr 1 (litBin .add .u64 va 0) 1) (sF F N N satp st pr 1 (litBin .add .u64 va 0) 1) false))), (.int .i64 (.sym (cond (sF F N N satp st pr 1 (litBin .add .u64 va 0) 1) (sC F N N satp st pr 1 (litBin .add .u64 va 0) 1) 0))), (.int .u64 (.sym (cond (sF F N N satp st pr 1 (litBin .add .u64 va 0) 1) (sV F N N satp st pr 1 (litBin .add .u64 va 0) 1) 0)))])]), hsM 156 N N N F) := by kernel_rfl
set_option maxRecDepth 100000 in
theorem ld2u0 (N : Nat) (F : Nat → Int) (st c1 c2 c3 c4 c5 c6 c7 c8 satp c10 c11 pr va : Int) : seeM (hsM 156 N N N F) (call Try.prog (cxnq true) 300 75 (aL st c1 c2 c3 c4 c5 c6 c7 c8 satp c10 c11 pr va 2) (hsM 156 N N N F)) [true, true, true] =
    some ([(litCmp .neq (litBin .rem .u64 va 2) 0), (askS N N N F satp st pr 1 (litBin .add .u64 va 0) 1), (sF F N N satp st pr 1 (litBin .add .u64 va 0) 1)], .val (.tuple [(.int .u64 (.lit 0)), (.agg [(.bool (.sym (sF F N N satp st pr 1 (litBin .add .u64 va 0) 1))), (.int .i64 (.sym (sC F N N satp st pr 1 (litBin .add .u64 va 0) 1))), (.int .u64 (.sym (sV F N N satp st pr 1 (litBin .add .u64 va 0) 1)))])]), hsM 156 N N N F) := by kernel_rfl
set_option maxRecDepth 100000 in
theorem ld2u1 (N : Nat) (F : Nat → Int) (st c1 c2 c3 c4 c5 c6 c7 c8 satp c10 c11 pr va : Int) : seeM (hsM 156 N N N F) (call Try.prog (cxnq true) 300 75 (aL st c1 c2 c3 c4 c5 c6 c7 c8 satp c10 c11 pr va 2) (hsM 156 N N N F)) [true, true, false, true, true] =
    some ([(litCmp .neq (litBin .rem .u64 va 2) 0), (askS N N N F satp st pr 1 (litBin .add .u64 va 0) 1), (sF F N N satp st pr 1 (litBin .add .u64 va 0) 1), (askS N N N F satp st pr 1 (litBin .add .u64 va 1) 1), (sF F N N satp st pr 1 (litBin .add .u64 va 1) 1)], .val (.tuple [(.int .u64 (.lit 0)), (.agg [(.bool (.sym (sF F N N satp st pr 1 (litBin .add .u64 va 1) 1))), (.int .i64 (.sym (sC F N N satp st pr 1 (litBin .add .u64 va 1) 1))), (.int .u64 (.sym (sV F N N satp st pr 1 (litBin .add .u64 va 1) 1)))])]), hsM 156 N N N F) := by kernel_rfl
set_option maxRecDepth 100000 in
theorem ld2u2 (N : Nat) (F : Nat → Int) (st c1 c2 c3 c4 c5 c6 c7 c8 satp c10 c11 pr va : Int) : seeM (hsM 156 N N N F) (call Try.prog (cxnq true) 300 75 (aL st c1 c2 c3 c4 c5 c6 c7 c8 satp c10 c11 pr va 2) (hsM 156 N N N F)) [true, true, false, true, false, true] =
    some ([(litCmp .neq (litBin .rem .u64 va 2) 0), (askS N N N F satp st pr 1 (litBin .add .u64 va 0) 1), (sF F N N satp st pr 1 (litBin .add .u64 va 0) 1), (askS N N N F satp st pr 1 (litBin .add .u64 va 1) 1), (sF F N N satp st pr 1 (litBin .add .u64 va 1) 1), ((askM N N N F (litBin .add .u64 (sT F N N satp st pr 1 (litBin .add .u64 va 0) 1) 0) 1) && (askM N N N F (litBin .add .u64 (sT F N N satp st pr 1 (litBin .add .u64 va 1) 1) 0) 1))], .val (.tuple [(.int .u64 (.sym (litBin .or .u64 (litBin .or .u64 0 (litBin .shl .u64 (getS F N (litBin .add .u64 (sT F N N satp st pr 1 (litBin .add .u64 va 0) 1) 0) 1) 0)) (litBin .shl .u64 (getS F N (litBin .add .u64 (sT F N N satp st pr 1 (litBin .add .u64 va 1) 1) 0) 1) 8)))), (.agg [(.bool (.lit false)), (.int .i64 (.lit 0)), (.int .u64 (.lit 0))])]), hsM 156 N N N F) := by kernel_rfl
set_option maxRecDepth 100000 in
theorem ld2a0 (N : Nat) (F : Nat → Int) (st c1 c2 c3 c4 c5 c6 c7 c8 satp c10 c11 pr va : Int) : seeM (hsM 156 N N N F) (call Try.prog (cxnq false) 300 75 (aL st c1 c2 c3 c4 c5 c6 c7 c8 satp c10 c11 pr va 2) (hsM 156 N N N F)) [true, true, true] =
    some ([(!(litCmp .neq (litBin .rem .u64 va 2) 0)), (askS N N N F satp st pr 1 (litBin .add .u64 va 0) 2), (sF F N N satp st pr 1 (litBin .add .u64 va 0) 2)], .val (.tuple [(.int .u64 (.lit 0)), (.agg [(.bool (.sym (sF F N N satp st pr 1 (litBin .add .u64 va 0) 2))), (.int .i64 (.sym (sC F N N satp st pr 1 (litBin .add .u64 va 0) 2))), (.int .u64 (.sym (sV F N N satp st pr 1 (litBin .add .u64 va 0) 2)))])]), hsM 156 N N N F) := by kernel_rfl
set_option maxRecDepth 100000 in
theorem ld2a1 (N : Nat) (F : Nat → Int) (st c1 c2 c3 c4 c5 c6 c7 c8 satp c10 c11 pr va : Int) : seeM (hsM 156 N N N F) (call Try.prog (cxnq false) 300 75 (aL st c1 c2 c3 c4 c5 c6 c7 c8 satp c10 c11 pr va 2) (hsM 156 N N N F)) [true, true, false, true] =
    some ([(!(litCmp .neq (litBin .rem .u64 va 2) 0)), (askS N N N F satp st pr 1 (litBin .add .u64 va 0) 2), (sF F N N satp st pr 1 (litBin .add .u64 va 0) 2), ((askM N N N F (litBin .add .u64 (sT F N N satp st pr 1 (litBin .add .u64 va 0) 2) 0) 1) && (askM N N N F (litBin .add .u64 (sT F N N satp st pr 1 (litBin .add .u64 va 0) 2) 1) 1))], .val (.tuple [(.int .u64 (.sym (litBin .or .u64 (litBin .or .u64 0 (litBin .shl .u64 (getS F N (litBin .add .u64 (sT F N N satp st pr 1 (litBin .add .u64 va 0) 2) 0) 1) 0)) (litBin .shl .u64 (getS F N (litBin .add .u64 (sT F N N satp st pr 1 (litBin .add .u64 va 0) 2) 1) 1) 8)))), (.agg [(.bool (.lit false)), (.int .i64 (.lit 0)), (.int .u64 (.lit 0))])]), hsM 156 N N N F) := by kernel_rfl
set_option maxRecDepth 100000 in
theorem ld4u0 (N : Nat) (F : Nat → Int) (st c1 c2 c3 c4 c5 c6 c7 c8 satp c10 c11 pr va : Int) : seeM (hsM 156 N N N F) (call Try.prog (cxnq true) 300 75 (aL st c1 c2 c3 c4 c5 c6 c7 c8 satp c10 c11 pr va 4) (hsM 156 N N N F)) [true, true, true] =
    some ([(litCmp .neq (litBin .rem .u64 va 4) 0), (askS N N N F satp st pr 1 (litBin .add .u64 va 0) 1), (sF F N N satp st pr 1 (litBin .add .u64 va 0) 1)], .val (.tuple [(.int .u64 (.lit 0)), (.agg [(.bool (.sym (sF F N N satp st pr 1 (litBin .add .u64 va 0) 1))), (.int .i64 (.sym (sC F N N satp st pr 1 (litBin .add .u64 va 0) 1))), (.int .u64 (.sym (sV F N N satp st pr 1 (litBin .add .u64 va 0) 1)))])]), hsM 156 N N N F) := by kernel_rfl
set_option maxRecDepth 100000 in
theorem ld4u1 (N : Nat) (F : Nat → Int) (st c1 c2 c3 c4 c5 c6 c7 c8 satp c10 c11 pr va : Int) : seeM (hsM 156 N N N F) (call Try.prog (cxnq true) 300 75 (aL st c1 c2 c3 c4 c5 c6 c7 c8 satp c10 c11 pr va 4) (hsM 156 N N N F)) [true, true, false, true, true] =
    some ([(litCmp .neq (litBin .rem .u64 va 4) 0), (askS N N N F satp st pr 1 (litBin .add .u64 va 0) 1), (sF F N N satp st pr 1 (litBin .add .u64 va 0) 1), (askS N N N F satp st pr 1 (litBin .add .u64 va 1) 1), (sF F N N satp st pr 1 (litBin .add .u64 va 1) 1)], .val (.tuple [(.int .u64 (.lit 0)), (.agg [(.bool (.sym (sF F N N satp st pr 1 (litBin .add .u64 va 1) 1))), (.int .i64 (.sym (sC F N N satp st pr 1 (litBin .add .u64 va 1) 1))), (.int .u64 (.sym (sV F N N satp st pr 1 (litBin .add .u64 va 1) 1)))])]), hsM 156 N N N F) := by kernel_rfl
set_option maxRecDepth 100000 in
theorem ld4u2 (N : Nat) (F : Nat → Int) (st c1 c2 c3 c4 c5 c6 c7 c8 satp c10 c11 pr va : Int) : seeM (hsM 156 N N N F) (call Try.prog (cxnq true) 300 75 (aL st c1 c2 c3 c4 c5 c6 c7 c8 satp c10 c11 pr va 4) (hsM 156 N N N F)) [true, true, false, true, false, true, true] =
    some ([(litCmp .neq (litBin .rem .u64 va 4) 0), (askS N N N F satp st pr 1 (litBin .add .u64 va 0) 1), (sF F N N satp st pr 1 (litBin .add .u64 va 0) 1), (askS N N N F satp st pr 1 (litBin .add .u64 va 1) 1), (sF F N N satp st pr 1 (litBin .add .u64 va 1) 1), (askS N N N F satp st pr 1 (litBin .add .u64 va 2) 1), (sF F N N satp st pr 1 (litBin .add .u64 va 2) 1)], .val (.tuple [(.int .u64 (.lit 0)), (.agg [(.bool (.sym (sF F N N satp st pr 1 (litBin .add .u64 va 2) 1))), (.int .i64 (.sym (sC F N N satp st pr 1 (litBin .add .u64 va 2) 1))), (.int .u64 (.sym (sV F N N satp st pr 1 (litBin .add .u64 va 2) 1)))])]), hsM 156 N N N F) := by kernel_rfl
set_option maxRecDepth 100000 in
theorem ld4u3 (N : Nat) (F : Nat → Int) (st c1 c2 c3 c4 c5 c6 c7 c8 satp c10 c11 pr va : Int) : seeM (hsM 156 N N N F) (call Try.prog (cxnq true) 300 75 (aL st c1 c2 c3 c4 c5 c6 c7 c8 satp c10 c11 pr va 4) (hsM 156 N N N F)) [true, true, false, true, false, true, false, true, true] =
    some ([(litCmp .neq (litBin .rem .u64 va 4) 0), (askS N N N F satp st pr 1 (litBin .add .u64 va 0) 1), (sF F N N satp st pr 1 (litBin .add .u64 va 0) 1), (askS N N N F satp st pr 1 (litBin .add .u64 va 1) 1), (sF F N N satp st pr 1 (litBin .add .u64 va 1) 1), (askS N N N F satp st pr 1 (litBin .add .u64 va 2) 1), (sF F N N satp st pr 1 (litBin .add .u64 va 2) 1), (askS N N N F satp st pr 1 (litBin .add .u64 va 3) 1), (sF F N N satp st pr 1 (litBin .add .u64 va 3) 1)], .val (.tuple [(.int .u64 (.lit 0)), (.agg [(.bool (.sym (sF F N N satp st pr 1 (litBin .add .u64 va 3) 1))), (.int .i64 (.sym (sC F N N satp st pr 1 (litBin .add .u64 va 3) 1))), (.int .u64 (.sym (sV F N N satp st pr 1 (litBin .add .u64 va 3) 1)))])]), hsM 156 N N N F) := by kernel_rfl
set_option maxRecDepth 100000 in
theorem ld4u4 (N : Nat) (F : Nat → Int) (st c1 c2 c3 c4 c5 c6 c7 c8 satp c10 c11 pr va : Int) : seeM (hsM 156 N N N F) (call Try.prog (cxnq true) 300 75 (aL st c1 c2 c3 c4 c5 c6 c7 c8 satp c10 c11 pr va 4) (hsM 156 N N N F)) [true, true, false, true, false, true, false, true, false, true] =
    some ([(litCmp .neq (litBin .rem .u64 va 4) 0), (askS N N N F satp st pr 1 (litBin .add .u64 va 0) 1), (sF F N N satp st pr 1 (litBin .add .u64 va 0) 1), (askS N N N F satp st pr 1 (litBin .add .u64 va 1) 1), (sF F N N satp st pr 1 (litBin .add .u64 va 1) 1), (askS N N N F satp st pr 1 (litBin .add .u64 va 2) 1), (sF F N N satp st pr 1 (litBin .add .u64 va 2) 1), (askS N N N F satp st pr 1 (litBin .add .u64 va 3) 1), (sF F N N satp st pr 1 (litBin .add .u64 va 3) 1), ((askM N N N F (litBin .add .u64 (sT F N N satp st pr 1 (litBin .add .u64 va 0) 1) 0) 1) && ((askM N N N F (litBin .add .u64 (sT F N N satp st pr 1 (litBin .add .u64 va 1) 1) 0) 1) && ((askM N N N F (litBin .add .u64 (sT F N N satp st pr 1 (litBin .add .u64 va 2) 1) 0) 1) && (askM N N N F (litBin .add .u64 (sT F N N satp st pr 1 (litBin .add .u64 va 3) 1) 0) 1))))], .val (.tuple [(.int .u64 (.sym (litBin .or .u64 (litBin .or .u64 (litBin .or .u64 (litBin .or .u64 0 (litBin .shl .u64 (getS F N (litBin .add .u64 (sT F N N satp st pr 1 (litBin .add .u64 va 0) 1) 0) 1) 0)) (litBin .shl .u64 (getS F N (litBin .add .u64 (sT F N N satp st pr 1 (litBin .add .u64 va 1) 1) 0) 1) 8)) (litBin .shl .u64 (getS F N (litBin .add .u64 (sT F N N satp st pr 1 (litBin .add .u64 va 2) 1) 0) 1) 16)) (litBin .shl .u64 (getS F N (litBin .add .u64 (sT F N N satp st pr 1 (litBin .add .u64 va 3) 1) 0) 1) 24)))), (.agg [(.bool (.lit false)), (.int .i64 (.lit 0)), (.int .u64 (.lit 0))])]), hsM 156 N N N F) := by kernel_rfl
set_option maxRecDepth 100000 in
theorem ld4a0 (N : Nat) (F : Nat → Int) (st c1 c2 c3 c4 c5 c6 c7 c8 satp c10 c11 pr va : Int) : seeM (hsM 156 N N N F) (call Try.prog (cxnq false) 300 75 (aL st c1 c2 c3 c4 c5 c6 c7 c8 satp c10 c11 pr va 4) (hsM 156 N N N F)) [true, true, true] =
    some ([(!(litCmp .neq (litBin .rem .u64 va 4) 0)), (askS N N N F satp st pr 1 (litBin .add .u64 va 0) 4), (sF F N N satp st pr 1 (litBin .add .u64 va 0) 4)], .val (.tuple [(.int .u64 (.lit 0)), (.agg [(.bool (.sym (sF F N N satp st pr 1 (litBin .add .u64 va 0) 4))), (.int .i64 (.sym (sC F N N satp st pr 1 (litBin .add .u64 va 0) 4))), (.int .u64 (.sym (sV F N N satp st pr 1 (litBin .add .u64 va 0) 4)))])]), hsM 156 N N N F) := by kernel_rfl
set_option maxRecDepth 100000 in
theorem ld4a1 (N : Nat) (F : Nat → Int) (st c1 c2 c3 c4 c5 c6 c7 c8 satp c10 c11 pr va : Int) : seeM (hsM 156 N N N F) (call Try.prog (cxnq false) 300 75 (aL st c1 c2 c3 c4 c5 c6 c7 c8 satp c10 c11 pr va 4) (hsM 156 N N N F)) [true, true, false, true] =
    some ([(!(litCmp .neq (litBin .rem .u64 va 4) 0)), (askS N N N F satp st pr 1 (litBin .add .u64 va 0) 4), (sF F N N satp st pr 1 (litBin .add .u64 va 0) 4), ((askM N N N F (litBin .add .u64 (sT F N N satp st pr 1 (litBin .add .u64 va 0) 4) 0) 1) && ((askM N N N F (litBin .add .u64 (sT F N N satp st pr 1 (litBin .add .u64 va 0) 4) 1) 1) && ((askM N N N F (litBin .add .u64 (sT F N N satp st pr 1 (litBin .add .u64 va 0) 4) 2) 1) && (askM N N N F (litBin .add .u64 (sT F N N satp st pr 1 (litBin .add .u64 va 0) 4) 3) 1))))], .val (.tuple [(.int .u64 (.sym (litBin .or .u64 (litBin .or .u64 (litBin .or .u64 (litBin .or .u64 0 (litBin .shl .u64 (getS F N (litBin .add .u64 (sT F N N satp st pr 1 (litBin .add .u64 va 0) 4) 0) 1) 0)) (litBin .shl .u64 (getS F N (litBin .add .u64 (sT F N N satp st pr 1 (litBin .add .u64 va 0) 4) 1) 1) 8)) (litBin .shl .u64 (getS F N (litBin .add .u64 (sT F N N satp st pr 1 (litBin .add .u64 va 0) 4) 2) 1) 16)) (litBin .shl .u64 (getS F N (litBin .add .u64 (sT F N N satp st pr 1 (litBin .add .u64 va 0) 4) 3) 1) 24)))), (.agg [(.bool (.lit false)), (.int .i64 (.lit 0)), (.int .u64 (.lit 0))])]), hsM 156 N N N F) := by kernel_rfl
set_option maxRecDepth 100000 in
theorem ld8u0 (N : Nat) (F : Nat → Int) (st c1 c2 c3 c4 c5 c6 c7 c8 satp c10 c11 pr va : Int) : seeM (hsM 156 N N N F) (call Try.prog (cxnq true) 300 75 (aL st c1 c2 c3 c4 c5 c6 c7 c8 satp c10 c11 pr va 8) (hsM 156 N N N F)) [true, true, true] =
    some ([(litCmp .neq (litBin .rem .u64 va 8) 0), (askS N N N F satp st pr 1 (litBin .add .u64 va 0) 1), (sF F N N satp st pr 1 (litBin .add .u64 va 0) 1)], .val (.tuple [(.int .u64 (.lit 0)), (.agg [(.bool (.sym (sF F N N satp st pr 1 (litBin .add .u64 va 0) 1))), (.int .i64 (.sym (sC F N N satp st pr 1 (litBin .add .u64 va 0) 1))), (.int .u64 (.sym (sV F N N satp st pr 1 (litBin .add .u64 va 0) 1)))])]), hsM 156 N N N F) := by kernel_rfl
set_option maxRecDepth 100000 in
theorem ld8u1 (N : Nat) (F : Nat → Int) (st c1 c2 c3 c4 c5 c6 c7 c8 satp c10 c11 pr va : Int) : seeM (hsM 156 N N N F) (call Try.prog (cxnq true) 300 75 (aL st c1 c2 c3 c4 c5 c6 c7 c8 satp c10 c11 pr va 8) (hsM 156 N N N F)) [true, true, false, true, true] =
    some ([(litCmp .neq (litBin .rem .u64 va 8) 0), (askS N N N F satp st pr 1 (litBin .add .u64 va 0) 1), (sF F N N satp st pr 1 (litBin .add .u64 va 0) 1), (askS N N N F satp st pr 1 (litBin .add .u64 va 1) 1), (sF F N N satp st pr 1 (litBin .add .u64 va 1) 1)], .val (.tuple [(.int .u64 (.lit 0)), (.agg [(.bool (.sym (sF F N N satp st pr 1 (litBin .add .u64 va 1) 1))), (.int .i64 (.sym (sC F N N satp st pr 1 (litBin .add .u64 va 1) 1))), (.int .u64 (.sym (sV F N N satp st pr 1 (litBin .add .u64 va 1) 1)))])]), hsM 156 N N N F) := by kernel_rfl
set_option maxRecDepth 100000 in
theorem ld8u2 (N : Nat) (F : Nat → Int) (st c1 c2 c3 c4 c5 c6 c7 c8 satp c10 c11 pr va : Int) : seeM (hsM 156 N N N F) (call Try.prog (cxnq true) 300 75 (aL st c1 c2 c3 c4 c5 c6 c7 c8 satp c10 c11 pr va 8) (hsM 156 N N N F)) [true, true, false, true, false, true, true] =
    some ([(litCmp .neq (litBin .rem .u64 va 8) 0), (askS N N N F satp st pr 1 (litBin .add .u64 va 0) 1), (sF F N N satp st pr 1 (litBin .add .u64 va 0) 1), (askS N N N F satp st pr 1 (litBin .add .u64 va 1) 1), (sF F N N satp st pr 1 (litBin .add .u64 va 1) 1), (askS N N N F satp st pr 1 (litBin .add .u64 va 2) 1), (sF F N N satp st pr 1 (litBin .add .u64 va 2) 1)], .val (.tuple [(.int .u64 (.lit 0)), (.agg [(.bool (.sym (sF F N N satp st pr 1 (litBin .add .u64 va 2) 1))), (.int .i64 (.sym (sC F N N satp st pr 1 (litBin .add .u64 va 2) 1))), (.int .u64 (.sym (sV F N N satp st pr 1 (litBin .add .u64 va 2) 1)))])]), hsM 156 N N N F) := by kernel_rfl
set_option maxRecDepth 100000 in
theorem ld8u3 (N : Nat) (F : Nat → Int) (st c1 c2 c3 c4 c5 c6 c7 c8 satp c10 c11 pr va : Int) : seeM (hsM 156 N N N F) (call Try.prog (cxnq true) 300 75 (aL st c1 c2 c3 c4 c5 c6 c7 c8 satp c10 c11 pr va 8) (hsM 156 N N N F)) [true, true, false, true, false, true, false, true, true] =
    some ([(litCmp .neq (litBin .rem .u64 va 8) 0), (askS N N N F satp st pr 1 (litBin .add .u64 va 0) 1), (sF F N N satp st pr 1 (litBin .add .u64 va 0) 1), (askS N N N F satp st pr 1 (litBin .add .u64 va 1) 1), (sF F N N satp st pr 1 (litBin .add .u64 va 1) 1), (askS N N N F satp st pr 1 (litBin .add .u64 va 2) 1), (sF F N N satp st pr 1 (litBin .add .u64 va 2) 1), (askS N N N F satp st pr 1 (litBin .add .u64 va 3) 1), (sF F N N satp st pr 1 (litBin .add .u64 va 3) 1)], .val (.tuple [(.int .u64 (.lit 0)), (.agg [(.bool (.sym (sF F N N satp st pr 1 (litBin .add .u64 va 3) 1))), (.int .i64 (.sym (sC F N N satp st pr 1 (litBin .add .u64 va 3) 1))), (.int .u64 (.sym (sV F N N satp st pr 1 (litBin .add .u64 va 3) 1)))])]), hsM 156 N N N F) := by kernel_rfl
set_option maxRecDepth 100000 in
theorem ld8u4 (N : Nat) (F : Nat → Int) (st c1 c2 c3 c4 c5 c6 c7 c8 satp c10 c11 pr va : Int) : seeM (hsM 156 N N N F) (call Try.prog (cxnq true) 300 75 (aL st c1 c2 c3 c4 c5 c6 c7 c8 satp c10 c11 pr va 8) (hsM 156 N N N F)) [true, true, false, true, false, true, false, true, false, true, true] =
    some ([(litCmp .neq (litBin .rem .u64 va 8) 0), (askS N N N F satp st pr 1 (litBin .add .u64 va 0) 1), (sF F N N satp st pr 1 (litBin .add .u64 va 0) 1), (askS N N N F satp st pr 1 (litBin .add .u64 va 1) 1), (sF F N N satp st pr 1 (litBin .add .u64 va 1) 1), (askS N N N F satp st pr 1 (litBin .add .u64 va 2) 1), (sF F N N satp st pr 1 (litBin .add .u64 va 2) 1), (askS N N N F satp st pr 1 (litBin .add .u64 va 3) 1), (sF F N N satp st pr 1 (litBin .add .u64 va 3) 1), (askS N N N F satp st pr 1 (litBin .add .u64 va 4) 1), (sF F N N satp st pr 1 (litBin .add .u64 va 4) 1)], .val (.tuple [(.int .u64 (.lit 0)), (.agg [(.bool (.sym (sF F N N satp st pr 1 (litBin .add .u64 va 4) 1))), (.int .i64 (.sym (sC F N N satp st pr 1 (litBin .add .u64 va 4) 1))), (.int .u64 (.sym (sV F N N satp st pr 1 (litBin .add .u64 va 4) 1)))])]), hsM 156 N N N F) := by kernel_rfl
set_option maxRecDepth 100000 in
theorem ld8u5 (N : Nat) (F : Nat → Int) (st c1 c2 c3 c4 c5 c6 c7 c8 satp c10 c11 pr va : Int) : seeM (hsM 156 N N N F) (call Try.prog (cxnq true) 300 75 (aL st c1 c2 c3 c4 c5 c6 c7 c8 satp c10 c11 pr va 8) (hsM 156 N N N F)) [true, true, false, true, false, true, false, true, false, true, false, true, true] =
    some ([(litCmp .neq (litBin .rem .u64 va 8) 0), (askS N N N F satp st pr 1 (litBin .add .u64 va 0) 1), (sF F N N satp st pr 1 (litBin .add .u64 va 0) 1), (askS N N N F satp st pr 1 (litBin .add .u64 va 1) 1), (sF F N N satp st pr 1 (litBin .add .u64 va 1) 1), (askS N N N F satp st pr 1 (litBin .add .u64 va 2) 1), (sF F N N satp st pr 1 (litBin .add .u64 va 2) 1), (askS N N N F satp st pr 1 (litBin .add .u64 va 3) 1), (sF F N N satp st pr 1 (litBin .add .u64 va 3) 1), (askS N N N F satp st pr 1 (litBin .add .u64 va 4) 1), (sF F N N satp st pr 1 (litBin .add .u64 va 4) 1), (askS N N N F satp st pr 1 (litBin .add .u64 va 5) 1), (sF F N N satp st pr 1 (litBin .add .u64 va 5) 1)], .val (.tuple [(.int .u64 (.lit 0)), (.agg [(.bool (.sym (sF F N N satp st pr 1 (litBin .add .u64 va 5) 1))), (.int .i64 (.sym (sC F N N satp st pr 1 (litBin .add .u64 va 5) 1))), (.int .u64 (.sym (sV F N N satp st pr 1 (litBin .add .u64 va 5) 1)))])]), hsM 156 N N N F) := by kernel_rfl
set_option maxRecDepth 100000 in
theorem ld8u6 (N : Nat) (F : Nat → Int) (st c1 c2 c3 c4 c5 c6 c7 c8 satp c10 c11 pr va : Int) : seeM (hsM 156 N N N F) (call Try.prog (cxnq true) 300 75 (aL st c1 c2 c3 c4 c5 c6 c7 c8 satp c10 c11 pr va 8) (hsM 156 N N N F)) [true, true, false, true, false, true, false, true, false, true, false, true, false, true, true] =
    some ([(litCmp .neq (litBin .rem .u64 va 8) 0), (askS N N N F satp st pr 1 (litBin .add .u64 va 0) 1), (sF F N N satp st pr 1 (litBin .add .u64 va 0) 1), (askS N N N F satp st pr 1 (litBin .add .u64 va 1) 1), (sF F N N satp st pr 1 (litBin .add .u64 va 1) 1), (askS N N N F satp st pr 1 (litBin .add .u64 va 2) 1), (sF F N N satp st pr 1 (litBin .add .u64 va 2) 1), (askS N N N F satp st pr 1 (litBin .add .u64 va 3) 1), (sF F N N satp st pr 1 (litBin .add .u64 va 3) 1), (askS N N N F satp st pr 1 (litBin .add .u64 va 4) 1), (sF F N N satp st pr 1 (litBin .add .u64 va 4) 1), (askS N N N F satp st pr 1 (litBin .add .u64 va 5) 1), (sF F N N satp st pr 1 (litBin .add .u64 va 5) 1), (askS N N N F satp st pr 1 (litBin .add .u64 va 6) 1), (sF F N N satp st pr 1 (litBin .add .u64 va 6) 1)], .val (.tuple [(.int .u64 (.lit 0)), (.agg [(.bool (.sym (sF F N N satp st pr 1 (litBin .add .u64 va 6) 1))), (.int .i64 (.sym (sC F N N satp st pr 1 (litBin .add .u64 va 6) 1))), (.int .u64 (.sym (sV F N N satp st pr 1 (litBin .add .u64 va 6) 1)))])]), hsM 156 N N N F) := by kernel_rfl
set_option maxRecDepth 100000 in
theorem ld8u7 (N : Nat) (F : Nat → Int) (st c1 c2 c3 c4 c5 c6 c7 c8 satp c10 c11 pr va : Int) : seeM (hsM 156 N N N F) (call Try.prog (cxnq true) 300 75 (aL st c1 c2 c3 c4 c5 c6 c7 c8 satp c10 c11 pr va 8) (hsM 156 N N N F)) [true, true, false, true, false, true, false, true, false, true, false, true, false, true, false, true, true] =
    some ([(litCmp .neq (litBin .rem .u64 va 8) 0), (askS N N N F satp st pr 1 (litBin .add .u64 va 0) 1), (sF F N N satp st pr 1 (litBin .add .u64 va 0) 1), (askS N N N F satp st pr 1 (litBin .add .u64 va 1) 1), (sF F N N satp st pr 1 (litBin .add .u64 va 1) 1), (askS N N N F satp st pr 1 (litBin .add .u64 va 2) 1), (sF F N N satp st pr 1 (litBin .add .u64 va 2) 1), (askS N N N F satp st pr 1 (litBin .add .u64 va 3) 1), (sF F N N satp st pr 1 (litBin .add .u64 va 3) 1), (askS N N N F satp st pr 1 (litBin .add .u64 va 4) 1), (sF F N N satp st pr 1 (litBin .add .u64 va 4) 1), (askS N N N F satp st pr 1 (litBin .add .u64 va 5) 1), (sF F N N satp st pr 1 (litBin .add .u64 va 5) 1), (askS N N N F satp st pr 1 (litBin .add .u64 va 6) 1), (sF F N N satp st pr 1 (litBin .add .u64 va 6) 1), (askS N N N F satp st pr 1 (litBin .add .u64 va 7) 1), (sF F N N satp st pr 1 (litBin .add .u64 va 7) 1)], .val (.tuple [(.int .u64 (.lit 0)), (.agg [(.bool (.sym (sF F N N satp st pr 1 (litBin .add .u64 va 7) 1))), (.int .i64 (.sym (sC F N N satp st pr 1 (litBin .add .u64 va 7) 1))), (.int .u64 (.sym (sV F N N satp st pr 1 (litBin .add .u64 va 7) 1)))])]), hsM 156 N N N F) := by kernel_rfl
set_option maxRecDepth 100000 in
theorem ld8u8 (N : Nat) (F : Nat → Int) (st c1 c2 c3 c4 c5 c6 c7 c8 satp c10 c11 pr va : Int) : seeM (hsM 156 N N N F) (call Try.prog (cxnq true) 300 75 (aL st c1 c2 c3 c4 c5 c6 c7 c8 satp c10 c11 pr va 8) (hsM 156 N N N F)) [true, true, false, true, false, true, false, true, false, true, false, true, false, true, false, true, false, true] =
    some ([(litCmp .neq (litBin .rem .u64 va 8) 0), (askS N N N F satp st pr 1 (litBin .add .u64 va 0) 1), (sF F N N satp st pr 1 (litBin .add .u64 va 0) 1), (askS N N N F satp st pr 1 (litBin .add .u64 va 1) 1), (sF F N N satp st pr 1 (litBin .add .u64 va 1) 1), (askS N N N F satp st pr 1 (litBin .add .u64 va 2) 1), (sF F N N satp st pr 1 (litBin .add .u64 va 2) 1), (askS N N N F satp st pr 1 (litBin .add .u64 va 3) 1), (sF F N N satp st pr 1 (litBin .add .u64 va 3) 1), (askS N N N F satp st pr 1 (litBin .add .u64 va 4) 1), (sF F N N satp st pr 1 (litBin .add .u64 va 4) 1), (askS N N N F satp st pr 1 (litBin .add .u64 va 5) 1), (sF F N N satp st pr 1 (litBin .add .u64 va 5) 1), (askS N N N F satp st pr 1 (litBin .add .u64 va 6) 1), (sF F N N satp st pr 1 (litBin .add .u64 va 6) 1), (askS N N N F satp st pr 1 (litBin .add .u64 va 7) 1), (sF F N N satp st pr 1 (litBin .add .u64 va 7) 1), ((askM N N N F (litBin .add .u64 (sT F N N satp st pr 1 (litBin .add .u64 va 0) 1) 0) 1) && ((askM N N N F (litBin .add .u64 (sT F N N satp st pr 1 (litBin .add .u64 va 1) 1) 0) 1) && ((askM N N N F (litBin .add .u64 (sT F N N satp st pr 1 (litBin .add .u64 va 2) 1) 0) 1) && ((askM N N N F (litBin .add .u64 (sT F N N satp st pr 1 (litBin .add .u64 va 3) 1) 0) 1) && ((askM N N N F (litBin .add .u64 (sT F N N satp st pr 1 (litBin .add .u64 va 4) 1) 0) 1) && ((askM N N N F (litBin .add .u64 (sT F N N satp st pr 1 (litBin .add .u64 va 5) 1) 0) 1) && ((askM N N N F (litBin .add .u64 (sT F N N satp st pr 1 (litBin .add .u64 va 6) 1) 0) 1) && (askM N N N F (litBin .add .u64 (sT F N N satp st pr 1 (litBin .add .u64 va 7) 1) 0) 1))))))))], .val (.tuple [(.int .u64 (.sym (litBin .or .u64 (litBin .or .u64 (litBin .or .u64 (litBin .or .u64 (litBin .or .u64 (litBin .or .u64 (litBin .or .u64 (litBin .or .u64 0 (litBin .shl .u64 (getS F N (litBin .add .u64 (sT F N N satp st pr 1 (litBin .add .u64 va 0) 1) 0) 1) 0)) (litBin .shl .u64 (getS F N (litBin .add .u64 (sT F N N satp st pr 1 (litBin .add .u64 va 1) 1) 0) 1) 8)) (litBin .shl .u64 (getS F N (litBin .add .u64 (sT F N N satp st pr 1 (litBin .add .u64 va 2) 1) 0) 1) 16)) (litBin .shl .u64 (getS F N (litBin .add .u64 (sT F N N satp st pr 1 (litBin .add .u64 va 3) 1) 0) 1) 24)) (litBin .shl .u64 (getS F N (litBin .add .u64 (sT F N N satp st pr 1 (litBin .add .u64 va 4) 1) 0) 1) 32)) (litBin .shl .u64 (getS F N (litBin .add .u64 (sT F N N satp st pr 1 (litBin .add .u64 va 5) 1) 0) 1) 40)) (litBin .shl .u64 (getS F N (litBin .add .u64 (sT F N N satp st pr 1 (litBin .add .u64 va 6) 1) 0) 1) 48)) (litBin .shl .u64 (getS F N (litBin .add .u64 (sT F N N satp st pr 1 (litBin .add .u64 va 7) 1) 0) 1) 56)))), (.agg [(.bool (.lit false)), (.int .i64 (.lit 0)), (.int .u64 (.lit 0))])]), hsM 156 N N N F) := by kernel_rfl
set_option maxRecDepth 100000 in
theorem ld8a0 (N : Nat) (F : Nat → Int) (st c1 c2 c3 c4 c5 c6 c7 c8 satp c10 c11 pr va : Int) : seeM (hsM 156 N N N F) (call Try.prog (cxnq false) 300 75 (aL st c1 c2 c3 c4 c5 c6 c7 c8 satp c10 c11 pr va 8) (hsM 156 N N N F)) [true, true, true] =
    some ([(!(litCmp .neq (litBin .rem .u64 va 8) 0)), (askS N N N F satp st pr 1 (litBin .add .u64 va 0) 8), (sF F N N satp st pr 1 (litBin .add .u64 va 0) 8)], .val (.tuple [(.int .u64 (.lit 0)), (.agg [(.bool (.sym (sF F N N satp st pr 1 (litBin .add .u64 va 0) 8))), (.int .i64 (.sym (sC F N N satp st pr 1 (litBin .add .u64 va 0) 8))), (.int .u64 (.sym (sV F N N satp st pr 1 (litBin .add .u64 va 0) 8)))])]), hsM 156 N N N F) := by kernel_rfl
set_option maxRecDepth 100000 in
theorem ld8a1 (N : Nat) (F : Nat → Int) (st c1 c2 c3 c4 c5 c6 c7 c8 satp c10 c11 pr va : Int) : seeM (hsM 156 N N N F) (call Try.prog (cxnq false) 300 75 (aL st c1 c2 c3 c4 c5 c6 c7 c8 satp c10 c11 pr va 8) (hsM 156 N N N F)) [true, true, false, true] =
    some ([(!(litCmp .neq (litBin .rem .u64 va 8) 0)), (askS N N N F satp st pr 1 (litBin .add .u64 va 0) 8), (sF F N N satp st pr 1 (litBin .add .u64 va 0) 8), ((askM N N N F (litBin .add .u64 (sT F N N satp st pr 1 (litBin .add .u64 va 0) 8) 0) 1) && ((askM N N N F (litBin .add .u64 (sT F N N satp st pr 1 (litBin .add .u64 va 0) 8) 1) 1) && ((askM N N N F (litBin .add .u64 (sT F N N satp st pr 1 (litBin .add .u64 va 0) 8) 2) 1) && ((askM N N N F (litBin .add .u64 (sT F N N satp st pr 1 (litBin .add .u64 va 0) 8) 3) 1) && ((askM N N N F (litBin .add .u64 (sT F N N satp st pr 1 (litBin .add .u64 va 0) 8) 4) 1) && ((askM N N N F (litBin .add .u64 (sT F N N satp st pr 1 (litBin .add .u64 va 0) 8) 5) 1) && ((askM N N N F (litBin .add .u64 (sT F N N satp st pr 1 (litBin .add .u64 va 0) 8) 6) 1) && (askM N N N F (litBin .add .u64 (sT F N N satp st pr 1 (litBin .add .u64 va 0) 8) 7) 1))))))))], .val (.tuple [(.int .u64 (.sym (litBin .or .u64 (litBin .or .u64 (litBin .or .u64 (litBin .or .u64 (litBin .or .u64 (litBin .or .u64 (litBin .or .u64 (litBin .or .u64 0 (litBin .shl .u64 (getS F N (litBin .add .u64 (sT F N N satp st pr 1 (litBin .add .u64 va 0) 8) 0) 1) 0)) (litBin .shl .u64 (getS F N (litBin .add .u64 (sT F N N satp st pr 1 (litBin .add .u64 va 0) 8) 1) 1) 8)) (litBin .shl .u64 (getS F N (litBin .add .u64 (sT F N N satp st pr 1 (litBin .add .u64 va 0) 8) 2) 1) 16)) (litBin .shl .u64 (getS F N (litBin .add .u64 (sT F N N satp st pr 1 (litBin .add .u64 va 0) 8) 3) 1) 24)) (litBin .shl .u64 (getS F N (litBin .add .u64 (sT F N N satp st pr 1 (litBin .add .u64 va 0) 8) 4) 1) 32)) (litBin .shl .u64 (getS F N (litBin .add .u64 (sT F N N satp st pr 1 (litBin .add .u64 va 0) 8) 5) 1) 40)) (litBin .shl .u64 (getS F N (litBin .add .u64 (sT F N N satp st pr 1 (litBin .add .u64 va 0) 8) 6) 1) 48)) (litBin .shl .u64 (getS F N (litBin .add .u64 (sT F N N satp st pr 1 (litBin .add .u64 va 0) 8) 7) 1) 56)))), (.agg [(.bool (.lit false)), (.int .i64 (.lit 0)), (.int .u64 (.lit 0))])]), hsM 156 N N N F) := by kernel_rfl

theorem ld_fin {N : Nat} {F : Nat → Int} {b : Bool} {st c1 c2 c3 c4 c5 c6 c7 c8 satp c10 c11 pr va : AI DC} {n : Int} {h : List (AO DC)} {b0 c0 : Nat} {ds cs : List Bool} {x c v : AI DC} {f : AB DC}
    (hb : h[b0]? = some (.cells 156 [.slice c0 (.lit 0) (.rc N 1 0) (.kn (.rc N 1 0))])) (hc : h[c0]? = some (.arr 5 N [(.int .u8, F)]))
    (hr : seeM (hsM 156 N N N F) (call Try.prog (cxnq b) 300 75 (aL st.den c1.den c2.den c3.den c4.den c5.den c6.den c7.den c8.den satp.den c10.den c11.den pr.den va.den n) (hsM 156 N N N F)) ds = some (cs, .val (.tuple [.int .u64 x, .agg [.bool f, .int .i64 c, .int .u64 v]]), hsM 156 N N N F)) (hcs : cs = ds)
    (hv : x.den = ldX F N satp.den st.den pr.den va.den n ∧ f.den = ldF F N satp.den st.den pr.den va.den n ∧ c.den = ldC F N satp.den st.den pr.den va.den n ∧ v.den = ldV F N satp.den st.den pr.den va.den n) :
    FnOk Try.prog 75 [.agg [.ptr b0 (.lit 0), .nilptr], .agg [.int .u64 st, .int .u64 c1, .int .u64 c2, .int .u64 c3, .int .u64 c4, .int .u64 c5, .int .u64 c6, .int .u64 c7, .int .u64 c8, .int .u64 satp, .int .u64 c10, .int .u64 c11], .int .i64 pr, .int .u64 va, .int .i64 (.lit n)] h (outL F N satp.den st.den pr.den va.den n, []) :=
  memA (F2 := F) (cxnq_ok b) hr hcs hb hc (fun hbc => ⟨⟨⟨rfl, rfl⟩, trivial, trivial⟩, ⟨⟨rfl, rfl⟩, ⟨rfl, rfl⟩, ⟨rfl, rfl⟩, ⟨rfl, rfl⟩, ⟨rfl, rfl⟩, ⟨rfl, rfl⟩, ⟨rfl, rfl⟩, ⟨rfl, rfl⟩, ⟨rfl, rfl⟩, ⟨rfl, rfl⟩, ⟨rfl, rfl⟩, ⟨rfl, rfl⟩, trivial⟩, ⟨rfl, rfl⟩, ⟨rfl, rfl⟩, ⟨rfl, rfl⟩, trivial⟩) (fun hbc => ⟨⟨rfl, hv.1⟩, ⟨hv.2.1, ⟨rfl, hv.2.2.1⟩, ⟨rfl, hv.2.2.2⟩, trivial⟩, trivial⟩) (.inl ⟨rfl, fun _ _ => rfl⟩)
theorem neq0 {va n : Int} (hv : inU va) : litCmp .neq (litBin .rem .u64 va n) 0 = !decide (va % n = 0) := by
  rw [rem_emod hv]
  rfl

theorem ldOk1 {N : Nat} {F : Nat → Int} {st c1 c2 c3 c4 c5 c6 c7 c8 satp c10 c11 pr va : AI DC} {h : List (AO DC)} {b0 c0 : Nat}
    (hb : h[b0]? = some (.cells 156 [.slice c0 (.lit 0) (.rc N 1 0) (.kn (.rc N 1 0))])) (hc : h[c0]? = some (.arr 5 N [(.int .u8, F)])) (hm : MemOk N F) (hN : (N : Int) % 8 = 0) (h1 : inU satp.den) (h2 : inU st.den) (hv : inU va.den) : FnOk Try.prog 75 [.agg [.ptr b0 (.lit 0), .nilptr], .agg [.int .u64 st, .int .u64 c1, .int .u64 c2, .int .u64 c3, .int .u64 c4, .int .u64 c5, .int .u64 c6, .int .u64 c7, .int .u64 c8, .int .u64 satp, .int .u64 c10, .int .u64 c11], .int .i64 pr, .int .u64 va, .int .i64 (.lit 1)] h (outL F N satp.den st.den pr.den va.den 1, []) := by
  have q0 : askS N N N F satp.den st.den pr.den 1 (litBin .add .u64 va.den 0) 1 = true := Page.askS_t hm h1 h2 (inU.add _ _) rfl
  have m0 : askM N N N F (litBin .add .u64 (sT F N N satp.den st.den pr.den 1 (litBin .add .u64 va.den 0) 1) 0) 1 = true := askM_of hm (inU.add _ _) (Page.inI_num rfl)
  have d0 : litBin .add .u64 (sT F N N satp.den st.den pr.den 1 (litBin .add .u64 va.den 0) 1) 0 = sT F N N satp.den st.den pr.den 1 (litBin .add .u64 va.den 0) 1 := add0 (Page.sT_inU hm (inU.add _ _))
  have v0 : sF F N N satp.den st.den pr.den 1 (litBin .add .u64 va.den 0) 1 = true → sV F N N satp.den st.den pr.den 1 (litBin .add .u64 va.den 0) 1 = (litBin .add .u64 va.den 0) := Page.sV_t
  cases ha : decide (va.den % 1 = 0)
  · have hne : litCmp .neq (litBin .rem .u64 va.den 1) 0 = true := by rw [neq0 hv, ha]; rfl
    cases g0 : ldA F N satp.den st.den pr.den va.den 0
    rotate_left
    · have f0 : sF F N N satp.den st.den pr.den 1 (litBin .add .u64 va.den 0) 1 = true := g0
      have w0 := v0 f0
      refine ld_fin hb hc (ld1u0 N F st.den c1.den c2.den c3.den c4.den c5.den c6.den c7.den c8.den satp.den c10.den c11.den pr.den va.den) ?_ ⟨?_, ?_, ?_, ?_⟩
      · simp only [hne, q0, f0, Bool.and_self, cond_true, cond_false, Bool.not_true, Bool.not_false, Bool.true_and, Bool.and_true]
      · unfold ldX ldI
        simp only [show ixs 1 = [0] from rfl, firstL, g0, f0, w0, cond_true, cond_false]
        try rfl
      · unfold ldF ldI
        simp only [show ixs 1 = [0] from rfl, firstL, g0, f0, w0, cond_true, cond_false]
        try rfl
        try exact f0
      · unfold ldC ldI
        simp only [show ixs 1 = [0] from rfl, firstL, g0, f0, w0, cond_true, cond_false]
        try rfl
      · unfold ldV ldI
        simp only [show ixs 1 = [0] from rfl, firstL, g0, f0, w0, cond_true, cond_false]
        try rfl
    have f0 : sF F N N satp.den st.den pr.den 1 (litBin .add .u64 va.den 0) 1 = false := g0
    refine ld_fin hb hc (ld1u0 N F st.den c1.den c2.den c3.den c4.den c5.den c6.den c7.den c8.den satp.den c10.den c11.den pr.den va.den) ?_ ⟨?_, ?_, ?_, ?_⟩
    · simp only [hne, q0, f0, m0, Bool.and_self, cond_true, cond_false, Bool.not_true, Bool.not_false, Bool.true_and, Bool.and_true]
    · unfold ldX ldI
      simp only [show ixs 1 = [0] from rfl, firstL, g0, f0, d0, cond_true, cond_false]
      try rfl
    · unfold ldF ldI
      simp only [show ixs 1 = [0] from rfl, firstL, g0, f0, d0, cond_true, cond_false]
      try rfl
    · unfold ldC ldI
      simp only [show ixs 1 = [0] from rfl, firstL, g0, f0, d0, cond_true, cond_false]
      try rfl
    · unfold ldV ldI
      simp only [show ixs 1 = [0] from rfl, firstL, g0, f0, d0, cond_true, cond_false]
      try rfl
  · have ha' : va.den % 1 = 0 := of_decide_eq_true ha
    have hne : litCmp .neq (litBin .rem .u64 va.den 1) 0 = false := by rw [neq0 hv, ha]; rfl
    have z0 : (litBin .add .u64 va.den 0) = va.den := add0 hv
    have q : askS N N N F satp.den st.den pr.den 1 (litBin .add .u64 va.den 0) 1 = true := Page.askS_t hm h1 h2 (inU.add _ _) rfl
    have vz : sF F N N satp.den st.den pr.den 1 (litBin .add .u64 va.den 0) 1 = true → sV F N N satp.den st.den pr.den 1 (litBin .add .u64 va.den 0) 1 = (litBin .add .u64 va.den 0) := Page.sV_t
    have m0 : askM N N N F (litBin .add .u64 (sT F N N satp.den st.den pr.den 1 (litBin .add .u64 va.den 0) 1) 0) 1 = true := askM_of hm (inU.add _ _) (Page.inI_num rfl)
    have e0 := Page.all_same (satp := satp.den) (st := st.den) (pr := pr.den) (k := 1) hm hN hv (show num 1 = true from rfl) ha' (show (0 : Int) ≤ 0 ∧ ((0 : Int)) < 1 by omega)
    rw [← (Page.near hv (show num 1 = true from rfl) ha' (show (0 : Int) ≤ 0 ∧ ((0 : Int)) < 1 by omega)).2.2] at e0
    cases f : sF F N N satp.den st.den pr.den 1 (litBin .add .u64 va.den 0) 1
    rotate_left
    · have wz := vz f
      have g0 : ldA F N satp.den st.den pr.den va.den 0 = true := e0.1.trans (by rw [← z0]; exact f)
      have c0 : sC F N N satp.den st.den pr.den 1 (litBin .add .u64 va.den 0) 1 = sC F N N satp.den st.den pr.den 1 (litBin .add .u64 va.den 0) 1 := e0.2.1.trans (by rw [z0])
      refine ld_fin hb hc (ld1a0 N F st.den c1.den c2.den c3.den c4.den c5.den c6.den c7.den c8.den satp.den c10.den c11.den pr.den va.den) ?_ ⟨?_, ?_, ?_, ?_⟩
      · simp only [hne, q, f, m0, Bool.and_self, cond_true, cond_false, Bool.not_true, Bool.not_false, Bool.true_and, Bool.and_true]
      · unfold ldX ldI
        simp only [show ixs 1 = [0] from rfl, firstL, g0, f, wz, cond_true, cond_false]
        try rfl
      · unfold ldF ldI
        simp only [show ixs 1 = [0] from rfl, firstL, g0, f, wz, cond_true, cond_false]
        try exact f
        try rfl
      · unfold ldC ldI
        simp only [show ixs 1 = [0] from rfl, firstL, g0, f, wz, cond_true, cond_false]
        try exact c0.symm
        try rfl
      · unfold ldV ldI
        simp only [show ixs 1 = [0] from rfl, firstL, g0, f, wz, cond_true, cond_false]
        try rfl
    have g0 : ldA F N satp.den st.den pr.den va.den 0 = false := e0.1.trans (by rw [← z0]; exact f)
    have t0 : litBin .add .u64 (sT F N N satp.den st.den pr.den 1 (litBin .add .u64 va.den 0) 1) 0 = sT F N N satp.den st.den pr.den 1 (litBin .add .u64 va.den 0) 1 := by
      have hu : inU (sT F N N satp.den st.den pr.den 1 (litBin .add .u64 va.den 0) 1) := Page.sT_inU hm (inU.add _ _)
      have ht := e0.2.2 (by rw [← z0]; exact f)
      have hz : sT F N N satp.den st.den pr.den 1 (litBin .add .u64 va.den 0) 1 = sT F N N satp.den st.den pr.den 1 va.den 1 := by rw [z0]
      rw [hz, Page.addu, ← ht]
      unfold inU at hu
      omega
    refine ld_fin hb hc (ld1a0 N F st.den c1.den c2.den c3.den c4.den c5.den c6.den c7.den c8.den satp.den c10.den c11.den pr.den va.den) ?_ ⟨?_, ?_, ?_, ?_⟩
    · simp only [hne, q, f, m0, Bool.and_self, cond_true, cond_false, Bool.not_true, Bool.not_false, Bool.true_and, Bool.and_true]
    · unfold ldX ldI
      simp only [show ixs 1 = [0] from rfl, firstL, g0, f, t0, cond_true, cond_false]
      try rfl
    · unfold ldF ldI
      simp only [show ixs 1 = [0] from rfl, firstL, g0, f, t0, cond_true, cond_false]
      try rfl
    · unfold ldC ldI
      simp only [show ixs 1 = [0] from rfl, firstL, g0, f, t0, cond_true, cond_false]
      try rfl
    · unfold ldV ldI
      simp only [show ixs 1 = [0] from rfl, firstL, g0, f, t0, cond_true, cond_false]
      try rfl
theorem ldOk2 {N : Nat} {F : Nat → Int} {st c1 c2 c3 c4 c5 c6 c7 c8 satp c10 c11 pr va : AI DC} {h : List (AO DC)} {b0 c0 : Nat}
    (hb : h[b0]? = some (.cells 156 [.slice c0 (.lit 0) (.rc N 1 0) (.kn (.rc N 1 0))])) (hc : h[c0]? = some (.arr 5 N [(.int .u8, F)])) (hm : MemOk N F) (hN : (N : Int) % 8 = 0) (h1 : inU satp.den) (h2 : inU st.den) (hv : inU va.den) : FnOk Try.prog 75 [.agg [.ptr b0 (.lit 0), .nilptr], .agg [.int .u64 st, .int .u64 c1, .int .u64 c2, .int .u64 c3, .int .u64 c4, .int .u64 c5, .int .u64 c6, .int .u64 c7, .int .u64 c8, .int .u64 satp, .int .u64 c10, .int .u64 c11], .int .i64 pr, .int .u64 va, .int .i64 (.lit 2)] h (outL F N satp.den st.den pr.den va.den 2, []) := by
  have q0 : askS N N N F satp.den st.den pr.den 1 (litBin .add .u64 va.den 0) 1 = true := Page.askS_t hm h1 h2 (inU.add _ _) rfl
  have m0 : askM N N N F (litBin .add .u64 (sT F N N satp.den st.den pr.den 1 (litBin .add .u64 va.den 0) 1) 0) 1 = true := askM_of hm (inU.add _ _) (Page.inI_num rfl)
  have d0 : litBin .add .u64 (sT F N N satp.den st.den pr.den 1 (litBin .add .u64 va.den 0) 1) 0 = sT F N N satp.den st.den pr.den 1 (litBin .add .u64 va.den 0) 1 := add0 (Page.sT_inU hm (inU.add _ _))
  have v0 : sF F N N satp.den st.den pr.den 1 (litBin .add .u64 va.den 0) 1 = true → sV F N N satp.den st.den pr.den 1 (litBin .add .u64 va.den 0) 1 = (litBin .add .u64 va.den 0) := Page.sV_t
  have q1 : askS N N N F satp.den st.den pr.den 1 (litBin .add .u64 va.den 1) 1 = true := Page.askS_t hm h1 h2 (inU.add _ _) rfl
  have m1 : askM N N N F (litBin .add .u64 (sT F N N satp.den st.den pr.den 1 (litBin .add .u64 va.den 1) 1) 0) 1 = true := askM_of hm (inU.add _ _) (Page.inI_num rfl)
  have d1 : litBin .add .u64 (sT F N N satp.den st.den pr.den 1 (litBin .add .u64 va.den 1) 1) 0 = sT F N N satp.den st.den pr.den 1 (litBin .add .u64 va.den 1) 1 := add0 (Page.sT_inU hm (inU.add _ _))
  have v1 : sF F N N satp.den st.den pr.den 1 (litBin .add .u64 va.den 1) 1 = true → sV F N N satp.den st.den pr.den 1 (litBin .add .u64 va.den 1) 1 = (litBin .add .u64 va.den 1) := Page.sV_t
  cases ha : decide (va.den % 2 = 0)
  · have hne : litCmp .neq (litBin .rem .u64 va.den 2) 0 = true := by rw [neq0 hv, ha]; rfl
    cases g0 : ldA F N satp.den st.den pr.den va.den 0
    rotate_left
    · have f0 : sF F N N satp.den st.den pr.den 1 (litBin .add .u64 va.den 0) 1 = true := g0
      have w0 := v0 f0
      refine ld_fin hb hc (ld2u0 N F st.den c1.den c2.den c3.den c4.den c5.den c6.den c7.den c8.den satp.den c10.den c11.den pr.den va.den) ?_ ⟨?_, ?_, ?_, ?_⟩
      · simp only [hne, q0, f0, Bool.and_self, cond_true, cond_false, Bool.not_true, Bool.not_false, Bool.true_and, Bool.and_true]
      · unfold ldX ldI
        simp only [show ixs 2 = [0, 1] from rfl, firstL, g0, f0, w0, cond_true, cond_false]
        try rfl
      · unfold ldF ldI
        simp only [show ixs 2 = [0, 1] from rfl, firstL, g0, f0, w0, cond_true, cond_false]
        try rfl
        try exact f0
      · unfold ldC ldI
        simp only [show ixs 2 = [0, 1] from rfl, firstL, g0, f0, w0, cond_true, cond_false]
        try rfl
      · unfold ldV ldI
        simp only [show ixs 2 = [0, 1] from rfl, firstL, g0, f0, w0, cond_true, cond_false]
        try rfl
    have f0 : sF F N N satp.den st.den pr.den 1 (litBin .add .u64 va.den 0) 1 = false := g0
    cases g1 : ldA F N satp.den st.den pr.den va.den 1
    rotate_left
    · have f1 : sF F N N satp.den st.den pr.den 1 (litBin .add .u64 va.den 1) 1 = true := g1
      have w1 := v1 f1
      refine ld_fin hb hc (ld2u1 N F st.den c1.den c2.den c3.den c4.den c5.den c6.den c7.den c8.den satp.den c10.den c11.den pr.den va.den) ?_ ⟨?_, ?_, ?_, ?_⟩
      · simp only [hne, q0, q1, f0, f1, Bool.and_self, cond_true, cond_false, Bool.not_true, Bool.not_false, Bool.true_and, Bool.and_true]
      · unfold ldX ldI
        simp only [show ixs 2 = [0, 1] from rfl, firstL, g0, g1, f1, w1, cond_true, cond_false]
        try rfl
      · unfold ldF ldI
        simp only [show ixs 2 = [0, 1] from rfl, firstL, g0, g1, f1, w1, cond_true, cond_false]
        try rfl
        try exact f1
      · unfold ldC ldI
        simp only [show ixs 2 = [0, 1] from rfl, firstL, g0, g1, f1, w1, cond_true, cond_false]
        try rfl
      · unfold ldV ldI
        simp only [show ixs 2 = [0, 1] from rfl, firstL, g0, g1, f1, w1, cond_true, cond_false]
        try rfl
    have f1 : sF F N N satp.den st.den pr.den 1 (litBin .add .u64 va.den 1) 1 = false := g1
    refine ld_fin hb hc (ld2u2 N F st.den c1.den c2.den c3.den c4.den c5.den c6.den c7.den c8.den satp.den c10.den c11.den pr.den va.den) ?_ ⟨?_, ?_, ?_, ?_⟩
    · simp only [hne, q0, q1, f0, f1, m0, m1, Bool.and_self, cond_true, cond_false, Bool.not_true, Bool.not_false, Bool.true_and, Bool.and_true]
    · unfold ldX ldI
      simp only [show ixs 2 = [0, 1] from rfl, firstL, g0, g1, f0, f1, d0, d1, cond_true, cond_false]
      try rfl
    · unfold ldF ldI
      simp only [show ixs 2 = [0, 1] from rfl, firstL, g0, g1, f0, f1, d0, d1, cond_true, cond_false]
      try rfl
    · unfold ldC ldI
      simp only [show ixs 2 = [0, 1] from rfl, firstL, g0, g1, f0, f1, d0, d1, cond_true, cond_false]
      try rfl
    · unfold ldV ldI
      simp only [show ixs 2 = [0, 1] from rfl, firstL, g0, g1, f0, f1, d0, d1, cond_true, cond_false]
      try rfl
  · have ha' : va.den % 2 = 0 := of_decide_eq_true ha
    have hne : litCmp .neq (litBin .rem .u64 va.den 2) 0 = false := by rw [neq0 hv, ha]; rfl
    have z0 : (litBin .add .u64 va.den 0) = va.den := add0 hv
    have q : askS N N N F satp.den st.den pr.den 1 (litBin .add .u64 va.den 0) 2 = true := Page.askS_t hm h1 h2 (inU.add _ _) rfl
    have vz : sF F N N satp.den st.den pr.den 1 (litBin .add .u64 va.den 0) 2 = true → sV F N N satp.den st.den pr.den 1 (litBin .add .u64 va.den 0) 2 = (litBin .add .u64 va.den 0) := Page.sV_t
    have m0 : askM N N N F (litBin .add .u64 (sT F N N satp.den st.den pr.den 1 (litBin .add .u64 va.den 0) 2) 0) 1 = true := askM_of hm (inU.add _ _) (Page.inI_num rfl)
    have e0 := Page.all_same (satp := satp.den) (st := st.den) (pr := pr.den) (k := 1) hm hN hv (show num 2 = true from rfl) ha' (show (0 : Int) ≤ 0 ∧ ((0 : Int)) < 2 by omega)
    rw [← (Page.near hv (show num 2 = true from rfl) ha' (show (0 : Int) ≤ 0 ∧ ((0 : Int)) < 2 by omega)).2.2] at e0
    have m1 : askM N N N F (litBin .add .u64 (sT F N N satp.den st.den pr.den 1 (litBin .add .u64 va.den 0) 2) 1) 1 = true := askM_of hm (inU.add _ _) (Page.inI_num rfl)
    have e1 := Page.all_same (satp := satp.den) (st := st.den) (pr := pr.den) (k := 1) hm hN hv (show num 2 = true from rfl) ha' (show (0 : Int) ≤ 1 ∧ ((1 : Int)) < 2 by omega)
    rw [← (Page.near hv (show num 2 = true from rfl) ha' (show (0 : Int) ≤ 1 ∧ ((1 : Int)) < 2 by omega)).2.2] at e1
    cases f : sF F N N satp.den st.den pr.den 1 (litBin .add .u64 va.den 0) 2
    rotate_left
    · have wz := vz f
      have g0 : ldA F N satp.den st.den pr.den va.den 0 = true := e0.1.trans (by rw [← z0]; exact f)
      have c0 : sC F N N satp.den st.den pr.den 1 (litBin .add .u64 va.den 0) 1 = sC F N N satp.den st.den pr.den 1 (litBin .add .u64 va.den 0) 2 := e0.2.1.trans (by rw [z0])
      refine ld_fin hb hc (ld2a0 N F st.den c1.den c2.den c3.den c4.den c5.den c6.den c7.den c8.den satp.den c10.den c11.den pr.den va.den) ?_ ⟨?_, ?_, ?_, ?_⟩
      · simp only [hne, q, f, m0, m1, Bool.and_self, cond_true, cond_false, Bool.not_true, Bool.not_false, Bool.true_and, Bool.and_true]
      · unfold ldX ldI
        simp only [show ixs 2 = [0, 1] from rfl, firstL, g0, f, wz, cond_true, cond_false]
        try rfl
      · unfold ldF ldI
        simp only [show ixs 2 = [0, 1] from rfl, firstL, g0, f, wz, cond_true, cond_false]
        try exact f
        try rfl
      · unfold ldC ldI
        simp only [show ixs 2 = [0, 1] from rfl, firstL, g0, f, wz, cond_true, cond_false]
        try exact c0.symm
        try rfl
      · unfold ldV ldI
        simp only [show ixs 2 = [0, 1] from rfl, firstL, g0, f, wz, cond_true, cond_false]
        try rfl
    have g0 : ldA F N satp.den st.den pr.den va.den 0 = false := e0.1.trans (by rw [← z0]; exact f)
    have t0 : litBin .add .u64 (sT F N N satp.den st.den pr.den 1 (litBin .add .u64 va.den 0) 2) 0 = sT F N N satp.den st.den pr.den 1 (litBin .add .u64 va.den 0) 1 := by
      have hu : inU (sT F N N satp.den st.den pr.den 1 (litBin .add .u64 va.den 0) 1) := Page.sT_inU hm (inU.add _ _)
      have ht := e0.2.2 (by rw [← z0]; exact f)
      have hz : sT F N N satp.den st.den pr.den 1 (litBin .add .u64 va.den 0) 2 = sT F N N satp.den st.den pr.den 1 va.den 2 := by rw [z0]
      rw [hz, Page.addu, ← ht]
      unfold inU at hu
      omega
    have g1 : ldA F N satp.den st.den pr.den va.den 1 = false := e1.1.trans (by rw [← z0]; exact f)
    have t1 : litBin .add .u64 (sT F N N satp.den st.den pr.den 1 (litBin .add .u64 va.den 0) 2) 1 = sT F N N satp.den st.den pr.den 1 (litBin .add .u64 va.den 1) 1 := by
      have hu : inU (sT F N N satp.den st.den pr.den 1 (litBin .add .u64 va.den 1) 1) := Page.sT_inU hm (inU.add _ _)
      have ht := e1.2.2 (by rw [← z0]; exact f)
      have hz : sT F N N satp.den st.den pr.den 1 (litBin .add .u64 va.den 0) 2 = sT F N N satp.den st.den pr.den 1 va.den 2 := by rw [z0]
      rw [hz, Page.addu, ← ht]
      unfold inU at hu
      omega
    refine ld_fin hb hc (ld2a1 N F st.den c1.den c2.den c3.den c4.den c5.den c6.den c7.den c8.den satp.den c10.den c11.den pr.den va.den) ?_ ⟨?_, ?_, ?_, ?_⟩
    · simp only [hne, q, f, m0, m1, Bool.and_self, cond_true, cond_false, Bool.not_true, Bool.not_false, Bool.true_and, Bool.and_true]
    · unfold ldX ldI
      simp only [show ixs 2 = [0, 1] from rfl, firstL, g0, g1, f, t0, t1, cond_true, cond_false]
      try rfl
    · unfold ldF ldI
      simp only [show ixs 2 = [0, 1] from rfl, firstL, g0, g1, f, t0, t1, cond_true, cond_false]
      try rfl
    · unfold ldC ldI
      simp only [show ixs 2 = [0, 1] from rfl, firstL, g0, g1, f, t0, t1, cond_true, cond_false]
      try rfl
    · unfold ldV ldI
      simp only [show ixs 2 = [0, 1] from rfl, firstL, g0, g1, f, t0, t1, cond_true, cond_false]
      try rfl
theorem ldOk4 {N : Nat} {F : Nat → Int} {st c1 c2 c3 c4 c5 c6 c7 c8 satp c10 c11 pr va : AI DC} {h : List (AO DC)} {b0 c0 : Nat}
    (hb : h[b0]? = some (.cells 156 [.slice c0 (.lit 0) (.rc N 1 0) (.kn (.rc N 1 0))])) (hc : h[c0]? = some (.arr 5 N [(.int .u8, F)])) (hm : MemOk N F) (hN : (N : Int) % 8 = 0) (h1 : inU satp.den) (h2 : inU st.den) (hv : inU va.den) : FnOk Try.prog 75 [.agg [.ptr b0 (.lit 0), .nilptr], .agg [.int .u64 st, .int .u64 c1, .int .u64 c2, .int .u64 c3, .int .u64 c4, .int .u64 c5, .int .u64 c6, .int .u64 c7, .int .u64 c8, .int .u64 satp, .int .u64 c10, .int .u64 c11], .int .i64 pr, .int .u64 va, .int .i64 (.lit 4)] h (outL F N satp.den st.den pr.den va.den 4, []) := by
  have q0 : askS N N N F satp.den st.den pr.den 1 (litBin .add .u64 va.den 0) 1 = true := Page.askS_t hm h1 h2 (inU.add _ _) rfl
  have m0 : askM N N N F (litBin .add .u64 (sT F N N satp.den st.den pr.den 1 (litBin .add .u64 va.den 0) 1) 0) 1 = true := askM_of hm (inU.add _ _) (Page.inI_num rfl)
  have d0 : litBin .add .u64 (sT F N N satp.den st.den pr.den 1 (litBin .add .u64 va.den 0) 1) 0 = sT F N N satp.den st.den pr.den 1 (litBin .add .u64 va.den 0) 1 := add0 (Page.sT_inU hm (inU.add _ _))
  have v0 : sF F N N satp.den st.den pr.den 1 (litBin .add .u64 va.den 0) 1 = true → sV F N N satp.den st.den pr.den 1 (litBin .add .u64 va.den 0) 1 = (litBin .add .u64 va.den 0) := Page.sV_t
  have q1 : askS N N N F satp.den st.den pr.den 1 (litBin .add .u64 va.den 1) 1 = true := Page.askS_t hm h1 h2 (inU.add _ _) rfl
  have m1 : askM N N N F (litBin .add .u64 (sT F N N satp.den st.den pr.den 1 (litBin .add .u64 va.den 1) 1) 0) 1 = true := askM_of hm (inU.add _ _) (Page.inI_num rfl)
  have d1 : litBin .add .u64 (sT F N N satp.den st.den pr.den 1 (litBin .add .u64 va.den 1) 1) 0 = sT F N N satp.den st.den pr.den 1 (litBin .add .u64 va.den 1) 1 := add0 (Page.sT_inU hm (inU.add _ _))
  have v1 : sF F N N satp.den st.den pr.den 1 (litBin .add .u64 va.den 1) 1 = true → sV F N N satp.den st.den pr.den 1 (litBin .add .u64 va.den 1) 1 = (litBin .add .u64 va.den 1) := Page.sV_t
  have q2 : askS N N N F satp.den st.den pr.den 1 (litBin .add .u64 va.den 2) 1 = true := Page.askS_t hm h1 h2 (inU.add _ _) rfl
  have m2 : askM N N N F (litBin .add .u64 (sT F N N satp.den st.den pr.den 1 (litBin .add .u64 va.den 2) 1) 0) 1 = true := askM_of hm (inU.add _ _) (Page.inI_num rfl)
  have d2 : litBin .add .u64 (sT F N N satp.den st.den pr.den 1 (litBin .add .u64 va.den 2) 1) 0 = sT F N N satp.den st.den pr.den 1 (litBin .add .u64 va.den 2) 1 := add0 (Page.sT_inU hm (inU.add _ _))
  have v2 : sF F N N satp.den st.den pr.den 1 (litBin .add .u64 va.den 2) 1 = true → sV F N N satp.den st.den pr.den 1 (litBin .add .u64 va.den 2) 1 = (litBin .add .u64 va.den 2) := Page.sV_t
  have q3 : askS N N N F satp.den st.den pr.den 1 (litBin .add .u64 va.den 3) 1 = true := Page.askS_t hm h1 h2 (inU.add _ _) rfl
  have m3 : askM N N N F (litBin .add .u64 (sT F N N satp.den st.den pr.den 1 (litBin .add .u64 va.den 3) 1) 0) 1 = true := askM_of hm (inU.add _ _) (Page.inI_num rfl)
  have d3 : litBin .add .u64 (sT F N N satp.den st.den pr.den 1 (litBin .add .u64 va.den 3) 1) 0 = sT F N N satp.den st.den pr.den 1 (litBin .add .u64 va.den 3) 1 := add0 (Page.sT_inU hm (inU.add _ _))
  have v3 : sF F N N satp.den st.den pr.den 1 (litBin .add .u64 va.den 3) 1 = true → sV F N N satp.den st.den pr.den 1 (litBin .add .u64 va.den 3) 1 = (litBin .add .u64 va.den 3) := Page.sV_t
  cases ha : decide (va.den % 4 = 0)
  · have hne : litCmp .neq (litBin .rem .u64 va.den 4) 0 = true := by rw [neq0 hv, ha]; rfl
    cases g0 : ldA F N satp.den st.den pr.den va.den 0
    rotate_left
    · have f0 : sF F N N satp.den st.den pr.den 1 (litBin .add .u64 va.den 0) 1 = true := g0
      have w0 := v0 f0
      refine ld_fin hb hc (ld4u0 N F st.den c1.den c2.den c3.den c4.den c5.den c6.den c7.den c8.den satp.den c10.den c11.den pr.den va.den) ?_ ⟨?_, ?_, ?_, ?_⟩
      · simp only [hne, q0, f0, Bool.and_self, cond_true, cond_false, Bool.not_true, Bool.not_false, Bool.true_and, Bool.and_true]
      · unfold ldX ldI
        simp only [show ixs 4 = [0, 1, 2, 3] from rfl, firstL, g0, f0, w0, cond_true, cond_false]
        try rfl
      · unfold ldF ldI
        simp only [show ixs 4 = [0, 1, 2, 3] from rfl, firstL, g0, f0, w0, cond_true, cond_false]
        try rfl
        try exact f0
      · unfold ldC ldI
        simp only [show ixs 4 = [0, 1, 2, 3] from rfl, firstL, g0, f0, w0, cond_true, cond_false]
        try rfl
      · unfold ldV ldI
        simp only [show ixs 4 = [0, 1, 2, 3] from rfl, firstL, g0, f0, w0, cond_true, cond_false]
        try rfl
    have f0 : sF F N N satp.den st.den pr.den 1 (litBin .add .u64 va.den 0) 1 = false := g0
    cases g1 : ldA F N satp.den st.den pr.den va.den 1
    rotate_left
    · have f1 : sF F N N satp.den st.den pr.den 1 (litBin .add .u64 va.den 1) 1 = true := g1
      have w1 := v1 f1
      refine ld_fin hb hc (ld4u1 N F st.den c1.den c2.den c3.den c4.den c5.den c6.den c7.den c8.den satp.den c10.den c11.den pr.den va.den) ?_ ⟨?_, ?_, ?_, ?_⟩
      · simp only [hne, q0, q1, f0, f1, Bool.and_self, cond_true, cond_false, Bool.not_true, Bool.not_false, Bool.true_and, Bool.and_true]
      · unfold ldX ldI
        simp only [show ixs 4 = [0, 1, 2, 3] from rfl, firstL, g0, g1, f1, w1, cond_true, cond_false]
        try rfl
      · unfold ldF ldI
        simp only [show ixs 4 = [0, 1, 2, 3] from rfl, firstL, g0, g1, f1, w1, cond_true, cond_false]
        try rfl
        try exact f1
      · unfold ldC ldI
        simp only [show ixs 4 = [0, 1, 2, 3] from rfl, firstL, g0, g1, f1, w1, cond_true, cond_false]
        try rfl
      · unfold ldV ldI
        simp only [show ixs 4 = [0, 1, 2, 3] from rfl, firstL, g0, g1, f1, w1, cond_true, cond_false]
        try rfl
    have f1 : sF F N N satp.den st.den pr.den 1 (litBin .add .u64 va.den 1) 1 = false := g1
    cases g2 : ldA F N satp.den st.den pr.den va.den 2
    rotate_left
    · have f2 : sF F N N satp.den st.den pr.den 1 (litBin .add .u64 va.den 2) 1 = true := g2
      have w2 := v2 f2
      refine ld_fin hb hc (ld4u2 N F st.den c1.den c2.den c3.den c4.den c5.den c6.den c7.den c8.den satp.den c10.den c11.den pr.den va.den) ?_ ⟨?_, ?_, ?_, ?_⟩
      · simp only [hne, q0, q1, q2, f0, f1, f2, Bool.and_self, cond_true, cond_false, Bool.not_true, Bool.not_false, Bool.true_and, Bool.and_true]
      · unfold ldX ldI
        simp only [show ixs 4 = [0, 1, 2, 3] from rfl, firstL, g0, g1, g2, f2, w2, cond_true, cond_false]
        try rfl
      · unfold ldF ldI
        simp only [show ixs 4 = [0, 1, 2, 3] from rfl, firstL, g0, g1, g2, f2, w2, cond_true, cond_false]
        try rfl
        try exact f2
      · unfold ldC ldI
        simp only [show ixs 4 = [0, 1, 2, 3] from rfl, firstL, g0, g1, g2, f2, w2, cond_true, cond_false]
        try rfl
      · unfold ldV ldI
        simp only [show ixs 4 = [0, 1, 2, 3] from rfl, firstL, g0, g1, g2, f2, w2, cond_true, cond_false]
        try rfl
    have f2 : sF F N N satp.den st.den pr.den 1 (litBin .add .u64 va.den 2) 1 = false := g2
    cases g3 : ldA F N satp.den st.den pr.den va.den 3
    rotate_left
    · have f3 : sF F N N satp.den st.den pr.den 1 (litBin .add .u64 va.den 3) 1 = true := g3
      have w3 := v3 f3
      refine ld_fin hb hc (ld4u3 N F st.den c1.den c2.den c3.den c4.den c5.den c6.den c7.den c8.den satp.den c10.den c11.den pr.den va.den) ?_ ⟨?_, ?_, ?_, ?_⟩
      · simp only [hne, q0, q1, q2, q3, f0, f1, f2, f3, Bool.and_self, cond_true, cond_false, Bool.not_true, Bool.not_false, Bool.true_and, Bool.and_true]
      · unfold ldX ldI
        simp only [show ixs 4 = [0, 1, 2, 3] from rfl, firstL, g0, g1, g2, g3, f3, w3, cond_true, cond_false]
        try rfl
      · unfold ldF ldI
        simp only [show ixs 4 = [0, 1, 2, 3] from rfl, firstL, g0, g1, g2, g3, f3, w3, cond_true, cond_false]
        try rfl
        try exact f3
      · unfold ldC ldI
        simp only [show ixs 4 = [0, 1, 2, 3] from rfl, firstL, g0, g1, g2, g3, f3, w3, cond_true, cond_false]
        try rfl
      · unfold ldV ldI
        simp only [show ixs 4 = [0, 1, 2, 3] from rfl, firstL, g0, g1, g2, g3, f3, w3, cond_true, cond_false]
        try rfl
    have f3 : sF F N N satp.den st.den pr.den 1 (litBin .add .u64 va.den 3) 1 = false := g3
    refine ld_fin hb hc (ld4u4 N F st.den c1.den c2.den c3.den c4.den c5.den c6.den c7.den c8.den satp.den c10.den c11.den pr.den va.den) ?_ ⟨?_, ?_, ?_, ?_⟩
    · simp only [hne, q0, q1, q2, q3, f0, f1, f2, f3, m0, m1, m2, m3, Bool.and_self, cond_true, cond_false, Bool.not_true, Bool.not_false, Bool.true_and, Bool.and_true]
    · unfold ldX ldI
      simp only [show ixs 4 = [0, 1, 2, 3] from rfl, firstL, g0, g1, g2, g3, f0, f1, f2, f3, d0, d1, d2, d3, cond_true, cond_false]
      try rfl
    · unfold ldF ldI
      simp only [show ixs 4 = [0, 1, 2, 3] from rfl, firstL, g0, g1, g2, g3, f0, f1, f2, f3, d0, d1, d2, d3, cond_true, cond_false]
      try rfl
    · unfold ldC ldI
      simp only [show ixs 4 = [0, 1, 2, 3] from rfl, firstL, g0, g1, g2, g3, f0, f1, f2, f3, d0, d1, d2, d3, cond_true, cond_false]
      try rfl
    · unfold ldV ldI
      simp only [show ixs 4 = [0, 1, 2, 3] from rfl, firstL, g0, g1, g2, g3, f0, f1, f2, f3, d0, d1, d2, d3, cond_true, cond_false]
      try rfl
  · have ha' : va.den % 4 = 0 := of_decide_eq_true ha
    have hne : litCmp .neq (litBin .rem .u64 va.den 4) 0 = false := by rw [neq0 hv, ha]; rfl
    have z0 : (litBin .add .u64 va.den 0) = va.den := add0 hv
    have q : askS N N N F satp.den st.den pr.den 1 (litBin .add .u64 va.den 0) 4 = true := Page.askS_t hm h1 h2 (inU.add _ _) rfl
    have vz : sF F N N satp.den st.den pr.den 1 (litBin .add .u64 va.den 0) 4 = true → sV F N N satp.den st.den pr.den 1 (litBin .add .u64 va.den 0) 4 = (litBin .add .u64 va.den 0) := Page.sV_t
    have m0 : askM N N N F (litBin .add .u64 (sT F N N satp.den st.den pr.den 1 (litBin .add .u64 va.den 0) 4) 0) 1 = true := askM_of hm (inU.add _ _) (Page.inI_num rfl)
    have e0 := Page.all_same (satp := satp.den) (st := st.den) (pr := pr.den) (k := 1) hm hN hv (show num 4 = true from rfl) ha' (show (0 : Int) ≤ 0 ∧ ((0 : Int)) < 4 by omega)
    rw [← (Page.near hv (show num 4 = true from rfl) ha' (show (0 : Int) ≤ 0 ∧ ((0 : Int)) < 4 by omega)).2.2] at e0
    have m1 : askM N N N F (litBin .add .u64 (sT F N N satp.den st.den pr.den 1 (litBin .add .u64 va.den 0) 4) 1) 1 = true := askM_of hm (inU.add _ _) (Page.inI_num rfl)
    have e1 := Page.all_same (satp := satp.den) (st := st.den) (pr := pr.den) (k := 1) hm hN hv (show num 4 = true from rfl) ha' (show (0 : Int) ≤ 1 ∧ ((1 : Int)) < 4 by omega)
    rw [← (Page.near hv (show num 4 = true from rfl) ha' (show (0 : Int) ≤ 1 ∧ ((1 : Int)) < 4 by omega)).2.2] at e1
    have m2 : askM N N N F (litBin .add .u64 (sT F N N satp.den st.den pr.den 1 (litBin .add .u64 va.den 0) 4) 2) 1 = true := askM_of hm (inU.add _ _) (Page.inI_num rfl)
    have e2 := Page.all_same (satp := satp.den) (st := st.den) (pr := pr.den) (k := 1) hm hN hv (show num 4 = true from rfl) ha' (show (0 : Int) ≤ 2 ∧ ((2 : Int)) < 4 by omega)
    rw [← (Page.near hv (show num 4 = true from rfl) ha' (show (0 : Int) ≤ 2 ∧ ((2 : Int)) < 4 by omega)).2.2] at e2
    have m3 : askM N N N F (litBin .add .u64 (sT F N N satp.den st.den pr.den 1 (litBin .add .u64 va.den 0) 4) 3) 1 = true := askM_of hm (inU.add _ _) (Page.inI_num rfl)
    have e3 := Page.all_same (satp := satp.den) (st := st.den) (pr := pr.den) (k := 1) hm hN hv (show num 4 = true from rfl) ha' (show (0 : Int) ≤ 3 ∧ ((3 : Int)) < 4 by omega)
    rw [← (Page.near hv (show num 4 = true from rfl) ha' (show (0 : Int) ≤ 3 ∧ ((3 : Int)) < 4 by omega)).2.2] at e3
    cases f : sF F N N satp.den st.den pr.den 1 (litBin .add .u64 va.den 0) 4
    rotate_left
    · have wz := vz f
      have g0 : ldA F N satp.den st.den pr.den va.den 0 = true := e0.1.trans (by rw [← z0]; exact f)
      have c0 : sC F N N satp.den st.den pr.den 1 (litBin .add .u64 va.den 0) 1 = sC F N N satp.den st.den pr.den 1 (litBin .add .u64 va.den 0) 4 := e0.2.1.trans (by rw [z0])
      refine ld_fin hb hc (ld4a0 N F st.den c1.den c2.den c3.den c4.den c5.den c6.den c7.den c8.den satp.den c10.den c11.den pr.den va.den) ?_ ⟨?_, ?_, ?_, ?_⟩
      · simp only [hne, q, f, m0, m1, m2, m3, Bool.and_self, cond_true, cond_false, Bool.not_true, Bool.not_false, Bool.true_and, Bool.and_true]
      · unfold ldX ldI
        simp only [show ixs 4 = [0, 1, 2, 3] from rfl, firstL, g0, f, wz, cond_true, cond_false]
        try rfl
      · unfold ldF ldI
        simp only [show ixs 4 = [0, 1, 2, 3] from rfl, firstL, g0, f, wz, cond_true, cond_false]
        try exact f
        try rfl
      · unfold ldC ldI
        simp only [show ixs 4 = [0, 1, 2, 3] from rfl, firstL, g0, f, wz, cond_true, cond_false]
        try exact c0.symm
        try rfl
      · unfold ldV ldI
        simp only [show ixs 4 = [0, 1, 2, 3] from rfl, firstL, g0, f, wz, cond_true, cond_false]
        try rfl
    have g0 : ldA F N satp.den st.den pr.den va.den 0 = false := e0.1.trans (by rw [← z0]; exact f)
    have t0 : litBin .add .u64 (sT F N N satp.den st.den pr.den 1 (litBin .add .u64 va.den 0) 4) 0 = sT F N N satp.den st.den pr.den 1 (litBin .add .u64 va.den 0) 1 := by
      have hu : inU (sT F N N satp.den st.den pr.den 1 (litBin .add .u64 va.den 0) 1) := Page.sT_inU hm (inU.add _ _)
      have ht := e0.2.2 (by rw [← z0]; exact f)
      have hz : sT F N N satp.den st.den pr.den 1 (litBin .add .u64 va.den 0) 4 = sT F N N satp.den st.den pr.den 1 va.den 4 := by rw [z0]
      rw [hz, Page.addu, ← ht]
      unfold inU at hu
      omega
    have g1 : ldA F N satp.den st.den pr.den va.den 1 = false := e1.1.trans (by rw [← z0]; exact f)
    have t1 : litBin .add .u64 (sT F N N satp.den st.den pr.den 1 (litBin .add .u64 va.den 0) 4) 1 = sT F N N satp.den st.den pr.den 1 (litBin .add .u64 va.den 1) 1 := by
      have hu : inU (sT F N N satp.den st.den pr.den 1 (litBin .add .u64 va.den 1) 1) := Page.sT_inU hm (inU.add _ _)
      have ht := e1.2.2 (by rw [← z0]; exact f)
      have hz : sT F N N satp.den st.den pr.den 1 (litBin .add .u64 va.den 0) 4 = sT F N N satp.den st.den pr.den 1 va.den 4 := by rw [z0]
      rw [hz, Page.addu, ← ht]
      unfold inU at hu
      omega
    have g2 : ldA F N satp.den st.den pr.den va.den 2 = false := e2.1.trans (by rw [← z0]; exact f)
    have t2 : litBin .add .u64 (sT F N N satp.den st.den pr.den 1 (litBin .add .u64 va.den 0) 4) 2 = sT F N N satp.den st.den pr.den 1 (litBin .add .u64 va.den 2) 1 := by
      have hu : inU (sT F N N satp.den st.den pr.den 1 (litBin .add .u64 va.den 2) 1) := Page.sT_inU hm (inU.add _ _)
      have ht := e2.2.2 (by rw [← z0]; exact f)
      have hz : sT F N N satp.den st.den pr.den 1 (litBin .add .u64 va.den 0) 4 = sT F N N satp.den st.den pr.den 1 va.den 4 := by rw [z0]
      rw [hz, Page.addu, ← ht]
      unfold inU at hu
      omega
    have g3 : ldA F N satp.den st.den pr.den va.den 3 = false := e3.1.trans (by rw [← z0]; exact f)
    have t3 : litBin .add .u64 (sT F N N satp.den st.den pr.den 1 (litBin .add .u64 va.den 0) 4) 3 = sT F N N satp.den st.den pr.den 1 (litBin .add .u64 va.den 3) 1 := by
      have hu : inU (sT F N N satp.den st.den pr.den 1 (litBin .add .u64 va.den 3) 1) := Page.sT_inU hm (inU.add _ _)
      have ht := e3.2.2 (by rw [← z0]; exact f)
      have hz : sT F N N satp.den st.den pr.den 1 (litBin .add .u64 va.den 0) 4 = sT F N N satp.den st.den pr.den 1 va.den 4 := by rw [z0]
      rw [hz, Page.addu, ← ht]
      unfold inU at hu
      omega
    refine ld_fin hb hc (ld4a1 N F st.den c1.den c2.den c3.den c4.den c5.den c6.den c7.den c8.den satp.den c10.den c11.den pr.den va.den) ?_ ⟨?_, ?_, ?_, ?_⟩
    · simp only [hne, q, f, m0, m1, m2, m3, Bool.and_self, cond_true, cond_false, Bool.not_true, Bool.not_false, Bool.true_and, Bool.and_true]
    · unfold ldX ldI
      simp only [show ixs 4 = [0, 1, 2, 3] from rfl, firstL, g0, g1, g2, g3, f, t0, t1, t2, t3, cond_true, cond_false]
      try rfl
    · unfold ldF ldI
      simp only [show ixs 4 = [0, 1, 2, 3] from rfl, firstL, g0, g1, g2, g3, f, t0, t1, t2, t3, cond_true, cond_false]
      try rfl
    · unfold ldC ldI
      simp only [show ixs 4 = [0, 1, 2, 3] from rfl, firstL, g0, g1, g2, g3, f, t0, t1, t2, t3, cond_true, cond_false]
      try rfl
    · unfold ldV ldI
      simp only [show ixs 4 = [0, 1, 2, 3] from rfl, firstL, g0, g1, g2, g3, f, t0, t1, t2, t3, cond_true, cond_false]
      try rfl
theorem ldOk8 {N : Nat} {F : Nat → Int} {st c1 c2 c3 c4 c5 c6 c7 c8 satp c10 c11 pr va : AI DC} {h : List (AO DC)} {b0 c0 : Nat}
    (hb : h[b0]? = some (.cells 156 [.slice c0 (.lit 0) (.rc N 1 0) (.kn (.rc N 1 0))])) (hc : h[c0]? = some (.arr 5 N [(.int .u8, F)])) (hm : MemOk N F) (hN : (N : Int) % 8 = 0) (h1 : inU satp.den) (h2 : inU st.den) (hv : inU va.den) : FnOk Try.prog 75 [.agg [.ptr b0 (.lit 0), .nilptr], .agg [.int .u64 st, .int .u64 c1, .int .u64 c2, .int .u64 c3, .int .u64 c4, .int .u64 c5, .int .u64 c6, .int .u64 c7, .int .u64 c8, .int .u64 satp, .int .u64 c10, .int .u64 c11], .int .i64 pr, .int .u64 va, .int .i64 (.lit 8)] h (outL F N satp.den st.den pr.den va.den 8, []) := by
  have q0 : askS N N N F satp.den st.den pr.den 1 (litBin .add .u64 va.den 0) 1 = true := Page.askS_t hm h1 h2 (inU.add _ _) rfl
  have m0 : askM N N N F (litBin .add .u64 (sT F N N satp.den st.den pr.den 1 (litBin .add .u64 va.den 0) 1) 0) 1 = true := askM_of hm (inU.add _ _) (Page.inI_num rfl)
  have d0 : litBin .add .u64 (sT F N N satp.den st.den pr.den 1 (litBin .add .u64 va.den 0) 1) 0 = sT F N N satp.den st.den pr.den 1 (litBin .add .u64 va.den 0) 1 := add0 (Page.sT_inU hm (inU.add _ _))
  have v0 : sF F N N satp.den st.den pr.den 1 (litBin .add .u64 va.den 0) 1 = true → sV F N N satp.den st.den pr.den 1 (litBin .add .u64 va.den 0) 1 = (litBin .add .u64 va.den 0) := Page.sV_t
  have q1 : askS N N N F satp.den st.den pr.den 1 (litBin .add .u64 va.den 1) 1 = true := Page.askS_t hm h1 h2 (inU.add _ _) rfl
  have m1 : askM N N N F (litBin .add .u64 (sT F N N satp.den st.den pr.den 1 (litBin .add .u64 va.den 1) 1) 0) 1 = true := askM_of hm (inU.add _ _) (Page.inI_num rfl)
  have d1 : litBin .add .u64 (sT F N N satp.den st.den pr.den 1 (litBin .add .u64 va.den 1) 1) 0 = sT F N N satp.den st.den pr.den 1 (litBin .add .u64 va.den 1) 1 := add0 (Page.sT_inU hm (inU.add _ _))
  have v1 : sF F N N satp.den st.den pr.den 1 (litBin .add .u64 va.den 1) 1 = true → sV F N N satp.den st.den pr.den 1 (litBin .add .u64 va.den 1) 1 = (litBin .add .u64 va.den 1) := Page.sV_t
  have q2 : askS N N N F satp.den st.den pr.den 1 (litBin .add .u64 va.den 2) 1 = true := Page.askS_t hm h1 h2 (inU.add _ _) rfl
  have m2 : askM N N N F (litBin .add .u64 (sT F N N satp.den st.den pr.den 1 (litBin .add .u64 va.den 2) 1) 0) 1 = true := askM_of hm (inU.add _ _) (Page.inI_num rfl)
  have d2 : litBin .add .u64 (sT F N N satp.den st.den pr.den 1 (litBin .add .u64 va.den 2) 1) 0 = sT F N N satp.den st.den pr.den 1 (litBin .add .u64 va.den 2) 1 := add0 (Page.sT_inU hm (inU.add _ _))
  have v2 : sF F N N satp.den st.den pr.den 1 (litBin .add .u64 va.den 2) 1 = true → sV F N N satp.den st.den pr.den 1 (litBin .add .u64 va.den 2) 1 = (litBin .add .u64 va.den 2) := Page.sV_t
  have q3 : askS N N N F satp.den st.den pr.den 1 (litBin .add .u64 va.den 3) 1 = true := Page.askS_t hm h1 h2 (inU.add _ _) rfl
  have m3 : askM N N N F (litBin .add .u64 (sT F N N satp.den st.den pr.den 1 (litBin .add .u64 va.den 3) 1) 0) 1 = true := askM_of hm (inU.add _ _) (Page.inI_num rfl)
  have d3 : litBin .add .u64 (sT F N N satp.den st.den pr.den 1 (litBin .add .u64 va.den 3) 1) 0 = sT F N N satp.den st.den pr.den 1 (litBin .add .u64 va.den 3) 1 := add0 (Page.sT_inU hm (inU.add _ _))
  have v3 : sF F N N satp.den st.den pr.den 1 (litBin .add .u64 va.den 3) 1 = true → sV F N N satp.den st.den pr.den 1 (litBin .add .u64 va.den 3) 1 = (litBin .add .u64 va.den 3) := Page.sV_t
  have q4 : askS N N N F satp.den st.den pr.den 1 (litBin .add .u64 va.den 4) 1 = true := Page.askS_t hm h1 h2 (inU.add _ _) rfl
  have m4 : askM N N N F (litBin .add .u64 (sT F N N satp.den st.den pr.den 1 (litBin .add .u64 va.den 4) 1) 0) 1 = true := askM_of hm (inU.add _ _) (Page.inI_num rfl)
  have d4 : litBin .add .u64 (sT F N N satp.den st.den pr.den 1 (litBin .add .u64 va.den 4) 1) 0 = sT F N N satp.den st.den pr.den 1 (litBin .add .u64 va.den 4) 1 := add0 (Page.sT_inU hm (inU.add _ _))
  have v4 : sF F N N satp.den st.den pr.den 1 (litBin .add .u64 va.den 4) 1 = true → sV F N N satp.den st.den pr.den 1 (litBin .add .u64 va.den 4) 1 = (litBin .add .u64 va.den 4) := Page.sV_t
  have q5 : askS N N N F satp.den st.den pr.den 1 (litBin .add .u64 va.den 5) 1 = true := Page.askS_t hm h1 h2 (inU.add _ _) rfl
  have m5 : askM N N N F (litBin .add .u64 (sT F N N satp.den st.den pr.den 1 (litBin .add .u64 va.den 5) 1) 0) 1 = true := askM_of hm (inU.add _ _) (Page.inI_num rfl)
  have d5 : litBin .add .u64 (sT F N N satp.den st.den pr.den 1 (litBin .add .u64 va.den 5) 1) 0 = sT F N N satp.den st.den pr.den 1 (litBin .add .u64 va.den 5) 1 := add0 (Page.sT_inU hm (inU.add _ _))
  have v5 : sF F N N satp.den st.den pr.den 1 (litBin .add .u64 va.den 5) 1 = true → sV F N N satp.den st.den pr.den 1 (litBin .add .u64 va.den 5) 1 = (litBin .add .u64 va.den 5) := Page.sV_t
  have q6 : askS N N N F satp.den st.den pr.den 1 (litBin .add .u64 va.den 6) 1 = true := Page.askS_t hm h1 h2 (inU.add _ _) rfl
  have m6 : askM N N N F (litBin .add .u64 (sT F N N satp.den st.den pr.den 1 (litBin .add .u64 va.den 6) 1) 0) 1 = true := askM_of hm (inU.add _ _) (Page.inI_num rfl)
  have d6 : litBin .add .u64 (sT F N N satp.den st.den pr.den 1 (litBin .add .u64 va.den 6) 1) 0 = sT F N N satp.den st.den pr.den 1 (litBin .add .u64 va.den 6) 1 := add0 (Page.sT_inU hm (inU.add _ _))
  have v6 : sF F N N satp.den st.den pr.den 1 (litBin .add .u64 va.den 6) 1 = true → sV F N N satp.den st.den pr.den 1 (litBin .add .u64 va.den 6) 1 = (litBin .add .u64 va.den 6) := Page.sV_t
  have q7 : askS N N N F satp.den st.den pr.den 1 (litBin .add .u64 va.den 7) 1 = true := Page.askS_t hm h1 h2 (inU.add _ _) rfl
  have m7 : askM N N N F (litBin .add .u64 (sT F N N satp.den st.den pr.den 1 (litBin .add .u64 va.den 7) 1) 0) 1 = true := askM_of hm (inU.add _ _) (Page.inI_num rfl)
  have d7 : litBin .add .u64 (sT F N N satp.den st.den pr.den 1 (litBin .add .u64 va.den 7) 1) 0 = sT F N N satp.den st.den pr.den 1 (litBin .add .u64 va.den 7) 1 := add0 (Page.sT_inU hm (inU.add _ _))
  have v7 : sF F N N satp.den st.den pr.den 1 (litBin .add .u64 va.den 7) 1 = true → sV F N N satp.den st.den pr.den 1 (litBin .add .u64 va.den 7) 1 = (litBin .add .u64 va.den 7) := Page.sV_t
  cases ha : decide (va.den % 8 = 0)
  · have hne : litCmp .neq (litBin .rem .u64 va.den 8) 0 = true := by rw [neq0 hv, ha]; rfl
    cases g0 : ldA F N satp.den st.den pr.den va.den 0
    rotate_left
    · have f0 : sF F N N satp.den st.den pr.den 1 (litBin .add .u64 va.den 0) 1 = true := g0
      have w0 := v0 f0
      refine ld_fin hb hc (ld8u0 N F st.den c1.den c2.den c3.den c4.den c5.den c6.den c7.den c8.den satp.den c10.den c11.den pr.den va.den) ?_ ⟨?_, ?_, ?_, ?_⟩
      · simp only [hne, q0, f0, Bool.and_self, cond_true, cond_false, Bool.not_true, Bool.not_false, Bool.true_and, Bool.and_true]
      · unfold ldX ldI
        simp only [show ixs 8 = [0, 1, 2, 3, 4, 5, 6, 7] from rfl, firstL, g0, f0, w0, cond_true, cond_false]
        try rfl
      · unfold ldF ldI
        simp only [show ixs 8 = [0, 1, 2, 3, 4, 5, 6, 7] from rfl, firstL, g0, f0, w0, cond_true, cond_false]
        try rfl
        try exact f0
      · unfold ldC ldI
        simp only [show ixs 8 = [0, 1, 2, 3, 4, 5, 6, 7] from rfl, firstL, g0, f0, w0, cond_true, cond_false]
        try rfl
      · unfold ldV ldI
        simp only [show ixs 8 = [0, 1, 2, 3, 4, 5, 6, 7] from rfl, firstL, g0, f0, w0, cond_true, cond_false]
        try rfl
    have f0 : sF F N N satp.den st.den pr.den 1 (litBin .add .u64 va.den 0) 1 = false := g0
    cases g1 : ldA F N satp.den st.den pr.den va.den 1
    rotate_left
    · have f1 : sF F N N satp.den st.den pr.den 1 (litBin .add .u64 va.den 1) 1 = true := g1
      have w1 := v1 f1
      refine ld_fin hb hc (ld8u1 N F st.den c1.den c2.den c3.den c4.den c5.den c6.den c7.den c8.den satp.den c10.den c11.den pr.den va.den) ?_ ⟨?_, ?_, ?_, ?_⟩
      · simp only [hne, q0, q1, f0, f1, Bool.and_self, cond_true, cond_false, Bool.not_true, Bool.not_false, Bool.true_and, Bool.and_true]
      · unfold ldX ldI
        simp only [show ixs 8 = [0, 1, 2, 3, 4, 5, 6, 7] from rfl, firstL, g0, g1, f1, w1, cond_true, cond_false]
        try rfl
      · unfold ldF ldI
        simp only [show ixs 8 = [0, 1, 2, 3, 4, 5, 6, 7] from rfl, firstL, g0, g1, f1, w1, cond_true, cond_false]
        try rfl
        try exact f1
      · unfold ldC ldI
        simp only [show ixs 8 = [0, 1, 2, 3, 4, 5, 6, 7] from rfl, firstL, g0, g1, f1, w1, cond_true, cond_false]
        try rfl
      · unfold ldV ldI
        simp only [show ixs 8 = [0, 1, 2, 3, 4, 5, 6, 7] from rfl, firstL, g0, g1, f1, w1, cond_true, cond_false]
        try rfl
    have f1 : sF F N N satp.den st.den pr.den 1 (litBin .add .u64 va.den 1) 1 = false := g1
    cases g2 : ldA F N satp.den st.den pr.den va.den 2
    rotate_left
    · have f2 : sF F N N satp.den st.den pr.den 1 (litBin .add .u64 va.den 2) 1 = true := g2
      have w2 := v2 f2
      refine ld_fin hb hc (ld8u2 N F st.den c1.den c2.den c3.den c4.den c5.den c6.den c7.den c8.den satp.den c10.den c11.den pr.den va.den) ?_ ⟨?_, ?_, ?_, ?_⟩
      · simp only [hne, q0, q1, q2, f0, f1, f2, Bool.and_self, cond_true, cond_false, Bool.not_true, Bool.not_false, Bool.true_and, Bool.and_true]
      · unfold ldX ldI
        simp only [show ixs 8 = [0, 1, 2, 3, 4, 5, 6, 7] from rfl, firstL, g0, g1, g2, f2, w2, cond_true, cond_false]
        try rfl
      · unfold ldF ldI
        simp only [show ixs 8 = [0, 1, 2, 3, 4, 5, 6, 7] from rfl, firstL, g0, g1, g2, f2, w2, cond_true, cond_false]
        try rfl
        try exact f2
      · unfold ldC ldI
        simp only [show ixs 8 = [0, 1, 2, 3, 4, 5, 6, 7] from rfl, firstL, g0, g1, g2, f2, w2, cond_true, cond_false]
        try rfl
      · unfold ldV ldI
        simp only [show ixs 8 = [0, 1, 2, 3, 4, 5, 6, 7] from rfl, firstL, g0, g1, g2, f2, w2, cond_true, cond_false]
        try rfl
    have f2 : sF F N N satp.den st.den pr.den 1 (litBin .add .u64 va.den 2) 1 = false := g2
    cases g3 : ldA F N satp.den st.den pr.den va.den 3
    rotate_left
    · have f3 : sF F N N satp.den st.den pr.den 1 (litBin .add .u64 va.den 3) 1 = true := g3
      have w3 := v3 f3
      refine ld_fin hb hc (ld8u3 N F st.den c1.den c2.den c3.den c4.den c5.den c6.den c7.den c8.den satp.den c10.den c11.den pr.den va.den) ?_ ⟨?_, ?_, ?_, ?_⟩
      · simp only [hne, q0, q1, q2, q3, f0, f1, f2, f3, Bool.and_self, cond_true, cond_false, Bool.not_true, Bool.not_false, Bool.true_and, Bool.and_true]
      · unfold ldX ldI
        simp only [show ixs 8 = [0, 1, 2, 3, 4, 5, 6, 7] from rfl, firstL, g0, g1, g2, g3, f3, w3, cond_true, cond_false]
        try rfl
      · unfold ldF ldI
        simp only [show ixs 8 = [0, 1, 2, 3, 4, 5, 6, 7] from rfl, firstL, g0, g1, g2, g3, f3, w3, cond_true, cond_false]
        try rfl
        try exact f3
      · unfold ldC ldI
        simp only [show ixs 8 = [0, 1, 2, 3, 4, 5, 6, 7] from rfl, firstL, g0, g1, g2, g3, f3, w3, cond_true, cond_false]
        try rfl
      · unfold ldV ldI
        simp only [show ixs 8 = [0, 1, 2, 3, 4, 5, 6, 7] from rfl, firstL, g0, g1, g2, g3, f3, w3, cond_true, cond_false]
        try rfl
    have f3 : sF F N N satp.den st.den pr.den 1 (litBin .add .u64 va.den 3) 1 = false := g3
    cases g4 : ldA F N satp.den st.den pr.den va.den 4
    rotate_left
    · have f4 : sF F N N satp.den st.den pr.den 1 (litBin .add .u64 va.den 4) 1 = true := g4
      have w4 := v4 f4
      refine ld_fin hb hc (ld8u4 N F st.den c1.den c2.den c3.den c4.den c5.den c6.den c7.den c8.den satp.den c10.den c11.den pr.den va.den) ?_ ⟨?_, ?_, ?_, ?_⟩
      · simp only [hne, q0, q1, q2, q3, q4, f0, f1, f2, f3, f4, Bool.and_self, cond_true, cond_false, Bool.not_true, Bool.not_false, Bool.true_and, Bool.and_true]
      · unfold ldX ldI
        simp only [show ixs 8 = [0, 1, 2, 3, 4, 5, 6, 7] from rfl, firstL, g0, g1, g2, g3, g4, f4, w4, cond_true, cond_false]
        try rfl
      · unfold ldF ldI
        simp only [show ixs 8 = [0, 1, 2, 3, 4, 5, 6, 7] from rfl, firstL, g0, g1, g2, g3, g4, f4, w4, cond_true, cond_false]
        try rfl
        try exact f4
      · unfold ldC ldI
        simp only [show ixs 8 = [0, 1, 2, 3, 4, 5, 6, 7] from rfl, firstL, g0, g1, g2, g3, g4, f4, w4, cond_true, cond_false]
        try rfl
      · unfold ldV ldI
        simp only [show ixs 8 = [0, 1, 2, 3, 4, 5, 6, 7] from rfl, firstL, g0, g1, g2, g3, g4, f4, w4, cond_true, cond_false]
        try rfl
    have f4 : sF F N N satp.den st.den pr.den 1 (litBin .add .u64 va.den 4) 1 = false := g4
    cases g5 : ldA F N satp.den st.den pr.den va.den 5
    rotate_left
    · have f5 : sF F N N satp.den st.den pr.den 1 (litBin .add .u64 va.den 5) 1 = true := g5
      have w5 := v5 f5
      refine ld_fin hb hc (ld8u5 N F st.den c1.den c2.den c3.den c4.den c5.den c6.den c7.den c8.den satp.den c10.den c11.den pr.den va.den) ?_ ⟨?_, ?_, ?_, ?_⟩
      · simp only [hne, q0, q1, q2, q3, q4, q5, f0, f1, f2, f3, f4, f5, Bool.and_self, cond_true, cond_false, Bool.not_true, Bool.not_false, Bool.true_and, Bool.and_true]
      · unfold ldX ldI
        simp only [show ixs 8 = [0, 1, 2, 3, 4, 5, 6, 7] from rfl, firstL, g0, g1, g2, g3, g4, g5, f5, w5, cond_true, cond_false]
        try rfl
      · unfold ldF ldI
        simp only [show ixs 8 = [0, 1, 2, 3, 4, 5, 6, 7] from rfl, firstL, g0, g1, g2, g3, g4, g5, f5, w5, cond_true, cond_false]
        try rfl
        try exact f5
      · unfold ldC ldI
        simp only [show ixs 8 = [0, 1, 2, 3, 4, 5, 6, 7] from rfl, firstL, g0, g1, g2, g3, g4, g5, f5, w5, cond_true, cond_false]
        try rfl
      · unfold ldV ldI
        simp only [show ixs 8 = [0, 1, 2, 3, 4, 5, 6, 7] from rfl, firstL, g0, g1, g2, g3, g4, g5, f5, w5, cond_true, cond_false]
        try rfl
    have f5 : sF F N N satp.den st.den pr.den 1 (litBin .add .u64 va.den 5) 1 = false := g5
    cases g6 : ldA F N satp.den st.den pr.den va.den 6
    rotate_left
    · have f6 : sF F N N satp.den st.den pr.den 1 (litBin .add .u64 va.den 6) 1 = true := g6
      have w6 := v6 f6
      refine ld_fin hb hc (ld8u6 N F st.den c1.den c2.den c3.den c4.den c5.den c6.den c7.den c8.den satp.den c10.den c11.den pr.den va.den) ?_ ⟨?_, ?_, ?_, ?_⟩
      · simp only [hne, q0, q1, q2, q3, q4, q5, q6, f0, f1, f2, f3, f4, f5, f6, Bool.and_self, cond_true, cond_false, Bool.not_true, Bool.not_false, Bool.true_and, Bool.and_true]
      · unfold ldX ldI
        simp only [show ixs 8 = [0, 1, 2, 3, 4, 5, 6, 7] from rfl, firstL, g0, g1, g2, g3, g4, g5, g6, f6, w6, cond_true, cond_false]
        try rfl
      · unfold ldF ldI
        simp only [show ixs 8 = [0, 1, 2, 3, 4, 5, 6, 7] from rfl, firstL, g0, g1, g2, g3, g4, g5, g6, f6, w6, cond_true, cond_false]
        try rfl
        try exact f6
      · unfold ldC ldI
        simp only [show ixs 8 = [0, 1, 2, 3, 4, 5, 6, 7] from rfl, firstL, g0, g1, g2, g3, g4, g5, g6, f6, w6, cond_true, cond_false]
        try rfl
      · unfold ldV ldI
        simp only [show ixs 8 = [0, 1, 2, 3, 4, 5, 6, 7] from rfl, firstL, g0, g1, g2, g3, g4, g5, g6, f6, w6, cond_true, cond_false]
        try rfl
    have f6 : sF F N N satp.den st.den pr.den 1 (litBin .add .u64 va.den 6) 1 = false := g6
    cases g7 : ldA F N satp.den st.den pr.den va.den 7
    rotate_left
    · have f7 : sF F N N satp.den st.den pr.den 1 (litBin .add .u64 va.den 7) 1 = true := g7
      have w7 := v7 f7
      refine ld_fin hb hc (ld8u7 N F st.den c1.den c2.den c3.den c4.den c5.den c6.den c7.den c8.den satp.den c10.den c11.den pr.den va.den) ?_ ⟨?_, ?_, ?_, ?_⟩
      · simp only [hne, q0, q1, q2, q3, q4, q5, q6, q7, f0, f1, f2, f3, f4, f5, f6, f7, Bool.and_self, cond_true, cond_false, Bool.not_true, Bool.not_false, Bool.true_and, Bool.and_true]
      · unfold ldX ldI
        simp only [show ixs 8 = [0, 1, 2, 3, 4, 5, 6, 7] from rfl, firstL, g0, g1, g2, g3, g4, g5, g6, g7, f7, w7, cond_true, cond_false]
        try rfl
      · unfold ldF ldI
        simp only [show ixs 8 = [0, 1, 2, 3, 4, 5, 6, 7] from rfl, firstL, g0, g1, g2, g3, g4, g5, g6, g7, f7, w7, cond_true, cond_false]
        try rfl
        try exact f7
      · unfold ldC ldI
        simp only [show ixs 8 = [0, 1, 2, 3, 4, 5, 6, 7] from rfl, firstL, g0, g1, g2, g3, g4, g5, g6, g7, f7, w7, cond_true, cond_false]
        try rfl
      · unfold ldV ldI
        simp only [show ixs 8 = [0, 1, 2, 3, 4, 5, 6, 7] from rfl, firstL, g0, g1, g2, g3, g4, g5, g6, g7, f7, w7, cond_true, cond_false]
        try rfl
    have f7 : sF F N N satp.den st.den pr.den 1 (litBin .add .u64 va.den 7) 1 = false := g7
    refine ld_fin hb hc (ld8u8 N F st.den c1.den c2.den c3.den c4.den c5.den c6.den c7.den c8.den satp.den c10.den c11.den pr.den va.den) ?_ ⟨?_, ?_, ?_, ?_⟩
    · simp only [hne, q0, q1, q2, q3, q4, q5, q6, q7, f0, f1, f2, f3, f4, f5, f6, f7, m0, m1, m2, m3, m4, m5, m6, m7, Bool.and_self, cond_true, cond_false, Bool.not_true, Bool.not_false, Bool.true_and, Bool.and_true]
    · unfold ldX ldI
      simp only [show ixs 8 = [0, 1, 2, 3, 4, 5, 6, 7] from rfl, firstL, g0, g1, g2, g3, g4, g5, g6, g7, f0, f1, f2, f3, f4, f5, f6, f7, d0, d1, d2, d3, d4, d5, d6, d7, cond_true, cond_false]
      try rfl
    · unfold ldF ldI
      simp only [show ixs 8 = [0, 1, 2, 3, 4, 5, 6, 7] from rfl, firstL, g0, g1, g2, g3, g4, g5, g6, g7, f0, f1, f2, f3, f4, f5, f6, f7, d0, d1, d2, d3, d4, d5, d6, d7, cond_true, cond_false]
      try rfl
    · unfold ldC ldI
      simp only [show ixs 8 = [0, 1, 2, 3, 4, 5, 6, 7] from rfl, firstL, g0, g1, g2, g3, g4, g5, g6, g7, f0, f1, f2, f3, f4, f5, f6, f7, d0, d1, d2, d3, d4, d5, d6, d7, cond_true, cond_false]
      try rfl
    · unfold ldV ldI
      simp only [show ixs 8 = [0, 1, 2, 3, 4, 5, 6, 7] from rfl, firstL, g0, g1, g2, g3, g4, g5, g6, g7, f0, f1, f2, f3, f4, f5, f6, f7, d0, d1, d2, d3, d4, d5, d6, d7, cond_true, cond_false]
      try rfl
  · have ha' : va.den % 8 = 0 := of_decide_eq_true ha
    have hne : litCmp .neq (litBin .rem .u64 va.den 8) 0 = false := by rw [neq0 hv, ha]; rfl
    have z0 : (litBin .add .u64 va.den 0) = va.den := add0 hv
    have q : askS N N N F satp.den st.den pr.den 1 (litBin .add .u64 va.den 0) 8 = true := Page.askS_t hm h1 h2 (inU.add _ _) rfl
    have vz : sF F N N satp.den st.den pr.den 1 (litBin .add .u64 va.den 0) 8 = true → sV F N N satp.den st.den pr.den 1 (litBin .add .u64 va.den 0) 8 = (litBin .add .u64 va.den 0) := Page.sV_t
    have m0 : askM N N N F (litBin .add .u64 (sT F N N satp.den st.den pr.den 1 (litBin .add .u64 va.den 0) 8) 0) 1 = true := askM_of hm (inU.add _ _) (Page.inI_num rfl)
    have e0 := Page.all_same (satp := satp.den) (st := st.den) (pr := pr.den) (k := 1) hm hN hv (show num 8 = true from rfl) ha' (show (0 : Int) ≤ 0 ∧ ((0 : Int)) < 8 by omega)
    rw [← (Page.near hv (show num 8 = true from rfl) ha' (show (0 : Int) ≤ 0 ∧ ((0 : Int)) < 8 by omega)).2.2] at e0
    have m1 : askM N N N F (litBin .add .u64 (sT F N N satp.den st.den pr.den 1 (litBin .add .u64 va.den 0) 8) 1) 1 = true := askM_of hm (inU.add _ _) (Page.inI_num rfl)
    have e1 := Page.all_same (satp := satp.den) (st := st.den) (pr := pr.den) (k := 1) hm hN hv (show num 8 = true from rfl) ha' (show (0 : Int) ≤ 1 ∧ ((1 : Int)) < 8 by omega)
    rw [← (Page.near hv (show num 8 = true from rfl) ha' (show (0 : Int) ≤ 1 ∧ ((1 : Int)) < 8 by omega)).2.2] at e1
    have m2 : askM N N N F (litBin .add .u64 (sT F N N satp.den st.den pr.den 1 (litBin .add .u64 va.den 0) 8) 2) 1 = true := askM_of hm (inU.add _ _) (Page.inI_num rfl)
    have e2 := Page.all_same (satp := satp.den) (st := st.den) (pr := pr.den) (k := 1) hm hN hv (show num 8 = true from rfl) ha' (show (0 : Int) ≤ 2 ∧ ((2 : Int)) < 8 by omega)
    rw [← (Page.near hv (show num 8 = true from rfl) ha' (show (0 : Int) ≤ 2 ∧ ((2 : Int)) < 8 by omega)).2.2] at e2
    have m3 : askM N N N F (litBin .add .u64 (sT F N N satp.den st.den pr.den 1 (litBin .add .u64 va.den 0) 8) 3) 1 = true := askM_of hm (inU.add _ _) (Page.inI_num rfl)
    have e3 := Page.all_same (satp := satp.den) (st := st.den) (pr := pr.den) (k := 1) hm hN hv (show num 8 = true from rfl) ha' (show (0 : Int) ≤ 3 ∧ ((3 : Int)) < 8 by omega)
    rw [← (Page.near hv (show num 8 = true from rfl) ha' (show (0 : Int) ≤ 3 ∧ ((3 : Int)) < 8 by omega)).2.2] at e3
    have m4 : askM N N N F (litBin .add .u64 (sT F N N satp.den st.den pr.den 1 (litBin .add .u64 va.den 0) 8) 4) 1 = true := askM_of hm (inU.add _ _) (Page.inI_num rfl)
    have e4 := Page.all_same (satp := satp.den) (st := st.den) (pr := pr.den) (k := 1) hm hN hv (show num 8 = true from rfl) ha' (show (0 : Int) ≤ 4 ∧ ((4 : Int)) < 8 by omega)
    rw [← (Page.near hv (show num 8 = true from rfl) ha' (show (0 : Int) ≤ 4 ∧ ((4 : Int)) < 8 by omega)).2.2] at e4
    have m5 : askM N N N F (litBin .add .u64 (sT F N N satp.den st.den pr.den 1 (litBin .add .u64 va.den 0) 8) 5) 1 = true := askM_of hm (inU.add _ _) (Page.inI_num rfl)
    have e5 := Page.all_same (satp := satp.den) (st := st.den) (pr := pr.den) (k := 1) hm hN hv (show num 8 = true from rfl) ha' (show (0 : Int) ≤ 5 ∧ ((5 : Int)) < 8 by omega)
    rw [← (Page.near hv (show num 8 = true from rfl) ha' (show (0 : Int) ≤ 5 ∧ ((5 : Int)) < 8 by omega)).2.2] at e5
    have m6 : askM N N N F (litBin .add .u64 (sT F N N satp.den st.den pr.den 1 (litBin .add .u64 va.den 0) 8) 6) 1 = true := askM_of hm (inU.add _ _) (Page.inI_num rfl)
    have e6 := Page.all_same (satp := satp.den) (st := st.den) (pr := pr.den) (k := 1) hm hN hv (show num 8 = true from rfl) ha' (show (0 : Int) ≤ 6 ∧ ((6 : Int)) < 8 by omega)
    rw [← (Page.near hv (show num 8 = true from rfl) ha' (show (0 : Int) ≤ 6 ∧ ((6 : Int)) < 8 by omega)).2.2] at e6
    have m7 : askM N N N F (litBin .add .u64 (sT F N N satp.den st.den pr.den 1 (litBin .add .u64 va.den 0) 8) 7) 1 = true := askM_of hm (inU.add _ _) (Page.inI_num rfl)
    have e7 := Page.all_same (satp := satp.den) (st := st.den) (pr := pr.den) (k := 1) hm hN hv (show num 8 = true from rfl) ha' (show (0 : Int) ≤ 7 ∧ ((7 : Int)) < 8 by omega)
    rw [← (Page.near hv (show num 8 = true from rfl) ha' (show (0 : Int) ≤ 7 ∧ ((7 : Int)) < 8 by omega)).2.2] at e7
    cases f : sF F N N satp.den st.den pr.den 1 (litBin .add .u64 va.den 0) 8
    rotate_left
    · have wz := vz f
      have g0 : ldA F N satp.den st.den pr.den va.den 0 = true := e0.1.trans (by rw [← z0]; exact f)
      have c0 : sC F N N satp.den st.den pr.den 1 (litBin .add .u64 va.den 0) 1 = sC F N N satp.den st.den pr.den 1 (litBin .add .u64 va.den 0) 8 := e0.2.1.trans (by rw [z0])
      refine ld_fin hb hc (ld8a0 N F st.den c1.den c2.den c3.den c4.den c5.den c6.den c7.den c8.den satp.den c10.den c11.den pr.den va.den) ?_ ⟨?_, ?_, ?_, ?_⟩
      · simp only [hne, q, f, m0, m1, m2, m3, m4, m5, m6, m7, Bool.and_self, cond_true, cond_false, Bool.not_true, Bool.not_false, Bool.true_and, Bool.and_true]
      · unfold ldX ldI
        simp only [show ixs 8 = [0, 1, 2, 3, 4, 5, 6, 7] from rfl, firstL, g0, f, wz, cond_true, cond_false]
        try rfl
      · unfold ldF ldI
        simp only [show ixs 8 = [0, 1, 2, 3, 4, 5, 6, 7] from rfl, firstL, g0, f, wz, cond_true, cond_false]
        try exact f
        try rfl
      · unfold ldC ldI
        simp only [show ixs 8 = [0, 1, 2, 3, 4, 5, 6, 7] from rfl, firstL, g0, f, wz, cond_true, cond_false]
        try exact c0.symm
        try rfl
      · unfold ldV ldI
        simp only [show ixs 8 = [0, 1, 2, 3, 4, 5, 6, 7] from rfl, firstL, g0, f, wz, cond_true, cond_false]
        try rfl
    have g0 : ldA F N satp.den st.den pr.den va.den 0 = false := e0.1.trans (by rw [← z0]; exact f)
    have t0 : litBin .add .u64 (sT F N N satp.den st.den pr.den 1 (litBin .add .u64 va.den 0) 8) 0 = sT F N N satp.den st.den pr.den 1 (litBin .add .u64 va.den 0) 1 := by
      have hu : inU (sT F N N satp.den st.den pr.den 1 (litBin .add .u64 va.den 0) 1) := Page.sT_inU hm (inU.add _ _)
      have ht := e0.2.2 (by rw [← z0]; exact f)
      have hz : sT F N N satp.den st.den pr.den 1 (litBin .add .u64 va.den 0) 8 = sT F N N satp.den st.den pr.den 1 va.den 8 := by rw [z0]
      rw [hz, Page.addu, ← ht]
      unfold inU at hu
      omega
    have g1 : ldA F N satp.den st.den pr.den va.den 1 = false := e1.1.trans (by rw [← z0]; exact f)
    have t1 : litBin .add .u64 (sT F N N satp.den st.den pr.den 1 (litBin .add .u64 va.den 0) 8) 1 = sT F N N satp.den st.den pr.den 1 (litBin .add .u64 va.den 1) 1 := by
      have hu : inU (sT F N N satp.den st.den pr.den 1 (litBin .add .u64 va.den 1) 1) := Page.sT_inU hm (inU.add _ _)
      have ht := e1.2.2 (by rw [← z0]; exact f)
      have hz : sT F N N satp.den st.den pr.den 1 (litBin .add .u64 va.den 0) 8 = sT F N N satp.den st.den pr.den 1 va.den 8 := by rw [z0]
      rw [hz, Page.addu, ← ht]
      unfold inU at hu
      omega
    have g2 : ldA F N satp.den st.den pr.den va.den 2 = false := e2.1.trans (by rw [← z0]; exact f)
    have t2 : litBin .add .u64 (sT F N N satp.den st.den pr.den 1 (litBin .add .u64 va.den 0) 8) 2 = sT F N N satp.den st.den pr.den 1 (litBin .add .u64 va.den 2) 1 := by
      have hu : inU (sT F N N satp.den st.den pr.den 1 (litBin .add .u64 va.den 2) 1) := Page.sT_inU hm (inU.add _ _)
      have ht := e2.2.2 (by rw [← z0]; exact f)
      have hz : sT F N N satp.den st.den pr.den 1 (litBin .add .u64 va.den 0) 8 = sT F N N satp.den st.den pr.den 1 va.den 8 := by rw [z0]
      rw [hz, Page.addu, ← ht]
      unfold inU at hu
      omega
    have g3 : ldA F N satp.den st.den pr.den va.den 3 = false := e3.1.trans (by rw [← z0]; exact f)
    have t3 : litBin .add .u64 (sT F N N satp.den st.den pr.den 1 (litBin .add .u64 va.den 0) 8) 3 = sT F N N satp.den st.den pr.den 1 (litBin .add .u64 va.den 3) 1 := by
      have hu : inU (sT F N N satp.den st.den pr.den 1 (litBin .add .u64 va.den 3) 1) := Page.sT_inU hm (inU.add _ _)
      have ht := e3.2.2 (by rw [← z0]; exact f)
      have hz : sT F N N satp.den st.den pr.den 1 (litBin .add .u64 va.den 0) 8 = sT F N N satp.den st.den pr.den 1 va.den 8 := by rw [z0]
      rw [hz, Page.addu, ← ht]
      unfold inU at hu
      omega
    have g4 : ldA F N satp.den st.den pr.den va.den 4 = false := e4.1.trans (by rw [← z0]; exact f)
    have t4 : litBin .add .u64 (sT F N N satp.den st.den pr.den 1 (litBin .add .u64 va.den 0) 8) 4 = sT F N N satp.den st.den pr.den 1 (litBin .add .u64 va.den 4) 1 := by
      have hu : inU (sT F N N satp.den st.den pr.den 1 (litBin .add .u64 va.den 4) 1) := Page.sT_inU hm (inU.add _ _)
      have ht := e4.2.2 (by rw [← z0]; exact f)
      have hz : sT F N N satp.den st.den pr.den 1 (litBin .add .u64 va.den 0) 8 = sT F N N satp.den st.den pr.den 1 va.den 8 := by rw [z0]
      rw [hz, Page.addu, ← ht]
      unfold inU at hu
      omega
    have g5 : ldA F N satp.den st.den pr.den va.den 5 = false := e5.1.trans (by rw [← z0]; exact f)
    have t5 : litBin .add .u64 (sT F N N satp.den st.den pr.den 1 (litBin .add .u64 va.den 0) 8) 5 = sT F N N satp.den st.den pr.den 1 (litBin .add .u64 va.den 5) 1 := by
      have hu : inU (sT F N N satp.den st.den pr.den 1 (litBin .add .u64 va.den 5) 1) := Page.sT_inU hm (inU.add _ _)
      have ht := e5.2.2 (by rw [← z0]; exact f)
      have hz : sT F N N satp.den st.den pr.den 1 (litBin .add .u64 va.den 0) 8 = sT F N N satp.den st.den pr.den 1 va.den 8 := by rw [z0]
      rw [hz, Page.addu, ← ht]
      unfold inU at hu
      omega
    have g6 : ldA F N satp.den st.den pr.den va.den 6 = false := e6.1.trans (by rw [← z0]; exact f)
    have t6 : litBin .add .u64 (sT F N N satp.den st.den pr.den 1 (litBin .add .u64 va.den 0) 8) 6 = sT F N N satp.den st.den pr.den 1 (litBin .add .u64 va.den 6) 1 := by
      have hu : inU (sT F N N satp.den st.den pr.den 1 (litBin .add .u64 va.den 6) 1) := Page.sT_inU hm (inU.add _ _)
      have ht := e6.2.2 (by rw [← z0]; exact f)
      have hz : sT F N N satp.den st.den pr.den 1 (litBin .add .u64 va.den 0) 8 = sT F N N satp.den st.den pr.den 1 va.den 8 := by rw [z0]
      rw [hz, Page.addu, ← ht]
      unfold inU at hu
      omega
    have g7 : ldA F N satp.den st.den pr.den va.den 7 = false := e7.1.trans (by rw [← z0]; exact f)
    have t7 : litBin .add .u64 (sT F N N satp.den st.den pr.den 1 (litBin .add .u64 va.den 0) 8) 7 = sT F N N satp.den st.den pr.den 1 (litBin .add .u64 va.den 7) 1 := by
      have hu : inU (sT F N N satp.den st.den pr.den 1 (litBin .add .u64 va.den 7) 1) := Page.sT_inU hm (inU.add _ _)
      have ht := e7.2.2 (by rw [← z0]; exact f)
      have hz : sT F N N satp.den st.den pr.den 1 (litBin .add .u64 va.den 0) 8 = sT F N N satp.den st.den pr.den 1 va.den 8 := by rw [z0]
      rw [hz, Page.addu, ← ht]
      unfold inU at hu
      omega
    refine ld_fin hb hc (ld8a1 N F st.den c1.den c2.den c3.den c4.den c5.den c6.den c7.den c8.den satp.den c10.den c11.den pr.den va.den) ?_ ⟨?_, ?_, ?_, ?_⟩
    · simp only [hne, q, f, m0, m1, m2, m3, m4, m5, m6, m7, Bool.and_self, cond_true, cond_false, Bool.not_true, Bool.not_false, Bool.true_and, Bool.and_true]
    · unfold ldX ldI
      simp only [show ixs 8 = [0, 1, 2, 3, 4, 5, 6, 7] from rfl, firstL, g0, g1, g2, g3, g4, g5, g6, g7, f, t0, t1, t2, t3, t4, t5, t6, t7, cond_true, cond_false]
      try rfl
    · unfold ldF ldI
      simp only [show ixs 8 = [0, 1, 2, 3, 4, 5, 6, 7] from rfl, firstL, g0, g1, g2, g3, g4, g5, g6, g7, f, t0, t1, t2, t3, t4, t5, t6, t7, cond_true, cond_false]
      try rfl
    · unfold ldC ldI
      simp only [show ixs 8 = [0, 1, 2, 3, 4, 5, 6, 7] from rfl, firstL, g0, g1, g2, g3, g4, g5, g6, g7, f, t0, t1, t2, t3, t4, t5, t6, t7, cond_true, cond_false]
      try rfl
    · unfold ldV ldI
      simp only [show ixs 8 = [0, 1, 2, 3, 4, 5, 6, 7] from rfl, firstL, g0, g1, g2, g3, g4, g5, g6, g7, f, t0, t1, t2, t3, t4, t5, t6, t7, cond_true, cond_false]
      try rfl
noncomputable def gLoad (args : List (AV DC)) (h : List (AO DC)) : Option (T DC (AV DC × List (W DC))) := match args with
  | [.agg [.ptr b (.lit 0), .nilptr], .agg [.int .u64 st, .int .u64 c1, .int .u64 c2, .int .u64 c3, .int .u64 c4, .int .u64 c5, .int .u64 c6, .int .u64 c7, .int .u64 c8, .int .u64 satp, .int .u64 c10, .int .u64 c11], .int .i64 pr, .int .u64 va, .int .i64 (.lit n)] => match h[b]? with
    | some (.cells 156 [.slice c (.lit 0) (.rc L 1 0) (.kn (.rc C 1 0))]) => match h[c]? with
      | some (.arr 5 N [(.int .u8, F)]) => some (.br (askL L C N F satp.den st.den va.den n) (.ret (outL F N satp.den st.den pr.den va.den n, [])) .fail)
      | _ => none
    | _ => none
  | _ => none
theorem gLoad_ok {args : List (AV DC)} {h : List (AO DC)} {t : T DC (AV DC × List (W DC))} {r : AV DC × List (W DC)} (ht : gLoad args h = some t) (hp : t.pick = some r) : FnOk Try.prog 75 args h r := by
  unfold gLoad at ht
  split at ht
  · split at ht
    · rename_i c L C hb
      split at ht
      · rename_i N F hc
        cases ht
        obtain ⟨h1, h2⟩ := T.ask hp
        have := T.ret_some h2
        subst this
        obtain ⟨⟨rfl, rfl, hm, hN⟩, k1, k2, k3, k4⟩ := of_yes h1
        rcases Page.num_cases k4 with rfl | rfl | rfl | rfl
        · exact ldOk1 hb hc hm hN k1 k2 k3
        · exact ldOk2 hb hc hm hN k1 k2 k3
        · exact ldOk4 hb hc hm hN k1 k2 k3
        · exact ldOk8 hb hc hm hN k1 k2 k3
      · cases ht
    · cases ht
  · cases ht
/-! ### How many bytes -/
def sizeS (nn : Int) : Int := litBin .shl .i64 1 (litBin .and .u8 nn 3)
noncomputable def szq (k nn : Int) : Bool := yes (sizeS nn = k ∧ 0 ≤ litBin .and .u8 nn 3)
theorem size_road (nn : Int) : ((call Try.prog cxs 100 74 [.int .u8 (.sym nn)] []).route [true]).map (fun p => (p.1, p.2.1)) = some ([!(litCmp .lss (litBin .and .u8 nn 3) 0)], .val (.int .i64 (.sym (sizeS nn)))) := by kernel_rfl
noncomputable def gSize (k : Int) (args : List (AV DC)) (h : List (AO DC)) : Option (T DC (AV DC × List (W DC))) := match args with
  | [.int .u8 nn] => some (.br (szq k nn.den) (.ret (.int .i64 (.lit k), [])) .fail)
  | _ => none
theorem gSize_ok {k : Int} {args : List (AV DC)} {h : List (AO DC)} {t : T DC (AV DC × List (W DC))} {r : AV DC × List (W DC)} (ht : gSize k args h = some t) (hp : t.pick = some r) : FnOk Try.prog 74 args h r := by
  unfold gSize at ht
  split at ht
  · rename_i nn
    cases ht
    obtain ⟨h1, h2⟩ := T.ask hp
    have := T.ret_some h2
    subst this
    obtain ⟨k1, k2⟩ := of_yes h1
    obtain ⟨l, hl⟩ := road_at (size_road nn.den) (by rw [lss_eq, decide_eq_false (by omega)]; rfl)
    exact pureV cxs_ok hl ⟨⟨rfl, rfl⟩, trivial⟩ fun σ => ⟨rfl, k1⟩
  · cases ht
theorem and3 {nn : Int} (h : 0 ≤ nn ∧ nn < 256) : litBin .and .u8 nn 3 = nn % 4 := by
  obtain ⟨n, rfl⟩ : ∃ n : Nat, nn = (n : Int) := ⟨nn.toNat, by omega⟩
  have hn : n < 256 := by omega
  have all : ∀ n : Nat, n < 256 → litBin .and .u8 (n : Int) 3 = (n : Int) % 4 := by decide +kernel
  exact all n hn
theorem size_cases {nn : Int} (h : 0 ≤ nn ∧ nn < 256) : sizeS nn = 1 ∨ sizeS nn = 2 ∨ sizeS nn = 4 ∨ sizeS nn = 8 := by
  unfold sizeS
  rw [and3 h]
  rcases (by omega : nn % 4 = 0 ∨ nn % 4 = 1 ∨ nn % 4 = 2 ∨ nn % 4 = 3) with e | e | e | e <;> rw [e]
  · exact .inl rfl
  · exact .inr (.inl rfl)
  · exact .inr (.inr (.inl rfl))
  · exact .inr (.inr (.inr rfl))
theorem szq_of {k nn : Int} (h : 0 ≤ nn ∧ nn < 256) (e : sizeS nn = k) : szq k nn = true := yes_of ⟨e, by rw [and3 h]; omega⟩
def isNeqU (o : Oper) : Bool := match o.op with
  | .binOp .neq t _ _ _ => Nat.beq t 23
  | _ => false
def tailsMore (X : Cx DC) (l : List (Nat × Nat × Nat)) : Cx DC := { X with tail := fun f id => match tailAt l f id with
  | some k => some k
  | none => X.tail f id }
theorem tailsMore_ok {X : Cx DC} (h : Ok Try.prog X) (l : List (Nat × Nat × Nat)) : Ok Try.prog (tailsMore X l) :=
  ⟨h.mixed, h.names, h.load, h.store, h.bodies, h.sums, h.blk, h.opx⟩
theorem gSpc_ok {args : List (AV DC)} {h : List (AO DC)} {t : T DC (AV DC × List (W DC))} {r : AV DC × List (W DC)} (ht : gSpc args h = some t) (hp : t.pick = some r) : FnOk Try.prog 78 args h r :=
  cxo_ok.sums 78 args h t r ht hp
def updF (f : Nat → Int) (n : Nat) (v : Int) : Nat → Int := fun i => if i = n then v else f i
theorem put1 {F : Nat → Int} {N : Nat} {a v : Int} (h : okS N a 1 = true) : putF F N a 1 v = updF F (Int.toNat (litBin .sub .u64 a 2147483648)) (IntKind.wrap .u8 v) := by
  have h1 : (num 1 && okS N a 1) = true := by rw [h]; rfl
  unfold putF
  rw [h1, cond_true]
  funext i
  show putS F (off a) 1 v i = updF F (off a) (IntKind.wrap .u8 v) i
  unfold putS updF
  by_cases e : i = off a
  · subst e
    rw [if_pos ⟨Nat.le_refl _, by omega⟩, if_pos rfl, Nat.sub_self, wrapb]
    show v / 1 % 256 = v % 256
    rw [Int.ediv_one]
  · rw [if_neg (by omega), if_neg e]
theorem idx_at0 {N : Nat} {a : Int} (h : okS N a 1 = true) (ha : inU a) : ∃ k : Nat, k < N ∧ litBin .sub .u64 a 2147483648 = (k : Int) := by
  obtain ⟨-, -, h3⟩ := ok_off h ha
  have hs : inU (litBin .sub .u64 a 2147483648) := inU_wrap _
  refine ⟨off a, ?_, ?_⟩
  · have : (1 : Int).toNat = 1 := rfl
    omega
  · unfold off
    unfold inU at hs
    omega
theorem idx_g {N : Nat} {a : Int} (hN : N ≤ 65536) (h : okS N a 1 = true) (ha : inU a) : litCmp .geq (litBin .sub .u64 a 2147483648) (IntKind.wrap .u64 (((Int.toNat ((N : Nat) : Int)) : Nat) : Int)) = false := by
  obtain ⟨k, h1, h2⟩ := idx_at0 h ha
  rw [h2, Int.toNat_natCast, Ev.wrap64]
  exact decide_eq_false (by omega)
theorem idx_r {N : Nat} {a : Int} (h : okS N a 1 = true) (ha : inU a) : ((decide (0 ≤ (litBin .sub .u64 a 2147483648) ∧ (litBin .sub .u64 a 2147483648) < ((N : Nat) : Int))) && (decide ((Int.toNat (litBin .sub .u64 a 2147483648)) < N))) = true := by
  obtain ⟨k, h1, h2⟩ := idx_at0 h ha
  rw [h2, Int.toNat_natCast, decide_eq_true h1, decide_eq_true (by omega)]
  rfl
theorem sF_ok {F : Nat → Int} {N : Nat} {satp st pr k va n : Int} (h : sF F N N satp st pr k va n = false) : okS N (sT F N N satp st pr k va n) n = true := by
  revert h
  unfold sF sT
  cases h1 : isW F N satp st pr k va
  · cases h2 : okS N (toW F N satp st pr k va) n
    · intro h; cases h
    · intro _; exact h2
  · intro h; cases h
theorem ok_byte {N : Nat} {t n i : Int} (hN : N ≤ 65536) (h : okS N t n = true) (hi : 0 ≤ i ∧ i < n) : okS N (litBin .add .u64 t i) 1 = true := by
  unfold okS at *
  have h' := of_decide_eq_true h
  rw [Page.addu]
  exact decide_eq_true (by omega)
theorem cau_or {F : Nat → Int} {N : Nat} {satp st pr k va : Int} (h : isW F N satp st pr k va = true) : cauW F N satp st pr k va = cauS k 12 15 13 ∨ cauW F N satp st pr k va = cauS k 1 7 5 := by
  revert h
  unfold isW cauW outW outP
  generalize bad (en2 F N (root satp) va) 2 st pr k = q2
  generalize bad (en1 F N (root satp) va) 1 st pr k = q1
  generalize bad (en0 F N (root satp) va) 0 st pr k = q0
  generalize leafS (en2 F N (root satp) va) = l2
  generalize leafS (en1 F N (root satp) va) = l1
  generalize leafS (en0 F N (root satp) va) = l0
  generalize tabS (en2 F N (root satp) va) = t2
  generalize tabS (en1 F N (root satp) va) = t1
  generalize k2 N (root satp) va = a2
  generalize k1 F N (root satp) va = a1
  generalize k0 F N (root satp) va = a0
  generalize canS va = cn
  generalize np satp = n
  generalize cauS k 12 15 13 = p
  generalize cauS k 1 7 5 = r
  intro h
  revert h
  cases n <;> cases cn <;> cases a2 <;> cases l2 <;> cases t2 <;> cases q2 <;> (try (intro h; first | (exact .inl rfl) | (exact .inr rfl) | (cases h; done))) <;>
    cases a1 <;> cases l1 <;> cases t1 <;> cases q1 <;> (try (intro h; first | (exact .inl rfl) | (exact .inr rfl) | (cases h; done))) <;>
    cases a0 <;> cases l0 <;> cases q0 <;> (intro h; first | (exact .inl rfl) | (exact .inr rfl) | (cases h; done))
theorem sC_or {F : Nat → Int} {N : Nat} {satp st pr k va n : Int} (h : sF F N N satp st pr k va n = true) : sC F N N satp st pr k va n = cauS k 12 15 13 ∨ sC F N N satp st pr k va n = cauS k 1 7 5 := by
  revert h
  unfold sF sC
  cases h1 : isW F N satp st pr k va
  · cases h2 : okS N (toW F N satp st pr k va) n
    · exact fun _ => .inr rfl
    · intro h; cases h
  · exact fun _ => cau_or h1
theorem same_all (G : Nat → Int) (N : Nat) : ((decide ((Int.toNat ((N : Nat) : Int)) = N)) && (eqF (byteF (blitF (fun _ => 0) 0 G (off 2147483648) (Int.toNat ((N : Nat) : Int)))) 0 (byteF G) 0 (Int.toNat ((N : Nat) : Int)))) = true := by
  have h0 : off 2147483648 = 0 := by decide
  rw [h0, Int.toNat_natCast, same_bytes, decide_eq_true rfl]
  rfl
theorem base_ok (N : Nat) : okS N 2147483648 ((N : Nat) : Int) = true := by
  unfold okS
  exact decide_eq_true (by omega)
theorem base_d {N : Nat} (h : N ≤ 65536) : ((decide (((off 2147483648) + (Int.toNat ((N : Nat) : Int))) ≤ N)) && (decide ((Int.toNat ((N : Nat) : Int)) < 16777216))) = true := by
  have h0 : off 2147483648 = 0 := by decide
  rw [h0, Int.toNat_natCast, decide_eq_true (by omega), decide_eq_true (by omega)]
  rfl
theorem base_e (N : Nat) : ((decide ((0 + (Int.toNat ((N : Nat) : Int))) ≤ (Int.toNat ((N : Nat) : Int)))) && (decide ((0 + N) ≤ N))) = true := by
  rw [Int.toNat_natCast, decide_eq_true (by omega)]
  rfl
theorem sub_add {va i : Int} (hv : inU va) (hi : 0 ≤ i ∧ i < 8) : litBin .sub .u64 (litBin .add .u64 va i) va = i := by
  rw [Page.addu, Page.subu]
  unfold inU at hv
  omega
theorem inU_B : inU 2147483648 := by unfold inU; omega
theorem inI_N {N : Nat} (h : N ≤ 65536) : inI ((N : Nat) : Int) := by unfold inI; omega
noncomputable def cxT (k : Int) (b : Bool) : Cx DC := tailsMore (((Both73.X.sum 78 gSpc).sum 74 (gSize k)).more (askX Try.prog isNeqU b)) [(19, 7, 1024), (19, 13, 28), (19, 20, 14)]
theorem cxT_ok (k : Int) (b : Bool) : Ok Try.prog (cxT k b) :=
  tailsMore_ok (((Both73.X_ok.sum (by kernel_rfl) fun args h t r ht hp => gSpc_ok ht hp).sum (by kernel_rfl) fun args h t r ht hp => gSize_ok ht hp).more fun o s t z ho h w0 own ρ a w hS H => askX_sound ho h hS H) _
end Go.Proofs.Ytngcbpcfgolifaa.Ev
