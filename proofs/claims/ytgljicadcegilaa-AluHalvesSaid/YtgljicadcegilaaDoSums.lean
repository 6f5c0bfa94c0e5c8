/- What an op of 32 bits makes of two numbers, as a term. Conditions: none. -/
import Derived.Test.YtgljicadcegilaaWords
import Derived.Test.YtgljicadcegilaaEvPure
namespace Go.Proofs.Ytgljicadcegilaa.DoSums
open Go.RowKit Ev
set_option linter.unusedVariables false
set_option linter.unusedSimpArgs false

def D41 (a b : Int) : Int := (IntKind.wrap .u64 (litBin .shr .i64 (IntKind.wrap .i64 (litBin .shl .u64 (litBin .add .u64 a b) 32)) 32))
set_option maxRecDepth 100000 in
theorem do41 (a b : Int) : ((call Try.prog cx 380 54 [.int .i64 (.lit 41), .int .u64 (.sym a), .int .u64 (.sym b)] []).route []).map (fun p => (p.1, p.2.1)) = some ([], .val (.int .u64 (.sym (D41 a b)))) := by kernel_rfl
def D42 (a b : Int) : Int := (IntKind.wrap .u64 (litBin .shr .i64 (IntKind.wrap .i64 (litBin .shl .u64 (litBin .shl .u64 a (litBin .and .i64 (IntKind.wrap .i64 (litBin .and .u64 b 31)) 63)) 32)) 32))
def G42 (a b : Int) : Bool := (!(litCmp .lss (litBin .and .i64 (IntKind.wrap .i64 (litBin .and .u64 b 31)) 63) 0))
set_option maxRecDepth 100000 in
theorem do42 (a b : Int) : ((call Try.prog cx 380 54 [.int .i64 (.lit 42), .int .u64 (.sym a), .int .u64 (.sym b)] []).route [true]).map (fun p => (p.1, p.2.1)) = some ([G42 a b], .val (.int .u64 (.sym (D42 a b)))) := by kernel_rfl
def D43 (a b : Int) : Int := (IntKind.wrap .u64 (litBin .shr .i64 (IntKind.wrap .i64 (litBin .shl .u64 (litBin .shr .u64 (IntKind.wrap .u64 (IntKind.wrap .u32 a)) (litBin .and .i64 (IntKind.wrap .i64 (litBin .and .u64 b 31)) 63)) 32)) 32))
def G43 (a b : Int) : Bool := (!(litCmp .lss (litBin .and .i64 (IntKind.wrap .i64 (litBin .and .u64 b 31)) 63) 0))
set_option maxRecDepth 100000 in
theorem do43 (a b : Int) : ((call Try.prog cx 380 54 [.int .i64 (.lit 43), .int .u64 (.sym a), .int .u64 (.sym b)] []).route [true]).map (fun p => (p.1, p.2.1)) = some ([G43 a b], .val (.int .u64 (.sym (D43 a b)))) := by kernel_rfl
def D44 (a b : Int) : Int := (IntKind.wrap .u64 (litBin .shr .i64 (IntKind.wrap .i64 (litBin .shl .u64 (IntKind.wrap .u64 (litBin .shr .i64 (IntKind.wrap .i64 (IntKind.wrap .u64 (litBin .shr .i64 (IntKind.wrap .i64 (litBin .shl .u64 a 32)) 32))) (litBin .and .i64 (IntKind.wrap .i64 (litBin .and .u64 b 31)) 63))) 32)) 32))
def G44 (a b : Int) : Bool := (!(litCmp .lss (litBin .and .i64 (IntKind.wrap .i64 (litBin .and .u64 b 31)) 63) 0))
set_option maxRecDepth 100000 in
theorem do44 (a b : Int) : ((call Try.prog cx 380 54 [.int .i64 (.lit 44), .int .u64 (.sym a), .int .u64 (.sym b)] []).route [true]).map (fun p => (p.1, p.2.1)) = some ([G44 a b], .val (.int .u64 (.sym (D44 a b)))) := by kernel_rfl
def D45 (a b : Int) : Int := (IntKind.wrap .u64 (litBin .shr .i64 (IntKind.wrap .i64 (litBin .shl .u64 (litBin .add .u64 a b) 32)) 32))
set_option maxRecDepth 100000 in
theorem do45 (a b : Int) : ((call Try.prog cx 380 54 [.int .i64 (.lit 45), .int .u64 (.sym a), .int .u64 (.sym b)] []).route []).map (fun p => (p.1, p.2.1)) = some ([], .val (.int .u64 (.sym (D45 a b)))) := by kernel_rfl
def D46 (a b : Int) : Int := (IntKind.wrap .u64 (litBin .shr .i64 (IntKind.wrap .i64 (litBin .shl .u64 (litBin .sub .u64 a b) 32)) 32))
set_option maxRecDepth 100000 in
theorem do46 (a b : Int) : ((call Try.prog cx 380 54 [.int .i64 (.lit 46), .int .u64 (.sym a), .int .u64 (.sym b)] []).route []).map (fun p => (p.1, p.2.1)) = some ([], .val (.int .u64 (.sym (D46 a b)))) := by kernel_rfl
def D47 (a b : Int) : Int := (IntKind.wrap .u64 (litBin .shr .i64 (IntKind.wrap .i64 (litBin .shl .u64 (litBin .shl .u64 a (litBin .and .i64 (IntKind.wrap .i64 (litBin .and .u64 b 31)) 63)) 32)) 32))
def G47 (a b : Int) : Bool := (!(litCmp .lss (litBin .and .i64 (IntKind.wrap .i64 (litBin .and .u64 b 31)) 63) 0))
set_option maxRecDepth 100000 in
theorem do47 (a b : Int) : ((call Try.prog cx 380 54 [.int .i64 (.lit 47), .int .u64 (.sym a), .int .u64 (.sym b)] []).route [true]).map (fun p => (p.1, p.2.1)) = some ([G47 a b], .val (.int .u64 (.sym (D47 a b)))) := by kernel_rfl
def D48 (a b : Int) : Int := (IntKind.wrap .u64 (litBin .shr .i64 (IntKind.wrap .i64 (litBin .shl .u64 (litBin .shr .u64 (IntKind.wrap .u64 (IntKind.wrap .u32 a)) (litBin .and .i64 (IntKind.wrap .i64 (litBin .and .u64 b 31)) 63)) 32)) 32))
def G48 (a b : Int) : Bool := (!(litCmp .lss (litBin .and .i64 (IntKind.wrap .i64 (litBin .and .u64 b 31)) 63) 0))
set_option maxRecDepth 100000 in
theorem do48 (a b : Int) : ((call Try.prog cx 380 54 [.int .i64 (.lit 48), .int .u64 (.sym a), .int .u64 (.sym b)] []).route [true]).map (fun p => (p.1, p.2.1)) = some ([G48 a b], .val (.int .u64 (.sym (D48 a b)))) := by kernel_rfl
def D49 (a b : Int) : Int := (IntKind.wrap .u64 (litBin .shr .i64 (IntKind.wrap .i64 (litBin .shl .u64 (IntKind.wrap .u64 (litBin .shr .i64 (IntKind.wrap .i64 (IntKind.wrap .u64 (litBin .shr .i64 (IntKind.wrap .i64 (litBin .shl .u64 a 32)) 32))) (litBin .and .i64 (IntKind.wrap .i64 (litBin .and .u64 b 31)) 63))) 32)) 32))
def G49 (a b : Int) : Bool := (!(litCmp .lss (litBin .and .i64 (IntKind.wrap .i64 (litBin .and .u64 b 31)) 63) 0))
set_option maxRecDepth 100000 in
theorem do49 (a b : Int) : ((call Try.prog cx 380 54 [.int .i64 (.lit 49), .int .u64 (.sym a), .int .u64 (.sym b)] []).route [true]).map (fun p => (p.1, p.2.1)) = some ([G49 a b], .val (.int .u64 (.sym (D49 a b)))) := by kernel_rfl
def D58 (a b : Int) : Int := (IntKind.wrap .u64 (litBin .shr .i64 (IntKind.wrap .i64 (litBin .shl .u64 (litBin .mul .u64 a b) 32)) 32))
set_option maxRecDepth 100000 in
theorem do58 (a b : Int) : ((call Try.prog cx 380 54 [.int .i64 (.lit 58), .int .u64 (.sym a), .int .u64 (.sym b)] []).route []).map (fun p => (p.1, p.2.1)) = some ([], .val (.int .u64 (.sym (D58 a b)))) := by kernel_rfl
def D59 (a b : Int) : Int := (IntKind.wrap .u64 (cond (litCmp .eql (IntKind.wrap .i32 b) 0) (-1) (cond (litCmp .eql (IntKind.wrap .i32 b) (-1)) (litUna .neg .i32 (IntKind.wrap .i32 a)) (litBin .quo .i32 (IntKind.wrap .i32 a) (IntKind.wrap .i32 b)))))
def G59 (a b : Int) : Bool := (cond (litCmp .eql (IntKind.wrap .i32 b) 0) true (cond (litCmp .eql (IntKind.wrap .i32 b) (-1)) true ((!(litCmp .eql (IntKind.wrap .i32 b) 0)) && (!(litCmp .eql (IntKind.wrap .i32 b) 0)))))
set_option maxRecDepth 100000 in
theorem do59 (a b : Int) : ((call Try.prog cx 380 54 [.int .i64 (.lit 59), .int .u64 (.sym a), .int .u64 (.sym b)] []).route [true]).map (fun p => (p.1, p.2.1)) = some ([G59 a b], .val (.int .u64 (.sym (D59 a b)))) := by kernel_rfl
def D60 (a b : Int) : Int := (IntKind.wrap .u64 (litBin .shr .i64 (IntKind.wrap .i64 (litBin .shl .u64 (IntKind.wrap .u64 (cond (litCmp .eql (IntKind.wrap .u32 b) 0) 4294967295 (litBin .quo .u32 (IntKind.wrap .u32 a) (IntKind.wrap .u32 b)))) 32)) 32))
def G60 (a b : Int) : Bool := (cond (litCmp .eql (IntKind.wrap .u32 b) 0) true ((!(litCmp .eql (IntKind.wrap .u32 b) 0)) && (!(litCmp .eql (IntKind.wrap .u32 b) 0))))
set_option maxRecDepth 100000 in
theorem do60 (a b : Int) : ((call Try.prog cx 380 54 [.int .i64 (.lit 60), .int .u64 (.sym a), .int .u64 (.sym b)] []).route [true]).map (fun p => (p.1, p.2.1)) = some ([G60 a b], .val (.int .u64 (.sym (D60 a b)))) := by kernel_rfl
def D61 (a b : Int) : Int := (IntKind.wrap .u64 (cond (litCmp .eql (IntKind.wrap .i32 b) 0) (IntKind.wrap .i32 a) (cond (litCmp .eql (IntKind.wrap .i32 b) (-1)) 0 (litBin .rem .i32 (IntKind.wrap .i32 a) (IntKind.wrap .i32 b)))))
def G61 (a b : Int) : Bool := (cond (litCmp .eql (IntKind.wrap .i32 b) 0) true (cond (litCmp .eql (IntKind.wrap .i32 b) (-1)) true ((!(litCmp .eql (IntKind.wrap .i32 b) 0)) && (!(litCmp .eql (IntKind.wrap .i32 b) 0)))))
set_option maxRecDepth 100000 in
theorem do61 (a b : Int) : ((call Try.prog cx 380 54 [.int .i64 (.lit 61), .int .u64 (.sym a), .int .u64 (.sym b)] []).route [true]).map (fun p => (p.1, p.2.1)) = some ([G61 a b], .val (.int .u64 (.sym (D61 a b)))) := by kernel_rfl
def D62 (a b : Int) : Int := (IntKind.wrap .u64 (litBin .shr .i64 (IntKind.wrap .i64 (litBin .shl .u64 (IntKind.wrap .u64 (cond (litCmp .eql (IntKind.wrap .u32 b) 0) (IntKind.wrap .u32 a) (litBin .rem .u32 (IntKind.wrap .u32 a) (IntKind.wrap .u32 b)))) 32)) 32))
def G62 (a b : Int) : Bool := (cond (litCmp .eql (IntKind.wrap .u32 b) 0) true ((!(litCmp .eql (IntKind.wrap .u32 b) 0)) && (!(litCmp .eql (IntKind.wrap .u32 b) 0))))
set_option maxRecDepth 100000 in
theorem do62 (a b : Int) : ((call Try.prog cx 380 54 [.int .i64 (.lit 62), .int .u64 (.sym a), .int .u64 (.sym b)] []).route [true]).map (fun p => (p.1, p.2.1)) = some ([G62 a b], .val (.int .u64 (.sym (D62 a b)))) := by kernel_rfl
def doS (o a b : Int) : Int := (cond (litCmp .eql o 41) (D41 a b) (cond (litCmp .eql o 42) (D42 a b) (cond (litCmp .eql o 43) (D43 a b) (cond (litCmp .eql o 44) (D44 a b) (cond (litCmp .eql o 45) (D45 a b) (cond (litCmp .eql o 46) (D46 a b) (cond (litCmp .eql o 47) (D47 a b) (cond (litCmp .eql o 48) (D48 a b) (cond (litCmp .eql o 49) (D49 a b) (cond (litCmp .eql o 58) (D58 a b) (cond (litCmp .eql o 59) (D59 a b) (cond (litCmp .eql o 60) (D60 a b) (cond (litCmp .eql o 61) (D61 a b) (cond (litCmp .eql o 62) (D62 a b) 0))))))))))))))
def inT (o : Int) : Bool := (cond (litCmp .eql o 41) true (cond (litCmp .eql o 42) true (cond (litCmp .eql o 43) true (cond (litCmp .eql o 44) true (cond (litCmp .eql o 45) true (cond (litCmp .eql o 46) true (cond (litCmp .eql o 47) true (cond (litCmp .eql o 48) true (cond (litCmp .eql o 49) true (cond (litCmp .eql o 58) true (cond (litCmp .eql o 59) true (cond (litCmp .eql o 60) true (cond (litCmp .eql o 61) true (cond (litCmp .eql o 62) true false))))))))))))))

theorem and63 (x : Int) : litCmp .lss (litBin .and .i64 x 63) 0 = false := by
  have h : ((BitVec.ofInt 64 x &&& BitVec.ofInt 64 63).toNat : Int) ≤ 63 := by
    rw [BitVec.toNat_and]
    have : (BitVec.ofInt 64 63).toNat = 63 := rfl
    have h2 := Nat.and_le_right (n := (BitVec.ofInt 64 x).toNat) (m := (BitVec.ofInt 64 63).toNat)
    omega
  rw [lss_eq]
  refine decide_eq_false ?_
  show ¬ IntKind.i64.wrap ((BitVec.ofInt 64 x &&& BitVec.ofInt 64 63).toNat : Int) < 0
  rw [wrapi]
  omega
theorem gU (B : Int) : (cond (litCmp .eql B 0) true (!(litCmp .eql B 0) && !(litCmp .eql B 0))) = true := by cases litCmp .eql B 0 <;> rfl
theorem gS (B : Int) : (cond (litCmp .eql B 0) true (cond (litCmp .eql B (-1)) true (!(litCmp .eql B 0) && !(litCmp .eql B 0)))) = true := by cases litCmp .eql B 0 <;> cases litCmp .eql B (-1) <;> rfl
theorem ok42 (a b : Int) : G42 a b = true := by unfold G42; rw [and63]; rfl
theorem ok43 (a b : Int) : G43 a b = true := by unfold G43; rw [and63]; rfl
theorem ok44 (a b : Int) : G44 a b = true := by unfold G44; rw [and63]; rfl
theorem ok47 (a b : Int) : G47 a b = true := by unfold G47; rw [and63]; rfl
theorem ok48 (a b : Int) : G48 a b = true := by unfold G48; rw [and63]; rfl
theorem ok49 (a b : Int) : G49 a b = true := by unfold G49; rw [and63]; rfl
theorem ok59 (a b : Int) : G59 a b = true := gS _
theorem ok60 (a b : Int) : G60 a b = true := gU _
theorem ok61 (a b : Int) : G61 a b = true := gS _
theorem ok62 (a b : Int) : G62 a b = true := gU _

theorem pure_ok3 {P : Program} {X : Cx DC} (hX : Ok P X) {n : Nat} {f : FuncId} {args args' : List (AV DC)} {h : List (AO DC)} {k : IntKind} {u u' : AI DC} {l : List (W DC)} (hr : (call P X n f args' []).pick = some (.val (.int k u), l)) (ha : covL (at' []) args args') (hu : u.den = u'.den) : FnOk P f args h (.int k u', []) := by
  have hn : ∀ (i j : Nat), (List.replicate h.length (none : Option Nat))[i]? = some (some j) → False := fun i j e => by
    rw [List.getElem?_replicate] at e
    split at e <;> cases e
  refine frame [] (List.replicate h.length none) (fn_ok hX (r := (.int k u, l)) hr) ha ?_ rfl ⟨by simp [St.apps], Nat.le_refl _, fun i e => ?_, fun i j _ e => (hn i j e).elim, fun i o hi e => ?_, fun i j o e => (hn i j e).elim, fun i i' j o o' e => (hn i j e).elim⟩ ⟨rfl, hu⟩
  · trivial
  · refine ⟨?_, rfl, fun j e => by cases e⟩
    rw [List.getElem?_replicate] at e
    split at e
    · assumption
    · cases e
  · have : i < h.length := (List.getElem?_eq_some_iff.1 e).1
    omega
theorem do_ok (x y z : AI DC) (h : List (AO DC)) (hx : inT x.den = true) : FnOk Try.prog 54 [.int .i64 x, .int .u64 y, .int .u64 z] h (.int .u64 (.sym (doS x.den y.den z.den)), []) := by
  have key : ∀ k : Int, x.den = k → ∀ (u : AI DC) (l : List (W DC)), (call Try.prog cx 380 54 [.int .i64 (.lit k), .int .u64 (.sym y.den), .int .u64 (.sym z.den)] []).pick = some (.val (.int .u64 u), l) → u.den = doS k y.den z.den → FnOk Try.prog 54 [.int .i64 x, .int .u64 y, .int .u64 z] h (.int .u64 (.sym (doS x.den y.den z.den)), []) := by
    intro k hk u l hl hu
    exact pure_ok3 cx_ok hl ⟨⟨rfl, hk⟩, ⟨rfl, rfl⟩, ⟨rfl, rfl⟩, trivial⟩ (by rw [hu, hk]; rfl)
  by_cases h41 : x.den = 41
  · obtain ⟨l, hl⟩ := road_at (do41 y.den z.den) (rfl)
    exact key _ h41 _ l hl rfl
  by_cases h42 : x.den = 42
  · obtain ⟨l, hl⟩ := road_at (do42 y.den z.den) (by rw [ok42])
    exact key _ h42 _ l hl rfl
  by_cases h43 : x.den = 43
  · obtain ⟨l, hl⟩ := road_at (do43 y.den z.den) (by rw [ok43])
    exact key _ h43 _ l hl rfl
  by_cases h44 : x.den = 44
  · obtain ⟨l, hl⟩ := road_at (do44 y.den z.den) (by rw [ok44])
    exact key _ h44 _ l hl rfl
  by_cases h45 : x.den = 45
  · obtain ⟨l, hl⟩ := road_at (do45 y.den z.den) (rfl)
    exact key _ h45 _ l hl rfl
  by_cases h46 : x.den = 46
  · obtain ⟨l, hl⟩ := road_at (do46 y.den z.den) (rfl)
    exact key _ h46 _ l hl rfl
  by_cases h47 : x.den = 47
  · obtain ⟨l, hl⟩ := road_at (do47 y.den z.den) (by rw [ok47])
    exact key _ h47 _ l hl rfl
  by_cases h48 : x.den = 48
  · obtain ⟨l, hl⟩ := road_at (do48 y.den z.den) (by rw [ok48])
    exact key _ h48 _ l hl rfl
  by_cases h49 : x.den = 49
  · obtain ⟨l, hl⟩ := road_at (do49 y.den z.den) (by rw [ok49])
    exact key _ h49 _ l hl rfl
  by_cases h58 : x.den = 58
  · obtain ⟨l, hl⟩ := road_at (do58 y.den z.den) (rfl)
    exact key _ h58 _ l hl rfl
  by_cases h59 : x.den = 59
  · obtain ⟨l, hl⟩ := road_at (do59 y.den z.den) (by rw [ok59])
    exact key _ h59 _ l hl rfl
  by_cases h60 : x.den = 60
  · obtain ⟨l, hl⟩ := road_at (do60 y.den z.den) (by rw [ok60])
    exact key _ h60 _ l hl rfl
  by_cases h61 : x.den = 61
  · obtain ⟨l, hl⟩ := road_at (do61 y.den z.den) (by rw [ok61])
    exact key _ h61 _ l hl rfl
  by_cases h62 : x.den = 62
  · obtain ⟨l, hl⟩ := road_at (do62 y.den z.den) (by rw [ok62])
    exact key _ h62 _ l hl rfl
  exfalso
  unfold inT at hx
  have e41 : litCmp .eql x.den 41 = false := decide_eq_false h41
  have e42 : litCmp .eql x.den 42 = false := decide_eq_false h42
  have e43 : litCmp .eql x.den 43 = false := decide_eq_false h43
  have e44 : litCmp .eql x.den 44 = false := decide_eq_false h44
  have e45 : litCmp .eql x.den 45 = false := decide_eq_false h45
  have e46 : litCmp .eql x.den 46 = false := decide_eq_false h46
  have e47 : litCmp .eql x.den 47 = false := decide_eq_false h47
  have e48 : litCmp .eql x.den 48 = false := decide_eq_false h48
  have e49 : litCmp .eql x.den 49 = false := decide_eq_false h49
  have e58 : litCmp .eql x.den 58 = false := decide_eq_false h58
  have e59 : litCmp .eql x.den 59 = false := decide_eq_false h59
  have e60 : litCmp .eql x.den 60 = false := decide_eq_false h60
  have e61 : litCmp .eql x.den 61 = false := decide_eq_false h61
  have e62 : litCmp .eql x.den 62 = false := decide_eq_false h62
  rw [e41, e42, e43, e44, e45, e46, e47, e48, e49, e58, e59, e60, e61, e62] at hx
  cases hx
def g_do (args : List (AV DC)) (h : List (AO DC)) : Option (T DC (AV DC × List (W DC))) := match args with
  | [.int .i64 x, .int .u64 y, .int .u64 z] => some (.br (inT x.den) (.ret (.int .u64 (.sym (doS x.den y.den z.den)), [])) .fail)
  | _ => none
noncomputable def cx_do : Cx DC := cx.sum 54 g_do
theorem cx_do_ok : Ok Try.prog cx_do := cx_ok.sum (by kernel_rfl) fun args h t r ht hp => by
  unfold g_do at ht
  split at ht
  · rename_i x y z
    cases ht
    cases hT : inT x.den with
    | true =>
      rw [hT] at hp
      have := T.ret_some hp
      subst this
      exact do_ok x y z h hT
    | false =>
      rw [hT] at hp
      cases hp
  · cases ht
end Go.Proofs.Ytgljicadcegilaa.DoSums
