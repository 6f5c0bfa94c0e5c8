/- The contexts for the statement AluAll: the kinds of ops as one term, and what ops do. Conditions: none. -/
import Derived.Test.YtgljicadcegilaaWordCx
namespace Go.Proofs.Ytgljicadcegilaa.Ev
open Go.RowKit
set_option linter.unusedVariables false
set_option linter.unusedSimpArgs false

/-- The kind of an op. -/
def kindF (o : Int) : Int := (cond (litCmp .leq o 0) 0 (cond (litCmp .leq o 4) 1 (cond (litCmp .leq o 10) 2 (cond (litCmp .leq o 17) 3 (cond (litCmp .leq o 21) 4 (cond (litCmp .leq o 30) 5 (cond (litCmp .leq o 40) 6 (cond (litCmp .leq o 44) 7 (cond (litCmp .leq o 49) 8 (cond (litCmp .leq o 57) 9 (cond (litCmp .leq o 62) 10 (cond (litCmp .leq o 69) 11 (cond (litCmp .leq o 75) 12 (cond (litCmp .leq o 86) 13 (cond (litCmp .leq o 97) 14 0)))))))))))))))
def k71 (o : Int) : Int := (cond (litCmp .gtr 0 (cond (litCmp .leq o 0) 0 (cond (litCmp .leq o 4) 1 (cond (litCmp .leq o 10) 2 (cond (litCmp .leq o 17) 3 (cond (litCmp .leq o 21) 4 (cond (litCmp .leq o 30) 5 (cond (litCmp .leq o 40) 6 (cond (litCmp .leq o 44) 7 (cond (litCmp .leq o 49) 8 (cond (litCmp .leq o 57) 9 (cond (litCmp .leq o 62) 10 (cond (litCmp .leq o 69) 11 (cond (litCmp .leq o 75) 12 (cond (litCmp .leq o 86) 13 (cond (litCmp .leq o 97) 14 (-1))))))))))))))))) 0 (cond (litCmp .leq o 0) 0 (cond (litCmp .leq o 4) 1 (cond (litCmp .leq o 10) 2 (cond (litCmp .leq o 17) 3 (cond (litCmp .leq o 21) 4 (cond (litCmp .leq o 30) 5 (cond (litCmp .leq o 40) 6 (cond (litCmp .leq o 44) 7 (cond (litCmp .leq o 49) 8 (cond (litCmp .leq o 57) 9 (cond (litCmp .leq o 62) 10 (cond (litCmp .leq o 69) 11 (cond (litCmp .leq o 75) 12 (cond (litCmp .leq o 86) 13 (cond (litCmp .leq o 97) 14 (-1)))))))))))))))))
def k72 (o : Int) : Int := (cond (litCmp .lss o 0) 0 (cond (litCmp .leq o 0) 0 (cond (litCmp .leq o 4) 1 (cond (litCmp .leq o 10) 2 (cond (litCmp .leq o 17) 3 (cond (litCmp .leq o 21) 4 (cond (litCmp .leq o 30) 5 (cond (litCmp .leq o 40) 6 (cond (litCmp .leq o 44) 7 (cond (litCmp .leq o 49) 8 (cond (litCmp .leq o 57) 9 (cond (litCmp .leq o 62) 10 (cond (litCmp .leq o 69) 11 (cond (litCmp .leq o 75) 12 (cond (litCmp .leq o 86) 13 (cond (litCmp .leq o 97) 14 0))))))))))))))))
def noop (o : Int) : Bool := decide (o ≤ 21) || decide (63 ≤ o)
theorem k71_F (o : Int) : k71 o = kindF o := by
  unfold k71 kindF
  cases litCmp .leq o 0
  case true => rfl
  cases litCmp .leq o 4
  case true => rfl
  cases litCmp .leq o 10
  case true => rfl
  cases litCmp .leq o 17
  case true => rfl
  cases litCmp .leq o 21
  case true => rfl
  cases litCmp .leq o 30
  case true => rfl
  cases litCmp .leq o 40
  case true => rfl
  cases litCmp .leq o 44
  case true => rfl
  cases litCmp .leq o 49
  case true => rfl
  cases litCmp .leq o 57
  case true => rfl
  cases litCmp .leq o 62
  case true => rfl
  cases litCmp .leq o 69
  case true => rfl
  cases litCmp .leq o 75
  case true => rfl
  cases litCmp .leq o 86
  case true => rfl
  cases litCmp .leq o 97
  case true => rfl
  rfl
theorem k72_F (o : Int) : k72 o = kindF o := by
  unfold k72 kindF
  by_cases h : o < 0
  · rw [lss_eq, decide_eq_true h]
    have : litCmp .leq o 0 = true := decide_eq_true (by omega)
    rw [this]
    rfl
  · rw [lss_eq, decide_eq_false h]
    rfl
set_option maxRecDepth 100000 in
theorem kind71 (o : Int) : ((call Try.prog cx 380 71 [.int .i64 (.sym o)] []).route []).map (fun p => (p.1, p.2.1)) = some ([], .val (.int .i64 (.sym (k71 o)))) := by kernel_rfl
set_option maxRecDepth 100000 in
theorem kind72 (o : Int) : ((call Try.prog cx 380 72 [.int .i64 (.sym o)] []).route []).map (fun p => (p.1, p.2.1)) = some ([], .val (.int .i64 (.sym (k72 o)))) := by kernel_rfl
set_option maxRecDepth 100000 in
theorem shown53 : ((call Try.prog cxw 380 53 [] []).route []).map (fun p => (p.1, p.2.1)) = some ([], .val (.bool (.sym (litCmp .eql (sextW 2147483648 32) 18446744071562067968)))) := by kernel_rfl

def g53 (args : List (AV DC)) (h : List (AO DC)) : Option (T DC (AV DC × List (W DC))) := match args with
  | [] => some (.ret (.bool (.lit true), []))
  | _ => none
def gKind (args : List (AV DC)) (h : List (AO DC)) : Option (T DC (AV DC × List (W DC))) := match args with
  | [.int .i64 (.sym o)] => some (.ret (.int .i64 (.sym (kindF o)), []))
  | _ => none
noncomputable def cxu1 : Cx DC := cxw.sum 53 g53
theorem cxu1_ok : Ok Try.prog cxu1 := cxw_ok.sum (by kernel_rfl) fun args h t r ht hp => by
  unfold g53 at ht
  split at ht
  · cases ht
    have := T.ret_some hp
    subst this
    obtain ⟨l, hl⟩ := road_at shown53 rfl
    exact pureV cxw_ok hl trivial fun σ => (by show _ = true; decide +kernel)
  · cases ht
noncomputable def cxu2 : Cx DC := cxu1.sum 71 gKind
theorem cxu2_ok : Ok Try.prog cxu2 := cxu1_ok.sum (by kernel_rfl) fun args h t r ht hp => by
  unfold gKind at ht
  split at ht
  · rename_i o
    cases ht
    have := T.ret_some hp
    subst this
    obtain ⟨l, hl⟩ := road_at (kind71 o) rfl
    exact pureV cx_ok hl ⟨⟨rfl, rfl⟩, trivial⟩ fun σ => ⟨rfl, k71_F o⟩
  · cases ht
noncomputable def cxu3 : Cx DC := cxu2.sum 72 gKind
theorem cxu3_ok : Ok Try.prog cxu3 := cxu2_ok.sum (by kernel_rfl) fun args h t r ht hp => by
  unfold gKind at ht
  split at ht
  · rename_i o
    cases ht
    have := T.ret_some hp
    subst this
    obtain ⟨l, hl⟩ := road_at (kind72 o) rfl
    exact pureV cx_ok hl ⟨⟨rfl, rfl⟩, trivial⟩ fun σ => ⟨rfl, k72_F o⟩
  · cases ht

/-! ### An op that is none -/
def t56 (o a b : Int) : Bool := (cond (cond (litCmp .eql (kindF o) 5) (litCmp .eql (kindF o) 5) (litCmp .eql (kindF o) 6)) (cond (cond (litCmp .eql o 22) (litCmp .eql o 22) (litCmp .eql o 31)) true (cond (litCmp .eql o 32) true (cond (cond (litCmp .eql o 25) (litCmp .eql o 25) (litCmp .eql o 36)) true (cond (cond (litCmp .eql o 26) (litCmp .eql o 26) (litCmp .eql o 39)) true (cond (cond (litCmp .eql o 27) (litCmp .eql o 27) (litCmp .eql o 40)) true (cond (cond (litCmp .eql o 23) (litCmp .eql o 23) (litCmp .eql o 34)) true (cond (cond (litCmp .eql o 24) (litCmp .eql o 24) (litCmp .eql o 35)) true (cond (cond (litCmp .eql o 28) (litCmp .eql o 28) (litCmp .eql o 33)) (inB a) (cond (cond (litCmp .eql o 29) (litCmp .eql o 29) (litCmp .eql o 37)) (inB a) (inB a)))))))))) (cond (cond (litCmp .eql (kindF o) 7) (litCmp .eql (kindF o) 7) (litCmp .eql (kindF o) 8)) (cond (cond (litCmp .eql o 41) (litCmp .eql o 41) (litCmp .eql o 45)) (inB (litBin .add .u64 a b)) (cond (litCmp .eql o 46) (inB (litBin .sub .u64 a b)) (cond (cond (litCmp .eql o 42) (litCmp .eql o 42) (litCmp .eql o 47)) ((inB a) && (inB (shW a (IntKind.wrap .i64 (litBin .rem .u64 b 32)) 0))) (cond (cond (litCmp .eql o 43) (litCmp .eql o 43) (litCmp .eql o 48)) ((inB (litBin .rem .u64 a 4294967296)) && (inB (shW (litBin .rem .u64 a 4294967296) (IntKind.wrap .i64 (litBin .rem .u64 b 32)) 1))) ((inB a) && ((inB (sextW a 32)) && (inB (shW (sextW a 32) (IntKind.wrap .i64 (litBin .rem .u64 b 32)) 2)))))))) (cond (cond (litCmp .eql (kindF o) 9) (litCmp .eql (kindF o) 9) (litCmp .eql (kindF o) 10)) (cond (litCmp .eql o 50) true (cond (litCmp .eql o 51) (inB a && inB b) (cond (litCmp .eql o 52) (inB a && inB b) (cond (litCmp .eql o 53) (inB a && inB b) (cond (litCmp .eql o 54) (inB a && inB b) (cond (litCmp .eql o 55) (inB a && inB b) (cond (litCmp .eql o 56) (inB a && inB b) (cond (litCmp .eql o 57) (inB a && inB b) (cond (litCmp .eql o 58) (inB (litBin .mul .u64 a b)) (cond (litCmp .eql o 59) (inB a && inB b) (cond (litCmp .eql o 60) (inB a && inB b) (cond (litCmp .eql o 61) (inB a && inB b) (inB a && inB b))))))))))))) true)))
def v56 (o a b : Int) : Int := (cond (cond (litCmp .eql (kindF o) 5) (litCmp .eql (kindF o) 5) (litCmp .eql (kindF o) 6)) (cond (cond (litCmp .eql o 22) (litCmp .eql o 22) (litCmp .eql o 31)) (litBin .add .u64 a b) (cond (litCmp .eql o 32) (litBin .sub .u64 a b) (cond (cond (litCmp .eql o 25) (litCmp .eql o 25) (litCmp .eql o 36)) (litBin .xor .u64 a b) (cond (cond (litCmp .eql o 26) (litCmp .eql o 26) (litCmp .eql o 39)) (litBin .or .u64 a b) (cond (cond (litCmp .eql o 27) (litCmp .eql o 27) (litCmp .eql o 40)) (litBin .and .u64 a b) (cond (cond (litCmp .eql o 23) (litCmp .eql o 23) (litCmp .eql o 34)) (cond (cond (litCmp .neq (litBin .shr .u64 a 63) (litBin .shr .u64 b 63)) (litCmp .eql (litBin .shr .u64 a 63) 1) (litCmp .lss a b)) 1 0) (cond (cond (litCmp .eql o 24) (litCmp .eql o 24) (litCmp .eql o 35)) (cond (litCmp .lss a b) 1 0) (cond (cond (litCmp .eql o 28) (litCmp .eql o 28) (litCmp .eql o 33)) (shW a (IntKind.wrap .i64 (litBin .rem .u64 b 64)) 0) (cond (cond (litCmp .eql o 29) (litCmp .eql o 29) (litCmp .eql o 37)) (shW a (IntKind.wrap .i64 (litBin .rem .u64 b 64)) 1) (shW a (IntKind.wrap .i64 (litBin .rem .u64 b 64)) 2)))))))))) (cond (cond (litCmp .eql (kindF o) 7) (litCmp .eql (kindF o) 7) (litCmp .eql (kindF o) 8)) (cond (cond (litCmp .eql o 41) (litCmp .eql o 41) (litCmp .eql o 45)) (sextW (litBin .add .u64 a b) 32) (cond (litCmp .eql o 46) (sextW (litBin .sub .u64 a b) 32) (cond (cond (litCmp .eql o 42) (litCmp .eql o 42) (litCmp .eql o 47)) (sextW (shW a (IntKind.wrap .i64 (litBin .rem .u64 b 32)) 0) 32) (cond (cond (litCmp .eql o 43) (litCmp .eql o 43) (litCmp .eql o 48)) (sextW (shW (litBin .rem .u64 a 4294967296) (IntKind.wrap .i64 (litBin .rem .u64 b 32)) 1) 32) (sextW (shW (sextW a 32) (IntKind.wrap .i64 (litBin .rem .u64 b 32)) 2) 32))))) (cond (cond (litCmp .eql (kindF o) 9) (litCmp .eql (kindF o) 9) (litCmp .eql (kindF o) 10)) (cond (litCmp .eql o 50) (litBin .mul .u64 a b) (cond (litCmp .eql o 51) (hiR a b true true) (cond (litCmp .eql o 52) (hiR a b true false) (cond (litCmp .eql o 53) (hiR a b false false) (cond (litCmp .eql o 54) (divW a b true) (cond (litCmp .eql o 55) (divW a b false) (cond (litCmp .eql o 56) (remW a b true) (cond (litCmp .eql o 57) (remW a b false) (cond (litCmp .eql o 58) (sextW (litBin .mul .u64 a b) 32) (cond (litCmp .eql o 59) (div32W a b true) (cond (litCmp .eql o 60) (div32W a b false) (cond (litCmp .eql o 61) (rem32W a b true) (rem32W a b false))))))))))))) 0)))
set_option maxRecDepth 100000 in
theorem none54 (o a b : Int) : ((call Try.prog cxw 380 54 [.int .i64 (.sym o), .int .u64 (.sym a), .int .u64 (.sym b)] []).route [false, false, false, false, false, false, false, false, false, false, false, false, false, false, false, false, false, false, false, false, false, false, false, false, false, false, false, false, false, false, false, false, false, false, false, false, false, false, false, false, false]).map (fun p => (p.1, p.2.1)) = some ([(litCmp .eql o 22), (litCmp .eql o 31), (litCmp .eql o 32), (litCmp .eql o 25), (litCmp .eql o 36), (litCmp .eql o 26), (litCmp .eql o 39), (litCmp .eql o 27), (litCmp .eql o 40), (litCmp .eql o 23), (litCmp .eql o 34), (litCmp .eql o 24), (litCmp .eql o 35), (litCmp .eql o 28), (litCmp .eql o 33), (litCmp .eql o 29), (litCmp .eql o 37), (litCmp .eql o 30), (litCmp .eql o 38), (litCmp .eql o 41), (litCmp .eql o 45), (litCmp .eql o 46), (litCmp .eql o 42), (litCmp .eql o 47), (litCmp .eql o 43), (litCmp .eql o 48), (litCmp .eql o 44), (litCmp .eql o 49), (litCmp .eql o 50), (litCmp .eql o 51), (litCmp .eql o 52), (litCmp .eql o 53), (litCmp .eql o 58), (litCmp .eql o 54), (litCmp .eql o 55), (litCmp .eql o 56), (litCmp .eql o 57), (litCmp .eql o 59), (litCmp .eql o 60), (litCmp .eql o 61), (litCmp .eql o 62)], .val (.int .u64 (.lit 0))) := by kernel_rfl
set_option maxRecDepth 100000 in
theorem none56 (o a b : Int) : ((call Try.prog cxu3 380 56 [.int .i64 (.sym o), .int .u64 (.sym a), .int .u64 (.sym b)] []).route [true]).map (fun p => (p.1, p.2.1)) = some ([t56 o a b], .val (.int .u64 (.sym (v56 o a b)))) := by kernel_rfl
theorem noop_ne {o : Int} (h : noop o = true) (k : Int) (h1 : 22 ≤ k) (h2 : k ≤ 62) : litCmp .eql o k = false := by
  unfold noop at h
  simp only [Bool.or_eq_true, decide_eq_true_eq] at h
  rw [eql_eq]
  exact decide_eq_false (by omega)
theorem noop_kind {o : Int} (h : noop o = true) (k : Int) (h1 : 5 ≤ k) (h2 : k ≤ 10) : litCmp .eql (kindF o) k = false := by
  have key : ¬ (kindF o = k) := by
    unfold noop at h
    simp only [Bool.or_eq_true, decide_eq_true_eq] at h
    unfold kindF
    rcases h with h | h
    · have e : litCmp .leq o 21 = true := decide_eq_true h
      rw [e]
      cases litCmp .leq o 0 <;> cases litCmp .leq o 4 <;> cases litCmp .leq o 10 <;> cases litCmp .leq o 17 <;> simp only [cond_true, cond_false] <;> omega
    · rw [show litCmp .leq o 0 = false from decide_eq_false (by omega), show litCmp .leq o 4 = false from decide_eq_false (by omega), show litCmp .leq o 10 = false from decide_eq_false (by omega), show litCmp .leq o 17 = false from decide_eq_false (by omega), show litCmp .leq o 21 = false from decide_eq_false (by omega), show litCmp .leq o 30 = false from decide_eq_false (by omega), show litCmp .leq o 40 = false from decide_eq_false (by omega), show litCmp .leq o 44 = false from decide_eq_false (by omega), show litCmp .leq o 49 = false from decide_eq_false (by omega), show litCmp .leq o 57 = false from decide_eq_false (by omega), show litCmp .leq o 62 = false from decide_eq_false (by omega)]
      simp only [cond_false]
      cases litCmp .leq o 69 <;> cases litCmp .leq o 75 <;> cases litCmp .leq o 86 <;> cases litCmp .leq o 97 <;> simp only [cond_true, cond_false] <;> omega
  rw [eql_eq]
  exact decide_eq_false key
theorem none_t {o : Int} (a b : Int) (h : noop o = true) : t56 o a b = true := by
  unfold t56
  rw [noop_kind h 5 (by decide) (by decide), noop_kind h 6 (by decide) (by decide), noop_kind h 7 (by decide) (by decide), noop_kind h 8 (by decide) (by decide), noop_kind h 9 (by decide) (by decide), noop_kind h 10 (by decide) (by decide)]
  simp only [cond_false]
theorem none_v {o : Int} (a b : Int) (h : noop o = true) : v56 o a b = 0 := by
  unfold v56
  rw [noop_kind h 5 (by decide) (by decide), noop_kind h 6 (by decide) (by decide), noop_kind h 7 (by decide) (by decide), noop_kind h 8 (by decide) (by decide), noop_kind h 9 (by decide) (by decide), noop_kind h 10 (by decide) (by decide)]
  simp only [cond_false]

noncomputable def g54 (args : List (AV DC)) (h : List (AO DC)) : Option (T DC (AV DC × List (W DC))) := match args with
  | [.int .i64 (.sym o), .int .u64 a, .int .u64 b] => some (.br (noop o) (.ret (.int .u64 (.lit 0), [])) .fail)
  | _ => pureSumA Try.prog cxw 380 54 args h
noncomputable def g56 (args : List (AV DC)) (h : List (AO DC)) : Option (T DC (AV DC × List (W DC))) := match args with
  | [.int .i64 (.sym o), .int .u64 a, .int .u64 b] => some (.br (noop o) (.ret (.int .u64 (.lit 0), [])) .fail)
  | _ => pureSumA Try.prog cxw 380 56 args h
theorem pureSumA_ok {P : Program} {X : Cx DC} (hX : Ok P X) {n : Nat} {f : FuncId} {args : List (AV DC)} {h : List (AO DC)} {t : T DC (AV DC × List (W DC))} {r : AV DC × List (W DC)} (ht : pureSumA P X n f args h = some t) (hp : t.pick = some r) : FnOk P f args h r := by
  unfold pureSumA at ht
  split at ht
  · rename_i ha
    cases ht
    obtain ⟨l, h1, h2, h3⟩ := plainA_pick _ hp
    obtain ⟨v, w⟩ := r
    simp only at h1 h2 h3
    subst h2
    exact pureV hX h1 (covL_scal2 ha) fun σ => covV_scal3 h3
  · cases ht
noncomputable def cxu4 : Cx DC := cxu3.sum 54 g54
theorem cxu4_ok : Ok Try.prog cxu4 := cxu3_ok.sum (by kernel_rfl) fun args h t r ht hp => by
  unfold g54 at ht
  split at ht
  · rename_i o a b
    cases ht
    rcases T.br_some hp with ⟨h1, h2⟩ | ⟨_, h2⟩
    · have := T.ret_some h2
      subst this
      obtain ⟨l, hl⟩ := road_at (none54 o a.den b.den) (by
        rw [noop_ne h1 22 (by decide) (by decide), noop_ne h1 31 (by decide) (by decide), noop_ne h1 32 (by decide) (by decide), noop_ne h1 25 (by decide) (by decide), noop_ne h1 36 (by decide) (by decide), noop_ne h1 26 (by decide) (by decide), noop_ne h1 39 (by decide) (by decide), noop_ne h1 27 (by decide) (by decide), noop_ne h1 40 (by decide) (by decide), noop_ne h1 23 (by decide) (by decide), noop_ne h1 34 (by decide) (by decide), noop_ne h1 24 (by decide) (by decide), noop_ne h1 35 (by decide) (by decide), noop_ne h1 28 (by decide) (by decide), noop_ne h1 33 (by decide) (by decide), noop_ne h1 29 (by decide) (by decide), noop_ne h1 37 (by decide) (by decide), noop_ne h1 30 (by decide) (by decide), noop_ne h1 38 (by decide) (by decide), noop_ne h1 41 (by decide) (by decide), noop_ne h1 45 (by decide) (by decide), noop_ne h1 46 (by decide) (by decide), noop_ne h1 42 (by decide) (by decide), noop_ne h1 47 (by decide) (by decide), noop_ne h1 43 (by decide) (by decide), noop_ne h1 48 (by decide) (by decide), noop_ne h1 44 (by decide) (by decide), noop_ne h1 49 (by decide) (by decide), noop_ne h1 50 (by decide) (by decide), noop_ne h1 51 (by decide) (by decide), noop_ne h1 52 (by decide) (by decide), noop_ne h1 53 (by decide) (by decide), noop_ne h1 58 (by decide) (by decide), noop_ne h1 54 (by decide) (by decide), noop_ne h1 55 (by decide) (by decide), noop_ne h1 56 (by decide) (by decide), noop_ne h1 57 (by decide) (by decide), noop_ne h1 59 (by decide) (by decide), noop_ne h1 60 (by decide) (by decide), noop_ne h1 61 (by decide) (by decide), noop_ne h1 62 (by decide) (by decide)])
      exact pureV cxw_ok hl ⟨⟨rfl, rfl⟩, ⟨rfl, rfl⟩, ⟨rfl, rfl⟩, trivial⟩ fun σ => ⟨rfl, rfl⟩
    · cases h2
  · exact pureSumA_ok cxw_ok ht hp
noncomputable def cxu : Cx DC := cxu4.sum 56 g56
theorem cxu_ok : Ok Try.prog cxu := cxu4_ok.sum (by kernel_rfl) fun args h t r ht hp => by
  unfold g56 at ht
  split at ht
  · rename_i o a b
    cases ht
    rcases T.br_some hp with ⟨h1, h2⟩ | ⟨_, h2⟩
    · have := T.ret_some h2
      subst this
      obtain ⟨l, hl⟩ := road_at (none56 o a.den b.den) (by rw [none_t _ _ h1])
      exact pureV cxu3_ok hl ⟨⟨rfl, rfl⟩, ⟨rfl, rfl⟩, ⟨rfl, rfl⟩, trivial⟩ fun σ => ⟨rfl, none_v _ _ h1⟩
    · cases h2
  · exact pureSumA_ok cxw_ok ht hp
end Go.Proofs.Ytgljicadcegilaa.Ev
