/- The contexts in which what the code and the reference answer on numbers are the same terms. Conditions: none. -/
import Derived.Test.YtgljicadcegilaaWordSums
namespace Go.Proofs.Ytgljicadcegilaa.Ev
open Go.RowKit
set_option linter.unusedVariables false
set_option linter.unusedSimpArgs false

def g40 (args : List (AV DC)) (h : List (AO DC)) : Option (T DC (AV DC × List (W DC))) := match args with
  | [.int .u64 a, .int .i64 n] => some (.br (inB a.den) (.ret (.int .u64 (.sym (sextW a.den n.den)), [])) .fail)
  | _ => none
def g42 (args : List (AV DC)) (h : List (AO DC)) : Option (T DC (AV DC × List (W DC))) := match args with
  | [.int .u64 a, .int .u64 b, .bool s] => some (.br (inB a.den && inB b.den) (.ret (.int .u64 (.sym (divW a.den b.den s.den)), [])) .fail)
  | _ => none
def g43 (args : List (AV DC)) (h : List (AO DC)) : Option (T DC (AV DC × List (W DC))) := match args with
  | [.int .u64 a, .int .u64 b, .bool s] => some (.br (inB a.den && inB b.den) (.ret (.int .u64 (.sym (remW a.den b.den s.den)), [])) .fail)
  | _ => none
def g44 (args : List (AV DC)) (h : List (AO DC)) : Option (T DC (AV DC × List (W DC))) := match args with
  | [.int .u64 a, .int .u64 b, .bool s] => some (.br (inB a.den && inB b.den) (.ret (.int .u64 (.sym (div32W a.den b.den s.den)), [])) .fail)
  | _ => none
def g45 (args : List (AV DC)) (h : List (AO DC)) : Option (T DC (AV DC × List (W DC))) := match args with
  | [.int .u64 a, .int .u64 b, .bool s] => some (.br (inB a.den && inB b.den) (.ret (.int .u64 (.sym (rem32W a.den b.den s.den)), [])) .fail)
  | _ => none
def g21 (args : List (AV DC)) (h : List (AO DC)) : Option (T DC (AV DC × List (W DC))) := match args with
  | [.int .u64 a, .int .u64 b, .bool s] => some (.ret (.int .u64 (.sym (divW a.den b.den s.den)), []))
  | _ => none
def g22 (args : List (AV DC)) (h : List (AO DC)) : Option (T DC (AV DC × List (W DC))) := match args with
  | [.int .u64 a, .int .u64 b, .bool s] => some (.ret (.int .u64 (.sym (remW a.den b.den s.den)), []))
  | _ => none
def g25 (args : List (AV DC)) (h : List (AO DC)) : Option (T DC (AV DC × List (W DC))) := match args with
  | [.int .u64 a, .int .u64 b, .bool s] => some (.ret (.int .u64 (.sym (div32W a.den b.den s.den)), []))
  | _ => none
def g26 (args : List (AV DC)) (h : List (AO DC)) : Option (T DC (AV DC × List (W DC))) := match args with
  | [.int .u64 a, .int .u64 b, .bool s] => some (.ret (.int .u64 (.sym (rem32W a.den b.den s.den)), []))
  | _ => none
def g23 (args : List (AV DC)) (h : List (AO DC)) : Option (T DC (AV DC × List (W DC))) := match args with
  | [.int .u64 a, .int .i64 n] => some (.ret (.int .u64 (.sym (sextW a.den n.den)), []))
  | _ => none
def g24 (args : List (AV DC)) (h : List (AO DC)) : Option (T DC (AV DC × List (W DC))) := match args with
  | [.int .u64 a, .int .i64 n, .int .i64 k] => some (.ret (.int .u64 (.sym (shW a.den n.den k.den)), []))
  | _ => none
def g27 (args : List (AV DC)) (h : List (AO DC)) : Option (T DC (AV DC × List (W DC))) := match args with
  | [.int .u64 a, .int .u64 b, .bool s, .bool t] => some (.br (inB a.den && inB b.den) (.ret (.int .u64 (.sym (hiR a.den b.den s.den t.den)), [])) .fail)
  | _ => none
noncomputable def cxw1 : Cx DC := cxl.sum 40 g40
theorem cxw1_ok : Ok Try.prog cxw1 := cxl_ok.sum (by kernel_rfl) fun args h t r ht hp => by
  unfold g40 at ht
  split at ht
  · rename_i a n
    cases ht
    rcases T.br_some hp with ⟨h1, h2⟩ | ⟨_, h2⟩
    · have := T.ret_some h2
      subst this
      rw [inB_iff] at h1
      obtain ⟨l, hl⟩ := road_at (rsext1 a.den n.den) (by rw [askX_t])
      exact pureV cxl_ok hl ⟨⟨rfl, rfl⟩, ⟨rfl, rfl⟩, trivial⟩ fun σ => ⟨rfl, sextR_W n.den h1⟩
    · cases h2
  · cases ht
noncomputable def cxw2 : Cx DC := cxw1.sum 42 g42
theorem cxw2_ok : Ok Try.prog cxw2 := cxw1_ok.sum (by kernel_rfl) fun args h t r ht hp => by
  unfold g42 at ht
  split at ht
  · rename_i a b s
    cases ht
    rcases T.br_some hp with ⟨h1, h2⟩ | ⟨_, h2⟩
    · have := T.ret_some h2
      subst this
      simp only [Bool.and_eq_true, inB_iff] at h1
      obtain ⟨l, hl⟩ := road_at (rdiv1 a.den b.den s.den) (by rw [askD_of s.den h1.1 h1.2])
      exact pureV cxl_ok hl ⟨⟨rfl, rfl⟩, ⟨rfl, rfl⟩, rfl, trivial⟩ fun σ => ⟨rfl, divR_W s.den h1.1 h1.2⟩
    · cases h2
  · cases ht
noncomputable def cxw3 : Cx DC := cxw2.sum 43 g43
theorem cxw3_ok : Ok Try.prog cxw3 := cxw2_ok.sum (by kernel_rfl) fun args h t r ht hp => by
  unfold g43 at ht
  split at ht
  · rename_i a b s
    cases ht
    rcases T.br_some hp with ⟨h1, h2⟩ | ⟨_, h2⟩
    · have := T.ret_some h2
      subst this
      simp only [Bool.and_eq_true, inB_iff] at h1
      obtain ⟨l, hl⟩ := road_at (rrem1 a.den b.den s.den) (by rw [askD_of s.den h1.1 h1.2])
      exact pureV cxl_ok hl ⟨⟨rfl, rfl⟩, ⟨rfl, rfl⟩, rfl, trivial⟩ fun σ => ⟨rfl, remR_W s.den h1.1 h1.2⟩
    · cases h2
  · cases ht

def low' (a : Int) (s : Bool) : Int := cond s (sextW a 32) (litBin .rem .u64 a 4294967296)
def ask32 (a b : Int) (s : Bool) (q : Int) : Bool := (cond s (inB a) true) && ((cond s (inB b) true) && ((inB (low' a s) && inB (low' b s)) && inB q))
set_option maxRecDepth 100000 in
theorem rdiv32_1 (a b : Int) (s : Bool) : ((call Try.prog cxw3 380 44 [.int .u64 (.sym a), .int .u64 (.sym b), .bool (.sym s)] []).route [true]).map (fun p => (p.1, p.2.1)) = some ([ask32 a b s (divW (low' a s) (low' b s) s)], .val (.int .u64 (.sym (sextW (divW (low' a s) (low' b s) s) 32)))) := by kernel_rfl
set_option maxRecDepth 100000 in
theorem rrem32_1 (a b : Int) (s : Bool) : ((call Try.prog cxw3 380 45 [.int .u64 (.sym a), .int .u64 (.sym b), .bool (.sym s)] []).route [true]).map (fun p => (p.1, p.2.1)) = some ([ask32 a b s (remW (low' a s) (low' b s) s)], .val (.int .u64 (.sym (sextW (remW (low' a s) (low' b s) s) 32)))) := by kernel_rfl
theorem inU_low {a : Int} (s : Bool) (ha : inU a) : inU (low' a s) := by
  unfold low'
  rw [sextW32, rem32 ha]
  refine inU.cond (inU_sx a) ?_
  unfold inU
  omega
theorem inU_divW (a b : Int) (s : Bool) : inU (divW a b s) := inU.cond (inU_wrap _) (inU.cond (by unfold inU; omega) (inU_wrap _))
theorem inU_remW {a : Int} (b : Int) (s : Bool) (ha : inU a) : inU (remW a b s) := by
  refine inU.cond (inU_wrap _) (inU.cond ha ?_)
  show inU (a.tmod b)
  have h1 := Int.tmod_nonneg b ha.1
  have h2 : a.tmod b ≤ a := by
    have := Int.natAbs_tmod a b
    have h3 := Nat.mod_le a.natAbs b.natAbs
    have h4 := ha.1
    omega
  unfold inU at *
  omega
theorem ask32_of {a b : Int} (s : Bool) (q : Int) (ha : inU a) (hb : inU b) (hq : inU q) : ask32 a b s q = true := by
  unfold ask32
  rw [inB_of ha, inB_of hb, inB_of hq, inB_of (inU_low s ha), inB_of (inU_low s hb)]
  cases s <;> rfl
theorem wi_sx (a : Int) : IntKind.wrap .i64 (sx a) = IntKind.wrap .i32 a := by
  rw [wrapi, wrapi32]
  unfold sx
  omega
theorem sx_zero (b : Int) : (sx b = 0) ↔ IntKind.wrap .i32 b = 0 := by
  rw [wrapi32]
  unfold sx
  omega
theorem sx_i32 {t u : Int} (h : t % 4294967296 = u % 4294967296) : sx t = IntKind.wrap .u64 (IntKind.wrap .i32 u) := by
  rw [sx_congr h, Ev.wrap64, wrapi32]
  rfl
theorem div32_W {a b : Int} (s : Bool) (ha : inU a) (hb : inU b) : sextW (divW (low' a s) (low' b s) s) 32 = div32W a b s := by
  rw [sextW32]
  unfold div32W low'
  cases s
  · rw [cond_false, cond_false, cond_false, sx32, rem32 ha, rem32 hb, Ev.wrap32, Ev.wrap32]
    refine sx_congr ?_
    unfold divW
    rw [cond_false]
    by_cases h : b % 4294967296 = 0
    · rw [h]; rfl
    · have h1 := Int.ediv_nonneg (by omega : 0 ≤ a % 4294967296) (by omega : 0 ≤ b % 4294967296)
      have h2 := Int.ediv_le_self (b % 4294967296) (by omega : 0 ≤ a % 4294967296)
      have e : litBin .quo .u32 (a % 4294967296) (b % 4294967296) = (a % 4294967296 / (b % 4294967296)) % 4294967296 := by
        show IntKind.u32.wrap (Int.tdiv _ _) = _
        rw [Ev.wrap32, Int.tdiv_eq_ediv_of_nonneg (by omega)]
      rw [eql_eq, decide_eq_false h, cond_false, cond_false, quo_n (by omega), e, Ev.wrap64]
      omega
  · rw [cond_true, cond_true, cond_true, sextW32, sextW32, divW_s _ _ (inU_sx b), wi_sx, wi_sx, quo_i32, neg_i32]
    by_cases h : IntKind.wrap .i32 b = 0
    · rw [eql_eq, eql_eq, decide_eq_true h, decide_eq_true ((sx_zero b).2 h), cond_true, cond_true]
      decide
    · rw [eql_eq, eql_eq, decide_eq_false h, decide_eq_false (fun e => h ((sx_zero b).1 e)), cond_false, cond_false]
      by_cases h2 : IntKind.wrap .i32 b = -1
      · rw [h2, eql_eq, decide_eq_true rfl, cond_true, tdiv_m1]
        exact sx_i32 (by omega)
      · rw [eql_eq, decide_eq_false h2, cond_false]
        exact sx_i32 (by omega)
theorem rem32_W {a b : Int} (s : Bool) (ha : inU a) (hb : inU b) : sextW (remW (low' a s) (low' b s) s) 32 = rem32W a b s := by
  rw [sextW32]
  unfold rem32W low'
  cases s
  · rw [cond_false, cond_false, cond_false, sx32, rem32 ha, rem32 hb, Ev.wrap32, Ev.wrap32]
    refine sx_congr ?_
    unfold remW
    rw [cond_false]
    by_cases h : b % 4294967296 = 0
    · rw [eql_eq, decide_eq_true h, cond_true, cond_true, Ev.wrap64]
      omega
    · have e : litBin .rem .u32 (a % 4294967296) (b % 4294967296) = litBin .rem .u64 (a % 4294967296) (b % 4294967296) := rfl
      rw [eql_eq, decide_eq_false h, cond_false, cond_false, e, Ev.wrap64]
      omega
  · rw [cond_true, cond_true, cond_true, sextW32, sextW32, remW_s _ _ (inU_sx a) (inU_sx b), wi_sx, wi_sx]
    by_cases h : IntKind.wrap .i32 b = 0
    · rw [eql_eq, eql_eq, decide_eq_true h, decide_eq_true ((sx_zero b).2 h), cond_true, cond_true]
      exact sx_i32 (sx_mod a)
    · rw [eql_eq, eql_eq, decide_eq_false h, decide_eq_false (fun e => h ((sx_zero b).1 e)), cond_false, cond_false]
      have hr : ∀ A : Int, -2147483648 ≤ A → A < 2147483648 → IntKind.wrap .i32 A = A := fun A h1 h2 => by rw [wrapi32]; omega
      by_cases h2 : IntKind.wrap .i32 b = -1
      · rw [h2, eql_eq, decide_eq_true rfl, cond_true, tmod_m1]
        rfl
      · rw [eql_eq, decide_eq_false h2, cond_false]
        have ha32 : -2147483648 ≤ IntKind.wrap .i32 a ∧ IntKind.wrap .i32 a < 2147483648 := by rw [wrapi32]; omega
        have hm : -2147483648 ≤ (IntKind.wrap .i32 a).tmod (IntKind.wrap .i32 b) ∧ (IntKind.wrap .i32 a).tmod (IntKind.wrap .i32 b) < 2147483648 := by
          have h3 := Int.natAbs_tmod (IntKind.wrap .i32 a) (IntKind.wrap .i32 b)
          have h4 := Nat.mod_le (IntKind.wrap .i32 a).natAbs (IntKind.wrap .i32 b).natAbs
          rcases Int.lt_or_le (IntKind.wrap .i32 a) 0 with h5 | h5
          · have h6 : (IntKind.wrap .i32 a).tmod (IntKind.wrap .i32 b) ≤ 0 := by
              have h7 := Int.tmod_nonneg (IntKind.wrap .i32 b) (by omega : 0 ≤ -(IntKind.wrap .i32 a))
              rw [Int.neg_tmod] at h7
              omega
            omega
          · have h6 := Int.tmod_nonneg (IntKind.wrap .i32 b) h5
            omega
        show _ = IntKind.wrap .u64 ((IntKind.wrap .i32 a).tmod (IntKind.wrap .i32 b))
        generalize (IntKind.wrap .i32 a).tmod (IntKind.wrap .i32 b) = T at *
        rw [Ev.wrap64]
        unfold sx
        omega
noncomputable def cxw4 : Cx DC := cxw3.sum 44 g44
theorem cxw4_ok : Ok Try.prog cxw4 := cxw3_ok.sum (by kernel_rfl) fun args h t r ht hp => by
  unfold g44 at ht
  split at ht
  · rename_i a b s
    cases ht
    rcases T.br_some hp with ⟨h1, h2⟩ | ⟨_, h2⟩
    · have := T.ret_some h2
      subst this
      simp only [Bool.and_eq_true, inB_iff] at h1
      obtain ⟨l, hl⟩ := road_at (rdiv32_1 a.den b.den s.den) (by rw [ask32_of s.den _ h1.1 h1.2 (inU_divW _ _ _)])
      exact pureV cxw3_ok hl ⟨⟨rfl, rfl⟩, ⟨rfl, rfl⟩, rfl, trivial⟩ fun σ => ⟨rfl, div32_W s.den h1.1 h1.2⟩
    · cases h2
  · cases ht
noncomputable def cxw5 : Cx DC := cxw4.sum 45 g45
theorem cxw5_ok : Ok Try.prog cxw5 := cxw4_ok.sum (by kernel_rfl) fun args h t r ht hp => by
  unfold g45 at ht
  split at ht
  · rename_i a b s
    cases ht
    rcases T.br_some hp with ⟨h1, h2⟩ | ⟨_, h2⟩
    · have := T.ret_some h2
      subst this
      simp only [Bool.and_eq_true, inB_iff] at h1
      obtain ⟨l, hl⟩ := road_at (rrem32_1 a.den b.den s.den) (by rw [ask32_of s.den _ h1.1 h1.2 (inU_remW _ _ (inU_low _ h1.1))])
      exact pureV cxw3_ok hl ⟨⟨rfl, rfl⟩, ⟨rfl, rfl⟩, rfl, trivial⟩ fun σ => ⟨rfl, rem32_W s.den h1.1 h1.2⟩
    · cases h2
  · cases ht
noncomputable def cxw6 : Cx DC := cxw5.sum 21 g21
theorem cxw6_ok : Ok Try.prog cxw6 := cxw5_ok.sum (by kernel_rfl) fun args h t r ht hp => by
  unfold g21 at ht
  split at ht
  · rename_i a b s
    cases ht
    have := T.ret_some hp
    subst this
    obtain ⟨l, hl⟩ := road_at (div1 a.den b.den s.den) (by rw [gd64_t])
    exact pureV cx_ok hl ⟨⟨rfl, rfl⟩, ⟨rfl, rfl⟩, rfl, trivial⟩ fun σ => ⟨rfl, rfl⟩
  · cases ht
noncomputable def cxw7 : Cx DC := cxw6.sum 22 g22
theorem cxw7_ok : Ok Try.prog cxw7 := cxw6_ok.sum (by kernel_rfl) fun args h t r ht hp => by
  unfold g22 at ht
  split at ht
  · rename_i a b s
    cases ht
    have := T.ret_some hp
    subst this
    obtain ⟨l, hl⟩ := road_at (rem1 a.den b.den s.den) (by rw [gd64_t])
    exact pureV cx_ok hl ⟨⟨rfl, rfl⟩, ⟨rfl, rfl⟩, rfl, trivial⟩ fun σ => ⟨rfl, rfl⟩
  · cases ht
noncomputable def cxw8 : Cx DC := cxw7.sum 25 g25
theorem cxw8_ok : Ok Try.prog cxw8 := cxw7_ok.sum (by kernel_rfl) fun args h t r ht hp => by
  unfold g25 at ht
  split at ht
  · rename_i a b s
    cases ht
    have := T.ret_some hp
    subst this
    obtain ⟨l, hl⟩ := road_at (div32_1 a.den b.den s.den) (by rw [gd32_t])
    exact pureV cx_ok hl ⟨⟨rfl, rfl⟩, ⟨rfl, rfl⟩, rfl, trivial⟩ fun σ => ⟨rfl, rfl⟩
  · cases ht
noncomputable def cxw9 : Cx DC := cxw8.sum 26 g26
theorem cxw9_ok : Ok Try.prog cxw9 := cxw8_ok.sum (by kernel_rfl) fun args h t r ht hp => by
  unfold g26 at ht
  split at ht
  · rename_i a b s
    cases ht
    have := T.ret_some hp
    subst this
    obtain ⟨l, hl⟩ := road_at (rem32_1 a.den b.den s.den) (by rw [gd32_t])
    exact pureV cx_ok hl ⟨⟨rfl, rfl⟩, ⟨rfl, rfl⟩, rfl, trivial⟩ fun σ => ⟨rfl, rfl⟩
  · cases ht
noncomputable def cxw10 : Cx DC := cxw9.sum 23 g23
theorem cxw10_ok : Ok Try.prog cxw10 := cxw9_ok.sum (by kernel_rfl) fun args h t r ht hp => by
  unfold g23 at ht
  split at ht
  · rename_i a n
    cases ht
    have := T.ret_some hp
    subst this
    obtain ⟨l, hl⟩ := road_at (sext1 a.den n.den) (by rw [gS_t])
    exact pureV cx_ok hl ⟨⟨rfl, rfl⟩, ⟨rfl, rfl⟩, trivial⟩ fun σ => ⟨rfl, rfl⟩
  · cases ht
noncomputable def cxw11 : Cx DC := cxw10.sum 24 g24
theorem cxw11_ok : Ok Try.prog cxw11 := cxw10_ok.sum (by kernel_rfl) fun args h t r ht hp => by
  unfold g24 at ht
  split at ht
  · rename_i a n k
    cases ht
    have := T.ret_some hp
    subst this
    obtain ⟨l, hl⟩ := road_at (wshift1 a.den n.den k.den) (by rw [gB_t])
    exact pureV cx_ok hl ⟨⟨rfl, rfl⟩, ⟨rfl, rfl⟩, ⟨rfl, rfl⟩, trivial⟩ fun σ => ⟨rfl, rfl⟩
  · cases ht
noncomputable def cxw : Cx DC := cxw11.sum 27 g27
theorem cxw_ok : Ok Try.prog cxw := cxw11_ok.sum (by kernel_rfl) fun args h t r ht hp => by
  unfold g27 at ht
  split at ht
  · rename_i a b s t
    cases ht
    rcases T.br_some hp with ⟨h1, h2⟩ | ⟨_, h2⟩
    · have := T.ret_some h2
      subst this
      simp only [Bool.and_eq_true, inB_iff] at h1
      obtain ⟨l, hl⟩ := road_at (whigh1 a.den b.den s.den t.den) rfl
      exact pureV cx_ok hl ⟨⟨rfl, rfl⟩, ⟨rfl, rfl⟩, rfl, rfl, trivial⟩ fun σ => ⟨rfl, hiW_R s.den t.den h1.1 h1.2⟩
    · cases h2
  · cases ht
end Go.Proofs.Ytgljicadcegilaa.Ev
