/- What the statement's own functions tell of reservations, as terms. Conditions: none. -/
import Derived.Test.YtgljicadcegilaaResSums
namespace Go.Proofs.Ytgljicadcegilaa.Ev
open Go.RowKit
set_option linter.unusedVariables false
set_option linter.unusedSimpArgs false

/-- A function that reads one block alone; what it makes besides is dropped. -/
theorem reads2 {P : Program} {X : Cx DC} (hX : Ok P X) {n : Nat} {f : FuncId} {b : Nat} {t : TypeId} {cs cs' : List (AV DC)} {h : List (AO DC)} {v v' : AV DC} {rest rest' : List (AV DC)}
    (hr : ((call P X n f (.ptr 0 (.lit 0) :: rest') [.cells t cs']).route []).map (fun p => (p.1, p.2.1, (({ slots := [], heap := [.cells t cs'] } : St DC).apps p.2.2).heap[0]?)) = some ([], .val v', some (.cells t cs'))) (hb : h[b]? = some (.cells t cs)) (hc : ∀ σ, covP σ cs cs') (hc2 : ∀ σ, covP σ cs' cs) (hrest : covL (at' [b]) rest rest') (hv : ∀ σ, covV σ v' v) : FnOk P f (.ptr b (.lit 0) :: rest) h (v, []) := by
  obtain ⟨⟨l, z⟩, h1, h2⟩ := Option.map_eq_some_iff.1 hr
  simp only [Prod.mk.injEq] at h2
  obtain ⟨rfl, h3, h4⟩ := h2
  have hp := route_pick [] _ _ h1
  obtain ⟨z1, z2⟩ := z
  simp only at h3 h4
  subst h3
  refine frame_old [b] (fn_ok hX (r := (v', z2)) hp) ⟨⟨rfl, rfl⟩, hrest⟩ ⟨?_, trivial⟩ rfl (by simp) (fun jj i o hj ho => ?_) rfl (fun _ _ => rfl) (fun jj i o hj ho => ?_) (hv _)
  · rw [hb]
    exact ⟨rfl, hc _⟩
  · cases jj with
    | zero => cases hj; rw [hb] at ho; cases ho; rfl
    | succ jj => cases hj
  · cases jj with
    | zero =>
      cases hj
      have ho' : h[b]? = some o := ho
      rw [hb] at ho'
      cases ho'
      exact ⟨_, h4, rfl, hc2 _⟩
    | succ jj => cases hj

def bd (S x : Bool) (A y : Int) : Bool := cond (!(S == x)) true (cond x (litCmp .neq A y) false)
def sameF (S0 S1 S2 S3 S4 S5 S6 S7 x0 x1 x2 x3 x4 x5 x6 x7 : Bool) (A0 A1 A2 A3 A4 A5 A6 A7 y0 y1 y2 y3 y4 y5 y6 y7 : Int) : Bool := cond (bd S0 x0 A0 y0) false (cond (bd S1 x1 A1 y1) false (cond (bd S2 x2 A2 y2) false (cond (bd S3 x3 A3 y3) false (cond (bd S4 x4 A4 y4) false (cond (bd S5 x5 A5 y5) false (cond (bd S6 x6 A6 y6) false (!(bd S7 x7 A7 y7))))))))
set_option maxRecDepth 100000 in
theorem all1 (a0 a1 a2 a3 a4 a5 a6 a7 : Int) (s0 s1 s2 s3 s4 s5 s6 s7 : Bool) : ((call Try.prog cxs 380 38 [.ptr 0 (.lit 0)] [.cells 88 [.int .u64 (.sym a0), .bool (.sym s0), .int .u64 (.sym a1), .bool (.sym s1), .int .u64 (.sym a2), .bool (.sym s2), .int .u64 (.sym a3), .bool (.sym s3), .int .u64 (.sym a4), .bool (.sym s4), .int .u64 (.sym a5), .bool (.sym s5), .int .u64 (.sym a6), .bool (.sym s6), .int .u64 (.sym a7), .bool (.sym s7)]]).route []).map (fun p => (p.1, p.2.1, (({ slots := [], heap := [.cells 88 [.int .u64 (.sym a0), .bool (.sym s0), .int .u64 (.sym a1), .bool (.sym s1), .int .u64 (.sym a2), .bool (.sym s2), .int .u64 (.sym a3), .bool (.sym s3), .int .u64 (.sym a4), .bool (.sym s4), .int .u64 (.sym a5), .bool (.sym s5), .int .u64 (.sym a6), .bool (.sym s6), .int .u64 (.sym a7), .bool (.sym s7)]] } : St DC).apps p.2.2).heap[0]?)) = some ([], .val (.tuple [.agg [.bool (.sym (!(!s0))), .bool (.sym (!(!s1))), .bool (.sym (!(!s2))), .bool (.sym (!(!s3))), .bool (.sym (!(!s4))), .bool (.sym (!(!s5))), .bool (.sym (!(!s6))), .bool (.sym (!(!s7)))], .agg [.int .u64 (.sym (cond (!s0) 0 a0)), .int .u64 (.sym (cond (!s1) 0 a1)), .int .u64 (.sym (cond (!s2) 0 a2)), .int .u64 (.sym (cond (!s3) 0 a3)), .int .u64 (.sym (cond (!s4) 0 a4)), .int .u64 (.sym (cond (!s5) 0 a5)), .int .u64 (.sym (cond (!s6) 0 a6)), .int .u64 (.sym (cond (!s7) 0 a7))]]), some (.cells 88 [.int .u64 (.sym a0), .bool (.sym s0), .int .u64 (.sym a1), .bool (.sym s1), .int .u64 (.sym a2), .bool (.sym s2), .int .u64 (.sym a3), .bool (.sym s3), .int .u64 (.sym a4), .bool (.sym s4), .int .u64 (.sym a5), .bool (.sym s5), .int .u64 (.sym a6), .bool (.sym s6), .int .u64 (.sym a7), .bool (.sym s7)])) := by kernel_rfl
set_option maxRecDepth 100000 in
theorem same1 (S0 S1 S2 S3 S4 S5 S6 S7 x0 x1 x2 x3 x4 x5 x6 x7 : Bool) (A0 A1 A2 A3 A4 A5 A6 A7 y0 y1 y2 y3 y4 y5 y6 y7 : Int) : ((call Try.prog cxs 380 39 [.ptr 0 (.lit 0), .agg [.bool (.sym x0), .bool (.sym x1), .bool (.sym x2), .bool (.sym x3), .bool (.sym x4), .bool (.sym x5), .bool (.sym x6), .bool (.sym x7)], .agg [.int .u64 (.sym y0), .int .u64 (.sym y1), .int .u64 (.sym y2), .int .u64 (.sym y3), .int .u64 (.sym y4), .int .u64 (.sym y5), .int .u64 (.sym y6), .int .u64 (.sym y7)]] [.cells 54 [.bool (.sym S0), .bool (.sym S1), .bool (.sym S2), .bool (.sym S3), .bool (.sym S4), .bool (.sym S5), .bool (.sym S6), .bool (.sym S7), .int .u64 (.sym A0), .int .u64 (.sym A1), .int .u64 (.sym A2), .int .u64 (.sym A3), .int .u64 (.sym A4), .int .u64 (.sym A5), .int .u64 (.sym A6), .int .u64 (.sym A7)]]).route []).map (fun p => (p.1, p.2.1, (({ slots := [], heap := [.cells 54 [.bool (.sym S0), .bool (.sym S1), .bool (.sym S2), .bool (.sym S3), .bool (.sym S4), .bool (.sym S5), .bool (.sym S6), .bool (.sym S7), .int .u64 (.sym A0), .int .u64 (.sym A1), .int .u64 (.sym A2), .int .u64 (.sym A3), .int .u64 (.sym A4), .int .u64 (.sym A5), .int .u64 (.sym A6), .int .u64 (.sym A7)]] } : St DC).apps p.2.2).heap[0]?)) = some ([], .val (.bool (.sym (sameF S0 S1 S2 S3 S4 S5 S6 S7 x0 x1 x2 x3 x4 x5 x6 x7 A0 A1 A2 A3 A4 A5 A6 A7 y0 y1 y2 y3 y4 y5 y6 y7))), some (.cells 54 [.bool (.sym S0), .bool (.sym S1), .bool (.sym S2), .bool (.sym S3), .bool (.sym S4), .bool (.sym S5), .bool (.sym S6), .bool (.sym S7), .int .u64 (.sym A0), .int .u64 (.sym A1), .int .u64 (.sym A2), .int .u64 (.sym A3), .int .u64 (.sym A4), .int .u64 (.sym A5), .int .u64 (.sym A6), .int .u64 (.sym A7)])) := by kernel_rfl

noncomputable def g38 (args : List (AV DC)) (h : List (AO DC)) : Option (T DC (AV DC × List (W DC))) := match args with
  | [.ptr b (.lit 0)] => match h[b]? with
    | some (.cells 88 [.int .u64 a0, .bool s0, .int .u64 a1, .bool s1, .int .u64 a2, .bool s2, .int .u64 a3, .bool s3, .int .u64 a4, .bool s4, .int .u64 a5, .bool s5, .int .u64 a6, .bool s6, .int .u64 a7, .bool s7]) => some (.ret (.tuple [.agg [.bool (.sym (!(!s0.den))), .bool (.sym (!(!s1.den))), .bool (.sym (!(!s2.den))), .bool (.sym (!(!s3.den))), .bool (.sym (!(!s4.den))), .bool (.sym (!(!s5.den))), .bool (.sym (!(!s6.den))), .bool (.sym (!(!s7.den)))], .agg [.int .u64 (.sym (cond (!s0.den) 0 a0.den)), .int .u64 (.sym (cond (!s1.den) 0 a1.den)), .int .u64 (.sym (cond (!s2.den) 0 a2.den)), .int .u64 (.sym (cond (!s3.den) 0 a3.den)), .int .u64 (.sym (cond (!s4.den) 0 a4.den)), .int .u64 (.sym (cond (!s5.den) 0 a5.den)), .int .u64 (.sym (cond (!s6.den) 0 a6.den)), .int .u64 (.sym (cond (!s7.den) 0 a7.den))]], []))
    | _ => none
  | _ => none
noncomputable def g39 (args : List (AV DC)) (h : List (AO DC)) : Option (T DC (AV DC × List (W DC))) := match args with
  | [.ptr b (.lit 0), .agg [.bool x0, .bool x1, .bool x2, .bool x3, .bool x4, .bool x5, .bool x6, .bool x7], .agg [.int .u64 y0, .int .u64 y1, .int .u64 y2, .int .u64 y3, .int .u64 y4, .int .u64 y5, .int .u64 y6, .int .u64 y7]] => match h[b]? with
    | some (.cells 54 [.bool S0, .bool S1, .bool S2, .bool S3, .bool S4, .bool S5, .bool S6, .bool S7, .int .u64 A0, .int .u64 A1, .int .u64 A2, .int .u64 A3, .int .u64 A4, .int .u64 A5, .int .u64 A6, .int .u64 A7]) => some (.ret (.bool (.sym (sameF S0.den S1.den S2.den S3.den S4.den S5.den S6.den S7.den x0.den x1.den x2.den x3.den x4.den x5.den x6.den x7.den A0.den A1.den A2.den A3.den A4.den A5.den A6.den A7.den y0.den y1.den y2.den y3.den y4.den y5.den y6.den y7.den)), []))
    | _ => none
  | _ => none
noncomputable def cxs1 : Cx DC := cxs.sum 38 g38
theorem cxs1_ok : Ok Try.prog cxs1 := cxs_ok.sum (by kernel_rfl) fun args h t r ht hp => by
  unfold g38 at ht
  split at ht
  · rename_i b
    split at ht
    · rename_i a0 s0 a1 s1 a2 s2 a3 s3 a4 s4 a5 s5 a6 s6 a7 s7 hb
      cases ht
      have := T.ret_some hp
      subst this
      exact reads2 cxs_ok (rest := []) (rest' := []) (all1 a0.den a1.den a2.den a3.den a4.den a5.den a6.den a7.den s0.den s1.den s2.den s3.den s4.den s5.den s6.den s7.den) hb (fun σ => ⟨⟨rfl, rfl⟩, rfl, ⟨rfl, rfl⟩, rfl, ⟨rfl, rfl⟩, rfl, ⟨rfl, rfl⟩, rfl, ⟨rfl, rfl⟩, rfl, ⟨rfl, rfl⟩, rfl, ⟨rfl, rfl⟩, rfl, ⟨rfl, rfl⟩, rfl, trivial⟩) (fun σ => ⟨⟨rfl, rfl⟩, rfl, ⟨rfl, rfl⟩, rfl, ⟨rfl, rfl⟩, rfl, ⟨rfl, rfl⟩, rfl, ⟨rfl, rfl⟩, rfl, ⟨rfl, rfl⟩, rfl, ⟨rfl, rfl⟩, rfl, ⟨rfl, rfl⟩, rfl, trivial⟩) trivial fun σ => ⟨⟨rfl, rfl, rfl, rfl, rfl, rfl, rfl, rfl, trivial⟩, ⟨⟨rfl, rfl⟩, ⟨rfl, rfl⟩, ⟨rfl, rfl⟩, ⟨rfl, rfl⟩, ⟨rfl, rfl⟩, ⟨rfl, rfl⟩, ⟨rfl, rfl⟩, ⟨rfl, rfl⟩, trivial⟩, trivial⟩
    · cases ht
  · cases ht
noncomputable def cxs2 : Cx DC := cxs1.sum 39 g39
theorem cxs2_ok : Ok Try.prog cxs2 := cxs1_ok.sum (by kernel_rfl) fun args h t r ht hp => by
  unfold g39 at ht
  split at ht
  · rename_i b x0 x1 x2 x3 x4 x5 x6 x7 y0 y1 y2 y3 y4 y5 y6 y7
    split at ht
    · rename_i S0 S1 S2 S3 S4 S5 S6 S7 A0 A1 A2 A3 A4 A5 A6 A7 hb
      cases ht
      have := T.ret_some hp
      subst this
      exact reads2 cxs_ok (same1 S0.den S1.den S2.den S3.den S4.den S5.den S6.den S7.den x0.den x1.den x2.den x3.den x4.den x5.den x6.den x7.den A0.den A1.den A2.den A3.den A4.den A5.den A6.den A7.den y0.den y1.den y2.den y3.den y4.den y5.den y6.den y7.den) hb (fun σ => ⟨rfl, rfl, rfl, rfl, rfl, rfl, rfl, rfl, ⟨rfl, rfl⟩, ⟨rfl, rfl⟩, ⟨rfl, rfl⟩, ⟨rfl, rfl⟩, ⟨rfl, rfl⟩, ⟨rfl, rfl⟩, ⟨rfl, rfl⟩, ⟨rfl, rfl⟩, trivial⟩) (fun σ => ⟨rfl, rfl, rfl, rfl, rfl, rfl, rfl, rfl, ⟨rfl, rfl⟩, ⟨rfl, rfl⟩, ⟨rfl, rfl⟩, ⟨rfl, rfl⟩, ⟨rfl, rfl⟩, ⟨rfl, rfl⟩, ⟨rfl, rfl⟩, ⟨rfl, rfl⟩, trivial⟩) ⟨⟨rfl, rfl, rfl, rfl, rfl, rfl, rfl, rfl, trivial⟩, ⟨⟨rfl, rfl⟩, ⟨rfl, rfl⟩, ⟨rfl, rfl⟩, ⟨rfl, rfl⟩, ⟨rfl, rfl⟩, ⟨rfl, rfl⟩, ⟨rfl, rfl⟩, ⟨rfl, rfl⟩, trivial⟩, trivial⟩ fun σ => rfl
    · cases ht
  · cases ht
end Go.Proofs.Ytgljicadcegilaa.Ev
