/- What the code and the reference tell of entries and faults, as summaries. Conditions: none. -/
import Derived.Test.YtngcbpcfgolifaaPteBits
namespace Go.Proofs.Ytngcbpcfgolifaa.Ev
open Go.RowKit
set_option linter.unusedVariables false
set_option linter.unusedSimpArgs false

theorem T.ask {α : Type} {x : Bool} {t : T DC α} {r : α} (h : (T.br (D := DC) x t .fail).pick = some r) : x = true ∧ t.pick = some r := by
  rcases T.br_some h with h | h
  · exact h
  · cases h.2

set_option maxRecDepth 100000 in
theorem rd92 (va : Int) : ((call Try.prog cxg 380 92 [.int .u64 (.sym va)] []).route []).map (fun p => (p.1, p.2.1)) = some ([], .val (.bool (.sym (canS va)))) := by kernel_rfl
noncomputable def g92 (args : List (AV DC)) (h : List (AO DC)) : Option (T DC (AV DC × List (W DC))) := match args with
  | [.int .u64 va] => some (.ret (.bool (.sym (canS va.den)), []))
  | _ => none
noncomputable def cxp92 : Cx DC := cxg.sum 92 g92
theorem cxp92_ok : Ok Try.prog cxp92 := cxg_ok.sum (by kernel_rfl) fun args h t r ht hp => by
  unfold g92 at ht
  split at ht
  · rename_i va
    cases ht
    have := T.ret_some hp
    subst this
    obtain ⟨l, hl⟩ := road_at (rd92 va.den) (rfl)
    exact pureV cxg_ok hl ⟨⟨rfl, rfl⟩, trivial⟩ fun σ => rfl
  · cases ht
set_option maxRecDepth 100000 in
theorem rd98 (va : Int) : ((call Try.prog cxg 380 98 [.int .u64 (.sym va)] []).route []).map (fun p => (p.1, p.2.1)) = some ([], .val (.bool (.sym (canR va)))) := by kernel_rfl
noncomputable def g98 (args : List (AV DC)) (h : List (AO DC)) : Option (T DC (AV DC × List (W DC))) := match args with
  | [.int .u64 va] => some (.br (yes (inU va.den)) (.ret (.bool (.sym (canS va.den)), [])) .fail)
  | _ => none
noncomputable def cxp98 : Cx DC := cxp92.sum 98 g98
theorem cxp98_ok : Ok Try.prog cxp98 := cxp92_ok.sum (by kernel_rfl) fun args h t r ht hp => by
  unfold g98 at ht
  split at ht
  · rename_i va
    cases ht
    obtain ⟨ha, hp⟩ := T.ask hp
    have ha := of_yes ha
    have := T.ret_some hp
    subst this
    obtain ⟨l, hl⟩ := road_at (rd98 va.den) (rfl)
    exact pureV cxg_ok hl ⟨⟨rfl, rfl⟩, trivial⟩ fun σ => can_eq ha
  · cases ht
set_option maxRecDepth 100000 in
theorem rd56 (va : Int) (lv : Int) : ((call Try.prog cxg 380 56 [.int .u64 (.sym va), .int .i64 (.sym lv)] []).route [true]).map (fun p => (p.1, p.2.1)) = some ([vpnG lv], .val (.int .u64 (.sym (vpnS va lv)))) := by kernel_rfl
noncomputable def g56 (args : List (AV DC)) (h : List (AO DC)) : Option (T DC (AV DC × List (W DC))) := match args with
  | [.int .u64 va, .int .i64 lv] => some (.ret (.int .u64 (.sym (vpnS va.den lv.den)), []))
  | _ => none
noncomputable def cxp56 : Cx DC := cxp98.sum 56 g56
theorem cxp56_ok : Ok Try.prog cxp56 := cxp98_ok.sum (by kernel_rfl) fun args h t r ht hp => by
  unfold g56 at ht
  split at ht
  · rename_i va lv
    cases ht
    have := T.ret_some hp
    subst this
    obtain ⟨l, hl⟩ := road_at (rd56 va.den lv.den) (by rw [vpnG_t])
    exact pureV cxg_ok hl ⟨⟨rfl, rfl⟩, ⟨rfl, rfl⟩, trivial⟩ fun σ => ⟨rfl, rfl⟩
  · cases ht
set_option maxRecDepth 100000 in
theorem rd99 (va : Int) (lv : Int) : ((call Try.prog cxg 380 99 [.int .u64 (.sym va), .int .i64 (.sym lv)] []).route [true]).map (fun p => (p.1, p.2.1)) = some ([vpnG lv], .val (.int .u64 (.sym (vpnR va lv)))) := by kernel_rfl
noncomputable def g99 (args : List (AV DC)) (h : List (AO DC)) : Option (T DC (AV DC × List (W DC))) := match args with
  | [.int .u64 va, .int .i64 lv] => some (.br (yes (inU va.den)) (.ret (.int .u64 (.sym (vpnS va.den lv.den)), [])) .fail)
  | _ => none
noncomputable def cxp99 : Cx DC := cxp56.sum 99 g99
theorem cxp99_ok : Ok Try.prog cxp99 := cxp56_ok.sum (by kernel_rfl) fun args h t r ht hp => by
  unfold g99 at ht
  split at ht
  · rename_i va lv
    cases ht
    obtain ⟨ha, hp⟩ := T.ask hp
    have ha := of_yes ha
    have := T.ret_some hp
    subst this
    obtain ⟨l, hl⟩ := road_at (rd99 va.den lv.den) (by rw [vpnG_t])
    exact pureV cxg_ok hl ⟨⟨rfl, rfl⟩, ⟨rfl, rfl⟩, trivial⟩ fun σ => ⟨rfl, vpn_eq ha⟩
  · cases ht
set_option maxRecDepth 100000 in
theorem rd93 (e : Int) : ((call Try.prog cxg 380 93 [.int .u64 (.sym e)] []).route []).map (fun p => (p.1, p.2.1)) = some ([], .val (.bool (.sym (leafS e)))) := by kernel_rfl
noncomputable def g93 (args : List (AV DC)) (h : List (AO DC)) : Option (T DC (AV DC × List (W DC))) := match args with
  | [.int .u64 e] => some (.ret (.bool (.sym (leafS e.den)), []))
  | _ => none
noncomputable def cxp93 : Cx DC := cxp99.sum 93 g93
theorem cxp93_ok : Ok Try.prog cxp93 := cxp99_ok.sum (by kernel_rfl) fun args h t r ht hp => by
  unfold g93 at ht
  split at ht
  · rename_i e
    cases ht
    have := T.ret_some hp
    subst this
    obtain ⟨l, hl⟩ := road_at (rd93 e.den) (rfl)
    exact pureV cxg_ok hl ⟨⟨rfl, rfl⟩, trivial⟩ fun σ => rfl
  · cases ht
set_option maxRecDepth 100000 in
theorem rd100 (e : Int) : ((call Try.prog cxg 380 100 [.int .u64 (.sym e)] []).route []).map (fun p => (p.1, p.2.1)) = some ([], .val (.bool (.sym (leafR e)))) := by kernel_rfl
noncomputable def g100 (args : List (AV DC)) (h : List (AO DC)) : Option (T DC (AV DC × List (W DC))) := match args with
  | [.int .u64 e] => some (.br (yes (inU e.den)) (.ret (.bool (.sym (leafS e.den)), [])) .fail)
  | _ => none
noncomputable def cxp100 : Cx DC := cxp93.sum 100 g100
theorem cxp100_ok : Ok Try.prog cxp100 := cxp93_ok.sum (by kernel_rfl) fun args h t r ht hp => by
  unfold g100 at ht
  split at ht
  · rename_i e
    cases ht
    obtain ⟨ha, hp⟩ := T.ask hp
    have ha := of_yes ha
    have := T.ret_some hp
    subst this
    obtain ⟨l, hl⟩ := road_at (rd100 e.den) (rfl)
    exact pureV cxg_ok hl ⟨⟨rfl, rfl⟩, trivial⟩ fun σ => leaf_eq ha
  · cases ht
set_option maxRecDepth 100000 in
theorem rd96 (e : Int) : ((call Try.prog cxg 380 96 [.int .u64 (.sym e)] []).route []).map (fun p => (p.1, p.2.1)) = some ([], .val (.bool (.sym (tabS e)))) := by kernel_rfl
noncomputable def g96 (args : List (AV DC)) (h : List (AO DC)) : Option (T DC (AV DC × List (W DC))) := match args with
  | [.int .u64 e] => some (.ret (.bool (.sym (tabS e.den)), []))
  | _ => none
noncomputable def cxp96 : Cx DC := cxp100.sum 96 g96
theorem cxp96_ok : Ok Try.prog cxp96 := cxp100_ok.sum (by kernel_rfl) fun args h t r ht hp => by
  unfold g96 at ht
  split at ht
  · rename_i e
    cases ht
    have := T.ret_some hp
    subst this
    obtain ⟨l, hl⟩ := road_at (rd96 e.den) (rfl)
    exact pureV cxg_ok hl ⟨⟨rfl, rfl⟩, trivial⟩ fun σ => rfl
  · cases ht
set_option maxRecDepth 100000 in
theorem rd59 (e : Int) : ((call Try.prog cxg 380 59 [.int .u64 (.sym e)] []).route []).map (fun p => (p.1, p.2.1)) = some ([], .val (.bool (.sym (tabR e)))) := by kernel_rfl
noncomputable def g59 (args : List (AV DC)) (h : List (AO DC)) : Option (T DC (AV DC × List (W DC))) := match args with
  | [.int .u64 e] => some (.br (yes (inU e.den)) (.ret (.bool (.sym (tabS e.den)), [])) .fail)
  | _ => none
noncomputable def cxp59 : Cx DC := cxp96.sum 59 g59
theorem cxp59_ok : Ok Try.prog cxp59 := cxp96_ok.sum (by kernel_rfl) fun args h t r ht hp => by
  unfold g59 at ht
  split at ht
  · rename_i e
    cases ht
    obtain ⟨ha, hp⟩ := T.ask hp
    have ha := of_yes ha
    have := T.ret_some hp
    subst this
    obtain ⟨l, hl⟩ := road_at (rd59 e.den) (rfl)
    exact pureV cxg_ok hl ⟨⟨rfl, rfl⟩, trivial⟩ fun σ => tab_eq ha
  · cases ht
set_option maxRecDepth 100000 in
theorem rd97 (e : Int) : ((call Try.prog cxg 380 97 [.int .u64 (.sym e)] []).route []).map (fun p => (p.1, p.2.1)) = some ([], .val (.int .u64 (.sym (pagS e)))) := by kernel_rfl
noncomputable def g97 (args : List (AV DC)) (h : List (AO DC)) : Option (T DC (AV DC × List (W DC))) := match args with
  | [.int .u64 e] => some (.ret (.int .u64 (.sym (pagS e.den)), []))
  | _ => none
noncomputable def cxp97 : Cx DC := cxp59.sum 97 g97
theorem cxp97_ok : Ok Try.prog cxp97 := cxp59_ok.sum (by kernel_rfl) fun args h t r ht hp => by
  unfold g97 at ht
  split at ht
  · rename_i e
    cases ht
    have := T.ret_some hp
    subst this
    obtain ⟨l, hl⟩ := road_at (rd97 e.den) (rfl)
    exact pureV cxg_ok hl ⟨⟨rfl, rfl⟩, trivial⟩ fun σ => ⟨rfl, rfl⟩
  · cases ht
set_option maxRecDepth 100000 in
theorem rd60 (e : Int) : ((call Try.prog cxg 380 60 [.int .u64 (.sym e)] []).route []).map (fun p => (p.1, p.2.1)) = some ([], .val (.int .u64 (.sym (pagR e)))) := by kernel_rfl
noncomputable def g60 (args : List (AV DC)) (h : List (AO DC)) : Option (T DC (AV DC × List (W DC))) := match args with
  | [.int .u64 e] => some (.br (yes (inU e.den)) (.ret (.int .u64 (.sym (pagS e.den)), [])) .fail)
  | _ => none
noncomputable def cxp60 : Cx DC := cxp97.sum 60 g60
theorem cxp60_ok : Ok Try.prog cxp60 := cxp97_ok.sum (by kernel_rfl) fun args h t r ht hp => by
  unfold g60 at ht
  split at ht
  · rename_i e
    cases ht
    obtain ⟨ha, hp⟩ := T.ask hp
    have ha := of_yes ha
    have := T.ret_some hp
    subst this
    obtain ⟨l, hl⟩ := road_at (rd60 e.den) (rfl)
    exact pureV cxg_ok hl ⟨⟨rfl, rfl⟩, trivial⟩ fun σ => ⟨rfl, pag_eq ha⟩
  · cases ht
set_option maxRecDepth 100000 in
theorem rd94 (e : Int) (lv : Int) : ((call Try.prog cxg 380 94 [.int .u64 (.sym e), .int .i64 (.sym lv)] []).route [true]).map (fun p => (p.1, p.2.1)) = some ([aliG lv], .val (.bool (.sym (aliS e lv)))) := by kernel_rfl
noncomputable def g94 (args : List (AV DC)) (h : List (AO DC)) : Option (T DC (AV DC × List (W DC))) := match args with
  | [.int .u64 e, .int .i64 lv] => some (.ret (.bool (.sym (aliS e.den lv.den)), []))
  | _ => none
noncomputable def cxp94 : Cx DC := cxp60.sum 94 g94
theorem cxp94_ok : Ok Try.prog cxp94 := cxp60_ok.sum (by kernel_rfl) fun args h t r ht hp => by
  unfold g94 at ht
  split at ht
  · rename_i e lv
    cases ht
    have := T.ret_some hp
    subst this
    obtain ⟨l, hl⟩ := road_at (rd94 e.den lv.den) (by rw [aliG_t])
    exact pureV cxg_ok hl ⟨⟨rfl, rfl⟩, ⟨rfl, rfl⟩, trivial⟩ fun σ => rfl
  · cases ht
set_option maxRecDepth 100000 in
theorem rd101 (e : Int) (lv : Int) : ((call Try.prog cxg 380 101 [.int .u64 (.sym e), .int .i64 (.sym lv)] []).route [true]).map (fun p => (p.1, p.2.1)) = some ([aliH lv], .val (.bool (.sym (aliR e lv)))) := by kernel_rfl
noncomputable def g101 (args : List (AV DC)) (h : List (AO DC)) : Option (T DC (AV DC × List (W DC))) := match args with
  | [.int .u64 e, .int .i64 lv] => some (.br (yes (inU e.den)) (.ret (.bool (.sym (aliS e.den lv.den)), [])) .fail)
  | _ => none
noncomputable def cxp101 : Cx DC := cxp94.sum 101 g101
theorem cxp101_ok : Ok Try.prog cxp101 := cxp94_ok.sum (by kernel_rfl) fun args h t r ht hp => by
  unfold g101 at ht
  split at ht
  · rename_i e lv
    cases ht
    obtain ⟨ha, hp⟩ := T.ask hp
    have ha := of_yes ha
    have := T.ret_some hp
    subst this
    obtain ⟨l, hl⟩ := road_at (rd101 e.den lv.den) (by rw [aliH_t])
    exact pureV cxg_ok hl ⟨⟨rfl, rfl⟩, ⟨rfl, rfl⟩, trivial⟩ fun σ => ali_eq ha
  · cases ht
set_option maxRecDepth 100000 in
theorem rd95 (e : Int) (k : Int) (pr : Int) (st : Int) : ((call Try.prog cxg 380 95 [.int .u64 (.sym e), .int .i64 (.sym k), .int .i64 (.sym pr), .int .u64 (.sym st)] []).route []).map (fun p => (p.1, p.2.1)) = some ([], .val (.bool (.sym (mayS e k pr st)))) := by kernel_rfl
noncomputable def g95 (args : List (AV DC)) (h : List (AO DC)) : Option (T DC (AV DC × List (W DC))) := match args with
  | [.int .u64 e, .int .i64 k, .int .i64 pr, .int .u64 st] => some (.ret (.bool (.sym (mayS e.den k.den pr.den st.den)), []))
  | _ => none
noncomputable def cxp95 : Cx DC := cxp101.sum 95 g95
theorem cxp95_ok : Ok Try.prog cxp95 := cxp101_ok.sum (by kernel_rfl) fun args h t r ht hp => by
  unfold g95 at ht
  split at ht
  · rename_i e k pr st
    cases ht
    have := T.ret_some hp
    subst this
    obtain ⟨l, hl⟩ := road_at (rd95 e.den k.den pr.den st.den) (rfl)
    exact pureV cxg_ok hl ⟨⟨rfl, rfl⟩, ⟨rfl, rfl⟩, ⟨rfl, rfl⟩, ⟨rfl, rfl⟩, trivial⟩ fun σ => rfl
  · cases ht
set_option maxRecDepth 100000 in
theorem rd58 (e : Int) (k : Int) (pr : Int) (st : Int) : ((call Try.prog cxg 380 58 [.int .u64 (.sym e), .int .i64 (.sym k), .int .i64 (.sym pr), .int .u64 (.sym st)] []).route []).map (fun p => (p.1, p.2.1)) = some ([], .val (.bool (.sym (mayR e k pr st)))) := by kernel_rfl
noncomputable def g58 (args : List (AV DC)) (h : List (AO DC)) : Option (T DC (AV DC × List (W DC))) := match args with
  | [.int .u64 e, .int .i64 k, .int .i64 pr, .int .u64 st] => some (.br (yes (inU e.den ∧ inU st.den)) (.ret (.bool (.sym (mayS e.den k.den pr.den st.den)), [])) .fail)
  | _ => none
noncomputable def cxp58 : Cx DC := cxp95.sum 58 g58
theorem cxp58_ok : Ok Try.prog cxp58 := cxp95_ok.sum (by kernel_rfl) fun args h t r ht hp => by
  unfold g58 at ht
  split at ht
  · rename_i e k pr st
    cases ht
    obtain ⟨ha, hp⟩ := T.ask hp
    have ha := of_yes ha
    have := T.ret_some hp
    subst this
    obtain ⟨l, hl⟩ := road_at (rd58 e.den k.den pr.den st.den) (rfl)
    exact pureV cxg_ok hl ⟨⟨rfl, rfl⟩, ⟨rfl, rfl⟩, ⟨rfl, rfl⟩, ⟨rfl, rfl⟩, trivial⟩ fun σ => may_eq ha.1 ha.2
  · cases ht
set_option maxRecDepth 100000 in
theorem rd102 (e : Int) (va : Int) (lv : Int) : ((call Try.prog cxg 380 102 [.int .u64 (.sym e), .int .u64 (.sym va), .int .i64 (.sym lv)] []).route [true]).map (fun p => (p.1, p.2.1)) = some ([vpnG lv], .val (.int .u64 (.sym (atS e va lv)))) := by kernel_rfl
noncomputable def g102 (args : List (AV DC)) (h : List (AO DC)) : Option (T DC (AV DC × List (W DC))) := match args with
  | [.int .u64 e, .int .u64 va, .int .i64 lv] => some (.ret (.int .u64 (.sym (atS e.den va.den lv.den)), []))
  | _ => none
noncomputable def cxp102 : Cx DC := cxp58.sum 102 g102
theorem cxp102_ok : Ok Try.prog cxp102 := cxp58_ok.sum (by kernel_rfl) fun args h t r ht hp => by
  unfold g102 at ht
  split at ht
  · rename_i e va lv
    cases ht
    have := T.ret_some hp
    subst this
    obtain ⟨l, hl⟩ := road_at (rd102 e.den va.den lv.den) (by rw [vpnG_t])
    exact pureV cxg_ok hl ⟨⟨rfl, rfl⟩, ⟨rfl, rfl⟩, ⟨rfl, rfl⟩, trivial⟩ fun σ => ⟨rfl, rfl⟩
  · cases ht
set_option maxRecDepth 100000 in
theorem rd103 (e : Int) (va : Int) (lv : Int) : ((call Try.prog cxg 380 103 [.int .u64 (.sym e), .int .u64 (.sym va), .int .i64 (.sym lv)] []).route [true]).map (fun p => (p.1, p.2.1)) = some ([atH lv], .val (.int .u64 (.sym (atR e va lv)))) := by kernel_rfl
noncomputable def g103 (args : List (AV DC)) (h : List (AO DC)) : Option (T DC (AV DC × List (W DC))) := match args with
  | [.int .u64 e, .int .u64 va, .int .i64 lv] => some (.br (yes (inU e.den ∧ inU va.den)) (.ret (.int .u64 (.sym (atS e.den va.den lv.den)), [])) .fail)
  | _ => none
noncomputable def cxp103 : Cx DC := cxp102.sum 103 g103
theorem cxp103_ok : Ok Try.prog cxp103 := cxp102_ok.sum (by kernel_rfl) fun args h t r ht hp => by
  unfold g103 at ht
  split at ht
  · rename_i e va lv
    cases ht
    obtain ⟨ha, hp⟩ := T.ask hp
    have ha := of_yes ha
    have := T.ret_some hp
    subst this
    obtain ⟨l, hl⟩ := road_at (rd103 e.den va.den lv.den) (by rw [atH_t])
    exact pureV cxg_ok hl ⟨⟨rfl, rfl⟩, ⟨rfl, rfl⟩, ⟨rfl, rfl⟩, trivial⟩ fun σ => ⟨rfl, at_eq ha.1 ha.2⟩
  · cases ht
set_option maxRecDepth 100000 in
theorem rd50 (k : Int) (va : Int) : ((call Try.prog cxg 380 50 [.int .i64 (.sym k), .int .u64 (.sym va)] []).route []).map (fun p => (p.1, p.2.1)) = some ([], .val (.agg [.bool (.lit true), .int .i64 (.sym (cauS k 12 15 13)), .int .u64 (.sym va)])) := by kernel_rfl
noncomputable def g50 (args : List (AV DC)) (h : List (AO DC)) : Option (T DC (AV DC × List (W DC))) := match args with
  | [.int .i64 k, .int .u64 va] => some (.ret (.agg [.bool (.lit true), .int .i64 (.sym (cauS k.den 12 15 13)), .int .u64 (.sym va.den)], []))
  | _ => none
noncomputable def cxp50 : Cx DC := cxp103.sum 50 g50
theorem cxp50_ok : Ok Try.prog cxp50 := cxp103_ok.sum (by kernel_rfl) fun args h t r ht hp => by
  unfold g50 at ht
  split at ht
  · rename_i k va
    cases ht
    have := T.ret_some hp
    subst this
    obtain ⟨l, hl⟩ := road_at (rd50 k.den va.den) (rfl)
    exact pureV cxg_ok hl ⟨⟨rfl, rfl⟩, ⟨rfl, rfl⟩, trivial⟩ fun σ => ⟨rfl, ⟨rfl, rfl⟩, ⟨rfl, rfl⟩, trivial⟩
  · cases ht
set_option maxRecDepth 100000 in
theorem rd51 (k : Int) (va : Int) : ((call Try.prog cxg 380 51 [.int .i64 (.sym k), .int .u64 (.sym va)] []).route []).map (fun p => (p.1, p.2.1)) = some ([], .val (.agg [.bool (.lit true), .int .i64 (.sym (cauR k 12 15 13)), .int .u64 (.sym va)])) := by kernel_rfl
noncomputable def g51 (args : List (AV DC)) (h : List (AO DC)) : Option (T DC (AV DC × List (W DC))) := match args with
  | [.int .i64 k, .int .u64 va] => some (.ret (.agg [.bool (.lit true), .int .i64 (.sym (cauS k.den 12 15 13)), .int .u64 (.sym va.den)], []))
  | _ => none
noncomputable def cxp51 : Cx DC := cxp50.sum 51 g51
theorem cxp51_ok : Ok Try.prog cxp51 := cxp50_ok.sum (by kernel_rfl) fun args h t r ht hp => by
  unfold g51 at ht
  split at ht
  · rename_i k va
    cases ht
    have := T.ret_some hp
    subst this
    obtain ⟨l, hl⟩ := road_at (rd51 k.den va.den) (rfl)
    exact pureV cxg_ok hl ⟨⟨rfl, rfl⟩, ⟨rfl, rfl⟩, trivial⟩ fun σ => ⟨rfl, ⟨rfl, cau_eq k.den 12 15 13⟩, ⟨rfl, rfl⟩, trivial⟩
  · cases ht
set_option maxRecDepth 100000 in
theorem rd52 (k : Int) (va : Int) : ((call Try.prog cxg 380 52 [.int .i64 (.sym k), .int .u64 (.sym va)] []).route []).map (fun p => (p.1, p.2.1)) = some ([], .val (.agg [.bool (.lit true), .int .i64 (.sym (cauS k 1 7 5)), .int .u64 (.sym va)])) := by kernel_rfl
noncomputable def g52 (args : List (AV DC)) (h : List (AO DC)) : Option (T DC (AV DC × List (W DC))) := match args with
  | [.int .i64 k, .int .u64 va] => some (.ret (.agg [.bool (.lit true), .int .i64 (.sym (cauS k.den 1 7 5)), .int .u64 (.sym va.den)], []))
  | _ => none
noncomputable def cxp52 : Cx DC := cxp51.sum 52 g52
theorem cxp52_ok : Ok Try.prog cxp52 := cxp51_ok.sum (by kernel_rfl) fun args h t r ht hp => by
  unfold g52 at ht
  split at ht
  · rename_i k va
    cases ht
    have := T.ret_some hp
    subst this
    obtain ⟨l, hl⟩ := road_at (rd52 k.den va.den) (rfl)
    exact pureV cxg_ok hl ⟨⟨rfl, rfl⟩, ⟨rfl, rfl⟩, trivial⟩ fun σ => ⟨rfl, ⟨rfl, rfl⟩, ⟨rfl, rfl⟩, trivial⟩
  · cases ht
set_option maxRecDepth 100000 in
theorem rd53 (k : Int) (va : Int) : ((call Try.prog cxg 380 53 [.int .i64 (.sym k), .int .u64 (.sym va)] []).route []).map (fun p => (p.1, p.2.1)) = some ([], .val (.agg [.bool (.lit true), .int .i64 (.sym (cauR k 1 7 5)), .int .u64 (.sym va)])) := by kernel_rfl
noncomputable def g53 (args : List (AV DC)) (h : List (AO DC)) : Option (T DC (AV DC × List (W DC))) := match args with
  | [.int .i64 k, .int .u64 va] => some (.ret (.agg [.bool (.lit true), .int .i64 (.sym (cauS k.den 1 7 5)), .int .u64 (.sym va.den)], []))
  | _ => none
noncomputable def cxp53 : Cx DC := cxp52.sum 53 g53
theorem cxp53_ok : Ok Try.prog cxp53 := cxp52_ok.sum (by kernel_rfl) fun args h t r ht hp => by
  unfold g53 at ht
  split at ht
  · rename_i k va
    cases ht
    have := T.ret_some hp
    subst this
    obtain ⟨l, hl⟩ := road_at (rd53 k.den va.den) (rfl)
    exact pureV cxg_ok hl ⟨⟨rfl, rfl⟩, ⟨rfl, rfl⟩, trivial⟩ fun σ => ⟨rfl, ⟨rfl, cau_eq k.den 1 7 5⟩, ⟨rfl, rfl⟩, trivial⟩
  · cases ht
/-- All of them. -/
noncomputable def cxe : Cx DC := cxp53
theorem cxe_ok : Ok Try.prog cxe := cxp53_ok
end Go.Proofs.Ytngcbpcfgolifaa.Ev
