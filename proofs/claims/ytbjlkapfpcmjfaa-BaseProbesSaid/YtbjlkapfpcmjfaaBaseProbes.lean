/- The statement 'BaseProbes': each extension that there is is told as there, once, and no other one; and unlike errors have unlike names. Conditions: none. -/
import Derived.Test.YtbjlkapfpcmjfaaBaseSums
namespace Go.Proofs.Ytbjlkapfpcmjfaa.BaseProbes
open Go.RowKit Go.WideShapes Go.ChangeShapes Go.ChangeAt Ev BaseSums
set_option linter.unusedVariables false
set_option linter.unusedSimpArgs false

def nameSym (args : List (AV DC)) (h : List (AO DC)) : Option (T DC (AV DC × List (W DC))) := match args with
  | [.int .i64 (.sym n)] => nameS [.int .i64 (.sym n)] h
  | _ => none
noncomputable def cxs : Cx DC := cx3.sum 42 nameSym
theorem cxs_ok : Ok Try.prog cxs := cx3_ok.sum (by kernel_rfl) fun args h t r ht hp => by
  unfold nameSym at ht
  split at ht
  · exact nameS_ok _ h t r ht hp
  · cases ht
theorem known_ok (args : List (AV DC)) (h : List (AO DC)) (t : T DC (AV DC × List (W DC))) (r : AV DC × List (W DC)) (ht : g40 args h = some t) (hp : t.pick = some r) : FnOk Try.prog 40 args h r := by
  unfold g40 at ht
  split at ht
  · rename_i x
    cases ht
    have := T.ret_some hp
    subst this
    obtain ⟨l, hl⟩ := road_at (known1 x.den) rfl
    exact pure_okV cx3_ok hl ⟨⟨rfl, rfl⟩, trivial⟩ fun σ => rfl
  · cases ht
theorem call_ok (args : List (AV DC)) (h : List (AO DC)) (t : T DC (AV DC × List (W DC))) (r : AV DC × List (W DC)) (ht : g34 args h = some t) (hp : t.pick = some r) : FnOk Try.prog 34 args h r := by
  unfold g34 at ht
  split at ht
  · rename_i x
    cases ht
    have := T.ret_some hp
    subst this
    obtain ⟨l, hl⟩ := road_at (call1 x.den) rfl
    exact pure_okV cx3_ok hl ⟨⟨rfl, rfl⟩, ⟨rfl, rfl⟩, trivial⟩ fun σ => ⟨⟨rfl, rfl⟩, ⟨rfl, rfl⟩, trivial⟩
  · cases ht
noncomputable def cxa1 : Cx DC := cxs.sum 40 g40
noncomputable def cxa : Cx DC := cxa1.sum 34 g34
noncomputable def cxb1 : Cx DC := cx3.sum 40 g40
noncomputable def cxb : Cx DC := cxb1.sum 34 g34
theorem cxa1_ok : Ok Try.prog cxa1 := cxs_ok.sum (by kernel_rfl) known_ok
theorem cxa_ok : Ok Try.prog cxa := cxa1_ok.sum (by kernel_rfl) call_ok
theorem cxb1_ok : Ok Try.prog cxb1 := cx3_ok.sum (by kernel_rfl) known_ok
theorem cxb_ok : Ok Try.prog cxb := cxb1_ok.sum (by kernel_rfl) call_ok
def tms0 (e : Int) : Int := cond (litCmp .eql 16 e) 1 0
def tms1 (e : Int) : Int := cond (litCmp .eql 1414090053 e) (litBin .add .i64 (tms0 e) 1) (tms0 e)
def tms2 (e : Int) : Int := cond (litCmp .eql 7557193 e) (litBin .add .i64 (tms1 e) 1) (tms1 e)
def tms3 (e : Int) : Int := cond (litCmp .eql 1380339267 e) (litBin .add .i64 (tms2 e) 1) (tms2 e)
def tms4 (e : Int) : Int := cond (litCmp .eql 4739917 e) (litBin .add .i64 (tms3 e) 1) (tms3 e)
def tms5 (e : Int) : Int := cond (litCmp .eql 1397904212 e) (litBin .add .i64 (tms4 e) 1) (tms4 e)
def tms6 (e : Int) : Int := cond (litCmp .eql 1145193294 e) (litBin .add .i64 (tms5 e) 1) (tms5 e)
def tms7 (e : Int) : Int := cond (litCmp .eql 5262677 e) (litBin .add .i64 (tms6 e) 1) (tms6 e)
def val0 (e n : Int) : Bool := (cond (cond (litCmp .neq (cond (kn 16) 1 0) 1) true (!(kn 16))) false (cond (cond (litCmp .neq (cond (kn 1414090053) 1 0) 1) true (!(kn 1414090053))) false (cond (cond (litCmp .neq (cond (kn 7557193) 1 0) 1) true (!(kn 7557193))) false (cond (cond (litCmp .neq (cond (kn 1380339267) 1 0) 1) true (!(kn 1380339267))) false (cond (cond (litCmp .neq (cond (kn 4739917) 1 0) 1) true (!(kn 4739917))) false (cond (cond (litCmp .neq (cond (kn 1397904212) 1 0) 1) true (!(kn 1397904212))) false (cond (cond (litCmp .neq (cond (kn 1145193294) 1 0) 1) true (!(kn 1145193294))) false (cond (cond (litCmp .neq (cond (kn 5262677) 1 0) 1) true (!(kn 5262677))) false (cond (cond (litCmp .gtr n 0) true (litCmp .leq n (-9))) (cond (litCmp .eql (cond (kn 16) 1 0) 1) (cond (litCmp .eql (cond (kn e) 1 0) (IntKind.wrap .u64 (tms7 e))) (cond ((kn e) == (litCmp .eql (tms7 e) 1)) (false == (litCmp .eql 0 n)) false) false) false) (cond (litCmp .eql n 0) (cond (litCmp .eql (cond (kn 16) 1 0) 1) (cond (litCmp .eql (cond (kn e) 1 0) (IntKind.wrap .u64 (tms7 e))) (cond ((kn e) == (litCmp .eql (tms7 e) 1)) (true == (litCmp .eql 0 n)) false) false) false) (cond (litCmp .eql n (-1)) (cond (litCmp .eql (cond (kn 16) 1 0) 1) (cond (litCmp .eql (cond (kn e) 1 0) (IntKind.wrap .u64 (tms7 e))) (cond ((kn e) == (litCmp .eql (tms7 e) 1)) (false == (litCmp .eql 0 n)) false) false) false) (cond (litCmp .eql n (-2)) (cond (litCmp .eql (cond (kn 16) 1 0) 1) (cond (litCmp .eql (cond (kn e) 1 0) (IntKind.wrap .u64 (tms7 e))) (cond ((kn e) == (litCmp .eql (tms7 e) 1)) (false == (litCmp .eql 0 n)) false) false) false) (cond (litCmp .eql n (-3)) (cond (litCmp .eql (cond (kn 16) 1 0) 1) (cond (litCmp .eql (cond (kn e) 1 0) (IntKind.wrap .u64 (tms7 e))) (cond ((kn e) == (litCmp .eql (tms7 e) 1)) (false == (litCmp .eql 0 n)) false) false) false) (cond (litCmp .eql n (-4)) (cond (litCmp .eql (cond (kn 16) 1 0) 1) (cond (litCmp .eql (cond (kn e) 1 0) (IntKind.wrap .u64 (tms7 e))) (cond ((kn e) == (litCmp .eql (tms7 e) 1)) (false == (litCmp .eql 0 n)) false) false) false) (cond (litCmp .eql n (-5)) (cond (litCmp .eql (cond (kn 16) 1 0) 1) (cond (litCmp .eql (cond (kn e) 1 0) (IntKind.wrap .u64 (tms7 e))) (cond ((kn e) == (litCmp .eql (tms7 e) 1)) (false == (litCmp .eql 0 n)) false) false) false) (cond (litCmp .eql n (-6)) (cond (litCmp .eql (cond (kn 16) 1 0) 1) (cond (litCmp .eql (cond (kn e) 1 0) (IntKind.wrap .u64 (tms7 e))) (cond ((kn e) == (litCmp .eql (tms7 e) 1)) (false == (litCmp .eql 0 n)) false) false) false) (cond (litCmp .eql n (-7)) (cond (litCmp .eql (cond (kn 16) 1 0) 1) (cond (litCmp .eql (cond (kn e) 1 0) (IntKind.wrap .u64 (tms7 e))) (cond ((kn e) == (litCmp .eql (tms7 e) 1)) (false == (litCmp .eql 0 n)) false) false) false) (cond (litCmp .eql (cond (kn 16) 1 0) 1) (cond (litCmp .eql (cond (kn e) 1 0) (IntKind.wrap .u64 (tms7 e))) (cond ((kn e) == (litCmp .eql (tms7 e) 1)) (false == (litCmp .eql 0 n)) false) false) false))))))))))))))))))
set_option maxRecDepth 100000 in
theorem road0 (e n : Int) : ((call Try.prog cxa 400 12 [.int .u64 (.sym e), .agg [.int .i64 (.lit 0), .int .i64 (.sym n)]] []).route []).map (fun p => (p.1, p.2.1)) = some ([], .val (.bool (.sym (val0 e n)))) := by kernel_rfl
def val1 (e n : Int) : Bool := (cond (cond (litCmp .neq (cond (kn 16) 1 0) 1) true (!(kn 16))) false (cond (cond (litCmp .neq (cond (kn 1414090053) 1 0) 1) true (!(kn 1414090053))) false (cond (cond (litCmp .neq (cond (kn 7557193) 1 0) 1) true (!(kn 7557193))) false (cond (cond (litCmp .neq (cond (kn 1380339267) 1 0) 1) true (!(kn 1380339267))) false (cond (cond (litCmp .neq (cond (kn 4739917) 1 0) 1) true (!(kn 4739917))) false (cond (cond (litCmp .neq (cond (kn 1397904212) 1 0) 1) true (!(kn 1397904212))) false (cond (cond (litCmp .neq (cond (kn 1145193294) 1 0) 1) true (!(kn 1145193294))) false (cond (cond (litCmp .neq (cond (kn 5262677) 1 0) 1) true (!(kn 5262677))) false (cond (cond (litCmp .gtr n 0) true (litCmp .leq n (-9))) (cond (litCmp .eql (cond (kn 16) 1 0) 1) (cond (litCmp .eql (cond (kn e) 1 0) (IntKind.wrap .u64 (tms7 e))) (cond ((kn e) == (litCmp .eql (tms7 e) 1)) (false == (litCmp .eql (-1) n)) false) false) false) (cond (litCmp .eql n 0) (cond (litCmp .eql (cond (kn 16) 1 0) 1) (cond (litCmp .eql (cond (kn e) 1 0) (IntKind.wrap .u64 (tms7 e))) (cond ((kn e) == (litCmp .eql (tms7 e) 1)) (false == (litCmp .eql (-1) n)) false) false) false) (cond (litCmp .eql n (-1)) (cond (litCmp .eql (cond (kn 16) 1 0) 1) (cond (litCmp .eql (cond (kn e) 1 0) (IntKind.wrap .u64 (tms7 e))) (cond ((kn e) == (litCmp .eql (tms7 e) 1)) (true == (litCmp .eql (-1) n)) false) false) false) (cond (litCmp .eql n (-2)) (cond (litCmp .eql (cond (kn 16) 1 0) 1) (cond (litCmp .eql (cond (kn e) 1 0) (IntKind.wrap .u64 (tms7 e))) (cond ((kn e) == (litCmp .eql (tms7 e) 1)) (false == (litCmp .eql (-1) n)) false) false) false) (cond (litCmp .eql n (-3)) (cond (litCmp .eql (cond (kn 16) 1 0) 1) (cond (litCmp .eql (cond (kn e) 1 0) (IntKind.wrap .u64 (tms7 e))) (cond ((kn e) == (litCmp .eql (tms7 e) 1)) (false == (litCmp .eql (-1) n)) false) false) false) (cond (litCmp .eql n (-4)) (cond (litCmp .eql (cond (kn 16) 1 0) 1) (cond (litCmp .eql (cond (kn e) 1 0) (IntKind.wrap .u64 (tms7 e))) (cond ((kn e) == (litCmp .eql (tms7 e) 1)) (false == (litCmp .eql (-1) n)) false) false) false) (cond (litCmp .eql n (-5)) (cond (litCmp .eql (cond (kn 16) 1 0) 1) (cond (litCmp .eql (cond (kn e) 1 0) (IntKind.wrap .u64 (tms7 e))) (cond ((kn e) == (litCmp .eql (tms7 e) 1)) (false == (litCmp .eql (-1) n)) false) false) false) (cond (litCmp .eql n (-6)) (cond (litCmp .eql (cond (kn 16) 1 0) 1) (cond (litCmp .eql (cond (kn e) 1 0) (IntKind.wrap .u64 (tms7 e))) (cond ((kn e) == (litCmp .eql (tms7 e) 1)) (false == (litCmp .eql (-1) n)) false) false) false) (cond (litCmp .eql n (-7)) (cond (litCmp .eql (cond (kn 16) 1 0) 1) (cond (litCmp .eql (cond (kn e) 1 0) (IntKind.wrap .u64 (tms7 e))) (cond ((kn e) == (litCmp .eql (tms7 e) 1)) (false == (litCmp .eql (-1) n)) false) false) false) (cond (litCmp .eql (cond (kn 16) 1 0) 1) (cond (litCmp .eql (cond (kn e) 1 0) (IntKind.wrap .u64 (tms7 e))) (cond ((kn e) == (litCmp .eql (tms7 e) 1)) (false == (litCmp .eql (-1) n)) false) false) false))))))))))))))))))
set_option maxRecDepth 100000 in
theorem road1 (e n : Int) : ((call Try.prog cxa 400 12 [.int .u64 (.sym e), .agg [.int .i64 (.lit (-1)), .int .i64 (.sym n)]] []).route []).map (fun p => (p.1, p.2.1)) = some ([], .val (.bool (.sym (val1 e n)))) := by kernel_rfl
def val2 (e n : Int) : Bool := (cond (cond (litCmp .neq (cond (kn 16) 1 0) 1) true (!(kn 16))) false (cond (cond (litCmp .neq (cond (kn 1414090053) 1 0) 1) true (!(kn 1414090053))) false (cond (cond (litCmp .neq (cond (kn 7557193) 1 0) 1) true (!(kn 7557193))) false (cond (cond (litCmp .neq (cond (kn 1380339267) 1 0) 1) true (!(kn 1380339267))) false (cond (cond (litCmp .neq (cond (kn 4739917) 1 0) 1) true (!(kn 4739917))) false (cond (cond (litCmp .neq (cond (kn 1397904212) 1 0) 1) true (!(kn 1397904212))) false (cond (cond (litCmp .neq (cond (kn 1145193294) 1 0) 1) true (!(kn 1145193294))) false (cond (cond (litCmp .neq (cond (kn 5262677) 1 0) 1) true (!(kn 5262677))) false (cond (cond (litCmp .gtr n 0) true (litCmp .leq n (-9))) (cond (litCmp .eql (cond (kn 16) 1 0) 1) (cond (litCmp .eql (cond (kn e) 1 0) (IntKind.wrap .u64 (tms7 e))) (cond ((kn e) == (litCmp .eql (tms7 e) 1)) (false == (litCmp .eql (-2) n)) false) false) false) (cond (litCmp .eql n 0) (cond (litCmp .eql (cond (kn 16) 1 0) 1) (cond (litCmp .eql (cond (kn e) 1 0) (IntKind.wrap .u64 (tms7 e))) (cond ((kn e) == (litCmp .eql (tms7 e) 1)) (false == (litCmp .eql (-2) n)) false) false) false) (cond (litCmp .eql n (-1)) (cond (litCmp .eql (cond (kn 16) 1 0) 1) (cond (litCmp .eql (cond (kn e) 1 0) (IntKind.wrap .u64 (tms7 e))) (cond ((kn e) == (litCmp .eql (tms7 e) 1)) (false == (litCmp .eql (-2) n)) false) false) false) (cond (litCmp .eql n (-2)) (cond (litCmp .eql (cond (kn 16) 1 0) 1) (cond (litCmp .eql (cond (kn e) 1 0) (IntKind.wrap .u64 (tms7 e))) (cond ((kn e) == (litCmp .eql (tms7 e) 1)) (true == (litCmp .eql (-2) n)) false) false) false) (cond (litCmp .eql n (-3)) (cond (litCmp .eql (cond (kn 16) 1 0) 1) (cond (litCmp .eql (cond (kn e) 1 0) (IntKind.wrap .u64 (tms7 e))) (cond ((kn e) == (litCmp .eql (tms7 e) 1)) (false == (litCmp .eql (-2) n)) false) false) false) (cond (litCmp .eql n (-4)) (cond (litCmp .eql (cond (kn 16) 1 0) 1) (cond (litCmp .eql (cond (kn e) 1 0) (IntKind.wrap .u64 (tms7 e))) (cond ((kn e) == (litCmp .eql (tms7 e) 1)) (false == (litCmp .eql (-2) n)) false) false) false) (cond (litCmp .eql n (-5)) (cond (litCmp .eql (cond (kn 16) 1 0) 1) (cond (litCmp .eql (cond (kn e) 1 0) (IntKind.wrap .u64 (tms7 e))) (cond ((kn e) == (litCmp .eql (tms7 e) 1)) (false == (litCmp .eql (-2) n)) false) false) false) (cond (litCmp .eql n (-6)) (cond (litCmp .eql (cond (kn 16) 1 0) 1) (cond (litCmp .eql (cond (kn e) 1 0) (IntKind.wrap .u64 (tms7 e))) (cond ((kn e) == (litCmp .eql (tms7 e) 1)) (false == (litCmp .eql (-2) n)) false) false) false) (cond (litCmp .eql n (-7)) (cond (litCmp .eql (cond (kn 16) 1 0) 1) (cond (litCmp .eql (cond (kn e) 1 0) (IntKind.wrap .u64 (tms7 e))) (cond ((kn e) == (litCmp .eql (tms7 e) 1)) (false == (litCmp .eql (-2) n)) false) false) false) (cond (litCmp .eql (cond (kn 16) 1 0) 1) (cond (litCmp .eql (cond (kn e) 1 0) (IntKind.wrap .u64 (tms7 e))) (cond ((kn e) == (litCmp .eql (tms7 e) 1)) (false == (litCmp .eql (-2) n)) false) false) false))))))))))))))))))
set_option maxRecDepth 100000 in
theorem road2 (e n : Int) : ((call Try.prog cxa 400 12 [.int .u64 (.sym e), .agg [.int .i64 (.lit (-2)), .int .i64 (.sym n)]] []).route []).map (fun p => (p.1, p.2.1)) = some ([], .val (.bool (.sym (val2 e n)))) := by kernel_rfl
def val3 (e n : Int) : Bool := (cond (cond (litCmp .neq (cond (kn 16) 1 0) 1) true (!(kn 16))) false (cond (cond (litCmp .neq (cond (kn 1414090053) 1 0) 1) true (!(kn 1414090053))) false (cond (cond (litCmp .neq (cond (kn 7557193) 1 0) 1) true (!(kn 7557193))) false (cond (cond (litCmp .neq (cond (kn 1380339267) 1 0) 1) true (!(kn 1380339267))) false (cond (cond (litCmp .neq (cond (kn 4739917) 1 0) 1) true (!(kn 4739917))) false (cond (cond (litCmp .neq (cond (kn 1397904212) 1 0) 1) true (!(kn 1397904212))) false (cond (cond (litCmp .neq (cond (kn 1145193294) 1 0) 1) true (!(kn 1145193294))) false (cond (cond (litCmp .neq (cond (kn 5262677) 1 0) 1) true (!(kn 5262677))) false (cond (cond (litCmp .gtr n 0) true (litCmp .leq n (-9))) (cond (litCmp .eql (cond (kn 16) 1 0) 1) (cond (litCmp .eql (cond (kn e) 1 0) (IntKind.wrap .u64 (tms7 e))) (cond ((kn e) == (litCmp .eql (tms7 e) 1)) (false == (litCmp .eql (-3) n)) false) false) false) (cond (litCmp .eql n 0) (cond (litCmp .eql (cond (kn 16) 1 0) 1) (cond (litCmp .eql (cond (kn e) 1 0) (IntKind.wrap .u64 (tms7 e))) (cond ((kn e) == (litCmp .eql (tms7 e) 1)) (false == (litCmp .eql (-3) n)) false) false) false) (cond (litCmp .eql n (-1)) (cond (litCmp .eql (cond (kn 16) 1 0) 1) (cond (litCmp .eql (cond (kn e) 1 0) (IntKind.wrap .u64 (tms7 e))) (cond ((kn e) == (litCmp .eql (tms7 e) 1)) (false == (litCmp .eql (-3) n)) false) false) false) (cond (litCmp .eql n (-2)) (cond (litCmp .eql (cond (kn 16) 1 0) 1) (cond (litCmp .eql (cond (kn e) 1 0) (IntKind.wrap .u64 (tms7 e))) (cond ((kn e) == (litCmp .eql (tms7 e) 1)) (false == (litCmp .eql (-3) n)) false) false) false) (cond (litCmp .eql n (-3)) (cond (litCmp .eql (cond (kn 16) 1 0) 1) (cond (litCmp .eql (cond (kn e) 1 0) (IntKind.wrap .u64 (tms7 e))) (cond ((kn e) == (litCmp .eql (tms7 e) 1)) (true == (litCmp .eql (-3) n)) false) false) false) (cond (litCmp .eql n (-4)) (cond (litCmp .eql (cond (kn 16) 1 0) 1) (cond (litCmp .eql (cond (kn e) 1 0) (IntKind.wrap .u64 (tms7 e))) (cond ((kn e) == (litCmp .eql (tms7 e) 1)) (false == (litCmp .eql (-3) n)) false) false) false) (cond (litCmp .eql n (-5)) (cond (litCmp .eql (cond (kn 16) 1 0) 1) (cond (litCmp .eql (cond (kn e) 1 0) (IntKind.wrap .u64 (tms7 e))) (cond ((kn e) == (litCmp .eql (tms7 e) 1)) (false == (litCmp .eql (-3) n)) false) false) false) (cond (litCmp .eql n (-6)) (cond (litCmp .eql (cond (kn 16) 1 0) 1) (cond (litCmp .eql (cond (kn e) 1 0) (IntKind.wrap .u64 (tms7 e))) (cond ((kn e) == (litCmp .eql (tms7 e) 1)) (false == (litCmp .eql (-3) n)) false) false) false) (cond (litCmp .eql n (-7)) (cond (litCmp .eql (cond (kn 16) 1 0) 1) (cond (litCmp .eql (cond (kn e) 1 0) (IntKind.wrap .u64 (tms7 e))) (cond ((kn e) == (litCmp .eql (tms7 e) 1)) (false == (litCmp .eql (-3) n)) false) false) false) (cond (litCmp .eql (cond (kn 16) 1 0) 1) (cond (litCmp .eql (cond (kn e) 1 0) (IntKind.wrap .u64 (tms7 e))) (cond ((kn e) == (litCmp .eql (tms7 e) 1)) (false == (litCmp .eql (-3) n)) false) false) false))))))))))))))))))
set_option maxRecDepth 100000 in
theorem road3 (e n : Int) : ((call Try.prog cxa 400 12 [.int .u64 (.sym e), .agg [.int .i64 (.lit (-3)), .int .i64 (.sym n)]] []).route []).map (fun p => (p.1, p.2.1)) = some ([], .val (.bool (.sym (val3 e n)))) := by kernel_rfl
def val4 (e n : Int) : Bool := (cond (cond (litCmp .neq (cond (kn 16) 1 0) 1) true (!(kn 16))) false (cond (cond (litCmp .neq (cond (kn 1414090053) 1 0) 1) true (!(kn 1414090053))) false (cond (cond (litCmp .neq (cond (kn 7557193) 1 0) 1) true (!(kn 7557193))) false (cond (cond (litCmp .neq (cond (kn 1380339267) 1 0) 1) true (!(kn 1380339267))) false (cond (cond (litCmp .neq (cond (kn 4739917) 1 0) 1) true (!(kn 4739917))) false (cond (cond (litCmp .neq (cond (kn 1397904212) 1 0) 1) true (!(kn 1397904212))) false (cond (cond (litCmp .neq (cond (kn 1145193294) 1 0) 1) true (!(kn 1145193294))) false (cond (cond (litCmp .neq (cond (kn 5262677) 1 0) 1) true (!(kn 5262677))) false (cond (cond (litCmp .gtr n 0) true (litCmp .leq n (-9))) (cond (litCmp .eql (cond (kn 16) 1 0) 1) (cond (litCmp .eql (cond (kn e) 1 0) (IntKind.wrap .u64 (tms7 e))) (cond ((kn e) == (litCmp .eql (tms7 e) 1)) (false == (litCmp .eql (-4) n)) false) false) false) (cond (litCmp .eql n 0) (cond (litCmp .eql (cond (kn 16) 1 0) 1) (cond (litCmp .eql (cond (kn e) 1 0) (IntKind.wrap .u64 (tms7 e))) (cond ((kn e) == (litCmp .eql (tms7 e) 1)) (false == (litCmp .eql (-4) n)) false) false) false) (cond (litCmp .eql n (-1)) (cond (litCmp .eql (cond (kn 16) 1 0) 1) (cond (litCmp .eql (cond (kn e) 1 0) (IntKind.wrap .u64 (tms7 e))) (cond ((kn e) == (litCmp .eql (tms7 e) 1)) (false == (litCmp .eql (-4) n)) false) false) false) (cond (litCmp .eql n (-2)) (cond (litCmp .eql (cond (kn 16) 1 0) 1) (cond (litCmp .eql (cond (kn e) 1 0) (IntKind.wrap .u64 (tms7 e))) (cond ((kn e) == (litCmp .eql (tms7 e) 1)) (false == (litCmp .eql (-4) n)) false) false) false) (cond (litCmp .eql n (-3)) (cond (litCmp .eql (cond (kn 16) 1 0) 1) (cond (litCmp .eql (cond (kn e) 1 0) (IntKind.wrap .u64 (tms7 e))) (cond ((kn e) == (litCmp .eql (tms7 e) 1)) (false == (litCmp .eql (-4) n)) false) false) false) (cond (litCmp .eql n (-4)) (cond (litCmp .eql (cond (kn 16) 1 0) 1) (cond (litCmp .eql (cond (kn e) 1 0) (IntKind.wrap .u64 (tms7 e))) (cond ((kn e) == (litCmp .eql (tms7 e) 1)) (true == (litCmp .eql (-4) n)) false) false) false) (cond (litCmp .eql n (-5)) (cond (litCmp .eql (cond (kn 16) 1 0) 1) (cond (litCmp .eql (cond (kn e) 1 0) (IntKind.wrap .u64 (tms7 e))) (cond ((kn e) == (litCmp .eql (tms7 e) 1)) (false == (litCmp .eql (-4) n)) false) false) false) (cond (litCmp .eql n (-6)) (cond (litCmp .eql (cond (kn 16) 1 0) 1) (cond (litCmp .eql (cond (kn e) 1 0) (IntKind.wrap .u64 (tms7 e))) (cond ((kn e) == (litCmp .eql (tms7 e) 1)) (false == (litCmp .eql (-4) n)) false) false) false) (cond (litCmp .eql n (-7)) (cond (litCmp .eql (cond (kn 16) 1 0) 1) (cond (litCmp .eql (cond (kn e) 1 0) (IntKind.wrap .u64 (tms7 e))) (cond ((kn e) == (litCmp .eql (tms7 e) 1)) (false == (litCmp .eql (-4) n)) false) false) false) (cond (litCmp .eql (cond (kn 16) 1 0) 1) (cond (litCmp .eql (cond (kn e) 1 0) (IntKind.wrap .u64 (tms7 e))) (cond ((kn e) == (litCmp .eql (tms7 e) 1)) (false == (litCmp .eql (-4) n)) false) false) false))))))))))))))))))
set_option maxRecDepth 100000 in
theorem road4 (e n : Int) : ((call Try.prog cxa 400 12 [.int .u64 (.sym e), .agg [.int .i64 (.lit (-4)), .int .i64 (.sym n)]] []).route []).map (fun p => (p.1, p.2.1)) = some ([], .val (.bool (.sym (val4 e n)))) := by kernel_rfl
def val5 (e n : Int) : Bool := (cond (cond (litCmp .neq (cond (kn 16) 1 0) 1) true (!(kn 16))) false (cond (cond (litCmp .neq (cond (kn 1414090053) 1 0) 1) true (!(kn 1414090053))) false (cond (cond (litCmp .neq (cond (kn 7557193) 1 0) 1) true (!(kn 7557193))) false (cond (cond (litCmp .neq (cond (kn 1380339267) 1 0) 1) true (!(kn 1380339267))) false (cond (cond (litCmp .neq (cond (kn 4739917) 1 0) 1) true (!(kn 4739917))) false (cond (cond (litCmp .neq (cond (kn 1397904212) 1 0) 1) true (!(kn 1397904212))) false (cond (cond (litCmp .neq (cond (kn 1145193294) 1 0) 1) true (!(kn 1145193294))) false (cond (cond (litCmp .neq (cond (kn 5262677) 1 0) 1) true (!(kn 5262677))) false (cond (cond (litCmp .gtr n 0) true (litCmp .leq n (-9))) (cond (litCmp .eql (cond (kn 16) 1 0) 1) (cond (litCmp .eql (cond (kn e) 1 0) (IntKind.wrap .u64 (tms7 e))) (cond ((kn e) == (litCmp .eql (tms7 e) 1)) (false == (litCmp .eql (-5) n)) false) false) false) (cond (litCmp .eql n 0) (cond (litCmp .eql (cond (kn 16) 1 0) 1) (cond (litCmp .eql (cond (kn e) 1 0) (IntKind.wrap .u64 (tms7 e))) (cond ((kn e) == (litCmp .eql (tms7 e) 1)) (false == (litCmp .eql (-5) n)) false) false) false) (cond (litCmp .eql n (-1)) (cond (litCmp .eql (cond (kn 16) 1 0) 1) (cond (litCmp .eql (cond (kn e) 1 0) (IntKind.wrap .u64 (tms7 e))) (cond ((kn e) == (litCmp .eql (tms7 e) 1)) (false == (litCmp .eql (-5) n)) false) false) false) (cond (litCmp .eql n (-2)) (cond (litCmp .eql (cond (kn 16) 1 0) 1) (cond (litCmp .eql (cond (kn e) 1 0) (IntKind.wrap .u64 (tms7 e))) (cond ((kn e) == (litCmp .eql (tms7 e) 1)) (false == (litCmp .eql (-5) n)) false) false) false) (cond (litCmp .eql n (-3)) (cond (litCmp .eql (cond (kn 16) 1 0) 1) (cond (litCmp .eql (cond (kn e) 1 0) (IntKind.wrap .u64 (tms7 e))) (cond ((kn e) == (litCmp .eql (tms7 e) 1)) (false == (litCmp .eql (-5) n)) false) false) false) (cond (litCmp .eql n (-4)) (cond (litCmp .eql (cond (kn 16) 1 0) 1) (cond (litCmp .eql (cond (kn e) 1 0) (IntKind.wrap .u64 (tms7 e))) (cond ((kn e) == (litCmp .eql (tms7 e) 1)) (false == (litCmp .eql (-5) n)) false) false) false) (cond (litCmp .eql n (-5)) (cond (litCmp .eql (cond (kn 16) 1 0) 1) (cond (litCmp .eql (cond (kn e) 1 0) (IntKind.wrap .u64 (tms7 e))) (cond ((kn e) == (litCmp .eql (tms7 e) 1)) (true == (litCmp .eql (-5) n)) false) false) false) (cond (litCmp .eql n (-6)) (cond (litCmp .eql (cond (kn 16) 1 0) 1) (cond (litCmp .eql (cond (kn e) 1 0) (IntKind.wrap .u64 (tms7 e))) (cond ((kn e) == (litCmp .eql (tms7 e) 1)) (false == (litCmp .eql (-5) n)) false) false) false) (cond (litCmp .eql n (-7)) (cond (litCmp .eql (cond (kn 16) 1 0) 1) (cond (litCmp .eql (cond (kn e) 1 0) (IntKind.wrap .u64 (tms7 e))) (cond ((kn e) == (litCmp .eql (tms7 e) 1)) (false == (litCmp .eql (-5) n)) false) false) false) (cond (litCmp .eql (cond (kn 16) 1 0) 1) (cond (litCmp .eql (cond (kn e) 1 0) (IntKind.wrap .u64 (tms7 e))) (cond ((kn e) == (litCmp .eql (tms7 e) 1)) (false == (litCmp .eql (-5) n)) false) false) false))))))))))))))))))
set_option maxRecDepth 100000 in
theorem road5 (e n : Int) : ((call Try.prog cxa 400 12 [.int .u64 (.sym e), .agg [.int .i64 (.lit (-5)), .int .i64 (.sym n)]] []).route []).map (fun p => (p.1, p.2.1)) = some ([], .val (.bool (.sym (val5 e n)))) := by kernel_rfl
def val6 (e n : Int) : Bool := (cond (cond (litCmp .neq (cond (kn 16) 1 0) 1) true (!(kn 16))) false (cond (cond (litCmp .neq (cond (kn 1414090053) 1 0) 1) true (!(kn 1414090053))) false (cond (cond (litCmp .neq (cond (kn 7557193) 1 0) 1) true (!(kn 7557193))) false (cond (cond (litCmp .neq (cond (kn 1380339267) 1 0) 1) true (!(kn 1380339267))) false (cond (cond (litCmp .neq (cond (kn 4739917) 1 0) 1) true (!(kn 4739917))) false (cond (cond (litCmp .neq (cond (kn 1397904212) 1 0) 1) true (!(kn 1397904212))) false (cond (cond (litCmp .neq (cond (kn 1145193294) 1 0) 1) true (!(kn 1145193294))) false (cond (cond (litCmp .neq (cond (kn 5262677) 1 0) 1) true (!(kn 5262677))) false (cond (cond (litCmp .gtr n 0) true (litCmp .leq n (-9))) (cond (litCmp .eql (cond (kn 16) 1 0) 1) (cond (litCmp .eql (cond (kn e) 1 0) (IntKind.wrap .u64 (tms7 e))) (cond ((kn e) == (litCmp .eql (tms7 e) 1)) (false == (litCmp .eql (-6) n)) false) false) false) (cond (litCmp .eql n 0) (cond (litCmp .eql (cond (kn 16) 1 0) 1) (cond (litCmp .eql (cond (kn e) 1 0) (IntKind.wrap .u64 (tms7 e))) (cond ((kn e) == (litCmp .eql (tms7 e) 1)) (false == (litCmp .eql (-6) n)) false) false) false) (cond (litCmp .eql n (-1)) (cond (litCmp .eql (cond (kn 16) 1 0) 1) (cond (litCmp .eql (cond (kn e) 1 0) (IntKind.wrap .u64 (tms7 e))) (cond ((kn e) == (litCmp .eql (tms7 e) 1)) (false == (litCmp .eql (-6) n)) false) false) false) (cond (litCmp .eql n (-2)) (cond (litCmp .eql (cond (kn 16) 1 0) 1) (cond (litCmp .eql (cond (kn e) 1 0) (IntKind.wrap .u64 (tms7 e))) (cond ((kn e) == (litCmp .eql (tms7 e) 1)) (false == (litCmp .eql (-6) n)) false) false) false) (cond (litCmp .eql n (-3)) (cond (litCmp .eql (cond (kn 16) 1 0) 1) (cond (litCmp .eql (cond (kn e) 1 0) (IntKind.wrap .u64 (tms7 e))) (cond ((kn e) == (litCmp .eql (tms7 e) 1)) (false == (litCmp .eql (-6) n)) false) false) false) (cond (litCmp .eql n (-4)) (cond (litCmp .eql (cond (kn 16) 1 0) 1) (cond (litCmp .eql (cond (kn e) 1 0) (IntKind.wrap .u64 (tms7 e))) (cond ((kn e) == (litCmp .eql (tms7 e) 1)) (false == (litCmp .eql (-6) n)) false) false) false) (cond (litCmp .eql n (-5)) (cond (litCmp .eql (cond (kn 16) 1 0) 1) (cond (litCmp .eql (cond (kn e) 1 0) (IntKind.wrap .u64 (tms7 e))) (cond ((kn e) == (litCmp .eql (tms7 e) 1)) (false == (litCmp .eql (-6) n)) false) false) false) (cond (litCmp .eql n (-6)) (cond (litCmp .eql (cond (kn 16) 1 0) 1) (cond (litCmp .eql (cond (kn e) 1 0) (IntKind.wrap .u64 (tms7 e))) (cond ((kn e) == (litCmp .eql (tms7 e) 1)) (true == (litCmp .eql (-6) n)) false) false) false) (cond (litCmp .eql n (-7)) (cond (litCmp .eql (cond (kn 16) 1 0) 1) (cond (litCmp .eql (cond (kn e) 1 0) (IntKind.wrap .u64 (tms7 e))) (cond ((kn e) == (litCmp .eql (tms7 e) 1)) (false == (litCmp .eql (-6) n)) false) false) false) (cond (litCmp .eql (cond (kn 16) 1 0) 1) (cond (litCmp .eql (cond (kn e) 1 0) (IntKind.wrap .u64 (tms7 e))) (cond ((kn e) == (litCmp .eql (tms7 e) 1)) (false == (litCmp .eql (-6) n)) false) false) false))))))))))))))))))
set_option maxRecDepth 100000 in
theorem road6 (e n : Int) : ((call Try.prog cxa 400 12 [.int .u64 (.sym e), .agg [.int .i64 (.lit (-6)), .int .i64 (.sym n)]] []).route []).map (fun p => (p.1, p.2.1)) = some ([], .val (.bool (.sym (val6 e n)))) := by kernel_rfl
def val7 (e n : Int) : Bool := (cond (cond (litCmp .neq (cond (kn 16) 1 0) 1) true (!(kn 16))) false (cond (cond (litCmp .neq (cond (kn 1414090053) 1 0) 1) true (!(kn 1414090053))) false (cond (cond (litCmp .neq (cond (kn 7557193) 1 0) 1) true (!(kn 7557193))) false (cond (cond (litCmp .neq (cond (kn 1380339267) 1 0) 1) true (!(kn 1380339267))) false (cond (cond (litCmp .neq (cond (kn 4739917) 1 0) 1) true (!(kn 4739917))) false (cond (cond (litCmp .neq (cond (kn 1397904212) 1 0) 1) true (!(kn 1397904212))) false (cond (cond (litCmp .neq (cond (kn 1145193294) 1 0) 1) true (!(kn 1145193294))) false (cond (cond (litCmp .neq (cond (kn 5262677) 1 0) 1) true (!(kn 5262677))) false (cond (cond (litCmp .gtr n 0) true (litCmp .leq n (-9))) (cond (litCmp .eql (cond (kn 16) 1 0) 1) (cond (litCmp .eql (cond (kn e) 1 0) (IntKind.wrap .u64 (tms7 e))) (cond ((kn e) == (litCmp .eql (tms7 e) 1)) (false == (litCmp .eql (-7) n)) false) false) false) (cond (litCmp .eql n 0) (cond (litCmp .eql (cond (kn 16) 1 0) 1) (cond (litCmp .eql (cond (kn e) 1 0) (IntKind.wrap .u64 (tms7 e))) (cond ((kn e) == (litCmp .eql (tms7 e) 1)) (false == (litCmp .eql (-7) n)) false) false) false) (cond (litCmp .eql n (-1)) (cond (litCmp .eql (cond (kn 16) 1 0) 1) (cond (litCmp .eql (cond (kn e) 1 0) (IntKind.wrap .u64 (tms7 e))) (cond ((kn e) == (litCmp .eql (tms7 e) 1)) (false == (litCmp .eql (-7) n)) false) false) false) (cond (litCmp .eql n (-2)) (cond (litCmp .eql (cond (kn 16) 1 0) 1) (cond (litCmp .eql (cond (kn e) 1 0) (IntKind.wrap .u64 (tms7 e))) (cond ((kn e) == (litCmp .eql (tms7 e) 1)) (false == (litCmp .eql (-7) n)) false) false) false) (cond (litCmp .eql n (-3)) (cond (litCmp .eql (cond (kn 16) 1 0) 1) (cond (litCmp .eql (cond (kn e) 1 0) (IntKind.wrap .u64 (tms7 e))) (cond ((kn e) == (litCmp .eql (tms7 e) 1)) (false == (litCmp .eql (-7) n)) false) false) false) (cond (litCmp .eql n (-4)) (cond (litCmp .eql (cond (kn 16) 1 0) 1) (cond (litCmp .eql (cond (kn e) 1 0) (IntKind.wrap .u64 (tms7 e))) (cond ((kn e) == (litCmp .eql (tms7 e) 1)) (false == (litCmp .eql (-7) n)) false) false) false) (cond (litCmp .eql n (-5)) (cond (litCmp .eql (cond (kn 16) 1 0) 1) (cond (litCmp .eql (cond (kn e) 1 0) (IntKind.wrap .u64 (tms7 e))) (cond ((kn e) == (litCmp .eql (tms7 e) 1)) (false == (litCmp .eql (-7) n)) false) false) false) (cond (litCmp .eql n (-6)) (cond (litCmp .eql (cond (kn 16) 1 0) 1) (cond (litCmp .eql (cond (kn e) 1 0) (IntKind.wrap .u64 (tms7 e))) (cond ((kn e) == (litCmp .eql (tms7 e) 1)) (false == (litCmp .eql (-7) n)) false) false) false) (cond (litCmp .eql n (-7)) (cond (litCmp .eql (cond (kn 16) 1 0) 1) (cond (litCmp .eql (cond (kn e) 1 0) (IntKind.wrap .u64 (tms7 e))) (cond ((kn e) == (litCmp .eql (tms7 e) 1)) (true == (litCmp .eql (-7) n)) false) false) false) (cond (litCmp .eql (cond (kn 16) 1 0) 1) (cond (litCmp .eql (cond (kn e) 1 0) (IntKind.wrap .u64 (tms7 e))) (cond ((kn e) == (litCmp .eql (tms7 e) 1)) (false == (litCmp .eql (-7) n)) false) false) false))))))))))))))))))
set_option maxRecDepth 100000 in
theorem road7 (e n : Int) : ((call Try.prog cxa 400 12 [.int .u64 (.sym e), .agg [.int .i64 (.lit (-7)), .int .i64 (.sym n)]] []).route []).map (fun p => (p.1, p.2.1)) = some ([], .val (.bool (.sym (val7 e n)))) := by kernel_rfl
def val8 (e n : Int) : Bool := (cond (cond (litCmp .neq (cond (kn 16) 1 0) 1) true (!(kn 16))) false (cond (cond (litCmp .neq (cond (kn 1414090053) 1 0) 1) true (!(kn 1414090053))) false (cond (cond (litCmp .neq (cond (kn 7557193) 1 0) 1) true (!(kn 7557193))) false (cond (cond (litCmp .neq (cond (kn 1380339267) 1 0) 1) true (!(kn 1380339267))) false (cond (cond (litCmp .neq (cond (kn 4739917) 1 0) 1) true (!(kn 4739917))) false (cond (cond (litCmp .neq (cond (kn 1397904212) 1 0) 1) true (!(kn 1397904212))) false (cond (cond (litCmp .neq (cond (kn 1145193294) 1 0) 1) true (!(kn 1145193294))) false (cond (cond (litCmp .neq (cond (kn 5262677) 1 0) 1) true (!(kn 5262677))) false (cond (cond (litCmp .gtr n 0) true (litCmp .leq n (-9))) (cond (litCmp .eql (cond (kn 16) 1 0) 1) (cond (litCmp .eql (cond (kn e) 1 0) (IntKind.wrap .u64 (tms7 e))) (cond ((kn e) == (litCmp .eql (tms7 e) 1)) (false == (litCmp .eql (-8) n)) false) false) false) (cond (litCmp .eql n 0) (cond (litCmp .eql (cond (kn 16) 1 0) 1) (cond (litCmp .eql (cond (kn e) 1 0) (IntKind.wrap .u64 (tms7 e))) (cond ((kn e) == (litCmp .eql (tms7 e) 1)) (false == (litCmp .eql (-8) n)) false) false) false) (cond (litCmp .eql n (-1)) (cond (litCmp .eql (cond (kn 16) 1 0) 1) (cond (litCmp .eql (cond (kn e) 1 0) (IntKind.wrap .u64 (tms7 e))) (cond ((kn e) == (litCmp .eql (tms7 e) 1)) (false == (litCmp .eql (-8) n)) false) false) false) (cond (litCmp .eql n (-2)) (cond (litCmp .eql (cond (kn 16) 1 0) 1) (cond (litCmp .eql (cond (kn e) 1 0) (IntKind.wrap .u64 (tms7 e))) (cond ((kn e) == (litCmp .eql (tms7 e) 1)) (false == (litCmp .eql (-8) n)) false) false) false) (cond (litCmp .eql n (-3)) (cond (litCmp .eql (cond (kn 16) 1 0) 1) (cond (litCmp .eql (cond (kn e) 1 0) (IntKind.wrap .u64 (tms7 e))) (cond ((kn e) == (litCmp .eql (tms7 e) 1)) (false == (litCmp .eql (-8) n)) false) false) false) (cond (litCmp .eql n (-4)) (cond (litCmp .eql (cond (kn 16) 1 0) 1) (cond (litCmp .eql (cond (kn e) 1 0) (IntKind.wrap .u64 (tms7 e))) (cond ((kn e) == (litCmp .eql (tms7 e) 1)) (false == (litCmp .eql (-8) n)) false) false) false) (cond (litCmp .eql n (-5)) (cond (litCmp .eql (cond (kn 16) 1 0) 1) (cond (litCmp .eql (cond (kn e) 1 0) (IntKind.wrap .u64 (tms7 e))) (cond ((kn e) == (litCmp .eql (tms7 e) 1)) (false == (litCmp .eql (-8) n)) false) false) false) (cond (litCmp .eql n (-6)) (cond (litCmp .eql (cond (kn 16) 1 0) 1) (cond (litCmp .eql (cond (kn e) 1 0) (IntKind.wrap .u64 (tms7 e))) (cond ((kn e) == (litCmp .eql (tms7 e) 1)) (false == (litCmp .eql (-8) n)) false) false) false) (cond (litCmp .eql n (-7)) (cond (litCmp .eql (cond (kn 16) 1 0) 1) (cond (litCmp .eql (cond (kn e) 1 0) (IntKind.wrap .u64 (tms7 e))) (cond ((kn e) == (litCmp .eql (tms7 e) 1)) (false == (litCmp .eql (-8) n)) false) false) false) (cond (litCmp .eql (cond (kn 16) 1 0) 1) (cond (litCmp .eql (cond (kn e) 1 0) (IntKind.wrap .u64 (tms7 e))) (cond ((kn e) == (litCmp .eql (tms7 e) 1)) (true == (litCmp .eql (-8) n)) false) false) false))))))))))))))))))
set_option maxRecDepth 100000 in
theorem road8 (e n : Int) : ((call Try.prog cxa 400 12 [.int .u64 (.sym e), .agg [.int .i64 (.lit (-8)), .int .i64 (.sym n)]] []).route []).map (fun p => (p.1, p.2.1)) = some ([], .val (.bool (.sym (val8 e n)))) := by kernel_rfl
def valB (e m : Int) : Bool := (cond (cond (litCmp .neq (cond (kn 16) 1 0) 1) true (!(kn 16))) false (cond (cond (litCmp .neq (cond (kn 1414090053) 1 0) 1) true (!(kn 1414090053))) false (cond (cond (litCmp .neq (cond (kn 7557193) 1 0) 1) true (!(kn 7557193))) false (cond (cond (litCmp .neq (cond (kn 1380339267) 1 0) 1) true (!(kn 1380339267))) false (cond (cond (litCmp .neq (cond (kn 4739917) 1 0) 1) true (!(kn 4739917))) false (cond (cond (litCmp .neq (cond (kn 1397904212) 1 0) 1) true (!(kn 1397904212))) false (cond (cond (litCmp .neq (cond (kn 1145193294) 1 0) 1) true (!(kn 1145193294))) false (cond (cond (litCmp .neq (cond (kn 5262677) 1 0) 1) true (!(kn 5262677))) false (cond (litCmp .eql (cond (kn 16) 1 0) 1) (cond (litCmp .eql (cond (kn e) 1 0) (IntKind.wrap .u64 (tms7 e))) (cond ((kn e) == (litCmp .eql (tms7 e) 1)) ((cond (litCmp .leq m 0) (litCmp .geq m (-8)) false) == false) false) false) false)))))))))
def out (m : Int) : Bool := cond (litCmp .gtr m 0) true (litCmp .leq m (-9))
def gB (m : Int) : Bool := (cond (cond (litCmp .neq (cond (kn 16) 1 0) 1) true (!(kn 16))) true (cond (cond (litCmp .neq (cond (kn 1414090053) 1 0) 1) true (!(kn 1414090053))) true (cond (cond (litCmp .neq (cond (kn 7557193) 1 0) 1) true (!(kn 7557193))) true (cond (cond (litCmp .neq (cond (kn 1380339267) 1 0) 1) true (!(kn 1380339267))) true (cond (cond (litCmp .neq (cond (kn 4739917) 1 0) 1) true (!(kn 4739917))) true (cond (cond (litCmp .neq (cond (kn 1397904212) 1 0) 1) true (!(kn 1397904212))) true (cond (cond (litCmp .neq (cond (kn 1145193294) 1 0) 1) true (!(kn 1145193294))) true (cond (cond (litCmp .neq (cond (kn 5262677) 1 0) 1) true (!(kn 5262677))) true (cond (litCmp .gtr m 0) true (litCmp .leq m (-9)))))))))))
def gC (m n : Int) : Bool := (cond (cond (litCmp .neq (cond (kn 16) 1 0) 1) true (!(kn 16))) true (cond (cond (litCmp .neq (cond (kn 1414090053) 1 0) 1) true (!(kn 1414090053))) true (cond (cond (litCmp .neq (cond (kn 7557193) 1 0) 1) true (!(kn 7557193))) true (cond (cond (litCmp .neq (cond (kn 1380339267) 1 0) 1) true (!(kn 1380339267))) true (cond (cond (litCmp .neq (cond (kn 4739917) 1 0) 1) true (!(kn 4739917))) true (cond (cond (litCmp .neq (cond (kn 1397904212) 1 0) 1) true (!(kn 1397904212))) true (cond (cond (litCmp .neq (cond (kn 1145193294) 1 0) 1) true (!(kn 1145193294))) true (cond (cond (litCmp .neq (cond (kn 5262677) 1 0) 1) true (!(kn 5262677))) true ((cond (litCmp .gtr m 0) true (litCmp .leq m (-9))) && (cond (litCmp .gtr n 0) true (litCmp .leq n (-9))))))))))))
set_option maxRecDepth 100000 in
theorem away0 (e m : Int) : ((call Try.prog cxb 400 12 [.int .u64 (.sym e), .agg [.int .i64 (.sym m), .int .i64 (.lit 0)]] []).route [true]).map (fun p => (p.1, p.2.1)) = some ([gB m], .val (.bool (.sym (valB e m)))) := by kernel_rfl
set_option maxRecDepth 100000 in
theorem away1 (e m : Int) : ((call Try.prog cxb 400 12 [.int .u64 (.sym e), .agg [.int .i64 (.sym m), .int .i64 (.lit (-1))]] []).route [true]).map (fun p => (p.1, p.2.1)) = some ([gB m], .val (.bool (.sym (valB e m)))) := by kernel_rfl
set_option maxRecDepth 100000 in
theorem away2 (e m : Int) : ((call Try.prog cxb 400 12 [.int .u64 (.sym e), .agg [.int .i64 (.sym m), .int .i64 (.lit (-2))]] []).route [true]).map (fun p => (p.1, p.2.1)) = some ([gB m], .val (.bool (.sym (valB e m)))) := by kernel_rfl
set_option maxRecDepth 100000 in
theorem away3 (e m : Int) : ((call Try.prog cxb 400 12 [.int .u64 (.sym e), .agg [.int .i64 (.sym m), .int .i64 (.lit (-3))]] []).route [true]).map (fun p => (p.1, p.2.1)) = some ([gB m], .val (.bool (.sym (valB e m)))) := by kernel_rfl
set_option maxRecDepth 100000 in
theorem away4 (e m : Int) : ((call Try.prog cxb 400 12 [.int .u64 (.sym e), .agg [.int .i64 (.sym m), .int .i64 (.lit (-4))]] []).route [true]).map (fun p => (p.1, p.2.1)) = some ([gB m], .val (.bool (.sym (valB e m)))) := by kernel_rfl
set_option maxRecDepth 100000 in
theorem away5 (e m : Int) : ((call Try.prog cxb 400 12 [.int .u64 (.sym e), .agg [.int .i64 (.sym m), .int .i64 (.lit (-5))]] []).route [true]).map (fun p => (p.1, p.2.1)) = some ([gB m], .val (.bool (.sym (valB e m)))) := by kernel_rfl
set_option maxRecDepth 100000 in
theorem away6 (e m : Int) : ((call Try.prog cxb 400 12 [.int .u64 (.sym e), .agg [.int .i64 (.sym m), .int .i64 (.lit (-6))]] []).route [true]).map (fun p => (p.1, p.2.1)) = some ([gB m], .val (.bool (.sym (valB e m)))) := by kernel_rfl
set_option maxRecDepth 100000 in
theorem away7 (e m : Int) : ((call Try.prog cxb 400 12 [.int .u64 (.sym e), .agg [.int .i64 (.sym m), .int .i64 (.lit (-7))]] []).route [true]).map (fun p => (p.1, p.2.1)) = some ([gB m], .val (.bool (.sym (valB e m)))) := by kernel_rfl
set_option maxRecDepth 100000 in
theorem away8 (e m : Int) : ((call Try.prog cxb 400 12 [.int .u64 (.sym e), .agg [.int .i64 (.sym m), .int .i64 (.lit (-8))]] []).route [true]).map (fun p => (p.1, p.2.1)) = some ([gB m], .val (.bool (.sym (valB e m)))) := by kernel_rfl
set_option maxRecDepth 100000 in
theorem away (e m n : Int) : ((call Try.prog cxb 400 12 [.int .u64 (.sym e), .agg [.int .i64 (.sym m), .int .i64 (.sym n)]] []).route [true]).map (fun p => (p.1, p.2.1)) = some ([gC m n], .val (.bool (.sym (valB e m)))) := by kernel_rfl

/-- Each extension is told once, and no other one. -/
theorem once (e : Int) : litCmp .eql (cond (kn e) 1 0) (IntKind.wrap .u64 (tms7 e)) = true ∧ (kn e == litCmp .eql (tms7 e) 1) = true := by
  by_cases h0 : e = 16
  · subst h0; exact ⟨by kernel_rfl, by kernel_rfl⟩
  by_cases h1 : e = 1414090053
  · subst h1; exact ⟨by kernel_rfl, by kernel_rfl⟩
  by_cases h2 : e = 7557193
  · subst h2; exact ⟨by kernel_rfl, by kernel_rfl⟩
  by_cases h3 : e = 1380339267
  · subst h3; exact ⟨by kernel_rfl, by kernel_rfl⟩
  by_cases h4 : e = 4739917
  · subst h4; exact ⟨by kernel_rfl, by kernel_rfl⟩
  by_cases h5 : e = 1397904212
  · subst h5; exact ⟨by kernel_rfl, by kernel_rfl⟩
  by_cases h6 : e = 1145193294
  · subst h6; exact ⟨by kernel_rfl, by kernel_rfl⟩
  by_cases h7 : e = 5262677
  · subst h7; exact ⟨by kernel_rfl, by kernel_rfl⟩
  have a0 : litCmp .eql e 16 = false := decide_eq_false h0
  have b0 : litCmp .eql 16 e = false := decide_eq_false (Ne.symm h0)
  have a1 : litCmp .eql e 1414090053 = false := decide_eq_false h1
  have b1 : litCmp .eql 1414090053 e = false := decide_eq_false (Ne.symm h1)
  have a2 : litCmp .eql e 7557193 = false := decide_eq_false h2
  have b2 : litCmp .eql 7557193 e = false := decide_eq_false (Ne.symm h2)
  have a3 : litCmp .eql e 1380339267 = false := decide_eq_false h3
  have b3 : litCmp .eql 1380339267 e = false := decide_eq_false (Ne.symm h3)
  have a4 : litCmp .eql e 4739917 = false := decide_eq_false h4
  have b4 : litCmp .eql 4739917 e = false := decide_eq_false (Ne.symm h4)
  have a5 : litCmp .eql e 1397904212 = false := decide_eq_false h5
  have b5 : litCmp .eql 1397904212 e = false := decide_eq_false (Ne.symm h5)
  have a6 : litCmp .eql e 1145193294 = false := decide_eq_false h6
  have b6 : litCmp .eql 1145193294 e = false := decide_eq_false (Ne.symm h6)
  have a7 : litCmp .eql e 5262677 = false := decide_eq_false h7
  have b7 : litCmp .eql 5262677 e = false := decide_eq_false (Ne.symm h7)
  have k : kn e = false := by
    unfold kn
    rw [a0, a1, a2, a3, a4, a5, a6, a7]
    rfl
  have t0 : tms0 e = 0 := by unfold tms0; rw [b0]; rfl
  have t1 : tms1 e = 0 := by unfold tms1; rw [b1, cond_false]; exact t0
  have t2 : tms2 e = 0 := by unfold tms2; rw [b2, cond_false]; exact t1
  have t3 : tms3 e = 0 := by unfold tms3; rw [b3, cond_false]; exact t2
  have t4 : tms4 e = 0 := by unfold tms4; rw [b4, cond_false]; exact t3
  have t5 : tms5 e = 0 := by unfold tms5; rw [b5, cond_false]; exact t4
  have t6 : tms6 e = 0 := by unfold tms6; rw [b6, cond_false]; exact t5
  have t7 : tms7 e = 0 := by unfold tms7; rw [b7, cond_false]; exact t6
  rw [k, t7]
  exact ⟨by kernel_rfl, by kernel_rfl⟩
theorem outs {n : Int} (h : 0 < n ∨ n < -8) : (cond (litCmp .gtr n 0) true (litCmp .leq n (-9))) = true ∧ (cond (litCmp .leq n 0) (litCmp .geq n (-8)) false) = false := by
  by_cases h0 : 0 < n
  · have h1 : litCmp .gtr n 0 = true := decide_eq_true h0
    have h2 : litCmp .leq n 0 = false := decide_eq_false (by omega)
    rw [h1, h2]
    exact ⟨rfl, rfl⟩
  · have h2 : litCmp .leq n (-9) = true := decide_eq_true (by omega)
    have h3 : litCmp .geq n (-8) = false := decide_eq_false (by omega)
    rw [h2, h3, Bool.cond_self, Bool.cond_self]
    exact ⟨rfl, rfl⟩
theorem ins {n : Int} (h : ¬ (0 < n ∨ n < -8)) : n = 0 ∨ n = -1 ∨ n = -2 ∨ n = -3 ∨ n = -4 ∨ n = -5 ∨ n = -6 ∨ n = -7 ∨ n = -8 := by omega
theorem lawB (e : Int) {m : Int} (h : 0 < m ∨ m < -8) : gB m = true ∧ valB e m = true := by
  obtain ⟨o1, o2⟩ := once e
  obtain ⟨m1, m2⟩ := outs h
  constructor
  · unfold gB
    rw [m1]
    rfl
  · unfold valB
    rw [o1, o2, m2]
    rfl
theorem lawC {m n : Int} (h : 0 < m ∨ m < -8) (h' : 0 < n ∨ n < -8) : gC m n = true := by
  unfold gC
  rw [(outs h).1, (outs h').1]
  rfl
theorem law0 (e n : Int) : val0 e n = true := by
  obtain ⟨o1, o2⟩ := once e
  unfold val0
  rw [o1, o2]
  by_cases hn : 0 < n ∨ n < -8
  · obtain ⟨n1, n2⟩ := outs hn
    have hne : litCmp .eql 0 n = false := decide_eq_false (by omega)
    rw [n1, hne]
    rfl
  · rcases ins hn with h | h | h | h | h | h | h | h | h <;> subst h <;> rfl
theorem law1 (e n : Int) : val1 e n = true := by
  obtain ⟨o1, o2⟩ := once e
  unfold val1
  rw [o1, o2]
  by_cases hn : 0 < n ∨ n < -8
  · obtain ⟨n1, n2⟩ := outs hn
    have hne : litCmp .eql (-1) n = false := decide_eq_false (by omega)
    rw [n1, hne]
    rfl
  · rcases ins hn with h | h | h | h | h | h | h | h | h <;> subst h <;> rfl
theorem law2 (e n : Int) : val2 e n = true := by
  obtain ⟨o1, o2⟩ := once e
  unfold val2
  rw [o1, o2]
  by_cases hn : 0 < n ∨ n < -8
  · obtain ⟨n1, n2⟩ := outs hn
    have hne : litCmp .eql (-2) n = false := decide_eq_false (by omega)
    rw [n1, hne]
    rfl
  · rcases ins hn with h | h | h | h | h | h | h | h | h <;> subst h <;> rfl
theorem law3 (e n : Int) : val3 e n = true := by
  obtain ⟨o1, o2⟩ := once e
  unfold val3
  rw [o1, o2]
  by_cases hn : 0 < n ∨ n < -8
  · obtain ⟨n1, n2⟩ := outs hn
    have hne : litCmp .eql (-3) n = false := decide_eq_false (by omega)
    rw [n1, hne]
    rfl
  · rcases ins hn with h | h | h | h | h | h | h | h | h <;> subst h <;> rfl
theorem law4 (e n : Int) : val4 e n = true := by
  obtain ⟨o1, o2⟩ := once e
  unfold val4
  rw [o1, o2]
  by_cases hn : 0 < n ∨ n < -8
  · obtain ⟨n1, n2⟩ := outs hn
    have hne : litCmp .eql (-4) n = false := decide_eq_false (by omega)
    rw [n1, hne]
    rfl
  · rcases ins hn with h | h | h | h | h | h | h | h | h <;> subst h <;> rfl
theorem law5 (e n : Int) : val5 e n = true := by
  obtain ⟨o1, o2⟩ := once e
  unfold val5
  rw [o1, o2]
  by_cases hn : 0 < n ∨ n < -8
  · obtain ⟨n1, n2⟩ := outs hn
    have hne : litCmp .eql (-5) n = false := decide_eq_false (by omega)
    rw [n1, hne]
    rfl
  · rcases ins hn with h | h | h | h | h | h | h | h | h <;> subst h <;> rfl
theorem law6 (e n : Int) : val6 e n = true := by
  obtain ⟨o1, o2⟩ := once e
  unfold val6
  rw [o1, o2]
  by_cases hn : 0 < n ∨ n < -8
  · obtain ⟨n1, n2⟩ := outs hn
    have hne : litCmp .eql (-6) n = false := decide_eq_false (by omega)
    rw [n1, hne]
    rfl
  · rcases ins hn with h | h | h | h | h | h | h | h | h <;> subst h <;> rfl
theorem law7 (e n : Int) : val7 e n = true := by
  obtain ⟨o1, o2⟩ := once e
  unfold val7
  rw [o1, o2]
  by_cases hn : 0 < n ∨ n < -8
  · obtain ⟨n1, n2⟩ := outs hn
    have hne : litCmp .eql (-7) n = false := decide_eq_false (by omega)
    rw [n1, hne]
    rfl
  · rcases ins hn with h | h | h | h | h | h | h | h | h <;> subst h <;> rfl
theorem law8 (e n : Int) : val8 e n = true := by
  obtain ⟨o1, o2⟩ := once e
  unfold val8
  rw [o1, o2]
  by_cases hn : 0 < n ∨ n < -8
  · obtain ⟨n1, n2⟩ := outs hn
    have hne : litCmp .eql (-8) n = false := decide_eq_false (by omega)
    rw [n1, hne]
    rfl
  · rcases ins hn with h | h | h | h | h | h | h | h | h <;> subst h <;> rfl

theorem sums (e m n : Int) : ∃ args : List (AV DC), VRels [] args [.int .u64 e, .agg [.int .i64 m, .int .i64 n].toArray] ∧
    ∃ X : Cx DC, Ok Try.prog X ∧ ∃ c : Bool, (call Try.prog X 400 12 args []).pick.map (·.1) = some (.val (.bool (.sym c))) ∧ c = true := by
  have hv : ∀ a b : AI DC, a.den = m → b.den = n → VRels [] [.int .u64 (.sym e), .agg [.int .i64 a, .int .i64 b]] [.int .u64 e, .agg [.int .i64 m, .int .i64 n].toArray] := fun a b ha hb => by
    subst ha
    subst hb
    exact ⟨_, _, rfl, rfl, _, _, rfl, ⟨_, rfl, _, _, rfl, rfl, _, _, rfl, rfl, rfl⟩, rfl⟩
  by_cases hm : 0 < m ∨ m < -8
  · obtain ⟨l1, l2⟩ := lawB e hm
    by_cases hn : 0 < n ∨ n < -8
    · exact ⟨_, hv (.sym m) (.sym n) rfl rfl, cxb, cxb_ok, _, route_pick1 (away e m n) (by rw [lawC hm hn]), l2⟩
    · rcases ins hn with h | h | h | h | h | h | h | h | h
      · exact ⟨_, hv (.sym m) (.lit 0) rfl h.symm, cxb, cxb_ok, _, route_pick1 (away0 e m) (by rw [l1]), l2⟩
      · exact ⟨_, hv (.sym m) (.lit (-1)) rfl h.symm, cxb, cxb_ok, _, route_pick1 (away1 e m) (by rw [l1]), l2⟩
      · exact ⟨_, hv (.sym m) (.lit (-2)) rfl h.symm, cxb, cxb_ok, _, route_pick1 (away2 e m) (by rw [l1]), l2⟩
      · exact ⟨_, hv (.sym m) (.lit (-3)) rfl h.symm, cxb, cxb_ok, _, route_pick1 (away3 e m) (by rw [l1]), l2⟩
      · exact ⟨_, hv (.sym m) (.lit (-4)) rfl h.symm, cxb, cxb_ok, _, route_pick1 (away4 e m) (by rw [l1]), l2⟩
      · exact ⟨_, hv (.sym m) (.lit (-5)) rfl h.symm, cxb, cxb_ok, _, route_pick1 (away5 e m) (by rw [l1]), l2⟩
      · exact ⟨_, hv (.sym m) (.lit (-6)) rfl h.symm, cxb, cxb_ok, _, route_pick1 (away6 e m) (by rw [l1]), l2⟩
      · exact ⟨_, hv (.sym m) (.lit (-7)) rfl h.symm, cxb, cxb_ok, _, route_pick1 (away7 e m) (by rw [l1]), l2⟩
      · exact ⟨_, hv (.sym m) (.lit (-8)) rfl h.symm, cxb, cxb_ok, _, route_pick1 (away8 e m) (by rw [l1]), l2⟩
  · rcases ins hm with h | h | h | h | h | h | h | h | h
    · exact ⟨_, hv (.lit 0) (.sym n) h.symm rfl, cxa, cxa_ok, _, route_pick1 (road0 e n) rfl, law0 e n⟩
    · exact ⟨_, hv (.lit (-1)) (.sym n) h.symm rfl, cxa, cxa_ok, _, route_pick1 (road1 e n) rfl, law1 e n⟩
    · exact ⟨_, hv (.lit (-2)) (.sym n) h.symm rfl, cxa, cxa_ok, _, route_pick1 (road2 e n) rfl, law2 e n⟩
    · exact ⟨_, hv (.lit (-3)) (.sym n) h.symm rfl, cxa, cxa_ok, _, route_pick1 (road3 e n) rfl, law3 e n⟩
    · exact ⟨_, hv (.lit (-4)) (.sym n) h.symm rfl, cxa, cxa_ok, _, route_pick1 (road4 e n) rfl, law4 e n⟩
    · exact ⟨_, hv (.lit (-5)) (.sym n) h.symm rfl, cxa, cxa_ok, _, route_pick1 (road5 e n) rfl, law5 e n⟩
    · exact ⟨_, hv (.lit (-6)) (.sym n) h.symm rfl, cxa, cxa_ok, _, route_pick1 (road6 e n) rfl, law6 e n⟩
    · exact ⟨_, hv (.lit (-7)) (.sym n) h.symm rfl, cxa, cxa_ok, _, route_pick1 (road7 e n) rfl, law7 e n⟩
    · exact ⟨_, hv (.lit (-8)) (.sym n) h.symm rfl, cxa, cxa_ok, _, route_pick1 (road8 e n) rfl, law8 e n⟩

set_option maxRecDepth 100000 in
set_option maxHeartbeats 4000000 in
theorem run : ∀ vs, ArgsOk [.one (.int .u64), .agg [.int .i64, .int .i64]] vs → ∀ w, Calls Try.prog 12 vs.toArray w fun e w' => e = .returned (.bool true) ∧ Below w.heap.size w w' := by
  intro vs h w
  obtain ⟨_, _, rfl, ⟨e, rfl, we⟩, _, _, rfl, ⟨_, rfl, _, _, rfl, ⟨m, rfl, wm⟩, _, _, rfl, ⟨n, rfl, wn⟩, rfl⟩, rfl⟩ := h
  obtain ⟨args, k3, X, hX, c, k1, k2⟩ := sums e m n
  have k4 := law_true3 hX k3 k1 k2 w
  exact k4

set_option maxRecDepth 100000 in
theorem lifted (os : Os) (started : os.Started) (H : Type) (enc : TypeId × Value → H) :
    ReturnsInHanded {} Try.checked os 12 .any (Rows.baseProbesSpec.pre6 enc Try.prog Try.f12 Rows.baseProbesRow.domain false) (Rows.baseProbesSpec.post enc Try.prog Try.f12 false true false false) := by
  refine returnsInHanded_of_change (C := Try.checked) own started (by kernel_rfl) Try.func12
    (ChangeSpec.witness6 (enc := enc) (C := Try.checked) false ⟨#[], #[.int .u64 0, .agg #[.int .i64 0, .int .i64 0]], []⟩ 8 (by kernel_rfl) (by kernel_rfl) (by kernel_rfl) (by kernel_rfl)) ?_
  intro W base args ds gs before hval hW _ _
  exact lifted_plain (P := Try.prog) (f := 12) (fn := Try.f12) (s := Rows.baseProbesSpec) (tb := 4) rfl
    (fun ds h => by
      match ds, h with
      | [d1, d2], _ => rfl)
    (by kernel_rfl) rfl (by kernel_rfl) run W base args ds gs before hval hW

theorem over : Rows.baseProbesRow.holds Try.pinned (OpenSpec.ofChange Rows.baseProbesSpec) :=
  OpenClaim.holds_of_wide 12 Try.f12 rfl rfl rfl rfl rfl rfl rfl ⟨rfl, rfl, rfl, rfl, rfl⟩ rfl rfl rfl rfl rfl (by kernel_rfl) Try.func12 (by kernel_rfl)
    (of_decide_eq_true (by kernel_rfl)) (by unfold Func.isWrapper; first | (rw [if_pos (by decide +kernel)]; kernel_rfl) | (rw [if_neg (by decide +kernel)]; exact ⟨rfl, rfl⟩))
    (fun os started H enc _ => lifted os started H enc)

/-- The statement. -/
theorem proved : Rows.BaseProbesSaid :=
  over
#print axioms proved
end Go.Proofs.Ytbjlkapfpcmjfaa.BaseProbes
