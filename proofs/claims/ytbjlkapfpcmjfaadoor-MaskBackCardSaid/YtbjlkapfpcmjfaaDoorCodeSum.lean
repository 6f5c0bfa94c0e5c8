/- The code's Harts as a summary. Conditions: none. -/
import Derived.Test.YtbjlkapfpcmjfaaDoorCodeHarts
namespace Go.Proofs.YtbjlkapfpcmjfaaDoor.Mask
open Go.RowKit Ev
set_option linter.unusedVariables false
set_option linter.unusedSimpArgs false

theorem fn_args {P : Program} {f : FuncId} {args args' : List (AV DC)} {h : List (AO DC)} {r : AV DC × List (W DC)} (hf : FnOk P f args' h r) (ha : ∀ ρ vals, VRels ρ args vals → VRels ρ args' vals) : FnOk P f args h r :=
  fun w0 own ρ w vals H hv => hf w0 own ρ w vals H (ha _ _ hv)
theorem fn_val {P : Program} {f : FuncId} {args : List (AV DC)} {h : List (AO DC)} {v v' : AV DC} {l : List (W DC)} (hf : FnOk P f args h (v, l)) (hv : ∀ ρ u, VRel ρ v u → VRel ρ v' u) : FnOk P f args h (v', l) := by
  intro w0 own ρ w vals H hvs
  refine (hf w0 own ρ w vals H hvs).mono fun e w' hp => ?_
  obtain ⟨u, v1, ρ', e1, e2, e3, e4, e5⟩ := hp
  cases e1
  exact ⟨u, v', ρ', rfl, e2, e3, hv _ _ e4, e5⟩

def yI (n : Int) : Int := IntKind.u64.wrap (cond (litCmp .lss 8 (cond (litCmp .gtr 0 n) 0 n)) 8 (cond (litCmp .gtr 0 n) 0 n))
theorem lanes_le (n : Int) : lanes n ≤ 8 := by unfold lanes; omega
theorem yI_eq (n : Int) : yI n = ((lanes n : Nat) : Int) := by
  unfold yI lanes
  rw [lss_eq, gtr_eq]
  by_cases h : n < 0
  · rw [decide_eq_true h, cond_true]
    have : max n 0 = 0 := by omega
    rw [this]
    rfl
  · rw [decide_eq_false h, cond_false]
    by_cases h8 : 8 < n
    · rw [decide_eq_true h8, cond_true]
      have : min (max n 0) 8 = 8 := by omega
      rw [this]
      rfl
    · rw [decide_eq_false h8, cond_false, Ev.wrap64]
      omega
def mI (m b n : Int) : Int := cond (litCmp .eql b 18446744073709551615) (litBin .sub .u64 (litBin .shl .u64 1 (yI n)) 1) m
def bI (b : Int) : Int := cond (litCmp .eql b 18446744073709551615) 0 b
def gI (b n : Int) : Bool := cond (litCmp .eql b 18446744073709551615) (!(litCmp .lss (yI n) 0)) true
theorem gI_true (b n : Int) : gI b n = true := by
  unfold gI
  rw [yI_eq, lss_eq, decide_eq_false (by omega)]
  cases litCmp .eql b 18446744073709551615 <;> rfl
theorem shl_one {y : Nat} (hy : y ≤ 8) : litBin .shl .u64 1 (y : Int) = ((2 ^ y : Nat) : Int) := by
  have : ∀ k : Fin 9, litBin .shl .u64 1 ((k.val : Nat) : Int) = ((2 ^ k.val : Nat) : Int) := by decide +kernel
  exact this ⟨y, by omega⟩
theorem pow_le {y : Nat} (hy : y ≤ 8) : 1 ≤ 2 ^ y ∧ 2 ^ y ≤ 256 := ⟨Nat.two_pow_pos y, by
  have : 2 ^ y ≤ 2 ^ 8 := Nat.pow_le_pow_right (by decide) hy
  exact this⟩
theorem mI_eq (m b : Nat) (n : Int) : mI m b n = ((maskOf m b (lanes n) : Nat) : Int) := by
  unfold mI maskOf
  rw [yI_eq, eql_eq]
  by_cases h : b = 18446744073709551615
  · subst h
    have hp := pow_le (lanes_le n)
    rw [decide_eq_true (by rfl), cond_true, if_pos rfl, shl_one (lanes_le n), sub_eq]
    omega
  · rw [decide_eq_false (by omega), cond_false, if_neg h]
theorem bI_eq (b : Nat) : bI b = ((baseOf b : Nat) : Int) := by
  unfold bI baseOf
  rw [eql_eq]
  by_cases h : b = 18446744073709551615
  · subst h
    rfl
  · rw [decide_eq_false (by omega), cond_false, if_neg h]
theorem mask_lt {m b : Nat} (hm : m < 18446744073709551616) {y : Nat} (hy : y ≤ 8) : maskOf m b y < 18446744073709551616 := by
  unfold maskOf
  have := pow_le hy
  split <;> omega

namespace Code
abbrev ag (m b n : Int) : List (AV DC) := [.int .u64 (.sym m), .int .u64 (.sym b), .int .i64 (.sym n)]
abbrev en (m b n : Int) : Env DC := e0 (mI m b n) (bI b) (yI n)
set_option maxRecDepth 100000 in
theorem fN (m b n : Int) : (call Tryd.prog cxN 60 8 (ag m b n) []).route [true] = some ([gI b n && askN (en m b n)], (.val (.tuple [.slice 0 (.lit 0) (.rc ((resN (en m b n)).n.getD 0 0) 1 0) (.un 1), .bool (.lit true)]), [.new (.arr 3 ((resN (en m b n)).n.getD 1 0) [(.int .i64, (resN (en m b n)).f.getD 0 (fun _ => 0))])])) := by kernel_rfl
set_option maxRecDepth 100000 in
theorem fE (m b n : Int) : (call Tryd.prog cxE 60 8 (ag m b n) []).route [true] = some ([gI b n && askE (en m b n)], (.val (.tuple [.nilslice, .bool (.lit true)]), [])) := by kernel_rfl
set_option maxRecDepth 100000 in
theorem fR (m b n : Int) : (call Tryd.prog cxR 60 8 (ag m b n) []).route [true] = some ([gI b n && askR (en m b n)], (.val (.tuple [.nilslice, .bool (.lit false)]), [])) := by kernel_rfl
end Code

/-- The answer, of whole numbers. -/
def okH (m b n : Int) : Bool := okN m.toNat b.toNat (lanes n)
def listH (m b n : Int) : List Int := listN m.toNat b.toNat (lanes n)
def lenH (m b n : Int) : Nat := (listH m b n).length
def atH (m b n : Int) : Nat → Int := listF (listH m b n)
def inB (x : Int) : Bool := decide (0 ≤ x ∧ x < 18446744073709551616)
def gHarts (args : List (AV DC)) (h : List (AO DC)) : Option (T DC (AV DC × List (W DC))) := match args with
  | [.int .u64 m, .int .u64 b, .int .i64 n] => some (.br (inB m.val && inB b.val) (.ret (.tuple [.slice h.length (.lit 0) (.rc (lenH m.val b.val n.val) 1 0) .any, .bool (.sym (okH m.val b.val n.val))], [.new (.rows 0 (lenH m.val b.val n.val) [(.int .i64, atH m.val b.val n.val)])])) .fail)
  | _ => none
theorem val_ok {ρ : List Rb} {x : AV DC} {b c : AB DC} (h : b.den = c.den) (u : Value) (hu : VRel ρ (.tuple [x, .bool b]) u) : VRel ρ (.tuple [x, .bool c]) u := by
  obtain ⟨us, rfl, u1, us1, hus1, hu1, u2, us2, rfl, hu2, hnil⟩ := hu
  have hu2' : u2 = .bool b.den := hu2
  exact ⟨us, rfl, u1, _, hus1, hu1, u2, us2, rfl, by rw [hu2', h]; rfl, hnil⟩
theorem code_fn {m b : Nat} {n : Int} (hm : m < 18446744073709551616) (hb : b < 18446744073709551616) (h : List (AO DC)) : FnOk Tryd.prog 8 (Code.ag m b n) h (.tuple [.slice h.length (.lit 0) (.rc (lenH m b n) 1 0) .any, .bool (.sym (okH m b n))], [.new (.rows 0 (lenH m b n) [(.int .i64, atH m b n)])]) := by
  have hml := mask_lt (b := b) hm (lanes_le n)
  have hen : Code.en m b n = Code.e0 ((maskOf m b (lanes n) : Nat) : Int) ((baseOf b : Nat) : Int) ((lanes n : Nat) : Int) := by rw [← mI_eq, ← bI_eq, ← yI_eq]
  have hL : listH m b n = listN m b (lanes n) := rfl
  have hO : okH m b n = okN m b (lanes n) := rfl
  have hag : (Code.ag (m : Int) (b : Int) n).all scal = true := rfl
  cases hok : okN m b (lanes n) with
  | false =>
    have hq : Code.askR (Code.en m b n) = true := yes_of ⟨_, _, _, hen, hml, lanes_le n, hok⟩
    have hr := route_at (Code.fR m b n) (by rw [gI_true, hq]; rfl)
    have hf := fn_ok Code.cxR_ok (r := (.tuple [.nilslice, .bool (.lit false)], [])) hr
    have hl : listH m b n = [] := by rw [hL]; unfold listN; rw [hok]; rfl
    have := fn_list (k := .i64) (n := 0) (F := listF []) (h := h) hag hf (.inl ⟨rfl, .inl rfl⟩)
    unfold lenH atH
    rw [hl]
    exact fn_val this fun ρ u hu => val_ok (by rw [hO, hok]; rfl) u hu
  | true =>
    by_cases h0 : maskOf m b (lanes n) = 0
    · have hq : Code.askE (Code.en m b n) = true := yes_of ⟨_, _, _, hen, hml, lanes_le n, h0⟩
      have hr := route_at (Code.fE m b n) (by rw [gI_true, hq]; rfl)
      have hf := fn_ok Code.cxE_ok (r := (.tuple [.nilslice, .bool (.lit true)], [])) hr
      have hl : listH m b n = [] := by rw [hL]; unfold listN; rw [hok, h0, (bits_nil (by decide)).2 rfl]; rfl
      have := fn_list (k := .i64) (n := 0) (F := listF []) (h := h) hag hf (.inl ⟨rfl, .inl rfl⟩)
      unfold lenH atH
      rw [hl]
      exact fn_val this fun ρ u hu => val_ok (by rw [hO, hok]; rfl) u hu
    · have hq : Code.askN (Code.en m b n) = true := yes_of ⟨_, _, _, hen, hml, lanes_le n, hok, h0⟩
      have hr := route_at (Code.fN m b n) (by rw [gI_true, hq]; rfl)
      rw [hen] at hr
      have hl : listH m b n = Code.vals (maskOf m b (lanes n)) (baseOf b) := by rw [hL]; unfold listN; rw [hok]; rfl
      have hf := fn_ok Code.cxN_ok (r := (.tuple [.slice 0 (.lit 0) (.rc (lenH m b n) 1 0) (.un 1), .bool (.lit true)], [.new (.arr 3 (lenH m b n) [(.int .i64, atH m b n)])])) (by
        unfold lenH atH
        rw [hl]
        exact hr)
      have := fn_list (k := .i64) (n := lenH m b n) (F := atH m b n) (h := h) hag hf (.inr ⟨0, 3, 1, rfl, rfl⟩)
      exact fn_val this fun ρ u hu => val_ok (by rw [hO, hok]; rfl) u hu
theorem inB_nat {x : Int} (h : inB x = true) : ∃ m : Nat, x = (m : Int) ∧ m < 18446744073709551616 := by
  have h' : 0 ≤ x ∧ x < 18446744073709551616 := of_decide_eq_true h
  exact ⟨x.toNat, by omega, by omega⟩
theorem sum_of {f : FuncId} (H : ∀ (m b : Nat) (n : Int) (h : List (AO DC)), m < 18446744073709551616 → b < 18446744073709551616 → FnOk Tryd.prog f (Code.ag m b n) h (.tuple [.slice h.length (.lit 0) (.rc (lenH m b n) 1 0) .any, .bool (.sym (okH m b n))], [.new (.rows 0 (lenH m b n) [(.int .i64, atH m b n)])]))
    {args : List (AV DC)} {h : List (AO DC)} {t : T DC (AV DC × List (W DC))} {r : AV DC × List (W DC)} (ht : gHarts args h = some t) (hp : t.pick = some r) : FnOk Tryd.prog f args h r := by
  unfold gHarts at ht
  split at ht
  · rename_i m b n
    cases ht
    rcases T.br_some hp with ⟨h1, h2⟩ | ⟨_, h2⟩
    · have := T.ret_some h2
      subst this
      have h1' : (inB m.val && inB b.val) = true := h1
      rw [Bool.and_eq_true] at h1'
      obtain ⟨m', em, hm⟩ := inB_nat h1'.1
      obtain ⟨b', eb, hb⟩ := inB_nat h1'.2
      rw [em, eb]
      refine fn_args (H m' b' n.val h hm hb) fun ρ vals hv => ?_
      obtain ⟨v1, l1, rfl, g1, v2, l2, rfl, g2, v3, l3, rfl, g3, g4⟩ := hv
      have e1 : v1 = .int .u64 m.den := g1
      have e2 : v2 = .int .u64 b.den := g2
      have e3 : v3 = .int .i64 n.den := g3
      rw [← AI.val_den] at e1 e2 e3
      exact ⟨v1, _, rfl, by rw [e1, em]; rfl, v2, _, rfl, by rw [e2, eb]; rfl, v3, _, rfl, by rw [e3]; rfl, g4⟩
    · cases h2
  · cases ht
end Go.Proofs.YtbjlkapfpcmjfaaDoor.Mask
