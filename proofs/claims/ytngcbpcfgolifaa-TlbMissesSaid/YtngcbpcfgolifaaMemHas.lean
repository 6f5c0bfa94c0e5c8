/- Whether there is memory, and what is no number. Conditions: none. -/
import Derived.Test.YtngcbpcfgolifaaMemSums
namespace Go.Proofs.Ytngcbpcfgolifaa.Ev
open Go.RowKit
set_option linter.unusedVariables false
set_option linter.unusedSimpArgs false

noncomputable def gHas (T0 : TypeId) (args : List (AV DC)) (h : List (AO DC)) : Option (T DC (AV DC × List (W DC))) := match args with
  | [.ptr b (.lit 0), .int .u64 x, .int .i64 n] => match h[b]? with
    | some (.cells t [.slice c (.lit 0) (.rc L 1 0) (.kn (.rc C 1 0))]) => if Nat.beq t T0 then (match h[c]? with
      | some (.arr 5 N [(.int .u8, F)]) => some (.br (askP L C x.den n.den) (.ret (.bool (.sym (okS L x.den n.den)), [])) .fail)
      | _ => none) else none
    | _ => none
  | _ => none
set_option maxRecDepth 100000 in
theorem has1 (L C N : Nat) (F : Nat → Int) (x n : Int) : seeM (hsM 156 L C N F) (call Try.prog cxm1 380 37 [.ptr 0 (.lit 0), .int .u64 (.sym x), .int .i64 (.sym n)] (hsM 156 L C N F)) [true] =
    some ([askP L C x n], .val (.bool (.sym (okS L x n))), hsM 156 L C N F) := by kernel_rfl
def hasR (L : Nat) (x n : Int) : Bool := (cond (cond (litCmp .lss n 0) true (litCmp .lss x 2147483648)) false (cond (litCmp .leq (litBin .sub .u64 x 2147483648) (IntKind.wrap .u64 ((L : Nat) : Int))) (litCmp .leq (IntKind.wrap .u64 n) (litBin .sub .u64 (IntKind.wrap .u64 ((L : Nat) : Int)) (litBin .sub .u64 x 2147483648))) false))
set_option maxRecDepth 100000 in
theorem has2 (L C N : Nat) (F : Nat → Int) (x n : Int) : seeM (hsM 63 L C N F) (call Try.prog cxm1 380 43 [.ptr 0 (.lit 0), .int .u64 (.sym x), .int .i64 (.sym n)] (hsM 63 L C N F)) [] =
    some ([], .val (.bool (.sym (hasR L x n))), hsM 63 L C N F) := by kernel_rfl
theorem hasR_eq {L : Nat} {x n : Int} (hL : L ≤ 65536) (hx : inU x) (hn : inI n) : hasR L x n = okS L x n := by
  unfold hasR okS
  rw [lss_eq, lss_eq, leq_eq, leq_eq, sub_eq, sub_eq, Ev.wrap64, Ev.wrap64]
  unfold inU at hx
  unfold inI at hn
  have e1 : ((L : Nat) : Int) % 18446744073709551616 = (L : Int) := by omega
  rw [e1]
  by_cases h0 : n < 0
  · rw [decide_eq_true h0, (decide_eq_false (by omega) : decide (0 ≤ n ∧ 2147483648 ≤ x ∧ x + n ≤ 2147483648 + (L : Int)) = false)]; rfl
  · rw [decide_eq_false h0, cond_false]
    by_cases h3 : x < 2147483648
    · rw [decide_eq_true h3, (decide_eq_false (by omega) : decide (0 ≤ n ∧ 2147483648 ≤ x ∧ x + n ≤ 2147483648 + (L : Int)) = false)]; rfl
    · rw [decide_eq_false h3, cond_false]
      by_cases h1 : (x - 2147483648) % 18446744073709551616 ≤ (L : Int)
      · rw [decide_eq_true h1, cond_true]
        have e2 : n % 18446744073709551616 = n := by omega
        rw [e2]
        exact decide_eq_decide.2 (by omega)
      · rw [decide_eq_false h1, (decide_eq_false (by omega) : decide (0 ≤ n ∧ 2147483648 ≤ x ∧ x + n ≤ 2147483648 + (L : Int)) = false)]; rfl
theorem has_ok {X : Cx DC} (hX : Ok Try.prog X) {f : FuncId} {T0 : TypeId} (hf : ∀ (L C N : Nat) (F : Nat → Int) (x n : Int), askP L C x n = true → ∃ (ds cs : List Bool) (b : Bool), seeM (hsM T0 L C N F) (call Try.prog X 380 f [.ptr 0 (.lit 0), .int .u64 (.sym x), .int .i64 (.sym n)] (hsM T0 L C N F)) ds = some (cs, .val (.bool (.sym b)), hsM T0 L C N F) ∧ cs = ds ∧ b = okS L x n)
    {args : List (AV DC)} {h : List (AO DC)} {t : T DC (AV DC × List (W DC))} {r : AV DC × List (W DC)} (ht : gHas T0 args h = some t) (hp : t.pick = some r) : FnOk Try.prog f args h r := by
  unfold gHas at ht
  split at ht
  · rename_i b x n
    split at ht
    · rename_i t0 c L C hb
      split at ht
      · rename_i hT
        have := Nat.eq_of_beq_eq_true hT
        subst this
        split at ht
        · rename_i N F hc
          cases ht
          rcases T.br_some hp with ⟨h1, h2⟩ | ⟨_, h2⟩
          · have := T.ret_some h2
            subst this
            obtain ⟨ds, cs, b', e1, e2, e3⟩ := hf L C N F x.den n.den h1
            exact memF (F2 := F) hX e1 e2 hb hc ⟨⟨rfl, rfl⟩, ⟨rfl, rfl⟩, trivial⟩ (fun hbc => e3) (.inl ⟨rfl, fun _ _ => rfl⟩)
          · cases h2
        · cases ht
      · cases ht
    · cases ht
  · cases ht
noncomputable def cxm2a : Cx DC := cxm1.sum 37 (gHas 156)
theorem cxm2a_ok : Ok Try.prog cxm2a := cxm1_ok.sum (by kernel_rfl) fun args h t r ht hp => has_ok cxm1_ok (fun L C N F x n ha => ⟨[true], _, _, has1 L C N F x n, by rw [ha], rfl⟩) ht hp
noncomputable def cxm2 : Cx DC := cxm2a.sum 43 (gHas 63)
theorem cxm2_ok : Ok Try.prog cxm2 := cxm2a_ok.sum (by kernel_rfl) fun args h t r ht hp => has_ok cxm1_ok (fun L C N F x n ha => ⟨[], _, _, has2 L C N F x n, rfl, by
  obtain ⟨k1, k2, k3, k4⟩ := of_yes ha
  exact hasR_eq k2 k3 k4⟩) ht hp

/-! ### No number -/
def numT (n : Int) : Bool := (cond (litCmp .eql n 1) (litCmp .eql n 1) (cond (litCmp .eql n 2) (litCmp .eql n 2) (cond (litCmp .eql n 4) (litCmp .eql n 4) (litCmp .eql n 8))))
def numU (n : Int) : Bool := (cond (litCmp .eql n 1) true (cond (litCmp .eql n 2) true (cond (litCmp .eql n 4) true (litCmp .eql n 8))))
theorem num_ne {n : Int} (h : num n = false) : n ≠ 1 ∧ n ≠ 2 ∧ n ≠ 4 ∧ n ≠ 8 := by
  have := of_decide_eq_false h
  omega
theorem numT_f {n : Int} (h : num n = false) : numT n = false ∧ numU n = false := by
  obtain ⟨h1, h2, h3, h4⟩ := num_ne h
  unfold numT numU
  rw [eql_eq, eql_eq, eql_eq, eql_eq, decide_eq_false h1, decide_eq_false h2, decide_eq_false h3, decide_eq_false h4]
  exact ⟨rfl, rfl⟩
set_option maxRecDepth 100000 in
theorem number0 (L C N : Nat) (F : Nat → Int) (x n : Int) : seeM (hsM 156 L C N F) (call Try.prog cxm1 380 90 [.ptr 0 (.lit 0), .int .u64 (.sym x), .int .i64 (.sym n)] (hsM 156 L C N F)) [false] =
    some ([numT n], .val (.tuple [.nilslice, .bool (.lit false)]), hsM 156 L C N F) := by kernel_rfl
set_option maxRecDepth 100000 in
theorem size0 (n : Int) : (call Try.prog cxm1 380 91 [.int .i64 (.sym n)] []).route [] = some ([], (.val (.bool (.sym (numU n))), [])) := by kernel_rfl
noncomputable def gNo1 (args : List (AV DC)) (h : List (AO DC)) : Option (T DC (AV DC × List (W DC))) := match args with
  | [.ptr b (.lit 0), .int .u64 x, .int .i64 n] => match h[b]? with
    | some (.cells 156 [.slice c (.lit 0) (.rc L 1 0) (.kn (.rc C 1 0))]) => match h[c]? with
      | some (.arr 5 N [(.int .u8, F)]) => some (.br (!(num n.den)) (.ret (.tuple [.nilslice, .bool (.lit false)], [])) .fail)
      | _ => none
    | _ => none
  | _ => none
def gNo2 (args : List (AV DC)) (h : List (AO DC)) : Option (T DC (AV DC × List (W DC))) := match args with
  | [.int .i64 n] => some (.br (!(num n.den)) (.ret (.bool (.lit false), [])) .fail)
  | _ => none
noncomputable def cxn1 : Cx DC := cxm2.sum 90 gNo1
theorem cxn1_ok : Ok Try.prog cxn1 := cxm2_ok.sum (by kernel_rfl) fun args h t r ht hp => by
  unfold gNo1 at ht
  split at ht
  · rename_i b x n
    split at ht
    · rename_i c L C hb
      split at ht
      · rename_i N F hc
        cases ht
        rcases T.br_some hp with ⟨h1, h2⟩ | ⟨_, h2⟩
        · have := T.ret_some h2
          subst this
          have hn : num n.den = false := by simpa using h1
          exact memF (F2 := F) cxm1_ok (number0 L C N F x.den n.den) (by rw [(numT_f hn).1]) hb hc ⟨⟨rfl, rfl⟩, ⟨rfl, rfl⟩, trivial⟩ (fun hbc => ⟨trivial, rfl, trivial⟩) (.inl ⟨rfl, fun _ _ => rfl⟩)
        · cases h2
      · cases ht
    · cases ht
  · cases ht
noncomputable def cxn : Cx DC := cxn1.sum 91 gNo2
theorem cxn_ok : Ok Try.prog cxn := cxn1_ok.sum (by kernel_rfl) fun args h t r ht hp => by
  unfold gNo2 at ht
  split at ht
  · rename_i n
    cases ht
    rcases T.br_some hp with ⟨h1, h2⟩ | ⟨_, h2⟩
    · have := T.ret_some h2
      subst this
      have hn : num n.den = false := by simpa using h1
      exact pureV cxm1_ok (route_pick [] _ _ (size0 n.den)) ⟨⟨rfl, rfl⟩, trivial⟩ fun σ => by rw [(numT_f hn).2]; rfl
    · cases h2
  · cases ht

/-! ### The tests of the bounds -/
def bndC (N o : Nat) : Nat → Nat → Bool
  | 0, i => decide (o + i < N)
  | k + 1, i => decide (o + i < N) && bndC N o k (i + 1)
theorem bndC_t {N o : Nat} : ∀ k i, o + i + k < N → bndC N o k i = true
  | 0, i, h => decide_eq_true h
  | k + 1, i, h => by simp only [bndC]; rw [decide_eq_true (by omega), bndC_t k (i + 1) (by omega)]; rfl
def ixI (x : Int) (i : Nat) : Int := litBin .add .i64 (IntKind.wrap .i64 (litBin .sub .u64 x 2147483648)) (i : Int)
def bnd1 (L N : Nat) (x : Int) (i : Nat) : Bool := (decide (0 ≤ ixI x i ∧ ixI x i < ((L : Nat) : Int))) && (decide (Int.toNat (ixI x i) < N))
def bndR (L N : Nat) (x : Int) : Nat → Nat → Bool
  | 0, i => bnd1 L N x i
  | k + 1, i => bnd1 L N x i && bndR L N x k (i + 1)
def bndD (L N : Nat) (x : Int) : Nat → Bool
  | 0 => bnd1 L N x 0
  | k + 1 => bnd1 L N x (k + 1) && bndD L N x k
theorem ixI_eq {N : Nat} (hN : N ≤ 65536) {x n : Int} (h : okS N x n = true) (hx : inU x) {i : Nat} (hi : i ≤ 8) : ixI x i = ((off x + i : Nat) : Int) := by
  obtain ⟨a, b, c⟩ := ok_off h hx
  unfold ixI
  have e : litBin .sub .u64 x 2147483648 = (off x : Int) := by
    unfold off
    rw [sub_eq]
    omega
  rw [e]
  generalize off x = o at *
  clear e h b hx
  rw [addi, wrapi]
  have h1 : ((o : Int) + 9223372036854775808) % 18446744073709551616 = (o : Int) + 9223372036854775808 := Int.emod_eq_of_lt (by omega) (by omega)
  rw [h1]
  have h2 : (o : Int) + 9223372036854775808 - 9223372036854775808 + (i : Int) + 9223372036854775808 = ((o + i : Nat) : Int) + 9223372036854775808 := by omega
  rw [h2, Int.emod_eq_of_lt (by omega) (by omega)]
  omega
theorem bnd1_t {N : Nat} (hN : N ≤ 65536) {x n : Int} (h : okS N x n = true) (hx : inU x) {i : Nat} (hi : i ≤ 8) (hb : off x + i < N) : bnd1 N N x i = true := by
  unfold bnd1
  rw [ixI_eq hN h hx hi, Int.toNat_natCast, decide_eq_true (by omega), decide_eq_true hb]
  rfl
theorem bndR_t {N : Nat} (hN : N ≤ 65536) {x n : Int} (h : okS N x n = true) (hx : inU x) : ∀ k i, i + k ≤ 8 → off x + i + k < N → bndR N N x k i = true
  | 0, i, hi, hb => bnd1_t hN h hx hi hb
  | k + 1, i, hi, hb => by simp only [bndR]; rw [bnd1_t hN h hx (by omega) (by omega), bndR_t hN h hx k (i + 1) (by omega) (by omega)]; rfl
theorem bndD_t {N : Nat} (hN : N ≤ 65536) {x n : Int} (h : okS N x n = true) (hx : inU x) : ∀ k, k ≤ 8 → off x + k < N → bndD N N x k = true
  | 0, hi, hb => bnd1_t hN h hx hi hb
  | k + 1, hi, hb => by simp only [bndD]; rw [bnd1_t hN h hx (by omega) (by omega), bndD_t hN h hx k (by omega) (by omega)]; rfl

end Go.Proofs.Ytngcbpcfgolifaa.Ev
