/- What is read of memory and written to it, by the code and by the reference, as the same terms. Conditions: none. -/
import Derived.Test.YtngcbpcfgolifaaMemBits
namespace Go.Proofs.Ytngcbpcfgolifaa.Ev
open Go.RowKit
set_option linter.unusedVariables false
set_option linter.unusedSimpArgs false

/-- Memory of bytes: a struct with a slice, and what it is a slice of. -/
def hsM (t : TypeId) (L C N : Nat) (F : Nat → Int) : List (AO DC) := [.cells t [.slice 1 (.lit 0) (.rc L 1 0) (.kn (.rc C 1 0))], .arr 5 N [(.int .u8, F)]]
def seeM (h : List (AO DC)) (t : T DC (Ex DC × List (W DC))) (ds : List Bool) : Option (List Bool × Ex DC × List (AO DC)) := (t.route ds).map fun p => (p.1, p.2.1, (({ slots := [], heap := h } : St DC).apps p.2.2).heap.take 2)
theorem take2 {h : List (AO DC)} {a b : AO DC} (e : h.take 2 = [a, b]) : h[0]? = some a ∧ h[1]? = some b := by
  match h, e with
  | x :: y :: r, e =>
    simp only [List.take_succ_cons, List.take_zero, List.cons.injEq, and_true] at e
    exact ⟨by simp [e.1], by simp [e.2]⟩
  | [x], e => simp at e
  | [], e => simp at e

theorem memF {P : Program} {X : Cx DC} (hX : Ok P X) {n : Nat} {f : FuncId} {b c : Nat} {t : TypeId} {L C N : Nat} {F F1 F2 : Nat → Int} {h : List (AO DC)} {v v' : AV DC} {rest rest' : List (AV DC)} {l : List (W DC)} {ds cs : List Bool}
    (hr : seeM (hsM t L C N F) (call P X n f (.ptr 0 (.lit 0) :: rest') (hsM t L C N F)) ds = some (cs, .val v', hsM t L C N F1)) (hcs : cs = ds)
    (hb : h[b]? = some (.cells t [.slice c (.lit 0) (.rc L 1 0) (.kn (.rc C 1 0))])) (hc : h[c]? = some (.arr 5 N [(.int .u8, F)]))
    (hrest : covL (at' [b, c]) rest rest') (hv : b ≠ c → covV (idx [b, c]) v' v)
    (hl : (l = [] ∧ ∀ i, i < N → F1 i = F i) ∨ (l = [.obj c (.arr 5 N [(.int .u8, F2)])] ∧ ∀ i, i < N → F1 i = F2 i)) : FnOk P f (.ptr b (.lit 0) :: rest) h (v, l) := by
  subst hcs
  have hbc : b ≠ c := fun e => by subst e; rw [hb] at hc; cases hc
  have hbeq : Nat.beq b c = false := by
    cases hh : Nat.beq b c
    · rfl
    · exact absurd (Nat.eq_of_beq_eq_true hh) hbc
  unfold seeM at hr
  obtain ⟨⟨cs', z⟩, h1, h2⟩ := Option.map_eq_some_iff.1 hr
  simp only [Prod.mk.injEq] at h2
  obtain ⟨rfl, h3, h4⟩ := h2
  have hp := route_pick _ _ _ h1
  obtain ⟨z1, z2⟩ := z
  simp only at h3 h4 hp
  subst h3
  obtain ⟨q0, q1⟩ := take2 h4
  have i0 : idx [b, c] b = some 0 := by simp [idx]
  have i1 : idx [b, c] c = some 1 := by simp [idx, hbeq]
  refine frame_old [b, c] (fn_ok hX (r := (v', z2)) hp) ⟨⟨rfl, rfl⟩, hrest⟩ ⟨?_, ?_, trivial⟩ ?_ (by simp [hbc]) (fun j i o hj ho => ?_) ?_ (fun i hi => ?_) (fun j i o hj ho => ?_) (hv hbc)
  · rw [hb]
    exact ⟨rfl, ⟨rfl, rfl, rfl, rfl⟩, trivial⟩
  · rw [hc]
    exact ⟨rfl, rfl, ⟨rfl, fun _ _ => rfl, trivial⟩⟩
  · simp [hsM, injB, notIn, AO.live, AO.mine, hbeq]
  · match j, hj with
    | 0, hj => cases hj; rw [hb] at ho; cases ho; rfl
    | 1, hj => cases hj; rw [hc] at ho; cases ho; rfl
    | _ + 2, hj => cases hj
  · rcases hl with ⟨rfl, _⟩ | ⟨rfl, _⟩
    · rfl
    · simp [St.apps, St.app]
  · rcases hl with ⟨rfl, _⟩ | ⟨rfl, _⟩
    · rfl
    · have : c ≠ i := fun e => hi (by simp [e])
      simp only [St.apps, St.app]
      rw [List.getElem?_set_ne this]
  · match j, hj with
    | 0, hj =>
      cases hj
      have ho' : h[b]? = some o := by
        rcases hl with ⟨rfl, _⟩ | ⟨rfl, _⟩
        · exact ho
        · simp only [St.apps, St.app] at ho
          rwa [List.getElem?_set_ne (fun e => hbc e.symm)] at ho
      rw [hb] at ho'
      cases ho'
      exact ⟨_, q0, rfl, ⟨i1, rfl, rfl, rfl⟩, trivial⟩
    | 1, hj =>
      cases hj
      rcases hl with ⟨rfl, hF⟩ | ⟨rfl, hF⟩
      · have ho' : h[c]? = some o := ho
        rw [hc] at ho'
        cases ho'
        exact ⟨_, q1, rfl, rfl, ⟨rfl, hF, trivial⟩⟩
      · simp only [St.apps, St.app] at ho
        rw [List.getElem?_set_self (List.getElem?_eq_some_iff.1 hc).1] at ho
        cases ho
        exact ⟨_, q1, rfl, rfl, ⟨rfl, hF, trivial⟩⟩
    | _ + 2, hj => cases hj

/-! ### What is asked -/
noncomputable def askP (L C : Nat) (x n : Int) : Bool := yes (L = C ∧ L ≤ 65536 ∧ inU x ∧ inI n)
noncomputable def askM (L C N : Nat) (F : Nat → Int) (x n : Int) : Bool := yes ((L = N ∧ C = N ∧ MemOk N F) ∧ inU x ∧ inI n)
theorem askP_of {L C N : Nat} {F : Nat → Int} {x n : Int} (h : askM L C N F x n = true) : askP L C x n = true := by
  obtain ⟨⟨h1, h2, h3⟩, h4⟩ := of_yes h
  exact yes_of ⟨by omega, by have := h3.le; omega, h4⟩
theorem askM_of {N : Nat} {F : Nat → Int} {x n : Int} (h : MemOk N F) (hx : inU x) (hn : inI n) : askM N N N F x n = true := yes_of ⟨⟨rfl, rfl, h⟩, hx, hn⟩

/-! ### A part, and whether there is one -/
def partT (L : Nat) (x n : Int) : Bool := cond (litCmp .lss n 0) true (cond (litCmp .gtr (litBin .sub .u64 x 2147483648) (IntKind.wrap .u64 ((L : Nat) : Int))) true (litCmp .gtr (IntKind.wrap .u64 n) (litBin .sub .u64 (IntKind.wrap .u64 ((L : Nat) : Int)) (litBin .sub .u64 x 2147483648))))
def endS (x n : Int) : Int := litBin .add .u64 (litBin .sub .u64 x 2147483648) (IntKind.wrap .u64 n)
def partU (C : Nat) (x n : Int) : Bool := (decide (0 ≤ endS x n ∧ endS x n < (((C + 1) : Nat) : Int))) && ((decide (0 ≤ endS x n ∧ endS x n < ((((Int.toNat (endS x n)) + 1) : Nat) : Int))) && (decide (0 ≤ (litBin .sub .u64 x 2147483648) ∧ (litBin .sub .u64 x 2147483648) < ((((Int.toNat (endS x n)) + 1) : Nat) : Int))))
set_option maxRecDepth 100000 in
theorem part0 (t : TypeId) (L C N : Nat) (F : Nat → Int) (x n : Int) : seeM (hsM 156 L C N F) (call Try.prog cx 380 88 [.ptr 0 (.lit 0), .int .u64 (.sym x), .int .i64 (.sym n)] (hsM 156 L C N F)) [true] =
    some ([partT L x n], .val (.tuple [.nilslice, .bool (.lit false)]), hsM 156 L C N F) := by kernel_rfl
set_option maxRecDepth 100000 in
theorem part1 (t : TypeId) (L C N : Nat) (F : Nat → Int) (x n : Int) : seeM (hsM 156 L C N F) (call Try.prog cx 380 88 [.ptr 0 (.lit 0), .int .u64 (.sym x), .int .i64 (.sym n)] (hsM 156 L C N F)) [false, true] =
    some ([partT L x n, partU C x n], .val (.tuple [.slice 1 (.rc (off x) 1 0) (.rc ((Int.toNat (endS x n)) - (Int.toNat (litBin .sub .u64 x 2147483648))) 1 0) (.un 0), .bool (.lit true)]), hsM 156 L C N F) := by kernel_rfl
theorem part_arith {L : Nat} {x n : Int} (hL : L ≤ 65536) (hx : inU x) (hn : inI n) : partT L x n = !(okS L x n) := by
  unfold partT okS
  rw [lss_eq, gtr_eq, gtr_eq, sub_eq, sub_eq, Ev.wrap64, Ev.wrap64]
  unfold inU at hx
  unfold inI at hn
  have e1 : ((L : Nat) : Int) % 18446744073709551616 = (L : Int) := by omega
  rw [e1]
  by_cases h0 : n < 0
  · rw [decide_eq_true h0, (decide_eq_false (by omega) : decide (0 ≤ n ∧ 2147483648 ≤ x ∧ x + n ≤ 2147483648 + (L : Int)) = false)]; rfl
  · rw [decide_eq_false h0, cond_false]
    by_cases h1 : (L : Int) < (x - 2147483648) % 18446744073709551616
    · rw [decide_eq_true h1, (decide_eq_false (by omega) : decide (0 ≤ n ∧ 2147483648 ≤ x ∧ x + n ≤ 2147483648 + (L : Int)) = false)]; rfl
    · rw [decide_eq_false h1, cond_false]
      have e2 : n % 18446744073709551616 = n := by omega
      rw [e2]
      by_cases h2 : ((L : Int) - (x - 2147483648) % 18446744073709551616) % 18446744073709551616 < n
      · rw [decide_eq_true h2, (decide_eq_false (by omega) : decide (0 ≤ n ∧ 2147483648 ≤ x ∧ x + n ≤ 2147483648 + (L : Int)) = false)]; rfl
      · rw [decide_eq_false h2, (decide_eq_true (by omega) : decide (0 ≤ n ∧ 2147483648 ≤ x ∧ x + n ≤ 2147483648 + (L : Int)) = true)]; rfl
theorem part_end {L : Nat} {x n : Int} (hL : L ≤ 65536) (hx : inU x) (h : okS L x n = true) : endS x n = ((off x + n.toNat : Nat) : Int) ∧ litBin .sub .u64 x 2147483648 = ((off x : Nat) : Int) := by
  obtain ⟨a, b, c⟩ := ok_off h hx
  have e : litBin .sub .u64 x 2147483648 = ((off x : Nat) : Int) := by
    unfold off
    rw [sub_eq]
    omega
  refine ⟨?_, e⟩
  unfold endS
  rw [e, add_eq, Ev.wrap64]
  omega
theorem part_u {L C : Nat} {x n : Int} (hL : L ≤ 65536) (hC : L = C) (hx : inU x) (h : okS L x n = true) : partU C x n = true := by
  obtain ⟨a, b, c⟩ := ok_off h hx
  obtain ⟨h1, h2⟩ := part_end hL hx h
  unfold partU
  rw [h1, h2, Int.toNat_natCast, decide_eq_true (by omega), decide_eq_true (by omega), decide_eq_true (by omega)]
  rfl
/-- A length of so many. -/
def lenOf : AI DC → AN DC
  | .lit k => .lit k.toNat
  | .sym s => .rc (Int.toNat s) 1 0
theorem lenOf_den (n : AI DC) : (lenOf n).den = n.den.toNat := by
  cases n with
  | lit k => rfl
  | sym s => simp [lenOf, AN.den, nN, AI.den]
noncomputable def gPart (args : List (AV DC)) (h : List (AO DC)) : Option (T DC (AV DC × List (W DC))) := match args with
  | [.ptr b (.lit 0), .int .u64 x, .int .i64 n] => match h[b]? with
    | some (.cells 156 [.slice c (.lit 0) (.rc L 1 0) (.kn (.rc C 1 0))]) => match h[c]? with
      | some (.arr 5 N [(.int .u8, F)]) => some (.br (askP L C x.den n.den) (.br (okS L x.den n.den) (.ret (.tuple [.slice c (.rc (off x.den) 1 0) (lenOf n) (.un 0), .bool (.lit true)], [])) (.ret (.tuple [.nilslice, .bool (.lit false)], []))) .fail)
      | _ => none
    | _ => none
  | _ => none
noncomputable def cxm1 : Cx DC := cx.sum 88 gPart
theorem cxm1_ok : Ok Try.prog cxm1 := cx_ok.sum (by kernel_rfl) fun args h t r ht hp => by
  unfold gPart at ht
  split at ht
  · rename_i b x n
    split at ht
    · rename_i c L C hb
      split at ht
      · rename_i N F hc
        cases ht
        rcases T.br_some hp with ⟨h1, h2⟩ | ⟨_, h2⟩
        · obtain ⟨k1, k2, k3, k4⟩ := of_yes h1
          have ea := part_arith k2 k3 k4
          rcases T.br_some h2 with ⟨h3, h4⟩ | ⟨h3, h4⟩
          · have := T.ret_some h4
            subst this
            rw [h3] at ea
            obtain ⟨g1, g2⟩ := part_end k2 k3 h3
            refine memF (F2 := F) cx_ok (part1 156 L C N F x.den n.den) (by rw [ea, part_u k2 k1 k3 h3]; rfl) hb hc ⟨⟨rfl, rfl⟩, ⟨rfl, rfl⟩, trivial⟩ (fun hbc => ?_) (.inl ⟨rfl, fun _ _ => rfl⟩)
            have hbeq : Nat.beq b c = false := by
              cases hh : Nat.beq b c
              · rfl
              · exact absurd (Nat.eq_of_beq_eq_true hh) hbc
            refine ⟨⟨by simp [idx, hbeq], rfl, ?_, rfl⟩, rfl, trivial⟩
            rw [lenOf_den]
            show ((endS x.den n.den).toNat - (litBin .sub .u64 x.den 2147483648).toNat) * 1 + 0 = _
            rw [g1, g2, Int.toNat_natCast, Int.toNat_natCast]
            omega
          · have := T.ret_some h4
            subst this
            rw [h3] at ea
            exact memF (F2 := F) cx_ok (part0 156 L C N F x.den n.den) (by rw [ea]; rfl) hb hc ⟨⟨rfl, rfl⟩, ⟨rfl, rfl⟩, trivial⟩ (fun hbc => ⟨trivial, rfl, trivial⟩) (.inl ⟨rfl, fun _ _ => rfl⟩)
        · cases h2
      · cases ht
    · cases ht
  · cases ht

end Go.Proofs.Ytngcbpcfgolifaa.Ev
