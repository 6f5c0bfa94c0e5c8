/- What an error's name is, as a tree of its number. Conditions: none. -/
import Derived.Test.YtbjlkapfpcmjfaaCx3
import Derived.Test.YtbjlkapfpcmjfaaEvFrame
namespace Go.Proofs.Ytbjlkapfpcmjfaa.Ev
open Go.RowKit
set_option linter.unusedVariables false
set_option linter.unusedSimpArgs false

def name0 : ByteArray := ⟨#[111, 107]⟩
def name1 : ByteArray := ⟨#[102, 97, 105, 108, 101, 100]⟩
def name2 : ByteArray := ⟨#[110, 111, 116, 45, 115, 117, 112, 112, 111, 114, 116, 101, 100]⟩
def name3 : ByteArray := ⟨#[105, 110, 118, 97, 108, 105, 100, 45, 112, 97, 114, 97, 109]⟩
def name4 : ByteArray := ⟨#[100, 101, 110, 105, 101, 100]⟩
def name5 : ByteArray := ⟨#[105, 110, 118, 97, 108, 105, 100, 45, 97, 100, 100, 114, 101, 115, 115]⟩
def name6 : ByteArray := ⟨#[97, 108, 114, 101, 97, 100, 121, 45, 97, 118, 97, 105, 108, 97, 98, 108, 101]⟩
def name7 : ByteArray := ⟨#[97, 108, 114, 101, 97, 100, 121, 45, 115, 116, 97, 114, 116, 101, 100]⟩
def name8 : ByteArray := ⟨#[97, 108, 114, 101, 97, 100, 121, 45, 115, 116, 111, 112, 112, 101, 100]⟩
def nameT (n : Int) : T DC (AV DC × List (W DC)) := .br (cond (litCmp .gtr n 0) true (litCmp .leq n (-9))) (.ret (.str ⟨#[]⟩, [])) (.br (litCmp .eql n 0) (.ret (.str name0, [])) (.br (litCmp .eql n (-1)) (.ret (.str name1, [])) (.br (litCmp .eql n (-2)) (.ret (.str name2, [])) (.br (litCmp .eql n (-3)) (.ret (.str name3, [])) (.br (litCmp .eql n (-4)) (.ret (.str name4, [])) (.br (litCmp .eql n (-5)) (.ret (.str name5, [])) (.br (litCmp .eql n (-6)) (.ret (.str name6, [])) (.br (litCmp .eql n (-7)) (.ret (.str name7, [])) (.ret (.str name8, []))))))))))
set_option maxRecDepth 100000 in
theorem nm0 : ((call Try.prog cx3 60 42 [.int .i64 (.lit 0)] []).route []).map (fun p => (p.1, p.2.1)) = some ([], .val (.str name0)) := by kernel_rfl
set_option maxRecDepth 100000 in
theorem nm1 : ((call Try.prog cx3 60 42 [.int .i64 (.lit (-1))] []).route []).map (fun p => (p.1, p.2.1)) = some ([], .val (.str name1)) := by kernel_rfl
set_option maxRecDepth 100000 in
theorem nm2 : ((call Try.prog cx3 60 42 [.int .i64 (.lit (-2))] []).route []).map (fun p => (p.1, p.2.1)) = some ([], .val (.str name2)) := by kernel_rfl
set_option maxRecDepth 100000 in
theorem nm3 : ((call Try.prog cx3 60 42 [.int .i64 (.lit (-3))] []).route []).map (fun p => (p.1, p.2.1)) = some ([], .val (.str name3)) := by kernel_rfl
set_option maxRecDepth 100000 in
theorem nm4 : ((call Try.prog cx3 60 42 [.int .i64 (.lit (-4))] []).route []).map (fun p => (p.1, p.2.1)) = some ([], .val (.str name4)) := by kernel_rfl
set_option maxRecDepth 100000 in
theorem nm5 : ((call Try.prog cx3 60 42 [.int .i64 (.lit (-5))] []).route []).map (fun p => (p.1, p.2.1)) = some ([], .val (.str name5)) := by kernel_rfl
set_option maxRecDepth 100000 in
theorem nm6 : ((call Try.prog cx3 60 42 [.int .i64 (.lit (-6))] []).route []).map (fun p => (p.1, p.2.1)) = some ([], .val (.str name6)) := by kernel_rfl
set_option maxRecDepth 100000 in
theorem nm7 : ((call Try.prog cx3 60 42 [.int .i64 (.lit (-7))] []).route []).map (fun p => (p.1, p.2.1)) = some ([], .val (.str name7)) := by kernel_rfl
set_option maxRecDepth 100000 in
theorem nm8 : ((call Try.prog cx3 60 42 [.int .i64 (.lit (-8))] []).route []).map (fun p => (p.1, p.2.1)) = some ([], .val (.str name8)) := by kernel_rfl
set_option maxRecDepth 100000 in
theorem nmOut (n : Int) : ((call Try.prog cx3 60 42 [.int .i64 (.sym n)] []).route [true]).map (fun p => (p.1, p.2.1)) = some ([cond (litCmp .gtr n 0) true (litCmp .leq n (-9))], .val (.str ⟨#[]⟩)) := by kernel_rfl

theorem pure_ok2 {P : Program} {X : Cx DC} (hX : Ok P X) {n : Nat} {f : FuncId} {args args' : List (AV DC)} {h : List (AO DC)} {s : ByteArray} {l : List (W DC)} (hr : (call P X n f args' []).pick = some (.val (.str s), l)) (ha : covL (at' []) args args') : FnOk P f args h (.str s, []) := by
  have hu : ∀ (i j : Nat), (List.replicate h.length (none : Option Nat))[i]? = some (some j) → False := fun i j e => by
    rw [List.getElem?_replicate] at e
    split at e <;> cases e
  refine frame [] (List.replicate h.length none) (fn_ok hX (r := (.str s, l)) hr) ha ?_ rfl ⟨by simp [St.apps], Nat.le_refl _, fun i e => ?_, fun i j _ e => (hu i j e).elim, fun i o hi e => ?_, fun i j o e => (hu i j e).elim, fun i i' j o o' e => (hu i j e).elim⟩ rfl
  · trivial
  · refine ⟨?_, rfl, fun j e => by cases e⟩
    rw [List.getElem?_replicate] at e
    split at e
    · assumption
    · cases e
  · have : i < h.length := (List.getElem?_eq_some_iff.1 e).1
    omega

theorem nm_at {a : AI DC} {h : List (AO DC)} {k : Int} {s : ByteArray} (hk : a.den = k) (hr : ((call Try.prog cx3 60 42 [.int .i64 (.lit k)] []).route []).map (fun p => (p.1, p.2.1)) = some ([], .val (.str s))) : FnOk Try.prog 42 [.int .i64 a] h (.str s, []) := by
  obtain ⟨l, hl⟩ := road_at hr rfl
  exact pure_ok2 cx3_ok hl ⟨⟨rfl, hk⟩, trivial⟩

def nameS (args : List (AV DC)) (h : List (AO DC)) : Option (T DC (AV DC × List (W DC))) := match args with
  | [.int .i64 a] => some (nameT a.den)
  | _ => none
theorem pick_br {α : Type} {x : Bool} {t e : T DC α} : (T.br (D := DC) x t e).pick = if x = true then t.pick else e.pick := by cases x <;> rfl
theorem nameS_ok (args : List (AV DC)) (h : List (AO DC)) (t : T DC (AV DC × List (W DC))) (r : AV DC × List (W DC)) (ht : nameS args h = some t) (hp : t.pick = some r) : FnOk Try.prog 42 args h r := by
  unfold nameS at ht
  split at ht
  · rename_i a
    cases ht
    unfold nameT at hp
    rw [pick_br] at hp
    split at hp
    · rename_i hN
      have := T.ret_some hp
      subst this
      obtain ⟨l, hl⟩ := road_at (nmOut a.den) (by rw [hN])
      exact pure_ok2 cx3_ok hl ⟨⟨rfl, rfl⟩, trivial⟩
    · rename_i hN
      rw [pick_br] at hp
      split at hp
      · rename_i h0
        have := T.ret_some hp
        subst this
        exact nm_at (of_decide_eq_true h0) nm0
      rename_i h0
      rw [pick_br] at hp
      split at hp
      · rename_i h1
        have := T.ret_some hp
        subst this
        exact nm_at (of_decide_eq_true h1) nm1
      rename_i h1
      rw [pick_br] at hp
      split at hp
      · rename_i h2
        have := T.ret_some hp
        subst this
        exact nm_at (of_decide_eq_true h2) nm2
      rename_i h2
      rw [pick_br] at hp
      split at hp
      · rename_i h3
        have := T.ret_some hp
        subst this
        exact nm_at (of_decide_eq_true h3) nm3
      rename_i h3
      rw [pick_br] at hp
      split at hp
      · rename_i h4
        have := T.ret_some hp
        subst this
        exact nm_at (of_decide_eq_true h4) nm4
      rename_i h4
      rw [pick_br] at hp
      split at hp
      · rename_i h5
        have := T.ret_some hp
        subst this
        exact nm_at (of_decide_eq_true h5) nm5
      rename_i h5
      rw [pick_br] at hp
      split at hp
      · rename_i h6
        have := T.ret_some hp
        subst this
        exact nm_at (of_decide_eq_true h6) nm6
      rename_i h6
      rw [pick_br] at hp
      split at hp
      · rename_i h7
        have := T.ret_some hp
        subst this
        exact nm_at (of_decide_eq_true h7) nm7
      rename_i h7
      have := T.ret_some hp
      subst this
      refine nm_at (k := -8) ?_ nm8
      have g0 : ¬ a.den = 0 := fun e => h0 (decide_eq_true e)
      have g1 : ¬ a.den = (-1) := fun e => h1 (decide_eq_true e)
      have g2 : ¬ a.den = (-2) := fun e => h2 (decide_eq_true e)
      have g3 : ¬ a.den = (-3) := fun e => h3 (decide_eq_true e)
      have g4 : ¬ a.den = (-4) := fun e => h4 (decide_eq_true e)
      have g5 : ¬ a.den = (-5) := fun e => h5 (decide_eq_true e)
      have g6 : ¬ a.den = (-6) := fun e => h6 (decide_eq_true e)
      have g7 : ¬ a.den = (-7) := fun e => h7 (decide_eq_true e)
      have gN : ¬ (0 < a.den) ∧ ¬ (a.den ≤ -9) := by
        constructor
        · intro e
          have h1 : litCmp .gtr a.den 0 = true := decide_eq_true e
          rw [h1] at hN
          exact hN rfl
        · intro e
          have h1 : litCmp .leq a.den (-9) = true := decide_eq_true e
          rw [h1, Bool.cond_self] at hN
          exact hN rfl
      omega
  · cases ht
noncomputable def cx4 : Cx DC := cx3.sum 42 nameS
theorem cx4_ok : Ok Try.prog cx4 := cx3_ok.sum (by kernel_rfl) nameS_ok
end Go.Proofs.Ytbjlkapfpcmjfaa.Ev
