/- The loop of MaskBack over a list: it goes to its end where the numbers rise and are below. Conditions: none. -/
import Derived.Test.YtbjlkapfpcmjfaaDoorDoor
namespace Go.Proofs.YtbjlkapfpcmjfaaDoor.Mask
open Go.RowKit Ev
set_option linter.unusedVariables false
set_option linter.unusedSimpArgs false
namespace Back
def t : Tmpl := { slots := [.int .u64, .skip, .skip, .skip, .truth false, .truth true, .slice 0 0 .any, .bool, .skip, .skip, .int .i64, .int .i64] ++ sk 87, heap := [.rows 0 [.int .i64], .skip] }
def e (M Y I : Int) (o : Bool) (n : Nat) (F : Nat → Int) : Env DC := ⟨[M, Y, I], [o], [n, n], [F]⟩
noncomputable def rd (s : St DC) : T DC (Ex DC × List (W DC)) := ev Tryd.prog cx 6 200 (.code (loopAt Tryd.prog 6 0)) s
def lst (s : St DC) : List Nat := [0, 1]
def tst (Y I : Int) (n : Nat) (F : Nat → Int) : Bool := (decide (0 ≤ I ∧ I < ((n : Nat) : Int))) && ((decide ((Int.toNat I) < n)) && (cond (litCmp .lss (F (Int.toNat I)) 0) true ((decide (0 ≤ I ∧ I < ((n : Nat) : Int))) && ((decide ((Int.toNat I) < n)) && (cond (litCmp .geq (F (Int.toNat I)) Y) true (cond (litCmp .gtr I 0) ((decide (0 ≤ I ∧ I < ((n : Nat) : Int))) && ((decide ((Int.toNat I) < n)) && ((decide (0 ≤ (litBin .sub .i64 I 1) ∧ (litBin .sub .i64 I 1) < ((n : Nat) : Int))) && (decide ((Int.toNat (litBin .sub .i64 I 1)) < n))))) true))))))
def bad (Y I : Int) (F : Nat → Int) : Bool := cond (litCmp .lss (F (Int.toNat I)) 0) true (cond (litCmp .geq (F (Int.toNat I)) Y) true (cond (litCmp .gtr I 0) (litCmp .leq (F (Int.toNat I)) (F (Int.toNat (litBin .sub .i64 I 1)))) false))
section
variable (M Y I : Int) (o : Bool) (n : Nat) (F : Nat → Int)
set_option maxRecDepth 100000 in
theorem rx : (viewT t 2 lst (t.fill (e M Y I o n F)) (rd (t.fill (e M Y I o n F)))).route [false] = some ([litCmp .lss I ((n : Nat) : Int)], (.exit 0, some (e M Y I o n F))) := by kernel_rfl
set_option maxRecDepth 100000 in
theorem rn : (viewT t 2 lst (t.fill (e M Y I o n F)) (rd (t.fill (e M Y I o n F)))).route [true, true, false] = some ([litCmp .lss I ((n : Nat) : Int), tst Y I n F, bad Y I F], (.normal, some (e M Y (litBin .add .i64 I 1) o n F))) := by kernel_rfl
end
/-- The numbers rise, and are below. -/
def Q (Y : Int) (n : Nat) (F : Nat → Int) : Prop := n < 1099511627776 ∧ ∀ i, i < n → 0 ≤ F i ∧ F i < Y ∧ (0 < i → F (i - 1) < F i)
noncomputable def askB (x : Env DC) : Bool := yes (∃ M Y o n F, x = e M Y 0 o n F ∧ Q Y n F)
def resB (x : Env DC) : Env DC := { x with i := [x.i.getD 0 0, x.i.getD 1 0, ((x.n.getD 0 0 : Nat) : Int)] }
theorem good {Y : Int} {n k : Nat} {F : Nat → Int} (h : Q Y n F) (hk : k < n) : tst Y (k : Int) n F = true ∧ bad Y (k : Int) F = false := by
  obtain ⟨hn, hq⟩ := h
  obtain ⟨h1, h2, h3⟩ := hq k hk
  have a1 : litCmp .lss (F k) 0 = false := by rw [lss_eq]; exact decide_eq_false (by omega)
  have a2 : litCmp .geq (F k) Y = false := by rw [geq_eq]; exact decide_eq_false (by omega)
  unfold tst bad
  rw [Int.toNat_natCast, a1, a2, natlt hk, decide_eq_true hk]
  by_cases h0 : k = 0
  · subst h0
    exact ⟨rfl, rfl⟩
  · have a3 : litCmp .gtr (k : Int) 0 = true := by rw [gtr_eq]; exact decide_eq_true (by omega)
    have e1 : litBin .sub .i64 (k : Int) 1 = ((k - 1 : Nat) : Int) := by
      show IntKind.i64.wrap ((k : Int) - 1) = _
      rw [wrap64i (by omega)]
      omega
    have a4 : litCmp .leq (F k) (F (k - 1)) = false := by rw [leq_eq]; exact decide_eq_false (by have := h3 (by omega); omega)
    rw [a3, e1, Int.toNat_natCast, a4, natlt (show k - 1 < n by omega), decide_eq_true (show k - 1 < n by omega)]
    exact ⟨rfl, rfl⟩
theorem blk (hw : Within Tryd.prog 6 (.block 0 (.loop (loopAt Tryd.prog 6 0)))) (s : St DC) (r : Ex DC × List (W DC)) (hr : (loopSumG (D := DC) t t 2 [0, 1] askB resB .normal s).pick = some r) (w0 : World) (own : List Nat) (ρ : List Rb) (a : Act) (w : World) (H : SR w0 own ρ s a w) :
    (Go.Code.block 0 (.loop (loopAt Tryd.prog 6 0))).wp Tryd.prog (CodePost w0 own ρ s r) a w := by
  refine loopSumG_ok (n := 200) (x1 := .exit 0) (G := Nat) (S := fun x k => t.fill { x with i := [x.i.getD 0 0, x.i.getD 1 0, (k : Int)] }) (I := fun x k => ∃ M Y o n F, x = e M Y 0 o n F ∧ Q Y n F ∧ k ≤ n) (m := fun x k => x.n.getD 0 0 - k) (g0 := fun _ => 0) cx_ok (.inl ⟨rfl, rfl⟩) (fun x hx => ?_) (fun x g _ => Nat.le_refl 2) (fun x k hx hI => ?_) hw s r hr w0 own ρ a w H
  · obtain ⟨M, Y, o, n, F, rfl, h⟩ := of_yes hx
    exact ⟨⟨M, Y, o, n, F, rfl, h, Nat.zero_le _⟩, rfl⟩
  · obtain ⟨M, Y, o, n, F, rfl, hq, hk⟩ := hI
    by_cases hkn : k = n
    · subst hkn
      exact view_out (S := fun (j : Nat) => t.fill (e M Y (j : Int) o k F)) (g := k) (route_at (rx M Y (k : Int) o k F) (show [_] = [false] by rw [Ref.lss_nat, decide_eq_false (Nat.lt_irrefl _)])) (by simp) (by simp) rfl
    · have hlt : k < n := by omega
      obtain ⟨g1, g2⟩ := good hq hlt
      have hr := route_at (rn M Y (k : Int) o n F) (show [_, _, _] = [true, true, false] by rw [Ref.lss_nat, decide_eq_true hlt, g1, g2])
      rw [step_i (by have := hq.1; omega)] at hr
      exact view_next (S := fun (j : Nat) => t.fill (e M Y (j : Int) o n F)) (g := k) (g' := k + 1) hr rfl ⟨M, Y, o, n, F, rfl, hq, hlt⟩ (by show n - (k + 1) < n - k; omega)
noncomputable def cxb : Cx DC := cxl.block 6 0 (loopSumG t t 2 [0, 1] askB resB .normal)
theorem cxb_ok : Ok Tryd.prog cxb := cxl_ok.block (by kernel_rfl) blk
end Back
end Go.Proofs.YtbjlkapfpcmjfaaDoor.Mask
