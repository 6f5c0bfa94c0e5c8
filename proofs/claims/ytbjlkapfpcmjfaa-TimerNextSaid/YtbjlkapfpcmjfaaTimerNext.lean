/- The statement 'TimerNext': the next time is that of a hart, above the time, and none between; and to tick so far makes one due, and no less does. Conditions: none. -/
import Derived.Test.YtbjlkapfpcmjfaaNextSums
namespace Go.Proofs.Ytbjlkapfpcmjfaa.TimerNext
open Go.RowKit Go.WideShapes Go.ChangeShapes Go.ChangeAt Ev 
set_option linter.unusedVariables false
set_option linter.unusedSimpArgs false

def Tn (n : Int) : Int := litBin .add .u64 0 (cond (litCmp .lss 18446744073709551615 n) 18446744073709551615 n)
def tk (c x : Int) : Int := litBin .add .u64 c (cond (litCmp .lss (litBin .sub .u64 18446744073709551615 c) x) (litBin .sub .u64 18446744073709551615 c) x)
def later (n a : Int) : Bool := cond (litCmp .gtr a n) (litCmp .neq a 18446744073709551615) false
def due (V u a : Int) : Bool := cond (litCmp .eql a V) (cond (litCmp .eql a 18446744073709551615) false (litCmp .leq a u)) false
def many (n V a : Int) : Bool := cond (later n a) (litCmp .eql a V) false
def up (p : Bool) (c : Int) : Int := cond p (litBin .add .i64 c 1) c
def cnt (p0 p1 p2 p3 p4 p5 p6 p7 : Bool) : Int := up p7 (up p6 (up p5 (up p4 (up p3 (up p2 (up p1 (cond p0 1 0)))))))
def bad (n a V : Int) (K : Bool) : Bool := cond (later n a) (cond (!K) true (litCmp .lss a V)) false
def BB (n a0 a1 a2 a3 a4 a5 a6 a7 : Int) : Int := best (Tn n) a0 a1 a2 a3 a4 a5 a6 a7
def UU (n V : Int) : Int := tk (Tn n) (litBin .sub .u64 (litBin .sub .u64 V n) 1)
def fin (n V : Int) (K : Bool) (a0 a1 a2 a3 a4 a5 a6 a7 : Int) : Bool := cond (!K) (litCmp .eql V 0) (cond (litCmp .gtr (cnt (many n V a0) (many n V a1) (many n V a2) (many n V a3) (many n V a4) (many n V a5) (many n V a6) (many n V a7)) 0) (cond (litCmp .eql (cnt (due V (UU n V) a0) (due V (UU n V) a1) (due V (UU n V) a2) (due V (UU n V) a3) (due V (UU n V) a4) (due V (UU n V) a5) (due V (UU n V) a6) (due V (UU n V) a7)) 0) (litCmp .eql (cnt (due V (tk (UU n V) 1) a0) (due V (tk (UU n V) 1) a1) (due V (tk (UU n V) 1) a2) (due V (tk (UU n V) 1) a3) (due V (tk (UU n V) 1) a4) (due V (tk (UU n V) 1) a5) (due V (tk (UU n V) 1) a6) (due V (tk (UU n V) 1) a7)) (cnt (many n V a0) (many n V a1) (many n V a2) (many n V a3) (many n V a4) (many n V a5) (many n V a6) (many n V a7))) false) false)
def val0 (n V : Int) (K : Bool) (a0 a1 a2 a3 a4 a5 a6 a7 : Int) : Bool := cond (bad n a0 V K) false (cond (bad n a1 V K) false (cond (bad n a2 V K) false (cond (bad n a3 V K) false (cond (bad n a4 V K) false (cond (bad n a5 V K) false (cond (bad n a6 V K) false (cond (bad n a7 V K) false ((fin n V K a0 a1 a2 a3 a4 a5 a6 a7)))))))))
def val (a0 a1 a2 a3 a4 a5 a6 a7 n : Int) : Bool := val0 n (nextV (BB n a0 a1 a2 a3 a4 a5 a6 a7)) (nextB (BB n a0 a1 a2 a3 a4 a5 a6 a7)) a0 a1 a2 a3 a4 a5 a6 a7
set_option maxRecDepth 100000 in
theorem road (a0 a1 a2 a3 a4 a5 a6 a7 n : Int) : ((call Try.prog cxq 400 13 [.agg [.int .u64 (.sym a0), .int .u64 (.sym a1), .int .u64 (.sym a2), .int .u64 (.sym a3), .int .u64 (.sym a4), .int .u64 (.sym a5), .int .u64 (.sym a6), .int .u64 (.sym a7)], .int .u64 (.sym n)] []).route []).map (fun p => (p.1, p.2.1)) = some ([], .val (.bool (.sym (val a0 a1 a2 a3 a4 a5 a6 a7 n)))) := by kernel_rfl

theorem eql_s (x : Int) : litCmp .eql x x = true := by rw [eql_eq]; exact decide_eq_true rfl
theorem nx_spec (n a r : Int) : nx n a r ≤ r ∧ (n < a → nx n a r ≤ a) ∧ (nx n a r = r ∨ (nx n a r = a ∧ n < a)) := by
  unfold nx
  rw [gtr_eq, lss_eq]
  by_cases h : n < a
  · rw [decide_eq_true h, cond_true]
    by_cases h2 : a < r
    · rw [decide_eq_true h2, cond_true]; omega
    · rw [decide_eq_false h2, cond_false]; omega
  · rw [decide_eq_false h, cond_false]; omega
def Spec (n r : Int) (l : List Int) : Prop := r ≤ 18446744073709551615 ∧ (∀ x ∈ l, n < x → r ≤ x) ∧ (r = 18446744073709551615 ∨ ∃ x ∈ l, r = x ∧ n < x)
theorem Spec.step {n r : Int} {l : List Int} (h : Spec n r l) (a : Int) : Spec n (nx n a r) (a :: l) := by
  obtain ⟨h1, h2, h3⟩ := h
  obtain ⟨s1, s2, s3⟩ := nx_spec n a r
  refine ⟨by omega, fun x hx hn => ?_, ?_⟩
  · rcases List.mem_cons.1 hx with e | hx
    · subst e; exact s2 hn
    · have := h2 x hx hn; omega
  · rcases s3 with e | ⟨e, hn⟩
    · rw [e]
      rcases h3 with h3 | ⟨x, hx, h3⟩
      · exact .inl h3
      · exact .inr ⟨x, List.mem_cons_of_mem _ hx, h3⟩
    · exact .inr ⟨a, List.mem_cons_self, e, hn⟩
theorem best_spec (n a0 a1 a2 a3 a4 a5 a6 a7 : Int) : Spec n (best n a0 a1 a2 a3 a4 a5 a6 a7) [a7, a6, a5, a4, a3, a2, a1, a0] := by
  have h0 : Spec n 18446744073709551615 [] := ⟨Int.le_refl _, fun x hx => (by cases hx), .inl rfl⟩
  exact (((((((Spec.step h0 a0).step a1).step a2).step a3).step a4).step a5).step a6).step a7
theorem later_eq (n a : Int) : later n a = (decide (n < a) && !decide (a = 18446744073709551615)) := by
  unfold later
  rw [gtr_eq, neq_eq]
  cases decide (n < a) <;> rfl
theorem cnt_pos : ∀ p0 p1 p2 p3 p4 p5 p6 p7 : Bool, (p0 || p1 || p2 || p3 || p4 || p5 || p6 || p7) = true → litCmp .gtr (cnt p0 p1 p2 p3 p4 p5 p6 p7) 0 = true := by decide +kernel
theorem Tn_eq {n : Int} (hn : inU n) : Tn n = n := by
  unfold Tn
  unfold inU at hn
  rw [lss_eq, decide_eq_false (by omega), cond_false, add_eq]
  omega
theorem due_f (V u a : Int) (h : u < V) : due V u a = false := by
  unfold due
  rw [eql_eq, eql_eq, leq_eq]
  by_cases h1 : a = V
  · rw [decide_eq_false (by omega : ¬ a ≤ u), Bool.cond_self, Bool.cond_self]
  · rw [decide_eq_false h1, cond_false]
theorem due_m (n V a : Int) (h1 : n < V) (h2 : V ≠ 18446744073709551615) : due V V a = many n V a := by
  unfold due many
  rw [later_eq, eql_eq, eql_eq, leq_eq]
  by_cases h : a = V
  · subst h
    rw [decide_eq_true rfl, decide_eq_false h2, decide_eq_true (Int.le_refl a), decide_eq_true h1]
    rfl
  · rw [decide_eq_false h, cond_false, Bool.cond_self]
theorem law {a0 a1 a2 a3 a4 a5 a6 a7 n : Int} (wa0 : (Lit.int .u64 a0).wf = true) (wa1 : (Lit.int .u64 a1).wf = true) (wa2 : (Lit.int .u64 a2).wf = true) (wa3 : (Lit.int .u64 a3).wf = true) (wa4 : (Lit.int .u64 a4).wf = true) (wa5 : (Lit.int .u64 a5).wf = true) (wa6 : (Lit.int .u64 a6).wf = true) (wa7 : (Lit.int .u64 a7).wf = true) (wn : (Lit.int .u64 n).wf = true) : val a0 a1 a2 a3 a4 a5 a6 a7 n = true := by
  have hn := inU_wf wn
  have ha0 := inU_wf wa0
  have ha1 := inU_wf wa1
  have ha2 := inU_wf wa2
  have ha3 := inU_wf wa3
  have ha4 := inU_wf wa4
  have ha5 := inU_wf wa5
  have ha6 := inU_wf wa6
  have ha7 := inU_wf wa7
  have hs := best_spec n a0 a1 a2 a3 a4 a5 a6 a7
  unfold val BB
  rw [Tn_eq hn]
  generalize best n a0 a1 a2 a3 a4 a5 a6 a7 = b at *
  obtain ⟨hs1, hs2, hs3⟩ := hs
  unfold inU at *
  by_cases hb : b = 18446744073709551615
  · have e1 : nextV b = 0 := by rw [hb]; rfl
    have e2 : nextB b = false := by rw [hb]; rfl
    have hl : ∀ a : Int, (n < a → b ≤ a) → a < 18446744073709551616 → later n a = false := fun a h1 h2 => by
      rw [later_eq]
      by_cases h : n < a
      · rw [decide_eq_true (by have := h1 h; omega : a = 18446744073709551615)]
        simp
      · rw [decide_eq_false h]
        rfl
    have hbad : ∀ a : Int, (n < a → b ≤ a) → a < 18446744073709551616 → bad n a 0 false = false := fun a h1 h2 => by
      unfold bad
      rw [hl a h1 h2]
      rfl
    rw [e1, e2]
    unfold val0 fin
    rw [hbad a0 (hs2 a0 (by simp)) (by omega), hbad a1 (hs2 a1 (by simp)) (by omega), hbad a2 (hs2 a2 (by simp)) (by omega), hbad a3 (hs2 a3 (by simp)) (by omega), hbad a4 (hs2 a4 (by simp)) (by omega), hbad a5 (hs2 a5 (by simp)) (by omega), hbad a6 (hs2 a6 (by simp)) (by omega), hbad a7 (hs2 a7 (by simp)) (by omega)]
    rfl
  · have e1 : nextV b = b := by unfold nextV; rw [eql_eq, decide_eq_false hb]; rfl
    have e2 : nextB b = true := by unfold nextB; rw [eql_eq, decide_eq_false hb]; rfl
    obtain ⟨x, hx, hbx, hnx⟩ := hs3.resolve_left hb
    have hnb : n < b := by omega
    have hbad : ∀ a : Int, (n < a → b ≤ a) → bad n a b true = false := fun a h1 => by
      unfold bad
      rw [later_eq, lss_eq]
      by_cases h : n < a
      · rw [decide_eq_false (by have := h1 h; omega : ¬ a < b)]
        simp
      · rw [decide_eq_false h]
        rfl
    have hU : UU n b = b - 1 := by
      unfold UU tk
      rw [Tn_eq hn, lss_eq, sub_eq, sub_eq, sub_eq, decide_eq_false (by omega), cond_false, add_eq]
      omega
    have hW : tk (b - 1) 1 = b := by
      unfold tk
      rw [lss_eq, sub_eq, decide_eq_false (by omega), cond_false, add_eq]
      omega
    rw [e1, e2]
    unfold val0 fin
    rw [hU, hW, hbad a0 (hs2 a0 (by simp)), hbad a1 (hs2 a1 (by simp)), hbad a2 (hs2 a2 (by simp)), hbad a3 (hs2 a3 (by simp)), hbad a4 (hs2 a4 (by simp)), hbad a5 (hs2 a5 (by simp)), hbad a6 (hs2 a6 (by simp)), hbad a7 (hs2 a7 (by simp)), due_f b (b - 1) a0 (by omega), due_f b (b - 1) a1 (by omega), due_f b (b - 1) a2 (by omega), due_f b (b - 1) a3 (by omega), due_f b (b - 1) a4 (by omega), due_f b (b - 1) a5 (by omega), due_f b (b - 1) a6 (by omega), due_f b (b - 1) a7 (by omega), due_m n b a0 hnb hb, due_m n b a1 hnb hb, due_m n b a2 hnb hb, due_m n b a3 hnb hb, due_m n b a4 hnb hb, due_m n b a5 hnb hb, due_m n b a6 hnb hb, due_m n b a7 hnb hb]
    have hm : ∀ a : Int, b = a → many n b a = true := fun a h => by
      subst h
      unfold many
      rw [later_eq, decide_eq_true hnb, decide_eq_false hb, eql_s]
      rfl
    have hp : (many n b a0 || many n b a1 || many n b a2 || many n b a3 || many n b a4 || many n b a5 || many n b a6 || many n b a7) = true := by
      simp only [List.mem_cons, List.not_mem_nil, or_false] at hx
      rcases hx with h | h | h | h | h | h | h | h
      · rw [hm a7 (by omega)]; simp
      · rw [hm a6 (by omega)]; simp
      · rw [hm a5 (by omega)]; simp
      · rw [hm a4 (by omega)]; simp
      · rw [hm a3 (by omega)]; simp
      · rw [hm a2 (by omega)]; simp
      · rw [hm a1 (by omega)]; simp
      · rw [hm a0 (by omega)]; simp
    rw [cnt_pos _ _ _ _ _ _ _ _ hp, eql_s]
    rfl

theorem sums (a0 a1 a2 a3 a4 a5 a6 a7 n : Int) (wa0 : (Lit.int .u64 a0).wf = true) (wa1 : (Lit.int .u64 a1).wf = true) (wa2 : (Lit.int .u64 a2).wf = true) (wa3 : (Lit.int .u64 a3).wf = true) (wa4 : (Lit.int .u64 a4).wf = true) (wa5 : (Lit.int .u64 a5).wf = true) (wa6 : (Lit.int .u64 a6).wf = true) (wa7 : (Lit.int .u64 a7).wf = true) (wn : (Lit.int .u64 n).wf = true) :
    ∃ c : Bool, (call Try.prog cxq 400 13 [.agg [.int .u64 (.sym a0), .int .u64 (.sym a1), .int .u64 (.sym a2), .int .u64 (.sym a3), .int .u64 (.sym a4), .int .u64 (.sym a5), .int .u64 (.sym a6), .int .u64 (.sym a7)], .int .u64 (.sym n)] []).pick.map (·.1) = some (.val (.bool (.sym c))) ∧ c = true :=
  ⟨_, route_pick1 (road a0 a1 a2 a3 a4 a5 a6 a7 n) rfl, law wa0 wa1 wa2 wa3 wa4 wa5 wa6 wa7 wn⟩

set_option maxRecDepth 100000 in
set_option maxHeartbeats 4000000 in
theorem run : ∀ vs, ArgsOk [.agg [.int .u64, .int .u64, .int .u64, .int .u64, .int .u64, .int .u64, .int .u64, .int .u64], .one (.int .u64)] vs → ∀ w, Calls Try.prog 13 vs.toArray w fun e w' => e = .returned (.bool true) ∧ Below w.heap.size w w' := by
  intro vs h w
  obtain ⟨_, _, rfl, ⟨_, rfl, _, _, rfl, ⟨a0, rfl, wa0⟩, _, _, rfl, ⟨a1, rfl, wa1⟩, _, _, rfl, ⟨a2, rfl, wa2⟩, _, _, rfl, ⟨a3, rfl, wa3⟩, _, _, rfl, ⟨a4, rfl, wa4⟩, _, _, rfl, ⟨a5, rfl, wa5⟩, _, _, rfl, ⟨a6, rfl, wa6⟩, _, _, rfl, ⟨a7, rfl, wa7⟩, rfl⟩, _, _, rfl, ⟨n, rfl, wn⟩, rfl⟩ := h
  obtain ⟨c, k1, k2⟩ := sums a0 a1 a2 a3 a4 a5 a6 a7 n wa0 wa1 wa2 wa3 wa4 wa5 wa6 wa7 wn
  have k3 := (rfl : List.map absV [.agg [.int .u64 a0, .int .u64 a1, .int .u64 a2, .int .u64 a3, .int .u64 a4, .int .u64 a5, .int .u64 a6, .int .u64 a7].toArray, .int .u64 n] = [.agg [.int .u64 (.sym a0), .int .u64 (.sym a1), .int .u64 (.sym a2), .int .u64 (.sym a3), .int .u64 (.sym a4), .int .u64 (.sym a5), .int .u64 (.sym a6), .int .u64 (.sym a7)], .int .u64 (.sym n)])
  have k4 := law_true2 cxq_ok k3 k1 k2 w
  exact k4

set_option maxRecDepth 100000 in
theorem lifted (os : Os) (started : os.Started) (H : Type) (enc : TypeId × Value → H) :
    ReturnsInHanded {} Try.checked os 13 .any (Rows.timerNextSpec.pre6 enc Try.prog Try.f13 Rows.timerNextRow.domain false) (Rows.timerNextSpec.post enc Try.prog Try.f13 false true false false) := by
  refine returnsInHanded_of_change (C := Try.checked) own started (by kernel_rfl) Try.func13
    (ChangeSpec.witness6 (enc := enc) (C := Try.checked) false ⟨#[], #[.agg #[.int .u64 0, .int .u64 0, .int .u64 0, .int .u64 0, .int .u64 0, .int .u64 0, .int .u64 0, .int .u64 0], .int .u64 0], []⟩ 8 (by kernel_rfl) (by kernel_rfl) (by kernel_rfl) (by kernel_rfl)) ?_
  intro W base args ds gs before hval hW _ _
  exact lifted_plain (P := Try.prog) (f := 13) (fn := Try.f13) (s := Rows.timerNextSpec) (tb := 4) rfl
    (fun ds h => by
      match ds, h with
      | [d1, d2], _ => rfl)
    (by kernel_rfl) rfl (by kernel_rfl) run W base args ds gs before hval hW

theorem over : Rows.timerNextRow.holds Try.pinned (OpenSpec.ofChange Rows.timerNextSpec) :=
  OpenClaim.holds_of_wide 13 Try.f13 rfl rfl rfl rfl rfl rfl rfl ⟨rfl, rfl, rfl, rfl, rfl⟩ rfl rfl rfl rfl rfl (by kernel_rfl) Try.func13 (by kernel_rfl)
    (of_decide_eq_true (by kernel_rfl)) (by unfold Func.isWrapper; first | (rw [if_pos (by decide +kernel)]; kernel_rfl) | (rw [if_neg (by decide +kernel)]; exact ⟨rfl, rfl⟩))
    (fun os started H enc _ => lifted os started H enc)

/-- The statement. -/
theorem proved : Rows.TimerNextSaid :=
  over
#print axioms proved
end Go.Proofs.Ytbjlkapfpcmjfaa.TimerNext
