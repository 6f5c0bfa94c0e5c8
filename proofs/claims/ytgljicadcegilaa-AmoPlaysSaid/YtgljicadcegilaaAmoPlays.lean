/- The statement 'AmoPlays': whatever is reserved, taken, and stored, by whichever harts, the reservations are those that the document says. Conditions: none. -/
import Derived.Test.YtgljicadcegilaaAmoPlaysB
import Derived.Test.YtgljicadcegilaaAmoPlaysC
import Derived.Test.YtgljicadcegilaaAmoPlaysD
namespace Go.Proofs.Ytgljicadcegilaa.AmoPlays
open Go.RowKit Go.WideShapes Go.ChangeShapes Go.ChangeAt Ev
set_option linter.unusedVariables false
set_option linter.unusedSimpArgs false

set_option maxRecDepth 100000 in
theorem ends (i A0 A1 A2 A3 A4 A5 A6 A7 a0 a1 a2 a3 a4 a5 a6 a7 : Int) (S0 S1 S2 S3 S4 S5 S6 S7 s0 s1 s2 s3 s4 s5 s6 s7 : Bool) (n : Nat) (F G H M : Nat → Int) : (viewT tm 8 ls (tm.fill ⟨[i, A0, A1, A2, A3, A4, A5, A6, A7, a0, a1, a2, a3, a4, a5, a6, a7], [S0, S1, S2, S3, S4, S5, S6, S7, s0, s1, s2, s3, s4, s5, s6, s7], [n, n], [F, G, H, M]⟩) (ev Try.prog cxs2 10 400 (.code (loopAt Try.prog 10 0)) (tm.fill ⟨[i, A0, A1, A2, A3, A4, A5, A6, A7, a0, a1, a2, a3, a4, a5, a6, a7], [S0, S1, S2, S3, S4, S5, S6, S7, s0, s1, s2, s3, s4, s5, s6, s7], [n, n], [F, G, H, M]⟩))).route [false] = some ([g0 i n], (.exit 0, some ⟨[i, A0, A1, A2, A3, A4, A5, A6, A7, a0, a1, a2, a3, a4, a5, a6, a7], [S0, S1, S2, S3, S4, S5, S6, S7, s0, s1, s2, s3, s4, s5, s6, s7], [n, n], [F, G, H, M]⟩)) := by kernel_rfl

/-- A reservation of the reference and of the code. -/
structure Rk (S s : Bool) (A a : Int) : Prop where
  same : S = s
  at' : a = cond s A 0
  inA : inU A
  m8 : A % 8 = 0
theorem Rk.bad {S s : Bool} {A a : Int} (h : Rk S s A a) : bad S s A a = false := by
  have h1 := h.same
  have h2 := h.at'
  subst h1
  unfold AmoPlays.bad
  cases S
  · rfl
  · rw [cond_true] at h2
    subst h2
    show cond (!(true == (!(!true)))) true (cond (!(!true)) (litCmp .neq a a) false) = false
    rw [neq_self]
    rfl
theorem unk_in (g : Int) : unk g = !(inG g) := by
  unfold unk inG
  rw [lss_eq, geq_eq, geq_eq, lss_eq]
  by_cases h1 : g < 0
  · rw [decide_eq_true h1, decide_eq_false (by omega : ¬ 0 ≤ g)]; rfl
  · rw [decide_eq_false h1, decide_eq_true (by omega : 0 ≤ g)]
    by_cases h2 : g < 8
    · rw [decide_eq_true h2, decide_eq_false (by omega : ¬ 8 ≤ g)]; rfl
    · rw [decide_eq_false h2, decide_eq_true (by omega : 8 ≤ g)]; rfl
theorem ok_in {g : Int} (h : inG g = true) : 0 ≤ g ∧ g < 8 := by
  unfold inG at h
  rw [geq_eq, lss_eq] at h
  by_cases h1 : 0 ≤ g
  · rw [decide_eq_true h1, cond_true] at h
    exact ⟨h1, of_decide_eq_true h⟩
  · rw [decide_eq_false h1] at h
    cases h
theorem oks (g : Int) : inG g = true → rg g = true ∧ decide (g.toNat < 8) = true ∧ ok g = true := fun h => by
  obtain ⟨h1, h2⟩ := ok_in h
  have e1 : rg g = true := decide_eq_true ⟨h1, h2⟩
  have e2 : decide (g.toNat < 8) = true := decide_eq_true (by omega)
  refine ⟨e1, e2, ?_⟩
  unfold ok
  rw [e1, e2]
  rfl
theorem base {h : Int} (hh : inU h) : litBin .sub .u64 h (litBin .rem .u64 h 8) = h - h % 8 ∧ litBin .andNot .u64 h 7 = h - h % 8 ∧ inU (h - h % 8) ∧ (h - h % 8) % 8 = 0 := by
  have e : litBin .rem .u64 h 8 = h % 8 := by
    show h.tmod 8 = _
    rw [Int.tmod_eq_emod_of_nonneg hh.1]
  rw [e, sub_eq, andNot7 hh]
  unfold inU at *
  omega
theorem t0_t (g : Int) : t0 g = true := by
  unfold t0
  rw [unk_in]
  cases hg : inG g
  · rfl
  · rw [(oks g hg).2.2]; rfl
theorem t10_t (g : Int) : t10 g = true := by
  unfold t10
  rw [unk_in]
  cases hg : inG g
  · rfl
  · rw [(oks g hg).1, (oks g hg).2.1]; rfl
theorem t11_t (g : Int) (b : Bool) : t11 g b = true := by
  unfold t11
  cases hg : inG g
  · rfl
  · rw [(oks g hg).1, (oks g hg).2.1, (oks g hg).2.2]
    cases b <;> rfl
theorem Rk.set {S s : Bool} {A a : Int} (R : Rk S s A a) (g : Int) {h : Int} (hh : inU h) (k : Nat) : Rk (setS g k S) (sets g k s) (setA g h k A) (seta g h k a) := by
  obtain ⟨b1, b2, b3, b4⟩ := base hh
  unfold setS sets setA seta
  rw [unk_in, b1, b2]
  cases inG g
  · exact R
  · rw [Bool.not_true, cond_true, cond_true, cond_false, cond_false]
    cases decide (g.toNat = k)
    · exact R
    · exact ⟨rfl, rfl, b3, b4⟩
theorem Rk.take {S s : Bool} {A a : Int} (R : Rk S s A a) (g : Int) (k : Nat) : Rk (takS g k S) (taks g k s) A (taka g k a) := by
  unfold takS taks taka
  rw [unk_in]
  cases inG g
  · exact R
  · rw [Bool.not_true, cond_false, cond_false, cond_false]
    cases decide (g.toNat = k)
    · exact R
    · exact ⟨rfl, rfl, R.inA, R.m8⟩
theorem Rk.store {S s : Bool} {A a : Int} (R : Rk S s A a) (g k h n : Int) : Rk (stoS g h n k A S) (stos g h n k a s) A (stoa g h n k a) := by
  have e : litBin .andNot .u64 A 7 = A := by
    rw [andNot7 R.inA, R.m8]
    omega
  have h1 := R.same
  have h2 := R.at'
  refine ⟨?_, ?_, R.inA, R.m8⟩
  · unfold stoS stos stF hitS hc
    rw [unk_in, e]
    subst h1
    cases inG g
    · rfl
    · cases S
      · cases litCmp .lss n 1 <;> cases (cond (litCmp .neq k g) (hcB h n a) false) <;> rfl
      · rw [cond_true] at h2
        subst h2
        show _ = cond (cond (!true) true (litCmp .lss n 1)) true (cond (cond (litCmp .neq k g) (hcB h n a) false) false true)
        unfold hcB
        cases litCmp .lss n 1 <;> cases litCmp .neq k g <;> cases litCmp .lss (litBin .sub .u64 h a) 8 <;> cases litCmp .lss (litBin .sub .u64 a h) (IntKind.wrap .u64 n) <;> rfl
  · unfold stoa stos
    cases (cond (unk g) true (litCmp .lss n 1))
    · rw [cond_false, cond_false]
      cases (cond (litCmp .neq k g) (hcB h n a) false)
      · exact h2
      · rfl
    · exact h2
theorem eq_at {S s : Bool} {A a h : Int} (R : Rk S s A a) (hh : inU h) : (cond s (litCmp .eql a (litBin .andNot .u64 h 7)) false) = (cond S (litCmp .eql A (litBin .sub .u64 h (litBin .rem .u64 h 8))) false) := by
  obtain ⟨b1, b2, b3, b4⟩ := base hh
  rw [b1, b2, R.same, R.at']
  cases s <;> rfl
theorem t12_f {g h A0 A1 A2 A3 A4 A5 A6 A7 a0 a1 a2 a3 a4 a5 a6 a7 : Int} {S0 S1 S2 S3 S4 S5 S6 S7 s0 s1 s2 s3 s4 s5 s6 s7 : Bool} (hh : inU h) (R0 : Rk S0 s0 A0 a0) (R1 : Rk S1 s1 A1 a1) (R2 : Rk S2 s2 A2 a2) (R3 : Rk S3 s3 A3 a3) (R4 : Rk S4 s4 A4 a4) (R5 : Rk S5 s5 A5 a5) (R6 : Rk S6 s6 A6 a6) (R7 : Rk S7 s7 A7 a7) : t12 g h (selB g s0 s1 s2 s3 s4 s5 s6 s7) (selB g S0 S1 S2 S3 S4 S5 S6 S7) (selI g a0 a1 a2 a3 a4 a5 a6 a7) (selI g A0 A1 A2 A3 A4 A5 A6 A7) = false := by
  have key : inG g = true → (cond (selB g s0 s1 s2 s3 s4 s5 s6 s7) (litCmp .eql (selI g a0 a1 a2 a3 a4 a5 a6 a7) (litBin .andNot .u64 h 7)) false) = (cond (selB g S0 S1 S2 S3 S4 S5 S6 S7) (litCmp .eql (selI g A0 A1 A2 A3 A4 A5 A6 A7) (litBin .sub .u64 h (litBin .rem .u64 h 8))) false) := fun hg => by
    obtain ⟨h1, h2⟩ := ok_in hg
    unfold selB selI
    have hk : g.toNat = 0 ∨ g.toNat = 1 ∨ g.toNat = 2 ∨ g.toNat = 3 ∨ g.toNat = 4 ∨ g.toNat = 5 ∨ g.toNat = 6 ∨ g.toNat = 7 := by omega
    rcases hk with e | e | e | e | e | e | e | e <;> rw [e]
    · exact eq_at R0 hh
    · exact eq_at R1 hh
    · exact eq_at R2 hh
    · exact eq_at R3 hh
    · exact eq_at R4 hh
    · exact eq_at R5 hh
    · exact eq_at R6 hh
    · exact eq_at R7 hh
  unfold t12
  rw [unk_in]
  cases hg : inG g
  · rfl
  · rw [Bool.not_true, cond_false, cond_false, key hg]
    simp
theorem mn_le (m : Int) : mn m ≤ 64 := by
  unfold mn
  rw [lss_eq]
  by_cases h : 64 < m
  · rw [decide_eq_true h]; exact Int.le_refl _
  · rw [decide_eq_false h, cond_false]; omega
theorem kd_in {f : Int} (wf : 0 ≤ f ∧ f < 256) : kd f = 0 ∨ kd f = 1 ∨ kd f = 2 ∨ kd f = 3 := by
  have : ∀ n : Fin 256, kd ((n.val : Nat) : Int) = 0 ∨ kd ((n.val : Nat) : Int) = 1 ∨ kd ((n.val : Nat) : Int) = 2 ∨ kd ((n.val : Nat) : Int) = 3 := by decide +kernel
  have h2 := this ⟨f.toNat, by omega⟩
  have e : ((f.toNat : Nat) : Int) = f := by omega
  simp only [e] at h2
  exact h2

structure Rg (n : Nat) (F H : Nat → Int) : Prop where
  hF : ∀ j, j < n → 0 ≤ F j ∧ F j < 256
  hH : ∀ j, j < n → inU (H j)
def I (e0 e : Env DC) : Prop := ∃ (i A0 A1 A2 A3 A4 A5 A6 A7 a0 a1 a2 a3 a4 a5 a6 a7 : Int) (S0 S1 S2 S3 S4 S5 S6 S7 s0 s1 s2 s3 s4 s5 s6 s7 : Bool) (n : Nat) (F G H M : Nat → Int), e = ⟨[i, A0, A1, A2, A3, A4, A5, A6, A7, a0, a1, a2, a3, a4, a5, a6, a7], [S0, S1, S2, S3, S4, S5, S6, S7, s0, s1, s2, s3, s4, s5, s6, s7], [n, n], [F, G, H, M]⟩ ∧ (0 ≤ i ∧ i ≤ 60) ∧ Rg n F H ∧ Rk S0 s0 A0 a0 ∧ Rk S1 s1 A1 a1 ∧ Rk S2 s2 A2 a2 ∧ Rk S3 s3 A3 a3 ∧ Rk S4 s4 A4 a4 ∧ Rk S5 s5 A5 a5 ∧ Rk S6 s6 A6 a6 ∧ Rk S7 s7 A7 a7
noncomputable def ask (e : Env DC) : Bool := yes (I e e)
noncomputable def X : Cx DC := cxs2.block 10 0 (loopSum (D := DC) tm tm' 8 [0, 1, 2, 3, 4, 5, 6, 7, 6] ask)

theorem round (e0 e : Env DC) (h : I e0 e) : RoundT (I e0) (fun e => (61 - (e.i.getD 0 0)).toNat) (I e0) 0 e (viewT tm 8 ls (tm.fill e) (ev Try.prog cxs2 10 400 (.code (loopAt Try.prog 10 0)) (tm.fill e))) := by
  obtain ⟨i, A0, A1, A2, A3, A4, A5, A6, A7, a0, a1, a2, a3, a4, a5, a6, a7, S0, S1, S2, S3, S4, S5, S6, S7, s0, s1, s2, s3, s4, s5, s6, s7, n, F, G, H, M, rfl, hi, hR, R0, R1, R2, R3, R4, R5, R6, R7⟩ := h
  by_cases hg : i < n ∧ i < 60
  · have b0 : g0 i n = true := by
      unfold g0
      rw [lss_eq, lss_eq, decide_eq_true hg.1, decide_eq_true hg.2]
      rfl
    have hin : i.toNat < n := by omega
    have b1 : g1 i n = true := by
      unfold g1
      rw [decide_eq_true (show 0 ≤ i ∧ i < ((n : Nat) : Int) from ⟨hi.1, hg.1⟩), decide_eq_true hin]
      rfl
    have hadd : litBin .add .i64 i 1 = i + 1 := by
      show IntKind.i64.wrap (i + 1) = _
      rw [wrapi]
      omega
    have hh := hR.hH i.toNat hin
    have hm : (61 - litBin .add .i64 i 1).toNat < (61 - i).toNat := by rw [hadd]; omega
    have hi' : 0 ≤ litBin .add .i64 i 1 ∧ litBin .add .i64 i 1 ≤ 60 := by rw [hadd]; omega
    rcases kd_in (hR.hF i.toNat hin) with hk | hk | hk | hk
    · have e0 : litCmp .eql (kd (F i.toNat)) 0 = true := by rw [hk]; rfl
      have Q0 := R0.set (G i.toNat) hh 0
      have Q1 := R1.set (G i.toNat) hh 1
      have Q2 := R2.set (G i.toNat) hh 2
      have Q3 := R3.set (G i.toNat) hh 3
      have Q4 := R4.set (G i.toNat) hh 4
      have Q5 := R5.set (G i.toNat) hh 5
      have Q6 := R6.set (G i.toNat) hh 6
      have Q7 := R7.set (G i.toNat) hh 7
      refine ⟨_, _, route_at (goes0 i A0 A1 A2 A3 A4 A5 A6 A7 a0 a1 a2 a3 a4 a5 a6 a7 S0 S1 S2 S3 S4 S5 S6 S7 s0 s1 s2 s3 s4 s5 s6 s7 n F G H M) ?_, .inl ⟨rfl, _, rfl, ⟨_, _, _, _, _, _, _, _, _, _, _, _, _, _, _, _, _, _, _, _, _, _, _, _, _, _, _, _, _, _, _, _, _, n, F, G, H, M, rfl, hi', hR, Q0, Q1, Q2, Q3, Q4, Q5, Q6, Q7⟩, hm⟩⟩
      rw [b0, b1, e0, t0_t, Q0.bad, Q1.bad, Q2.bad, Q3.bad, Q4.bad, Q5.bad, Q6.bad, Q7.bad]
      rfl
    · have e0 : litCmp .eql (kd (F i.toNat)) 0 = false := by rw [hk]; rfl
      have e1 : litCmp .eql (kd (F i.toNat)) 1 = true := by rw [hk]; rfl
      have Q0 := R0.take (G i.toNat) 0
      have Q1 := R1.take (G i.toNat) 1
      have Q2 := R2.take (G i.toNat) 2
      have Q3 := R3.take (G i.toNat) 3
      have Q4 := R4.take (G i.toNat) 4
      have Q5 := R5.take (G i.toNat) 5
      have Q6 := R6.take (G i.toNat) 6
      have Q7 := R7.take (G i.toNat) 7
      refine ⟨_, _, route_at (goes1 i A0 A1 A2 A3 A4 A5 A6 A7 a0 a1 a2 a3 a4 a5 a6 a7 S0 S1 S2 S3 S4 S5 S6 S7 s0 s1 s2 s3 s4 s5 s6 s7 n F G H M) ?_, .inl ⟨rfl, _, rfl, ⟨_, _, _, _, _, _, _, _, _, _, _, _, _, _, _, _, _, _, _, _, _, _, _, _, _, _, _, _, _, _, _, _, _, n, F, G, H, M, rfl, hi', hR, Q0, Q1, Q2, Q3, Q4, Q5, Q6, Q7⟩, hm⟩⟩
      rw [b0, b1, e0, e1, t10_t, t11_t, t12_f hh R0 R1 R2 R3 R4 R5 R6 R7, Q0.bad, Q1.bad, Q2.bad, Q3.bad, Q4.bad, Q5.bad, Q6.bad, Q7.bad]
      rfl
    · have e0 : litCmp .eql (kd (F i.toNat)) 0 = false := by rw [hk]; rfl
      have e1 : litCmp .eql (kd (F i.toNat)) 1 = false := by rw [hk]; rfl
      have e2 : litCmp .eql (kd (F i.toNat)) 2 = true := by rw [hk]; rfl
      have ea : ask36 (H i.toNat) (mn (M i.toNat)) A0 A1 A2 A3 A4 A5 A6 A7 = true := by
        unfold ask36 m8
        simp only [Bool.and_eq_true, decide_eq_true_eq]
        exact ⟨hh, mn_le _, ⟨R0.inA.1, R0.inA.2, R0.m8⟩, ⟨R1.inA.1, R1.inA.2, R1.m8⟩, ⟨R2.inA.1, R2.inA.2, R2.m8⟩, ⟨R3.inA.1, R3.inA.2, R3.m8⟩, ⟨R4.inA.1, R4.inA.2, R4.m8⟩, ⟨R5.inA.1, R5.inA.2, R5.m8⟩, ⟨R6.inA.1, R6.inA.2, R6.m8⟩, ⟨R7.inA.1, R7.inA.2, R7.m8⟩⟩
      have et : t20 (G i.toNat) (ask36 (H i.toNat) (mn (M i.toNat)) A0 A1 A2 A3 A4 A5 A6 A7) = true := by
        unfold t20
        rw [ea, unk_in]
        cases hgg : inG (G i.toNat)
        · rfl
        · rw [(oks _ hgg).1]; rfl
      have Q0 := R0.store (G i.toNat) 0 (H i.toNat) (mn (M i.toNat))
      have Q1 := R1.store (G i.toNat) 1 (H i.toNat) (mn (M i.toNat))
      have Q2 := R2.store (G i.toNat) 2 (H i.toNat) (mn (M i.toNat))
      have Q3 := R3.store (G i.toNat) 3 (H i.toNat) (mn (M i.toNat))
      have Q4 := R4.store (G i.toNat) 4 (H i.toNat) (mn (M i.toNat))
      have Q5 := R5.store (G i.toNat) 5 (H i.toNat) (mn (M i.toNat))
      have Q6 := R6.store (G i.toNat) 6 (H i.toNat) (mn (M i.toNat))
      have Q7 := R7.store (G i.toNat) 7 (H i.toNat) (mn (M i.toNat))
      refine ⟨_, _, route_at (goes2 i A0 A1 A2 A3 A4 A5 A6 A7 a0 a1 a2 a3 a4 a5 a6 a7 S0 S1 S2 S3 S4 S5 S6 S7 s0 s1 s2 s3 s4 s5 s6 s7 n F G H M) ?_, .inl ⟨rfl, _, rfl, ⟨_, _, _, _, _, _, _, _, _, _, _, _, _, _, _, _, _, _, _, _, _, _, _, _, _, _, _, _, _, _, _, _, _, n, F, G, H, M, rfl, hi', hR, Q0, Q1, Q2, Q3, Q4, Q5, Q6, Q7⟩, hm⟩⟩
      rw [b0, b1, e0, e1, e2, et, Q0.bad, Q1.bad, Q2.bad, Q3.bad, Q4.bad, Q5.bad, Q6.bad, Q7.bad]
      rfl
    · have e0 : litCmp .eql (kd (F i.toNat)) 0 = false := by rw [hk]; rfl
      have e1 : litCmp .eql (kd (F i.toNat)) 1 = false := by rw [hk]; rfl
      have e2 : litCmp .eql (kd (F i.toNat)) 2 = false := by rw [hk]; rfl
      have e3 : litCmp .eql (kd (F i.toNat)) 3 = true := by rw [hk]; rfl
      refine ⟨_, _, route_at (goes3 i A0 A1 A2 A3 A4 A5 A6 A7 a0 a1 a2 a3 a4 a5 a6 a7 S0 S1 S2 S3 S4 S5 S6 S7 s0 s1 s2 s3 s4 s5 s6 s7 n F G H M) ?_, .inl ⟨rfl, _, rfl, ⟨_, _, _, _, _, _, _, _, _, _, _, _, _, _, _, _, _, _, _, _, _, _, _, _, _, _, _, _, _, _, _, _, _, n, F, G, H, M, rfl, hi', hR, R0, R1, R2, R3, R4, R5, R6, R7⟩, hm⟩⟩
      rw [b0, b1, e0, e1, e2, e3, R0.bad, R1.bad, R2.bad, R3.bad, R4.bad, R5.bad, R6.bad, R7.bad]
      rfl
  · have b0 : g0 i n = false := by
      unfold g0
      rw [lss_eq, lss_eq]
      by_cases h1 : i < n
      · rw [decide_eq_true h1, decide_eq_false (fun h => hg ⟨h1, h⟩)]
        rfl
      · rw [decide_eq_false h1]
        rfl
    exact ⟨_, _, route_at (ends i A0 A1 A2 A3 A4 A5 A6 A7 a0 a1 a2 a3 a4 a5 a6 a7 S0 S1 S2 S3 S4 S5 S6 S7 s0 s1 s2 s3 s4 s5 s6 s7 n F G H M) (by rw [b0]), .inr ⟨rfl, _, rfl, i, A0, A1, A2, A3, A4, A5, A6, A7, a0, a1, a2, a3, a4, a5, a6, a7, S0, S1, S2, S3, S4, S5, S6, S7, s0, s1, s2, s3, s4, s5, s6, s7, n, F, G, H, M, rfl, hi, hR, R0, R1, R2, R3, R4, R5, R6, R7⟩⟩

theorem X_ok : Ok Try.prog X := by
  refine cxs2_ok.block (by kernel_rfl) fun hw s r hr => loopSum_ok (I := I) (m := fun _ e => (61 - (e.i.getD 0 0)).toNat) (Fin := I) cxs2_ok (fun e he => of_yes he) round ?_ hw s r hr
  rintro e0 e1 ⟨i, A0, A1, A2, A3, A4, A5, A6, A7, a0, a1, a2, a3, a4, a5, a6, a7, S0, S1, S2, S3, S4, S5, S6, S7, s0, s1, s2, s3, s4, s5, s6, s7, n, F, G, H, M, rfl, _⟩
  kernel_rfl

set_option maxRecDepth 100000 in
/-- The whole law. -/
theorem road (n : Nat) (F G H M : Nat → Int) : ((call Try.prog X 400 10 [.slice 0 (.lit 0) (.rc n 1 0) .any] [.rows 0 n [(.int .u8, F), (.int .i64, G), (.int .u64, H), (.int .i64, M)]]).route [true]).map (fun p => (p.1, p.2.1)) =
    some ([ask ⟨[0, 0, 0, 0, 0, 0, 0, 0, 0, 0, 0, 0, 0, 0, 0, 0, 0], [false, false, false, false, false, false, false, false, false, false, false, false, false, false, false, false], [n, n], [F, G, H, M]⟩], .val (.bool (.lit true))) := by kernel_rfl

theorem run : ∀ xs h, Abs [.rows [.int .u8, .int .i64, .int .u64, .int .i64]] 0 xs h → ∃ b l, (call Try.prog X 400 10 xs h).pick = some (.val (.bool b), l) ∧ b.den = true := by
  rintro xs h ⟨n, fs, as3, h3, rfl, rfl, hrow, rfl, rfl⟩
  obtain ⟨hn, hlen, hF⟩ := hrow
  match fs, hlen with
  | [F, G, H, M], _ =>
    refine (road_at (road n F G H M) ?_).elim fun l hl => ⟨.lit true, l, hl, rfl⟩
    have z : Rk false false 0 0 := ⟨rfl, rfl, by unfold inU; omega, rfl⟩
    rw [show ask ⟨[0, 0, 0, 0, 0, 0, 0, 0, 0, 0, 0, 0, 0, 0, 0, 0, 0], [false, false, false, false, false, false, false, false, false, false, false, false, false, false, false, false], [n, n], [F, G, H, M]⟩ = true from yes_of ⟨0, 0, 0, 0, 0, 0, 0, 0, 0, 0, 0, 0, 0, 0, 0, 0, 0, false, false, false, false, false, false, false, false, false, false, false, false, false, false, false, false, n, F, G, H, M, rfl, by omega, ⟨fun jj hj => ?_, fun jj hj => ?_⟩, z, z, z, z, z, z, z, z⟩]
    · exact wf8 (hF 0 .u8 F rfl rfl jj hj)
    · exact inU_wf (hF 2 .u64 H rfl rfl jj hj)

set_option maxRecDepth 100000 in
theorem lifted (os : Os) (started : os.Started) (H : Type) (enc : TypeId × Value → H) :
    ReturnsInHanded {} Try.checked os 10 .any (Rows.amoPlaysSpec.pre6 enc Try.prog Try.f10 Rows.amoPlaysRow.domain false) (Rows.amoPlaysSpec.post enc Try.prog Try.f10 false true false false) := by
  refine returnsInHanded_of_change (C := Try.checked) own started (by kernel_rfl) Try.func10
    (ChangeSpec.witness6 (enc := enc) (C := Try.checked) false ⟨#[], #[.slice none 0 0], []⟩ 8 (by kernel_rfl) (by kernel_rfl) (by kernel_rfl) (by kernel_rfl)) ?_
  intro W base args ds gs before hval hW _ _
  exact lifted_rows (P := Try.prog) (f := 10) (fn := Try.f10) (s := Rows.amoPlaysSpec) X_ok (n := 400) rfl
    (fun ds h => by
      match ds, h with
      | [d1], _ => rfl)
    (by kernel_rfl) rfl (by kernel_rfl) (by kernel_rfl) (by kernel_rfl) run W base args ds gs before hval hW

theorem over : Rows.amoPlaysRow.holds Try.pinned (OpenSpec.ofChange Rows.amoPlaysSpec) :=
  OpenClaim.holds_of_wide 10 Try.f10 rfl rfl rfl rfl rfl rfl rfl ⟨rfl, rfl, rfl, rfl, rfl⟩ rfl rfl rfl rfl rfl (by kernel_rfl) Try.func10 (by kernel_rfl)
    (of_decide_eq_true (by kernel_rfl)) (by unfold Func.isWrapper; first | (rw [if_pos (by decide +kernel)]; kernel_rfl) | (rw [if_neg (by decide +kernel)]; exact ⟨rfl, rfl⟩))
    (fun os started H enc _ => lifted os started H enc)

/-- The statement. -/
theorem proved : Rows.AmoPlaysSaid :=
  over
#print axioms proved
end Go.Proofs.Ytgljicadcegilaa.AmoPlays
