/- The statement 'SpaceAligned': without a table an access is of the address itself: it is let just if all of its bytes are in memory, and faults at the first that is not. Conditions: none. -/
import Derived.Test.YtngcbpcfgolifaaSpcAl8
import Derived.Test.YtngcbpcfgolifaaHead
namespace Go.Proofs.Ytngcbpcfgolifaa.SpaceAligned
open Go.RowKit Go.WideShapes Go.ChangeShapes Go.ChangeAt Ev
set_option linter.unusedVariables false
set_option linter.unusedSimpArgs false

noncomputable def v1a_0 (pg va x nn : Int) : Bool := (cond (inA (szN (pq pg)) va 1) false (cond (ldF (fun _ => 0) (szN (pq pg)) 0 0 0 va 1) (cond (litCmp .eql (sC (fun _ => 0) (szN (pq pg)) (szN (pq pg)) 0 0 1 2 (litBin .add .u64 va 0) 1) 7) (cond (litCmp .eql (ldC (fun _ => 0) (szN (pq pg)) 0 0 0 va 1) 5) (cond (litCmp .eql (sV (fun _ => 0) (szN (pq pg)) (szN (pq pg)) 0 0 1 2 (litBin .add .u64 va 0) 1) va) (litCmp .eql (ldV (fun _ => 0) (szN (pq pg)) 0 0 0 va 1) va) false) false) false) false))
set_option maxRecDepth 100000 in
theorem road1a_0 (pg va x nn : Int) : ((call Try.prog (cxA 1) 70 18 [.int .u8 (.sym pg), .agg [.int .u64 (.sym va), .int .u64 (.sym x)], .int .u8 (.sym nn)] []).route [true]).map (fun p => (p.1, p.2.1)) = some ([(((((!(litCmp .lss (pgs (pq pg)) 1)) && (!(litCmp .gtr (pgs (pq pg)) 16))) && (decide (0 ≤ (litBin .mul .i64 (pgs (pq pg)) 4096) ∧ (litBin .mul .i64 (pgs (pq pg)) 4096) < ((16777216 : Nat) : Int)))) && (((!(litCmp .lss (pgs (pq pg)) 1)) && (!(litCmp .gtr (pgs (pq pg)) 16))) && (decide (0 ≤ (litBin .mul .i64 (pgs (pq pg)) 4096) ∧ (litBin .mul .i64 (pgs (pq pg)) 4096) < ((16777216 : Nat) : Int))))) && ((szq 1 nn) && (((!(litCmp .neq (litBin .rem .u64 va 1) 0)) && (askG true (szN (pq pg)) (szN (pq pg)) (szN (pq pg)) (fun _ => 0) 0 0 1 2 (litBin .add .u64 va 0) 1)) && ((askL (szN (pq pg)) (szN (pq pg)) (szN (pq pg)) (fun _ => 0) 0 0 va 1) && (cond (inA (szN (pq pg)) va 1) true (!(litCmp .neq (litBin .rem .u64 va 1) 0)))))))], .val (.bool (.sym (v1a_0 pg va x nn)))) := by kernel_rfl
noncomputable def v1a_1 (pg va x nn : Int) : Bool := (cond (!(ldF (putF (fun _ => 0) (szN (pq pg)) (litBin .add .u64 (sT (fun _ => 0) (szN (pq pg)) (szN (pq pg)) 0 0 1 2 (litBin .add .u64 va 0) 1) 0) 1 (litBin .shr .u64 x 0)) (szN (pq pg)) 0 0 0 va 1)) (cond (litCmp .eql (litBin .add .u64 (sT (fun _ => 0) (szN (pq pg)) (szN (pq pg)) 0 0 1 2 (litBin .add .u64 va 0) 1) 0) va) (litCmp .eql (ldX (putF (fun _ => 0) (szN (pq pg)) (litBin .add .u64 (sT (fun _ => 0) (szN (pq pg)) (szN (pq pg)) 0 0 1 2 (litBin .add .u64 va 0) 1) 0) 1 (litBin .shr .u64 x 0)) (szN (pq pg)) 0 0 0 va 1) (litBin .and .u64 x 255)) false) false)
set_option maxRecDepth 100000 in
theorem road1a_1 (pg va x nn : Int) : ((call Try.prog (cxF 1 false 1) 70 18 [.int .u8 (.sym pg), .agg [.int .u64 (.sym va), .int .u64 (.sym x)], .int .u8 (.sym nn)] []).route [true]).map (fun p => (p.1, p.2.1)) = some ([(((((!(litCmp .lss (pgs (pq pg)) 1)) && (!(litCmp .gtr (pgs (pq pg)) 16))) && (decide (0 ≤ (litBin .mul .i64 (pgs (pq pg)) 4096) ∧ (litBin .mul .i64 (pgs (pq pg)) 4096) < ((16777216 : Nat) : Int)))) && (((!(litCmp .lss (pgs (pq pg)) 1)) && (!(litCmp .gtr (pgs (pq pg)) 16))) && (decide (0 ≤ (litBin .mul .i64 (pgs (pq pg)) 4096) ∧ (litBin .mul .i64 (pgs (pq pg)) 4096) < ((16777216 : Nat) : Int))))) && ((szq 1 nn) && ((((!(litCmp .neq (litBin .rem .u64 va 1) 0)) && (askG false (szN (pq pg)) (szN (pq pg)) (szN (pq pg)) (fun _ => 0) 0 0 1 2 (litBin .add .u64 va 0) 1)) && (askM (szN (pq pg)) (szN (pq pg)) (szN (pq pg)) (fun _ => 0) (litBin .add .u64 (sT (fun _ => 0) (szN (pq pg)) (szN (pq pg)) 0 0 1 2 (litBin .add .u64 va 0) 1) 0) 1 && yes (inU (litBin .shr .u64 x 0)))) && ((askL (szN (pq pg)) (szN (pq pg)) (szN (pq pg)) (putF (fun _ => 0) (szN (pq pg)) (litBin .add .u64 (sT (fun _ => 0) (szN (pq pg)) (szN (pq pg)) 0 0 1 2 (litBin .add .u64 va 0) 1) 0) 1 (litBin .shr .u64 x 0)) 0 0 va 1) && (inA (szN (pq pg)) va 1)))))], .val (.bool (.sym (v1a_1 pg va x nn)))) := by kernel_rfl
theorem law1a {pg va x nn : Int} (hpg : 0 ≤ pg ∧ pg < 256) (hva : inU va) (hx : inU x) (wnn : 0 ≤ nn ∧ nn < 256) (hnn : sizeS nn = 1) (hal : decide (va % 1 = 0) = true) :
    ∃ (C : Cx DC) (ds cs : List Bool) (v : Bool), Ok Try.prog C ∧ ((call Try.prog C 70 18 [.int .u8 (.sym pg), .agg [.int .u64 (.sym va), .int .u64 (.sym x)], .int .u8 (.sym nn)] []).route ds).map (fun p => (p.1, p.2.1)) = some (cs, .val (.bool (.sym v))) ∧ cs = ds ∧ v = true := by
  have hp := pq_in hpg
  have hle : (szN (pq pg)) ≤ 65536 := (szN_eq hp).2
  have hN : (((szN (pq pg)) : Nat) : Int) % 8 = 0 := by
    rw [(szN_eq hp).1]
    omega
  have hm : MemOk (szN (pq pg)) (fun _ => 0) := MemOk.zero hle
  have hq : szq 1 nn = true := szq_of wnn hnn
  have hpi := pgs_in hp
  have pL : litCmp .lss (pgs (pq pg)) 1 = false := by rw [lss_eq]; exact decide_eq_false (by omega)
  have pG : litCmp .gtr (pgs (pq pg)) 16 = false := by rw [gtr_eq]; exact decide_eq_false (by omega)
  have pU : decide (0 ≤ (litBin .mul .i64 (pgs (pq pg)) 4096) ∧ (litBin .mul .i64 (pgs (pq pg)) 4096) < ((16777216 : Nat) : Int)) = true := (pgT_f hp).2
  have hne : litCmp .neq (litBin .rem .u64 va 1) 0 = false := by rw [neq0 hva, hal]; rfl
  have z0 : (litBin .add .u64 va 0) = va := add0 hva
  have hk : num 1 = true := rfl
  have hin : inA (szN (pq pg)) va 1 = okS (szN (pq pg)) va 1 := in_ok hle hva hk
  have hall := all_ok hle hva hk
  have aL : askL (szN (pq pg)) (szN (pq pg)) (szN (pq pg)) (fun _ => 0) 0 0 va 1 = true := yes_of ⟨⟨rfl, rfl, hm, hN⟩, inU0, inU0, hva, rfl⟩
  have q0 : askS (szN (pq pg)) (szN (pq pg)) (szN (pq pg)) (fun _ => 0) 0 0 1 2 (litBin .add .u64 va 0) 1 = true := Page.askS_t hm inU0 inU0 (inU.add _ _) rfl
  rcases Bool.eq_false_or_eq_true (okS (szN (pq pg)) va 1) with ho | ho
  rotate_left
  · have uz : okS (szN (pq pg)) (litBin .add .u64 va 0) 1 = false := by rw [z0]; exact ho
    have u0 : okS (szN (pq pg)) (litBin .add .u64 va 0) 1 = false := by
      have := Page.ok_same (t := va) (n := 1) (i := 0) hN hk (of_decide_eq_true hal) (by omega)
      rw [Int.add_zero] at this
      rw [z0]
      exact this.trans ho
    have f0 : sF (fun _ => 0) (szN (pq pg)) (szN (pq pg)) 0 0 1 2 (litBin .add .u64 va 0) 1 = true := by rw [sF0, uz]; rfl
    have ni : inA (szN (pq pg)) va 1 = false := by rw [hin]; exact ho
    have l0 : ldA (fun _ => 0) (szN (pq pg)) 0 0 0 va 0 = true := by unfold ldA; rw [sF0, u0]; rfl
    have e0 : ldI (fun _ => 0) (szN (pq pg)) 0 0 0 va 1 = some 0 := by unfold ldI; simp only [show ixs 1 = [0] from rfl, firstL, l0, cond_true, cond_false]
    have eF : ldF (fun _ => 0) (szN (pq pg)) 0 0 0 va 1 = true := by unfold ldF; rw [e0]
    have eV : ldV (fun _ => 0) (szN (pq pg)) 0 0 0 va 1 = va := by unfold ldV; rw [e0]; exact z0
    have eC : ldC (fun _ => 0) (szN (pq pg)) 0 0 0 va 1 = 5 := by unfold ldC; rw [e0]; exact (sC0 u0).trans cau5
    have eS : sV (fun _ => 0) (szN (pq pg)) (szN (pq pg)) 0 0 1 2 (litBin .add .u64 va 0) 1 = va := (Page.sV_t f0).trans z0
    have eK : sC (fun _ => 0) (szN (pq pg)) (szN (pq pg)) 0 0 1 2 (litBin .add .u64 va 0) 1 = 7 := (sC0 uz).trans cau7
    have aI : askG true (szN (pq pg)) (szN (pq pg)) (szN (pq pg)) (fun _ => 0) 0 0 1 2 (litBin .add .u64 va 0) 1 = true := by unfold askG; rw [q0, f0]; rfl
    refine ⟨cxA 1, _, _, _, cxA_ok 1, road1a_0 pg va x nn, ?_, ?_⟩
    · simp only [pL, pG, pU, hq, hne, aI, aL, ni, Bool.and_self, Bool.not_false, Bool.not_true, Bool.cond_self, cond_true, cond_false, beq_self_eq_true, Bool.true_and, Bool.and_true]
      try rfl
    · unfold v1a_0
      simp only [ni, eF, eV, eC, eS, eK, eql_self, cond_true, cond_false]
      try rfl
  have u0 : okS (szN (pq pg)) (litBin .add .u64 va 0) 1 = true := hall.1 ho 0 (by omega)
  have f0 : sF (fun _ => 0) (szN (pq pg)) (szN (pq pg)) 0 0 1 2 (litBin .add .u64 va 0) 1 = false := by rw [sF0, z0, ho]; rfl
  have a0g : askG false (szN (pq pg)) (szN (pq pg)) (szN (pq pg)) (fun _ => 0) 0 0 1 2 (litBin .add .u64 va 0) 1 = true := by unfold askG; rw [q0, f0]; rfl
  have yi : inA (szN (pq pg)) va 1 = true := by rw [hin]; exact ho
  have y0 : yes (inU (litBin .shr .u64 x 0)) = true := yes_of (inU.shr hx 0 (by omega))
  have m0 : askM (szN (pq pg)) (szN (pq pg)) (szN (pq pg)) (fun _ => 0) (litBin .add .u64 (sT (fun _ => 0) (szN (pq pg)) (szN (pq pg)) 0 0 1 2 (litBin .add .u64 va 0) 1) 0) 1 = true := askM_of hm (inU.add _ _) (Page.inI_num rfl)
  have a0 : (litBin .add .u64 (sT (fun _ => 0) (szN (pq pg)) (szN (pq pg)) 0 0 1 2 (litBin .add .u64 va 0) 1) 0) = (litBin .add .u64 va 0) := by
    have e : sT (fun _ => 0) (szN (pq pg)) (szN (pq pg)) 0 0 1 2 (litBin .add .u64 va 0) 1 = va := (sT0 (by rw [z0]; exact ho)).trans z0
    rw [e]
  have hmk : MemOk (szN (pq pg)) (putF (fun _ => 0) (szN (pq pg)) (litBin .add .u64 (sT (fun _ => 0) (szN (pq pg)) (szN (pq pg)) 0 0 1 2 (litBin .add .u64 va 0) 1) 0) 1 (litBin .shr .u64 x 0)) := (MemOk.put hm _ _ _)
  have aK : askL (szN (pq pg)) (szN (pq pg)) (szN (pq pg)) (putF (fun _ => 0) (szN (pq pg)) (litBin .add .u64 (sT (fun _ => 0) (szN (pq pg)) (szN (pq pg)) 0 0 1 2 (litBin .add .u64 va 0) 1) 0) 1 (litBin .shr .u64 x 0)) 0 0 va 1 = true := yes_of ⟨⟨rfl, rfl, hmk, hN⟩, inU0, inU0, hva, rfl⟩
  refine ⟨cxF 1 false 1, _, _, _, cxF_ok 1 false 1, road1a_1 pg va x nn, ?_, ?_⟩
  · simp only [pL, pG, pU, hq, hne, a0g, y0, m0, aK, yi, Bool.and_self, Bool.not_false, Bool.not_true, Bool.cond_self, cond_true, cond_false, beq_self_eq_true, Bool.true_and, Bool.and_true]
    try rfl
  · have hG : ∃ G : Nat → Int, (putF (fun _ => 0) (szN (pq pg)) (litBin .add .u64 (sT (fun _ => 0) (szN (pq pg)) (szN (pq pg)) 0 0 1 2 (litBin .add .u64 va 0) 1) 0) 1 (litBin .shr .u64 x 0)) = G ∧ ∀ i : Nat, i < 1 → G (Int.toNat (va - 2147483648) + i) = x / 256 ^ i % 256 := by
      refine ⟨_, rfl, fun i hi => ?_⟩
      have u0' : okS (szN (pq pg)) va 1 = true := by rw [← z0]; exact u0
      rw [a0, put1 u0]
      have s0 := sub_at (i := 0) (k := 0) hle hva u0' (by omega)
      rw [s0]
      have w0 : IntKind.wrap .u8 (litBin .shr .u64 x 0) = x / 256 ^ 0 % 256 := byte_of hx 0 (by omega)
      rw [w0]
      unfold updF
      rcases (by omega : i = 0) with rfl
      · simp
    obtain ⟨G, hG, hB⟩ := hG
    unfold v1a_1
    rw [hG] at hmk ⊢
    have l0 : ldA G (szN (pq pg)) 0 0 0 va 0 = false := by unfold ldA; rw [sF0, u0]; rfl
    have e0 : ldI G (szN (pq pg)) 0 0 0 va 1 = none := by unfold ldI; simp only [show ixs 1 = [0] from rfl, firstL, l0, cond_true, cond_false]
    have eF : ldF G (szN (pq pg)) 0 0 0 va 1 = false := by unfold ldF; rw [e0]
    have eX : ldX G (szN (pq pg)) 0 0 0 va 1 = orL (ldB G (szN (pq pg)) 0 0 0 va) 0 (ixs 1) := by unfold ldX; rw [e0]
    have u0' : okS (szN (pq pg)) va 1 = true := by rw [← z0]; exact u0
    have eB : ∀ i : Nat, i < 1 → ldB G (szN (pq pg)) 0 0 0 va (i : Int) = x / 256 ^ i % 256 := fun i hi => by
      have ui : okS (szN (pq pg)) (litBin .add .u64 va (i : Int)) 1 = true := hall.1 ho _ (by omega)
      unfold ldB
      rw [sT0 ui, get_byte ui, sub_at (k := 0) hle hva u0' (by omega), Int.toNat_natCast]
      exact hB i hi
    have hs : orL (ldB G (szN (pq pg)) 0 0 0 va) 0 (ixs 1) = x % 256 ^ 1 := by
      have h1 := sum_upto hx eB 1 (Nat.le_refl _) (by omega)
      exact h1
    have hx2 : litBin .and .u64 x 255 = x % 256 ^ 1 := and_low hx 8 (by omega)
    rw [eF, eX, hs, hx2, a0, z0, eql_self, eql_self]
    rfl
noncomputable def v2u_0v (pg va x nn : Int) : Bool := (cond (inA (szN (pq pg)) va 2) false (cond (ldF (fun _ => 0) (szN (pq pg)) 0 0 0 va 2) (cond (litCmp .eql (sC (fun _ => 0) (szN (pq pg)) (szN (pq pg)) 0 0 1 2 (litBin .add .u64 va 0) 1) 7) (cond (litCmp .eql (ldC (fun _ => 0) (szN (pq pg)) 0 0 0 va 2) 5) (cond (litCmp .eql (sV (fun _ => 0) (szN (pq pg)) (szN (pq pg)) 0 0 1 2 (litBin .add .u64 va 0) 1) va) (litCmp .eql (ldV (fun _ => 0) (szN (pq pg)) 0 0 0 va 2) va) false) false) false) false))
set_option maxRecDepth 100000 in
theorem road2u_0v (pg va x nn : Int) : ((call Try.prog (cxU 2 0 true) 70 18 [.int .u8 (.sym pg), .agg [.int .u64 (.sym va), .int .u64 (.sym x)], .int .u8 (.sym nn)] []).route [true]).map (fun p => (p.1, p.2.1)) = some ([(((((!(litCmp .lss (pgs (pq pg)) 1)) && (!(litCmp .gtr (pgs (pq pg)) 16))) && (decide (0 ≤ (litBin .mul .i64 (pgs (pq pg)) 4096) ∧ (litBin .mul .i64 (pgs (pq pg)) 4096) < ((16777216 : Nat) : Int)))) && (((!(litCmp .lss (pgs (pq pg)) 1)) && (!(litCmp .gtr (pgs (pq pg)) 16))) && (decide (0 ≤ (litBin .mul .i64 (pgs (pq pg)) 4096) ∧ (litBin .mul .i64 (pgs (pq pg)) 4096) < ((16777216 : Nat) : Int))))) && ((szq 2 nn) && (((litCmp .neq (litBin .rem .u64 va 2) 0) && (askG true (szN (pq pg)) (szN (pq pg)) (szN (pq pg)) (fun _ => 0) 0 0 1 2 (litBin .add .u64 va 0) 1)) && ((askL (szN (pq pg)) (szN (pq pg)) (szN (pq pg)) (fun _ => 0) 0 0 va 2) && (cond (inA (szN (pq pg)) va 2) true ((litCmp .neq (litBin .rem .u64 va 2) 0) && (!(litCmp .geq va 2147483648))))))))], .val (.bool (.sym (v2u_0v pg va x nn)))) := by kernel_rfl
noncomputable def v2u_0 (pg va x nn : Int) : Bool := (cond (inA (szN (pq pg)) va 2) false (cond (ldF (fun _ => 0) (szN (pq pg)) 0 0 0 va 2) (cond (litCmp .eql (sC (fun _ => 0) (szN (pq pg)) (szN (pq pg)) 0 0 1 2 (litBin .add .u64 va 0) 1) 7) (cond (litCmp .eql (ldC (fun _ => 0) (szN (pq pg)) 0 0 0 va 2) 5) (cond (litCmp .eql (sV (fun _ => 0) (szN (pq pg)) (szN (pq pg)) 0 0 1 2 (litBin .add .u64 va 0) 1) va) (litCmp .eql (ldV (fun _ => 0) (szN (pq pg)) 0 0 0 va 2) va) false) false) false) false))
set_option maxRecDepth 100000 in
theorem road2u_0 (pg va x nn : Int) : ((call Try.prog (cxU 2 0 false) 70 18 [.int .u8 (.sym pg), .agg [.int .u64 (.sym va), .int .u64 (.sym x)], .int .u8 (.sym nn)] []).route [true]).map (fun p => (p.1, p.2.1)) = some ([(((((!(litCmp .lss (pgs (pq pg)) 1)) && (!(litCmp .gtr (pgs (pq pg)) 16))) && (decide (0 ≤ (litBin .mul .i64 (pgs (pq pg)) 4096) ∧ (litBin .mul .i64 (pgs (pq pg)) 4096) < ((16777216 : Nat) : Int)))) && (((!(litCmp .lss (pgs (pq pg)) 1)) && (!(litCmp .gtr (pgs (pq pg)) 16))) && (decide (0 ≤ (litBin .mul .i64 (pgs (pq pg)) 4096) ∧ (litBin .mul .i64 (pgs (pq pg)) 4096) < ((16777216 : Nat) : Int))))) && ((szq 2 nn) && (((litCmp .neq (litBin .rem .u64 va 2) 0) && (askG true (szN (pq pg)) (szN (pq pg)) (szN (pq pg)) (fun _ => 0) 0 0 1 2 (litBin .add .u64 va 0) 1)) && ((askL (szN (pq pg)) (szN (pq pg)) (szN (pq pg)) (fun _ => 0) 0 0 va 2) && (cond (inA (szN (pq pg)) va 2) true ((litCmp .neq (litBin .rem .u64 va 2) 0) && ((litCmp .geq va 2147483648) && (!(litCmp .lss va (endE (szN (pq pg))))))))))))], .val (.bool (.sym (v2u_0 pg va x nn)))) := by kernel_rfl
noncomputable def v2u_1 (pg va x nn : Int) : Bool := (cond (inA (szN (pq pg)) va 2) false (cond (ldF (fun _ => 0) (szN (pq pg)) 0 0 0 va 2) (cond (litCmp .eql (sC (fun _ => 0) (szN (pq pg)) (szN (pq pg)) 0 0 1 2 (litBin .add .u64 va 1) 1) 7) (cond (litCmp .eql (ldC (fun _ => 0) (szN (pq pg)) 0 0 0 va 2) 5) (cond (litCmp .eql (sV (fun _ => 0) (szN (pq pg)) (szN (pq pg)) 0 0 1 2 (litBin .add .u64 va 1) 1) (litBin .add .u64 va 1)) (litCmp .eql (ldV (fun _ => 0) (szN (pq pg)) 0 0 0 va 2) (litBin .add .u64 va 1)) false) false) false) false))
set_option maxRecDepth 100000 in
theorem road2u_1 (pg va x nn : Int) : ((call Try.prog (cxU 2 1 false) 70 18 [.int .u8 (.sym pg), .agg [.int .u64 (.sym va), .int .u64 (.sym x)], .int .u8 (.sym nn)] []).route [true]).map (fun p => (p.1, p.2.1)) = some ([(((((!(litCmp .lss (pgs (pq pg)) 1)) && (!(litCmp .gtr (pgs (pq pg)) 16))) && (decide (0 ≤ (litBin .mul .i64 (pgs (pq pg)) 4096) ∧ (litBin .mul .i64 (pgs (pq pg)) 4096) < ((16777216 : Nat) : Int)))) && (((!(litCmp .lss (pgs (pq pg)) 1)) && (!(litCmp .gtr (pgs (pq pg)) 16))) && (decide (0 ≤ (litBin .mul .i64 (pgs (pq pg)) 4096) ∧ (litBin .mul .i64 (pgs (pq pg)) 4096) < ((16777216 : Nat) : Int))))) && ((szq 2 nn) && (((litCmp .neq (litBin .rem .u64 va 2) 0) && ((askG false (szN (pq pg)) (szN (pq pg)) (szN (pq pg)) (fun _ => 0) 0 0 1 2 (litBin .add .u64 va 0) 1) && (askG true (szN (pq pg)) (szN (pq pg)) (szN (pq pg)) (fun _ => 0) 0 0 1 2 (litBin .add .u64 va 1) 1))) && ((askL (szN (pq pg)) (szN (pq pg)) (szN (pq pg)) (fun _ => 0) 0 0 va 2) && (cond (inA (szN (pq pg)) va 2) true (((litCmp .neq (litBin .rem .u64 va 2) 0) && ((litCmp .geq va 2147483648) && (litCmp .lss va (endE (szN (pq pg)))))) && ((litCmp .neq (litBin .rem .u64 va 2) 0) && ((litCmp .geq (litBin .add .u64 va 1) 2147483648) && (!(litCmp .lss (litBin .add .u64 va 1) (endE (szN (pq pg)))))))))))))], .val (.bool (.sym (v2u_1 pg va x nn)))) := by kernel_rfl
noncomputable def v2u_2 (pg va x nn : Int) : Bool := (cond (!(ldF (putF (putF (fun _ => 0) (szN (pq pg)) (litBin .add .u64 (sT (fun _ => 0) (szN (pq pg)) (szN (pq pg)) 0 0 1 2 (litBin .add .u64 va 0) 1) 0) 1 (litBin .shr .u64 x 0)) (szN (pq pg)) (litBin .add .u64 (sT (fun _ => 0) (szN (pq pg)) (szN (pq pg)) 0 0 1 2 (litBin .add .u64 va 1) 1) 0) 1 (litBin .shr .u64 x 8)) (szN (pq pg)) 0 0 0 va 2)) (cond (litCmp .eql (litBin .add .u64 (sT (fun _ => 0) (szN (pq pg)) (szN (pq pg)) 0 0 1 2 (litBin .add .u64 va 0) 1) 0) va) (litCmp .eql (ldX (putF (putF (fun _ => 0) (szN (pq pg)) (litBin .add .u64 (sT (fun _ => 0) (szN (pq pg)) (szN (pq pg)) 0 0 1 2 (litBin .add .u64 va 0) 1) 0) 1 (litBin .shr .u64 x 0)) (szN (pq pg)) (litBin .add .u64 (sT (fun _ => 0) (szN (pq pg)) (szN (pq pg)) 0 0 1 2 (litBin .add .u64 va 1) 1) 0) 1 (litBin .shr .u64 x 8)) (szN (pq pg)) 0 0 0 va 2) (litBin .and .u64 x 65535)) false) false)
set_option maxRecDepth 100000 in
theorem road2u_2 (pg va x nn : Int) : ((call Try.prog (cxF 2 true 2) 70 18 [.int .u8 (.sym pg), .agg [.int .u64 (.sym va), .int .u64 (.sym x)], .int .u8 (.sym nn)] []).route [true]).map (fun p => (p.1, p.2.1)) = some ([(((((!(litCmp .lss (pgs (pq pg)) 1)) && (!(litCmp .gtr (pgs (pq pg)) 16))) && (decide (0 ≤ (litBin .mul .i64 (pgs (pq pg)) 4096) ∧ (litBin .mul .i64 (pgs (pq pg)) 4096) < ((16777216 : Nat) : Int)))) && (((!(litCmp .lss (pgs (pq pg)) 1)) && (!(litCmp .gtr (pgs (pq pg)) 16))) && (decide (0 ≤ (litBin .mul .i64 (pgs (pq pg)) 4096) ∧ (litBin .mul .i64 (pgs (pq pg)) 4096) < ((16777216 : Nat) : Int))))) && ((szq 2 nn) && ((((litCmp .neq (litBin .rem .u64 va 2) 0) && ((askG false (szN (pq pg)) (szN (pq pg)) (szN (pq pg)) (fun _ => 0) 0 0 1 2 (litBin .add .u64 va 0) 1) && (askG false (szN (pq pg)) (szN (pq pg)) (szN (pq pg)) (fun _ => 0) 0 0 1 2 (litBin .add .u64 va 1) 1))) && ((askM (szN (pq pg)) (szN (pq pg)) (szN (pq pg)) (fun _ => 0) (litBin .add .u64 (sT (fun _ => 0) (szN (pq pg)) (szN (pq pg)) 0 0 1 2 (litBin .add .u64 va 0) 1) 0) 1 && yes (inU (litBin .shr .u64 x 0))) && (askM (szN (pq pg)) (szN (pq pg)) (szN (pq pg)) (putF (fun _ => 0) (szN (pq pg)) (litBin .add .u64 (sT (fun _ => 0) (szN (pq pg)) (szN (pq pg)) 0 0 1 2 (litBin .add .u64 va 0) 1) 0) 1 (litBin .shr .u64 x 0)) (litBin .add .u64 (sT (fun _ => 0) (szN (pq pg)) (szN (pq pg)) 0 0 1 2 (litBin .add .u64 va 1) 1) 0) 1 && yes (inU (litBin .shr .u64 x 8))))) && ((askL (szN (pq pg)) (szN (pq pg)) (szN (pq pg)) (putF (putF (fun _ => 0) (szN (pq pg)) (litBin .add .u64 (sT (fun _ => 0) (szN (pq pg)) (szN (pq pg)) 0 0 1 2 (litBin .add .u64 va 0) 1) 0) 1 (litBin .shr .u64 x 0)) (szN (pq pg)) (litBin .add .u64 (sT (fun _ => 0) (szN (pq pg)) (szN (pq pg)) 0 0 1 2 (litBin .add .u64 va 1) 1) 0) 1 (litBin .shr .u64 x 8)) 0 0 va 2) && (inA (szN (pq pg)) va 2)))))], .val (.bool (.sym (v2u_2 pg va x nn)))) := by kernel_rfl
theorem law2u {pg va x nn : Int} (hpg : 0 ≤ pg ∧ pg < 256) (hva : inU va) (hx : inU x) (wnn : 0 ≤ nn ∧ nn < 256) (hnn : sizeS nn = 2) (hal : decide (va % 2 = 0) = false) :
    ∃ (C : Cx DC) (ds cs : List Bool) (v : Bool), Ok Try.prog C ∧ ((call Try.prog C 70 18 [.int .u8 (.sym pg), .agg [.int .u64 (.sym va), .int .u64 (.sym x)], .int .u8 (.sym nn)] []).route ds).map (fun p => (p.1, p.2.1)) = some (cs, .val (.bool (.sym v))) ∧ cs = ds ∧ v = true := by
  have hp := pq_in hpg
  have hle : (szN (pq pg)) ≤ 65536 := (szN_eq hp).2
  have hN : (((szN (pq pg)) : Nat) : Int) % 8 = 0 := by
    rw [(szN_eq hp).1]
    omega
  have hm : MemOk (szN (pq pg)) (fun _ => 0) := MemOk.zero hle
  have hq : szq 2 nn = true := szq_of wnn hnn
  have hpi := pgs_in hp
  have pL : litCmp .lss (pgs (pq pg)) 1 = false := by rw [lss_eq]; exact decide_eq_false (by omega)
  have pG : litCmp .gtr (pgs (pq pg)) 16 = false := by rw [gtr_eq]; exact decide_eq_false (by omega)
  have pU : decide (0 ≤ (litBin .mul .i64 (pgs (pq pg)) 4096) ∧ (litBin .mul .i64 (pgs (pq pg)) 4096) < ((16777216 : Nat) : Int)) = true := (pgT_f hp).2
  have hne : litCmp .neq (litBin .rem .u64 va 2) 0 = true := by rw [neq0 hva, hal]; rfl
  have z0 : (litBin .add .u64 va 0) = va := add0 hva
  have hk : num 2 = true := rfl
  have hin : inA (szN (pq pg)) va 2 = okS (szN (pq pg)) va 2 := in_ok hle hva hk
  have hall := all_ok hle hva hk
  have aL : askL (szN (pq pg)) (szN (pq pg)) (szN (pq pg)) (fun _ => 0) 0 0 va 2 = true := yes_of ⟨⟨rfl, rfl, hm, hN⟩, inU0, inU0, hva, rfl⟩
  have q0 : askS (szN (pq pg)) (szN (pq pg)) (szN (pq pg)) (fun _ => 0) 0 0 1 2 (litBin .add .u64 va 0) 1 = true := Page.askS_t hm inU0 inU0 (inU.add _ _) rfl
  have q1 : askS (szN (pq pg)) (szN (pq pg)) (szN (pq pg)) (fun _ => 0) 0 0 1 2 (litBin .add .u64 va 1) 1 = true := Page.askS_t hm inU0 inU0 (inU.add _ _) rfl
  cases u0 : okS (szN (pq pg)) (litBin .add .u64 va 0) 1
  · have f0 : sF (fun _ => 0) (szN (pq pg)) (szN (pq pg)) 0 0 1 2 (litBin .add .u64 va 0) 1 = true := by rw [sF0, u0]; rfl
    have ni : inA (szN (pq pg)) va 2 = false := by
      rw [hin]
      cases ho : okS (szN (pq pg)) va 2
      · rfl
      · exact absurd ((hall.1 ho 0 (by omega)).symm.trans u0) (by decide)
    have l0 : ldA (fun _ => 0) (szN (pq pg)) 0 0 0 va 0 = true := by unfold ldA; rw [sF0, u0]; rfl
    have e0 : ldI (fun _ => 0) (szN (pq pg)) 0 0 0 va 2 = some 0 := by unfold ldI; simp only [show ixs 2 = [0, 1] from rfl, firstL, l0, cond_true, cond_false]
    have eF : ldF (fun _ => 0) (szN (pq pg)) 0 0 0 va 2 = true := by unfold ldF; rw [e0]
    have eV : ldV (fun _ => 0) (szN (pq pg)) 0 0 0 va 2 = va := by unfold ldV; rw [e0]; exact z0
    have eC : ldC (fun _ => 0) (szN (pq pg)) 0 0 0 va 2 = 5 := by unfold ldC; rw [e0]; exact (sC0 u0).trans cau5
    have u0' : okS (szN (pq pg)) va 1 = false := by rw [← z0]; exact u0
    cases gB : litCmp .geq va 2147483648
    · have hgB := gB
      have eS : sV (fun _ => 0) (szN (pq pg)) (szN (pq pg)) 0 0 1 2 (litBin .add .u64 va 0) 1 = va := (Page.sV_t f0).trans z0
      have eK : sC (fun _ => 0) (szN (pq pg)) (szN (pq pg)) 0 0 1 2 (litBin .add .u64 va 0) 1 = 7 := (sC0 u0).trans cau7
      have aI : askG true (szN (pq pg)) (szN (pq pg)) (szN (pq pg)) (fun _ => 0) 0 0 1 2 (litBin .add .u64 va 0) 1 = true := by unfold askG; rw [q0, f0]; rfl
      refine ⟨cxU 2 0 true, _, _, _, cxU_ok 2 0 true, road2u_0v pg va x nn, ?_, ?_⟩
      · simp only [pL, pG, pU, hq, hne, aI, aL, ni, gB, Bool.and_self, Bool.not_false, Bool.not_true, Bool.cond_self, cond_true, cond_false, beq_self_eq_true, Bool.true_and, Bool.and_true]
        try rfl
      · unfold v2u_0v
        simp only [ni, eF, eV, eC, eS, eK, eql_self, cond_true, cond_false]
        try rfl
    · have lB : litCmp .lss va (endE (szN (pq pg))) = false := lt_of hle u0' gB
      have eS : sV (fun _ => 0) (szN (pq pg)) (szN (pq pg)) 0 0 1 2 (litBin .add .u64 va 0) 1 = va := (Page.sV_t f0).trans z0
      have eK : sC (fun _ => 0) (szN (pq pg)) (szN (pq pg)) 0 0 1 2 (litBin .add .u64 va 0) 1 = 7 := (sC0 u0).trans cau7
      have aI : askG true (szN (pq pg)) (szN (pq pg)) (szN (pq pg)) (fun _ => 0) 0 0 1 2 (litBin .add .u64 va 0) 1 = true := by unfold askG; rw [q0, f0]; rfl
      refine ⟨cxU 2 0 false, _, _, _, cxU_ok 2 0 false, road2u_0 pg va x nn, ?_, ?_⟩
      · simp only [pL, pG, pU, hq, hne, aI, aL, ni, gB, lB, Bool.and_self, Bool.not_false, Bool.not_true, Bool.cond_self, cond_true, cond_false, beq_self_eq_true, Bool.true_and, Bool.and_true]
        try rfl
      · unfold v2u_0
        simp only [ni, eF, eV, eC, eS, eK, eql_self, cond_true, cond_false]
        try rfl
  have f0 : sF (fun _ => 0) (szN (pq pg)) (szN (pq pg)) 0 0 1 2 (litBin .add .u64 va 0) 1 = false := by rw [sF0, u0]; rfl
  have a0g : askG false (szN (pq pg)) (szN (pq pg)) (szN (pq pg)) (fun _ => 0) 0 0 1 2 (litBin .add .u64 va 0) 1 = true := by unfold askG; rw [q0, f0]; rfl
  cases u1 : okS (szN (pq pg)) (litBin .add .u64 va 1) 1
  · have f1 : sF (fun _ => 0) (szN (pq pg)) (szN (pq pg)) 0 0 1 2 (litBin .add .u64 va 1) 1 = true := by rw [sF0, u1]; rfl
    have ni : inA (szN (pq pg)) va 2 = false := by
      rw [hin]
      cases ho : okS (szN (pq pg)) va 2
      · rfl
      · exact absurd ((hall.1 ho 1 (by omega)).symm.trans u1) (by decide)
    have l0 : ldA (fun _ => 0) (szN (pq pg)) 0 0 0 va 0 = false := by unfold ldA; rw [sF0, u0]; rfl
    have l1 : ldA (fun _ => 0) (szN (pq pg)) 0 0 0 va 1 = true := by unfold ldA; rw [sF0, u1]; rfl
    have e0 : ldI (fun _ => 0) (szN (pq pg)) 0 0 0 va 2 = some 1 := by unfold ldI; simp only [show ixs 2 = [0, 1] from rfl, firstL, l0, l1, cond_true, cond_false]
    have eF : ldF (fun _ => 0) (szN (pq pg)) 0 0 0 va 2 = true := by unfold ldF; rw [e0]
    have eV : ldV (fun _ => 0) (szN (pq pg)) 0 0 0 va 2 = (litBin .add .u64 va 1) := by unfold ldV; rw [e0]
    have eC : ldC (fun _ => 0) (szN (pq pg)) 0 0 0 va 2 = 5 := by unfold ldC; rw [e0]; exact (sC0 u1).trans cau5
    have o0 := ge_of hle (show okS (szN (pq pg)) va 1 = true from by rw [← z0]; exact u0)
    have gI : litCmp .geq (litBin .add .u64 va 1) 2147483648 = true := by
      exact ge_nx hle u0 (by omega)
    have lI : litCmp .lss (litBin .add .u64 va 1) (endE (szN (pq pg))) = false := lt_of hle (by
      exact u1) gI
    have eS : sV (fun _ => 0) (szN (pq pg)) (szN (pq pg)) 0 0 1 2 (litBin .add .u64 va 1) 1 = (litBin .add .u64 va 1) := (Page.sV_t f1)
    have eK : sC (fun _ => 0) (szN (pq pg)) (szN (pq pg)) 0 0 1 2 (litBin .add .u64 va 1) 1 = 7 := (sC0 u1).trans cau7
    have aI : askG true (szN (pq pg)) (szN (pq pg)) (szN (pq pg)) (fun _ => 0) 0 0 1 2 (litBin .add .u64 va 1) 1 = true := by unfold askG; rw [q1, f1]; rfl
    refine ⟨cxU 2 1 false, _, _, _, cxU_ok 2 1 false, road2u_1 pg va x nn, ?_, ?_⟩
    · simp only [pL, pG, pU, hq, hne, a0g, aI, aL, ni, o0.1, o0.2, gI, lI, Bool.and_self, Bool.not_false, Bool.not_true, Bool.cond_self, cond_true, cond_false, beq_self_eq_true, Bool.true_and, Bool.and_true]
      try rfl
    · unfold v2u_1
      simp only [ni, eF, eV, eC, eS, eK, eql_self, cond_true, cond_false]
      try rfl
  have f1 : sF (fun _ => 0) (szN (pq pg)) (szN (pq pg)) 0 0 1 2 (litBin .add .u64 va 1) 1 = false := by rw [sF0, u1]; rfl
  have a1g : askG false (szN (pq pg)) (szN (pq pg)) (szN (pq pg)) (fun _ => 0) 0 0 1 2 (litBin .add .u64 va 1) 1 = true := by unfold askG; rw [q1, f1]; rfl
  have ho : okS (szN (pq pg)) va 2 = true := hall.2 fun i hi => by
    rcases (by omega : i = 0 ∨ i = 1) with rfl | rfl
    · exact u0
    · exact u1
  have yi : inA (szN (pq pg)) va 2 = true := by rw [hin]; exact ho
  have y0 : yes (inU (litBin .shr .u64 x 0)) = true := yes_of (inU.shr hx 0 (by omega))
  have m0 : askM (szN (pq pg)) (szN (pq pg)) (szN (pq pg)) (fun _ => 0) (litBin .add .u64 (sT (fun _ => 0) (szN (pq pg)) (szN (pq pg)) 0 0 1 2 (litBin .add .u64 va 0) 1) 0) 1 = true := askM_of hm (inU.add _ _) (Page.inI_num rfl)
  have a0 : (litBin .add .u64 (sT (fun _ => 0) (szN (pq pg)) (szN (pq pg)) 0 0 1 2 (litBin .add .u64 va 0) 1) 0) = (litBin .add .u64 va 0) := by rw [sT0 u0]; exact add0 (inU.add _ _)
  have y1 : yes (inU (litBin .shr .u64 x 8)) = true := yes_of (inU.shr hx 8 (by omega))
  have m1 : askM (szN (pq pg)) (szN (pq pg)) (szN (pq pg)) (putF (fun _ => 0) (szN (pq pg)) (litBin .add .u64 (sT (fun _ => 0) (szN (pq pg)) (szN (pq pg)) 0 0 1 2 (litBin .add .u64 va 0) 1) 0) 1 (litBin .shr .u64 x 0)) (litBin .add .u64 (sT (fun _ => 0) (szN (pq pg)) (szN (pq pg)) 0 0 1 2 (litBin .add .u64 va 1) 1) 0) 1 = true := askM_of (MemOk.put hm _ _ _) (inU.add _ _) (Page.inI_num rfl)
  have a1 : (litBin .add .u64 (sT (fun _ => 0) (szN (pq pg)) (szN (pq pg)) 0 0 1 2 (litBin .add .u64 va 1) 1) 0) = (litBin .add .u64 va 1) := by rw [sT0 u1]; exact add0 (inU.add _ _)
  have hmk : MemOk (szN (pq pg)) (putF (putF (fun _ => 0) (szN (pq pg)) (litBin .add .u64 (sT (fun _ => 0) (szN (pq pg)) (szN (pq pg)) 0 0 1 2 (litBin .add .u64 va 0) 1) 0) 1 (litBin .shr .u64 x 0)) (szN (pq pg)) (litBin .add .u64 (sT (fun _ => 0) (szN (pq pg)) (szN (pq pg)) 0 0 1 2 (litBin .add .u64 va 1) 1) 0) 1 (litBin .shr .u64 x 8)) := (MemOk.put (MemOk.put hm _ _ _) _ _ _)
  have aK : askL (szN (pq pg)) (szN (pq pg)) (szN (pq pg)) (putF (putF (fun _ => 0) (szN (pq pg)) (litBin .add .u64 (sT (fun _ => 0) (szN (pq pg)) (szN (pq pg)) 0 0 1 2 (litBin .add .u64 va 0) 1) 0) 1 (litBin .shr .u64 x 0)) (szN (pq pg)) (litBin .add .u64 (sT (fun _ => 0) (szN (pq pg)) (szN (pq pg)) 0 0 1 2 (litBin .add .u64 va 1) 1) 0) 1 (litBin .shr .u64 x 8)) 0 0 va 2 = true := yes_of ⟨⟨rfl, rfl, hmk, hN⟩, inU0, inU0, hva, rfl⟩
  refine ⟨cxF 2 true 2, _, _, _, cxF_ok 2 true 2, road2u_2 pg va x nn, ?_, ?_⟩
  · simp only [pL, pG, pU, hq, hne, a0g, a1g, y0, m0, y1, m1, aK, yi, Bool.and_self, Bool.not_false, Bool.not_true, Bool.cond_self, cond_true, cond_false, beq_self_eq_true, Bool.true_and, Bool.and_true]
    try rfl
  · have hG : ∃ G : Nat → Int, (putF (putF (fun _ => 0) (szN (pq pg)) (litBin .add .u64 (sT (fun _ => 0) (szN (pq pg)) (szN (pq pg)) 0 0 1 2 (litBin .add .u64 va 0) 1) 0) 1 (litBin .shr .u64 x 0)) (szN (pq pg)) (litBin .add .u64 (sT (fun _ => 0) (szN (pq pg)) (szN (pq pg)) 0 0 1 2 (litBin .add .u64 va 1) 1) 0) 1 (litBin .shr .u64 x 8)) = G ∧ ∀ i : Nat, i < 2 → G (Int.toNat (va - 2147483648) + i) = x / 256 ^ i % 256 := by
      refine ⟨_, rfl, fun i hi => ?_⟩
      have u0' : okS (szN (pq pg)) va 1 = true := by rw [← z0]; exact u0
      rw [a0, a1, put1 u0, put1 u1]
      have s0 := sub_at (i := 0) (k := 0) hle hva u0' (by omega)
      have s1 := sub_at (i := 1) (k := 0) hle hva u0' (by omega)
      rw [s0, s1]
      have w0 : IntKind.wrap .u8 (litBin .shr .u64 x 0) = x / 256 ^ 0 % 256 := byte_of hx 0 (by omega)
      have w1 : IntKind.wrap .u8 (litBin .shr .u64 x 8) = x / 256 ^ 1 % 256 := byte_of hx 1 (by omega)
      rw [w0, w1]
      unfold updF
      rcases (by omega : i = 0 ∨ i = 1) with rfl | rfl
      · simp
      · simp
    obtain ⟨G, hG, hB⟩ := hG
    unfold v2u_2
    rw [hG] at hmk ⊢
    have l0 : ldA G (szN (pq pg)) 0 0 0 va 0 = false := by unfold ldA; rw [sF0, u0]; rfl
    have l1 : ldA G (szN (pq pg)) 0 0 0 va 1 = false := by unfold ldA; rw [sF0, u1]; rfl
    have e0 : ldI G (szN (pq pg)) 0 0 0 va 2 = none := by unfold ldI; simp only [show ixs 2 = [0, 1] from rfl, firstL, l0, l1, cond_true, cond_false]
    have eF : ldF G (szN (pq pg)) 0 0 0 va 2 = false := by unfold ldF; rw [e0]
    have eX : ldX G (szN (pq pg)) 0 0 0 va 2 = orL (ldB G (szN (pq pg)) 0 0 0 va) 0 (ixs 2) := by unfold ldX; rw [e0]
    have u0' : okS (szN (pq pg)) va 1 = true := by rw [← z0]; exact u0
    have eB : ∀ i : Nat, i < 2 → ldB G (szN (pq pg)) 0 0 0 va (i : Int) = x / 256 ^ i % 256 := fun i hi => by
      have ui : okS (szN (pq pg)) (litBin .add .u64 va (i : Int)) 1 = true := hall.1 ho _ (by omega)
      unfold ldB
      rw [sT0 ui, get_byte ui, sub_at (k := 0) hle hva u0' (by omega), Int.toNat_natCast]
      exact hB i hi
    have hs : orL (ldB G (szN (pq pg)) 0 0 0 va) 0 (ixs 2) = x % 256 ^ 2 := by
      have h1 := sum_upto hx eB 2 (Nat.le_refl _) (by omega)
      exact h1
    have hx2 : litBin .and .u64 x 65535 = x % 256 ^ 2 := and_low hx 16 (by omega)
    rw [eF, eX, hs, hx2, a0, z0, eql_self, eql_self]
    rfl
noncomputable def v2a_0 (pg va x nn : Int) : Bool := (cond (inA (szN (pq pg)) va 2) false (cond (ldF (fun _ => 0) (szN (pq pg)) 0 0 0 va 2) (cond (litCmp .eql (sC (fun _ => 0) (szN (pq pg)) (szN (pq pg)) 0 0 1 2 (litBin .add .u64 va 0) 2) 7) (cond (litCmp .eql (ldC (fun _ => 0) (szN (pq pg)) 0 0 0 va 2) 5) (cond (litCmp .eql (sV (fun _ => 0) (szN (pq pg)) (szN (pq pg)) 0 0 1 2 (litBin .add .u64 va 0) 2) va) (litCmp .eql (ldV (fun _ => 0) (szN (pq pg)) 0 0 0 va 2) va) false) false) false) false))
set_option maxRecDepth 100000 in
theorem road2a_0 (pg va x nn : Int) : ((call Try.prog (cxA 2) 70 18 [.int .u8 (.sym pg), .agg [.int .u64 (.sym va), .int .u64 (.sym x)], .int .u8 (.sym nn)] []).route [true]).map (fun p => (p.1, p.2.1)) = some ([(((((!(litCmp .lss (pgs (pq pg)) 1)) && (!(litCmp .gtr (pgs (pq pg)) 16))) && (decide (0 ≤ (litBin .mul .i64 (pgs (pq pg)) 4096) ∧ (litBin .mul .i64 (pgs (pq pg)) 4096) < ((16777216 : Nat) : Int)))) && (((!(litCmp .lss (pgs (pq pg)) 1)) && (!(litCmp .gtr (pgs (pq pg)) 16))) && (decide (0 ≤ (litBin .mul .i64 (pgs (pq pg)) 4096) ∧ (litBin .mul .i64 (pgs (pq pg)) 4096) < ((16777216 : Nat) : Int))))) && ((szq 2 nn) && (((!(litCmp .neq (litBin .rem .u64 va 2) 0)) && (askG true (szN (pq pg)) (szN (pq pg)) (szN (pq pg)) (fun _ => 0) 0 0 1 2 (litBin .add .u64 va 0) 2)) && ((askL (szN (pq pg)) (szN (pq pg)) (szN (pq pg)) (fun _ => 0) 0 0 va 2) && (cond (inA (szN (pq pg)) va 2) true (!(litCmp .neq (litBin .rem .u64 va 2) 0)))))))], .val (.bool (.sym (v2a_0 pg va x nn)))) := by kernel_rfl
noncomputable def v2a_1 (pg va x nn : Int) : Bool := (cond (!(ldF (putF (putF (fun _ => 0) (szN (pq pg)) (litBin .add .u64 (sT (fun _ => 0) (szN (pq pg)) (szN (pq pg)) 0 0 1 2 (litBin .add .u64 va 0) 2) 0) 1 (litBin .shr .u64 x 0)) (szN (pq pg)) (litBin .add .u64 (sT (fun _ => 0) (szN (pq pg)) (szN (pq pg)) 0 0 1 2 (litBin .add .u64 va 0) 2) 1) 1 (litBin .shr .u64 x 8)) (szN (pq pg)) 0 0 0 va 2)) (cond (litCmp .eql (litBin .add .u64 (sT (fun _ => 0) (szN (pq pg)) (szN (pq pg)) 0 0 1 2 (litBin .add .u64 va 0) 2) 0) va) (litCmp .eql (ldX (putF (putF (fun _ => 0) (szN (pq pg)) (litBin .add .u64 (sT (fun _ => 0) (szN (pq pg)) (szN (pq pg)) 0 0 1 2 (litBin .add .u64 va 0) 2) 0) 1 (litBin .shr .u64 x 0)) (szN (pq pg)) (litBin .add .u64 (sT (fun _ => 0) (szN (pq pg)) (szN (pq pg)) 0 0 1 2 (litBin .add .u64 va 0) 2) 1) 1 (litBin .shr .u64 x 8)) (szN (pq pg)) 0 0 0 va 2) (litBin .and .u64 x 65535)) false) false)
set_option maxRecDepth 100000 in
theorem road2a_1 (pg va x nn : Int) : ((call Try.prog (cxF 2 false 1) 70 18 [.int .u8 (.sym pg), .agg [.int .u64 (.sym va), .int .u64 (.sym x)], .int .u8 (.sym nn)] []).route [true]).map (fun p => (p.1, p.2.1)) = some ([(((((!(litCmp .lss (pgs (pq pg)) 1)) && (!(litCmp .gtr (pgs (pq pg)) 16))) && (decide (0 ≤ (litBin .mul .i64 (pgs (pq pg)) 4096) ∧ (litBin .mul .i64 (pgs (pq pg)) 4096) < ((16777216 : Nat) : Int)))) && (((!(litCmp .lss (pgs (pq pg)) 1)) && (!(litCmp .gtr (pgs (pq pg)) 16))) && (decide (0 ≤ (litBin .mul .i64 (pgs (pq pg)) 4096) ∧ (litBin .mul .i64 (pgs (pq pg)) 4096) < ((16777216 : Nat) : Int))))) && ((szq 2 nn) && ((((!(litCmp .neq (litBin .rem .u64 va 2) 0)) && (askG false (szN (pq pg)) (szN (pq pg)) (szN (pq pg)) (fun _ => 0) 0 0 1 2 (litBin .add .u64 va 0) 2)) && ((askM (szN (pq pg)) (szN (pq pg)) (szN (pq pg)) (fun _ => 0) (litBin .add .u64 (sT (fun _ => 0) (szN (pq pg)) (szN (pq pg)) 0 0 1 2 (litBin .add .u64 va 0) 2) 0) 1 && yes (inU (litBin .shr .u64 x 0))) && (askM (szN (pq pg)) (szN (pq pg)) (szN (pq pg)) (putF (fun _ => 0) (szN (pq pg)) (litBin .add .u64 (sT (fun _ => 0) (szN (pq pg)) (szN (pq pg)) 0 0 1 2 (litBin .add .u64 va 0) 2) 0) 1 (litBin .shr .u64 x 0)) (litBin .add .u64 (sT (fun _ => 0) (szN (pq pg)) (szN (pq pg)) 0 0 1 2 (litBin .add .u64 va 0) 2) 1) 1 && yes (inU (litBin .shr .u64 x 8))))) && ((askL (szN (pq pg)) (szN (pq pg)) (szN (pq pg)) (putF (putF (fun _ => 0) (szN (pq pg)) (litBin .add .u64 (sT (fun _ => 0) (szN (pq pg)) (szN (pq pg)) 0 0 1 2 (litBin .add .u64 va 0) 2) 0) 1 (litBin .shr .u64 x 0)) (szN (pq pg)) (litBin .add .u64 (sT (fun _ => 0) (szN (pq pg)) (szN (pq pg)) 0 0 1 2 (litBin .add .u64 va 0) 2) 1) 1 (litBin .shr .u64 x 8)) 0 0 va 2) && (inA (szN (pq pg)) va 2)))))], .val (.bool (.sym (v2a_1 pg va x nn)))) := by kernel_rfl
theorem law2a {pg va x nn : Int} (hpg : 0 ≤ pg ∧ pg < 256) (hva : inU va) (hx : inU x) (wnn : 0 ≤ nn ∧ nn < 256) (hnn : sizeS nn = 2) (hal : decide (va % 2 = 0) = true) :
    ∃ (C : Cx DC) (ds cs : List Bool) (v : Bool), Ok Try.prog C ∧ ((call Try.prog C 70 18 [.int .u8 (.sym pg), .agg [.int .u64 (.sym va), .int .u64 (.sym x)], .int .u8 (.sym nn)] []).route ds).map (fun p => (p.1, p.2.1)) = some (cs, .val (.bool (.sym v))) ∧ cs = ds ∧ v = true := by
  have hp := pq_in hpg
  have hle : (szN (pq pg)) ≤ 65536 := (szN_eq hp).2
  have hN : (((szN (pq pg)) : Nat) : Int) % 8 = 0 := by
    rw [(szN_eq hp).1]
    omega
  have hm : MemOk (szN (pq pg)) (fun _ => 0) := MemOk.zero hle
  have hq : szq 2 nn = true := szq_of wnn hnn
  have hpi := pgs_in hp
  have pL : litCmp .lss (pgs (pq pg)) 1 = false := by rw [lss_eq]; exact decide_eq_false (by omega)
  have pG : litCmp .gtr (pgs (pq pg)) 16 = false := by rw [gtr_eq]; exact decide_eq_false (by omega)
  have pU : decide (0 ≤ (litBin .mul .i64 (pgs (pq pg)) 4096) ∧ (litBin .mul .i64 (pgs (pq pg)) 4096) < ((16777216 : Nat) : Int)) = true := (pgT_f hp).2
  have hne : litCmp .neq (litBin .rem .u64 va 2) 0 = false := by rw [neq0 hva, hal]; rfl
  have z0 : (litBin .add .u64 va 0) = va := add0 hva
  have hk : num 2 = true := rfl
  have hin : inA (szN (pq pg)) va 2 = okS (szN (pq pg)) va 2 := in_ok hle hva hk
  have hall := all_ok hle hva hk
  have aL : askL (szN (pq pg)) (szN (pq pg)) (szN (pq pg)) (fun _ => 0) 0 0 va 2 = true := yes_of ⟨⟨rfl, rfl, hm, hN⟩, inU0, inU0, hva, rfl⟩
  have q0 : askS (szN (pq pg)) (szN (pq pg)) (szN (pq pg)) (fun _ => 0) 0 0 1 2 (litBin .add .u64 va 0) 2 = true := Page.askS_t hm inU0 inU0 (inU.add _ _) rfl
  rcases Bool.eq_false_or_eq_true (okS (szN (pq pg)) va 2) with ho | ho
  rotate_left
  · have uz : okS (szN (pq pg)) (litBin .add .u64 va 0) 2 = false := by rw [z0]; exact ho
    have u0 : okS (szN (pq pg)) (litBin .add .u64 va 0) 1 = false := by
      have := Page.ok_same (t := va) (n := 2) (i := 0) hN hk (of_decide_eq_true hal) (by omega)
      rw [Int.add_zero] at this
      rw [z0]
      exact this.trans ho
    have f0 : sF (fun _ => 0) (szN (pq pg)) (szN (pq pg)) 0 0 1 2 (litBin .add .u64 va 0) 2 = true := by rw [sF0, uz]; rfl
    have ni : inA (szN (pq pg)) va 2 = false := by rw [hin]; exact ho
    have l0 : ldA (fun _ => 0) (szN (pq pg)) 0 0 0 va 0 = true := by unfold ldA; rw [sF0, u0]; rfl
    have e0 : ldI (fun _ => 0) (szN (pq pg)) 0 0 0 va 2 = some 0 := by unfold ldI; simp only [show ixs 2 = [0, 1] from rfl, firstL, l0, cond_true, cond_false]
    have eF : ldF (fun _ => 0) (szN (pq pg)) 0 0 0 va 2 = true := by unfold ldF; rw [e0]
    have eV : ldV (fun _ => 0) (szN (pq pg)) 0 0 0 va 2 = va := by unfold ldV; rw [e0]; exact z0
    have eC : ldC (fun _ => 0) (szN (pq pg)) 0 0 0 va 2 = 5 := by unfold ldC; rw [e0]; exact (sC0 u0).trans cau5
    have eS : sV (fun _ => 0) (szN (pq pg)) (szN (pq pg)) 0 0 1 2 (litBin .add .u64 va 0) 2 = va := (Page.sV_t f0).trans z0
    have eK : sC (fun _ => 0) (szN (pq pg)) (szN (pq pg)) 0 0 1 2 (litBin .add .u64 va 0) 2 = 7 := (sC0 uz).trans cau7
    have aI : askG true (szN (pq pg)) (szN (pq pg)) (szN (pq pg)) (fun _ => 0) 0 0 1 2 (litBin .add .u64 va 0) 2 = true := by unfold askG; rw [q0, f0]; rfl
    refine ⟨cxA 2, _, _, _, cxA_ok 2, road2a_0 pg va x nn, ?_, ?_⟩
    · simp only [pL, pG, pU, hq, hne, aI, aL, ni, Bool.and_self, Bool.not_false, Bool.not_true, Bool.cond_self, cond_true, cond_false, beq_self_eq_true, Bool.true_and, Bool.and_true]
      try rfl
    · unfold v2a_0
      simp only [ni, eF, eV, eC, eS, eK, eql_self, cond_true, cond_false]
      try rfl
  have u0 : okS (szN (pq pg)) (litBin .add .u64 va 0) 1 = true := hall.1 ho 0 (by omega)
  have u1 : okS (szN (pq pg)) (litBin .add .u64 va 1) 1 = true := hall.1 ho 1 (by omega)
  have f0 : sF (fun _ => 0) (szN (pq pg)) (szN (pq pg)) 0 0 1 2 (litBin .add .u64 va 0) 2 = false := by rw [sF0, z0, ho]; rfl
  have a0g : askG false (szN (pq pg)) (szN (pq pg)) (szN (pq pg)) (fun _ => 0) 0 0 1 2 (litBin .add .u64 va 0) 2 = true := by unfold askG; rw [q0, f0]; rfl
  have yi : inA (szN (pq pg)) va 2 = true := by rw [hin]; exact ho
  have y0 : yes (inU (litBin .shr .u64 x 0)) = true := yes_of (inU.shr hx 0 (by omega))
  have m0 : askM (szN (pq pg)) (szN (pq pg)) (szN (pq pg)) (fun _ => 0) (litBin .add .u64 (sT (fun _ => 0) (szN (pq pg)) (szN (pq pg)) 0 0 1 2 (litBin .add .u64 va 0) 2) 0) 1 = true := askM_of hm (inU.add _ _) (Page.inI_num rfl)
  have a0 : (litBin .add .u64 (sT (fun _ => 0) (szN (pq pg)) (szN (pq pg)) 0 0 1 2 (litBin .add .u64 va 0) 2) 0) = (litBin .add .u64 va 0) := by
    have e : sT (fun _ => 0) (szN (pq pg)) (szN (pq pg)) 0 0 1 2 (litBin .add .u64 va 0) 2 = va := (sT0 (by rw [z0]; exact ho)).trans z0
    rw [e]
  have y1 : yes (inU (litBin .shr .u64 x 8)) = true := yes_of (inU.shr hx 8 (by omega))
  have m1 : askM (szN (pq pg)) (szN (pq pg)) (szN (pq pg)) (putF (fun _ => 0) (szN (pq pg)) (litBin .add .u64 (sT (fun _ => 0) (szN (pq pg)) (szN (pq pg)) 0 0 1 2 (litBin .add .u64 va 0) 2) 0) 1 (litBin .shr .u64 x 0)) (litBin .add .u64 (sT (fun _ => 0) (szN (pq pg)) (szN (pq pg)) 0 0 1 2 (litBin .add .u64 va 0) 2) 1) 1 = true := askM_of (MemOk.put hm _ _ _) (inU.add _ _) (Page.inI_num rfl)
  have a1 : (litBin .add .u64 (sT (fun _ => 0) (szN (pq pg)) (szN (pq pg)) 0 0 1 2 (litBin .add .u64 va 0) 2) 1) = (litBin .add .u64 va 1) := by
    have e : sT (fun _ => 0) (szN (pq pg)) (szN (pq pg)) 0 0 1 2 (litBin .add .u64 va 0) 2 = va := (sT0 (by rw [z0]; exact ho)).trans z0
    rw [e]
  have hmk : MemOk (szN (pq pg)) (putF (putF (fun _ => 0) (szN (pq pg)) (litBin .add .u64 (sT (fun _ => 0) (szN (pq pg)) (szN (pq pg)) 0 0 1 2 (litBin .add .u64 va 0) 2) 0) 1 (litBin .shr .u64 x 0)) (szN (pq pg)) (litBin .add .u64 (sT (fun _ => 0) (szN (pq pg)) (szN (pq pg)) 0 0 1 2 (litBin .add .u64 va 0) 2) 1) 1 (litBin .shr .u64 x 8)) := (MemOk.put (MemOk.put hm _ _ _) _ _ _)
  have aK : askL (szN (pq pg)) (szN (pq pg)) (szN (pq pg)) (putF (putF (fun _ => 0) (szN (pq pg)) (litBin .add .u64 (sT (fun _ => 0) (szN (pq pg)) (szN (pq pg)) 0 0 1 2 (litBin .add .u64 va 0) 2) 0) 1 (litBin .shr .u64 x 0)) (szN (pq pg)) (litBin .add .u64 (sT (fun _ => 0) (szN (pq pg)) (szN (pq pg)) 0 0 1 2 (litBin .add .u64 va 0) 2) 1) 1 (litBin .shr .u64 x 8)) 0 0 va 2 = true := yes_of ⟨⟨rfl, rfl, hmk, hN⟩, inU0, inU0, hva, rfl⟩
  refine ⟨cxF 2 false 1, _, _, _, cxF_ok 2 false 1, road2a_1 pg va x nn, ?_, ?_⟩
  · simp only [pL, pG, pU, hq, hne, a0g, y0, m0, y1, m1, aK, yi, Bool.and_self, Bool.not_false, Bool.not_true, Bool.cond_self, cond_true, cond_false, beq_self_eq_true, Bool.true_and, Bool.and_true]
    try rfl
  · have hG : ∃ G : Nat → Int, (putF (putF (fun _ => 0) (szN (pq pg)) (litBin .add .u64 (sT (fun _ => 0) (szN (pq pg)) (szN (pq pg)) 0 0 1 2 (litBin .add .u64 va 0) 2) 0) 1 (litBin .shr .u64 x 0)) (szN (pq pg)) (litBin .add .u64 (sT (fun _ => 0) (szN (pq pg)) (szN (pq pg)) 0 0 1 2 (litBin .add .u64 va 0) 2) 1) 1 (litBin .shr .u64 x 8)) = G ∧ ∀ i : Nat, i < 2 → G (Int.toNat (va - 2147483648) + i) = x / 256 ^ i % 256 := by
      refine ⟨_, rfl, fun i hi => ?_⟩
      have u0' : okS (szN (pq pg)) va 1 = true := by rw [← z0]; exact u0
      rw [a0, a1, put1 u0, put1 u1]
      have s0 := sub_at (i := 0) (k := 0) hle hva u0' (by omega)
      have s1 := sub_at (i := 1) (k := 0) hle hva u0' (by omega)
      rw [s0, s1]
      have w0 : IntKind.wrap .u8 (litBin .shr .u64 x 0) = x / 256 ^ 0 % 256 := byte_of hx 0 (by omega)
      have w1 : IntKind.wrap .u8 (litBin .shr .u64 x 8) = x / 256 ^ 1 % 256 := byte_of hx 1 (by omega)
      rw [w0, w1]
      unfold updF
      rcases (by omega : i = 0 ∨ i = 1) with rfl | rfl
      · simp
      · simp
    obtain ⟨G, hG, hB⟩ := hG
    unfold v2a_1
    rw [hG] at hmk ⊢
    have l0 : ldA G (szN (pq pg)) 0 0 0 va 0 = false := by unfold ldA; rw [sF0, u0]; rfl
    have l1 : ldA G (szN (pq pg)) 0 0 0 va 1 = false := by unfold ldA; rw [sF0, u1]; rfl
    have e0 : ldI G (szN (pq pg)) 0 0 0 va 2 = none := by unfold ldI; simp only [show ixs 2 = [0, 1] from rfl, firstL, l0, l1, cond_true, cond_false]
    have eF : ldF G (szN (pq pg)) 0 0 0 va 2 = false := by unfold ldF; rw [e0]
    have eX : ldX G (szN (pq pg)) 0 0 0 va 2 = orL (ldB G (szN (pq pg)) 0 0 0 va) 0 (ixs 2) := by unfold ldX; rw [e0]
    have u0' : okS (szN (pq pg)) va 1 = true := by rw [← z0]; exact u0
    have eB : ∀ i : Nat, i < 2 → ldB G (szN (pq pg)) 0 0 0 va (i : Int) = x / 256 ^ i % 256 := fun i hi => by
      have ui : okS (szN (pq pg)) (litBin .add .u64 va (i : Int)) 1 = true := hall.1 ho _ (by omega)
      unfold ldB
      rw [sT0 ui, get_byte ui, sub_at (k := 0) hle hva u0' (by omega), Int.toNat_natCast]
      exact hB i hi
    have hs : orL (ldB G (szN (pq pg)) 0 0 0 va) 0 (ixs 2) = x % 256 ^ 2 := by
      have h1 := sum_upto hx eB 2 (Nat.le_refl _) (by omega)
      exact h1
    have hx2 : litBin .and .u64 x 65535 = x % 256 ^ 2 := and_low hx 16 (by omega)
    rw [eF, eX, hs, hx2, a0, z0, eql_self, eql_self]
    rfl
noncomputable def v4u_0v (pg va x nn : Int) : Bool := (cond (inA (szN (pq pg)) va 4) false (cond (ldF (fun _ => 0) (szN (pq pg)) 0 0 0 va 4) (cond (litCmp .eql (sC (fun _ => 0) (szN (pq pg)) (szN (pq pg)) 0 0 1 2 (litBin .add .u64 va 0) 1) 7) (cond (litCmp .eql (ldC (fun _ => 0) (szN (pq pg)) 0 0 0 va 4) 5) (cond (litCmp .eql (sV (fun _ => 0) (szN (pq pg)) (szN (pq pg)) 0 0 1 2 (litBin .add .u64 va 0) 1) va) (litCmp .eql (ldV (fun _ => 0) (szN (pq pg)) 0 0 0 va 4) va) false) false) false) false))
set_option maxRecDepth 100000 in
theorem road4u_0v (pg va x nn : Int) : ((call Try.prog (cxU 4 0 true) 70 18 [.int .u8 (.sym pg), .agg [.int .u64 (.sym va), .int .u64 (.sym x)], .int .u8 (.sym nn)] []).route [true]).map (fun p => (p.1, p.2.1)) = some ([(((((!(litCmp .lss (pgs (pq pg)) 1)) && (!(litCmp .gtr (pgs (pq pg)) 16))) && (decide (0 ≤ (litBin .mul .i64 (pgs (pq pg)) 4096) ∧ (litBin .mul .i64 (pgs (pq pg)) 4096) < ((16777216 : Nat) : Int)))) && (((!(litCmp .lss (pgs (pq pg)) 1)) && (!(litCmp .gtr (pgs (pq pg)) 16))) && (decide (0 ≤ (litBin .mul .i64 (pgs (pq pg)) 4096) ∧ (litBin .mul .i64 (pgs (pq pg)) 4096) < ((16777216 : Nat) : Int))))) && ((szq 4 nn) && (((litCmp .neq (litBin .rem .u64 va 4) 0) && (askG true (szN (pq pg)) (szN (pq pg)) (szN (pq pg)) (fun _ => 0) 0 0 1 2 (litBin .add .u64 va 0) 1)) && ((askL (szN (pq pg)) (szN (pq pg)) (szN (pq pg)) (fun _ => 0) 0 0 va 4) && (cond (inA (szN (pq pg)) va 4) true ((litCmp .neq (litBin .rem .u64 va 4) 0) && (!(litCmp .geq va 2147483648))))))))], .val (.bool (.sym (v4u_0v pg va x nn)))) := by kernel_rfl
noncomputable def v4u_0 (pg va x nn : Int) : Bool := (cond (inA (szN (pq pg)) va 4) false (cond (ldF (fun _ => 0) (szN (pq pg)) 0 0 0 va 4) (cond (litCmp .eql (sC (fun _ => 0) (szN (pq pg)) (szN (pq pg)) 0 0 1 2 (litBin .add .u64 va 0) 1) 7) (cond (litCmp .eql (ldC (fun _ => 0) (szN (pq pg)) 0 0 0 va 4) 5) (cond (litCmp .eql (sV (fun _ => 0) (szN (pq pg)) (szN (pq pg)) 0 0 1 2 (litBin .add .u64 va 0) 1) va) (litCmp .eql (ldV (fun _ => 0) (szN (pq pg)) 0 0 0 va 4) va) false) false) false) false))
set_option maxRecDepth 100000 in
theorem road4u_0 (pg va x nn : Int) : ((call Try.prog (cxU 4 0 false) 70 18 [.int .u8 (.sym pg), .agg [.int .u64 (.sym va), .int .u64 (.sym x)], .int .u8 (.sym nn)] []).route [true]).map (fun p => (p.1, p.2.1)) = some ([(((((!(litCmp .lss (pgs (pq pg)) 1)) && (!(litCmp .gtr (pgs (pq pg)) 16))) && (decide (0 ≤ (litBin .mul .i64 (pgs (pq pg)) 4096) ∧ (litBin .mul .i64 (pgs (pq pg)) 4096) < ((16777216 : Nat) : Int)))) && (((!(litCmp .lss (pgs (pq pg)) 1)) && (!(litCmp .gtr (pgs (pq pg)) 16))) && (decide (0 ≤ (litBin .mul .i64 (pgs (pq pg)) 4096) ∧ (litBin .mul .i64 (pgs (pq pg)) 4096) < ((16777216 : Nat) : Int))))) && ((szq 4 nn) && (((litCmp .neq (litBin .rem .u64 va 4) 0) && (askG true (szN (pq pg)) (szN (pq pg)) (szN (pq pg)) (fun _ => 0) 0 0 1 2 (litBin .add .u64 va 0) 1)) && ((askL (szN (pq pg)) (szN (pq pg)) (szN (pq pg)) (fun _ => 0) 0 0 va 4) && (cond (inA (szN (pq pg)) va 4) true ((litCmp .neq (litBin .rem .u64 va 4) 0) && ((litCmp .geq va 2147483648) && (!(litCmp .lss va (endE (szN (pq pg))))))))))))], .val (.bool (.sym (v4u_0 pg va x nn)))) := by kernel_rfl
noncomputable def v4u_1 (pg va x nn : Int) : Bool := (cond (inA (szN (pq pg)) va 4) false (cond (ldF (fun _ => 0) (szN (pq pg)) 0 0 0 va 4) (cond (litCmp .eql (sC (fun _ => 0) (szN (pq pg)) (szN (pq pg)) 0 0 1 2 (litBin .add .u64 va 1) 1) 7) (cond (litCmp .eql (ldC (fun _ => 0) (szN (pq pg)) 0 0 0 va 4) 5) (cond (litCmp .eql (sV (fun _ => 0) (szN (pq pg)) (szN (pq pg)) 0 0 1 2 (litBin .add .u64 va 1) 1) (litBin .add .u64 va 1)) (litCmp .eql (ldV (fun _ => 0) (szN (pq pg)) 0 0 0 va 4) (litBin .add .u64 va 1)) false) false) false) false))
set_option maxRecDepth 100000 in
theorem road4u_1 (pg va x nn : Int) : ((call Try.prog (cxU 4 1 false) 70 18 [.int .u8 (.sym pg), .agg [.int .u64 (.sym va), .int .u64 (.sym x)], .int .u8 (.sym nn)] []).route [true]).map (fun p => (p.1, p.2.1)) = some ([(((((!(litCmp .lss (pgs (pq pg)) 1)) && (!(litCmp .gtr (pgs (pq pg)) 16))) && (decide (0 ≤ (litBin .mul .i64 (pgs (pq pg)) 4096) ∧ (litBin .mul .i64 (pgs (pq pg)) 4096) < ((16777216 : Nat) : Int)))) && (((!(litCmp .lss (pgs (pq pg)) 1)) && (!(litCmp .gtr (pgs (pq pg)) 16))) && (decide (0 ≤ (litBin .mul .i64 (pgs (pq pg)) 4096) ∧ (litBin .mul .i64 (pgs (pq pg)) 4096) < ((16777216 : Nat) : Int))))) && ((szq 4 nn) && (((litCmp .neq (litBin .rem .u64 va 4) 0) && ((askG false (szN (pq pg)) (szN (pq pg)) (szN (pq pg)) (fun _ => 0) 0 0 1 2 (litBin .add .u64 va 0) 1) && (askG true (szN (pq pg)) (szN (pq pg)) (szN (pq pg)) (fun _ => 0) 0 0 1 2 (litBin .add .u64 va 1) 1))) && ((askL (szN (pq pg)) (szN (pq pg)) (szN (pq pg)) (fun _ => 0) 0 0 va 4) && (cond (inA (szN (pq pg)) va 4) true (((litCmp .neq (litBin .rem .u64 va 4) 0) && ((litCmp .geq va 2147483648) && (litCmp .lss va (endE (szN (pq pg)))))) && ((litCmp .neq (litBin .rem .u64 va 4) 0) && ((litCmp .geq (litBin .add .u64 va 1) 2147483648) && (!(litCmp .lss (litBin .add .u64 va 1) (endE (szN (pq pg)))))))))))))], .val (.bool (.sym (v4u_1 pg va x nn)))) := by kernel_rfl
noncomputable def v4u_2 (pg va x nn : Int) : Bool := (cond (ldF (fun _ => 0) (szN (pq pg)) 0 0 0 va 4) (cond (litCmp .eql (sC (fun _ => 0) (szN (pq pg)) (szN (pq pg)) 0 0 1 2 (litBin .add .u64 va 2) 1) 7) (cond (litCmp .eql (ldC (fun _ => 0) (szN (pq pg)) 0 0 0 va 4) 5) (cond (litCmp .eql (sV (fun _ => 0) (szN (pq pg)) (szN (pq pg)) 0 0 1 2 (litBin .add .u64 va 2) 1) (itz va 2)) (litCmp .eql (ldV (fun _ => 0) (szN (pq pg)) 0 0 0 va 4) (itz va 2)) false) false) false) false)
set_option maxRecDepth 100000 in
theorem road4u_2 (pg va x nn : Int) : ((call Try.prog (cxU 4 2 false) 70 18 [.int .u8 (.sym pg), .agg [.int .u64 (.sym va), .int .u64 (.sym x)], .int .u8 (.sym nn)] []).route [true, true, true, true, false, true]).map (fun p => (p.1, p.2.1)) = some ([((((!(litCmp .lss (pgs (pq pg)) 1)) && (!(litCmp .gtr (pgs (pq pg)) 16))) && (decide (0 ≤ (litBin .mul .i64 (pgs (pq pg)) 4096) ∧ (litBin .mul .i64 (pgs (pq pg)) 4096) < ((16777216 : Nat) : Int)))) && (((!(litCmp .lss (pgs (pq pg)) 1)) && (!(litCmp .gtr (pgs (pq pg)) 16))) && (decide (0 ≤ (litBin .mul .i64 (pgs (pq pg)) 4096) ∧ (litBin .mul .i64 (pgs (pq pg)) 4096) < ((16777216 : Nat) : Int))))), (szq 4 nn), ((litCmp .neq (litBin .rem .u64 va 4) 0) && ((askG false (szN (pq pg)) (szN (pq pg)) (szN (pq pg)) (fun _ => 0) 0 0 1 2 (litBin .add .u64 va 0) 1) && ((askG false (szN (pq pg)) (szN (pq pg)) (szN (pq pg)) (fun _ => 0) 0 0 1 2 (litBin .add .u64 va 1) 1) && (askG true (szN (pq pg)) (szN (pq pg)) (szN (pq pg)) (fun _ => 0) 0 0 1 2 (litBin .add .u64 va 2) 1)))), (askL (szN (pq pg)) (szN (pq pg)) (szN (pq pg)) (fun _ => 0) 0 0 va 4), (inA (szN (pq pg)) va 4), (((litCmp .neq (litBin .rem .u64 va 4) 0) && ((litCmp .geq va 2147483648) && (litCmp .lss va (endE (szN (pq pg)))))) && (((litCmp .neq (litBin .rem .u64 va 4) 0) && ((litCmp .geq (litBin .add .u64 va 1) 2147483648) && (litCmp .lss (litBin .add .u64 va 1) (endE (szN (pq pg)))))) && ((litCmp .neq (litBin .rem .u64 va 4) 0) && ((litCmp .geq (itz va 2) 2147483648) && (!(litCmp .lss (itz va 2) (endE (szN (pq pg)))))))))], .val (.bool (.sym (v4u_2 pg va x nn)))) := by kernel_rfl
noncomputable def v4u_3 (pg va x nn : Int) : Bool := (cond (ldF (fun _ => 0) (szN (pq pg)) 0 0 0 va 4) (cond (litCmp .eql (sC (fun _ => 0) (szN (pq pg)) (szN (pq pg)) 0 0 1 2 (litBin .add .u64 va 3) 1) 7) (cond (litCmp .eql (ldC (fun _ => 0) (szN (pq pg)) 0 0 0 va 4) 5) (cond (litCmp .eql (sV (fun _ => 0) (szN (pq pg)) (szN (pq pg)) 0 0 1 2 (litBin .add .u64 va 3) 1) (itz va 3)) (litCmp .eql (ldV (fun _ => 0) (szN (pq pg)) 0 0 0 va 4) (itz va 3)) false) false) false) false)
set_option maxRecDepth 100000 in
theorem road4u_3 (pg va x nn : Int) : ((call Try.prog (cxU 4 3 false) 70 18 [.int .u8 (.sym pg), .agg [.int .u64 (.sym va), .int .u64 (.sym x)], .int .u8 (.sym nn)] []).route [true, true, true, true, false, true]).map (fun p => (p.1, p.2.1)) = some ([((((!(litCmp .lss (pgs (pq pg)) 1)) && (!(litCmp .gtr (pgs (pq pg)) 16))) && (decide (0 ≤ (litBin .mul .i64 (pgs (pq pg)) 4096) ∧ (litBin .mul .i64 (pgs (pq pg)) 4096) < ((16777216 : Nat) : Int)))) && (((!(litCmp .lss (pgs (pq pg)) 1)) && (!(litCmp .gtr (pgs (pq pg)) 16))) && (decide (0 ≤ (litBin .mul .i64 (pgs (pq pg)) 4096) ∧ (litBin .mul .i64 (pgs (pq pg)) 4096) < ((16777216 : Nat) : Int))))), (szq 4 nn), ((litCmp .neq (litBin .rem .u64 va 4) 0) && ((askG false (szN (pq pg)) (szN (pq pg)) (szN (pq pg)) (fun _ => 0) 0 0 1 2 (litBin .add .u64 va 0) 1) && ((askG false (szN (pq pg)) (szN (pq pg)) (szN (pq pg)) (fun _ => 0) 0 0 1 2 (litBin .add .u64 va 1) 1) && ((askG false (szN (pq pg)) (szN (pq pg)) (szN (pq pg)) (fun _ => 0) 0 0 1 2 (litBin .add .u64 va 2) 1) && (askG true (szN (pq pg)) (szN (pq pg)) (szN (pq pg)) (fun _ => 0) 0 0 1 2 (litBin .add .u64 va 3) 1))))), (askL (szN (pq pg)) (szN (pq pg)) (szN (pq pg)) (fun _ => 0) 0 0 va 4), (inA (szN (pq pg)) va 4), (((litCmp .neq (litBin .rem .u64 va 4) 0) && ((litCmp .geq va 2147483648) && (litCmp .lss va (endE (szN (pq pg)))))) && (((litCmp .neq (litBin .rem .u64 va 4) 0) && ((litCmp .geq (litBin .add .u64 va 1) 2147483648) && (litCmp .lss (litBin .add .u64 va 1) (endE (szN (pq pg)))))) && (((litCmp .neq (litBin .rem .u64 va 4) 0) && ((litCmp .geq (itz va 2) 2147483648) && (litCmp .lss (itz va 2) (endE (szN (pq pg)))))) && ((litCmp .neq (litBin .rem .u64 va 4) 0) && ((litCmp .geq (itz va 3) 2147483648) && (!(litCmp .lss (itz va 3) (endE (szN (pq pg))))))))))], .val (.bool (.sym (v4u_3 pg va x nn)))) := by kernel_rfl
noncomputable def v4u_4 (pg va x nn : Int) : Bool := (cond (!(ldF (putF (putF (putF (putF (fun _ => 0) (szN (pq pg)) (litBin .add .u64 (sT (fun _ => 0) (szN (pq pg)) (szN (pq pg)) 0 0 1 2 (litBin .add .u64 va 0) 1) 0) 1 (litBin .shr .u64 x 0)) (szN (pq pg)) (litBin .add .u64 (sT (fun _ => 0) (szN (pq pg)) (szN (pq pg)) 0 0 1 2 (litBin .add .u64 va 1) 1) 0) 1 (litBin .shr .u64 x 8)) (szN (pq pg)) (litBin .add .u64 (sT (fun _ => 0) (szN (pq pg)) (szN (pq pg)) 0 0 1 2 (litBin .add .u64 va 2) 1) 0) 1 (litBin .shr .u64 x 16)) (szN (pq pg)) (litBin .add .u64 (sT (fun _ => 0) (szN (pq pg)) (szN (pq pg)) 0 0 1 2 (litBin .add .u64 va 3) 1) 0) 1 (litBin .shr .u64 x 24)) (szN (pq pg)) 0 0 0 va 4)) (cond (litCmp .eql (litBin .add .u64 (sT (fun _ => 0) (szN (pq pg)) (szN (pq pg)) 0 0 1 2 (litBin .add .u64 va 0) 1) 0) va) (litCmp .eql (ldX (putF (putF (putF (putF (fun _ => 0) (szN (pq pg)) (litBin .add .u64 (sT (fun _ => 0) (szN (pq pg)) (szN (pq pg)) 0 0 1 2 (litBin .add .u64 va 0) 1) 0) 1 (litBin .shr .u64 x 0)) (szN (pq pg)) (litBin .add .u64 (sT (fun _ => 0) (szN (pq pg)) (szN (pq pg)) 0 0 1 2 (litBin .add .u64 va 1) 1) 0) 1 (litBin .shr .u64 x 8)) (szN (pq pg)) (litBin .add .u64 (sT (fun _ => 0) (szN (pq pg)) (szN (pq pg)) 0 0 1 2 (litBin .add .u64 va 2) 1) 0) 1 (litBin .shr .u64 x 16)) (szN (pq pg)) (litBin .add .u64 (sT (fun _ => 0) (szN (pq pg)) (szN (pq pg)) 0 0 1 2 (litBin .add .u64 va 3) 1) 0) 1 (litBin .shr .u64 x 24)) (szN (pq pg)) 0 0 0 va 4) (litBin .and .u64 x 4294967295)) false) false)
set_option maxRecDepth 100000 in
theorem road4u_4 (pg va x nn : Int) : ((call Try.prog (cxF 4 true 4) 70 18 [.int .u8 (.sym pg), .agg [.int .u64 (.sym va), .int .u64 (.sym x)], .int .u8 (.sym nn)] []).route [true]).map (fun p => (p.1, p.2.1)) = some ([(((((!(litCmp .lss (pgs (pq pg)) 1)) && (!(litCmp .gtr (pgs (pq pg)) 16))) && (decide (0 ≤ (litBin .mul .i64 (pgs (pq pg)) 4096) ∧ (litBin .mul .i64 (pgs (pq pg)) 4096) < ((16777216 : Nat) : Int)))) && (((!(litCmp .lss (pgs (pq pg)) 1)) && (!(litCmp .gtr (pgs (pq pg)) 16))) && (decide (0 ≤ (litBin .mul .i64 (pgs (pq pg)) 4096) ∧ (litBin .mul .i64 (pgs (pq pg)) 4096) < ((16777216 : Nat) : Int))))) && ((szq 4 nn) && ((((litCmp .neq (litBin .rem .u64 va 4) 0) && ((askG false (szN (pq pg)) (szN (pq pg)) (szN (pq pg)) (fun _ => 0) 0 0 1 2 (litBin .add .u64 va 0) 1) && ((askG false (szN (pq pg)) (szN (pq pg)) (szN (pq pg)) (fun _ => 0) 0 0 1 2 (litBin .add .u64 va 1) 1) && ((askG false (szN (pq pg)) (szN (pq pg)) (szN (pq pg)) (fun _ => 0) 0 0 1 2 (litBin .add .u64 va 2) 1) && (askG false (szN (pq pg)) (szN (pq pg)) (szN (pq pg)) (fun _ => 0) 0 0 1 2 (litBin .add .u64 va 3) 1))))) && ((askM (szN (pq pg)) (szN (pq pg)) (szN (pq pg)) (fun _ => 0) (litBin .add .u64 (sT (fun _ => 0) (szN (pq pg)) (szN (pq pg)) 0 0 1 2 (litBin .add .u64 va 0) 1) 0) 1 && yes (inU (litBin .shr .u64 x 0))) && ((askM (szN (pq pg)) (szN (pq pg)) (szN (pq pg)) (putF (fun _ => 0) (szN (pq pg)) (litBin .add .u64 (sT (fun _ => 0) (szN (pq pg)) (szN (pq pg)) 0 0 1 2 (litBin .add .u64 va 0) 1) 0) 1 (litBin .shr .u64 x 0)) (litBin .add .u64 (sT (fun _ => 0) (szN (pq pg)) (szN (pq pg)) 0 0 1 2 (litBin .add .u64 va 1) 1) 0) 1 && yes (inU (litBin .shr .u64 x 8))) && ((askM (szN (pq pg)) (szN (pq pg)) (szN (pq pg)) (putF (putF (fun _ => 0) (szN (pq pg)) (litBin .add .u64 (sT (fun _ => 0) (szN (pq pg)) (szN (pq pg)) 0 0 1 2 (litBin .add .u64 va 0) 1) 0) 1 (litBin .shr .u64 x 0)) (szN (pq pg)) (litBin .add .u64 (sT (fun _ => 0) (szN (pq pg)) (szN (pq pg)) 0 0 1 2 (litBin .add .u64 va 1) 1) 0) 1 (litBin .shr .u64 x 8)) (litBin .add .u64 (sT (fun _ => 0) (szN (pq pg)) (szN (pq pg)) 0 0 1 2 (litBin .add .u64 va 2) 1) 0) 1 && yes (inU (litBin .shr .u64 x 16))) && (askM (szN (pq pg)) (szN (pq pg)) (szN (pq pg)) (putF (putF (putF (fun _ => 0) (szN (pq pg)) (litBin .add .u64 (sT (fun _ => 0) (szN (pq pg)) (szN (pq pg)) 0 0 1 2 (litBin .add .u64 va 0) 1) 0) 1 (litBin .shr .u64 x 0)) (szN (pq pg)) (litBin .add .u64 (sT (fun _ => 0) (szN (pq pg)) (szN (pq pg)) 0 0 1 2 (litBin .add .u64 va 1) 1) 0) 1 (litBin .shr .u64 x 8)) (szN (pq pg)) (litBin .add .u64 (sT (fun _ => 0) (szN (pq pg)) (szN (pq pg)) 0 0 1 2 (litBin .add .u64 va 2) 1) 0) 1 (litBin .shr .u64 x 16)) (litBin .add .u64 (sT (fun _ => 0) (szN (pq pg)) (szN (pq pg)) 0 0 1 2 (litBin .add .u64 va 3) 1) 0) 1 && yes (inU (litBin .shr .u64 x 24))))))) && ((askL (szN (pq pg)) (szN (pq pg)) (szN (pq pg)) (putF (putF (putF (putF (fun _ => 0) (szN (pq pg)) (litBin .add .u64 (sT (fun _ => 0) (szN (pq pg)) (szN (pq pg)) 0 0 1 2 (litBin .add .u64 va 0) 1) 0) 1 (litBin .shr .u64 x 0)) (szN (pq pg)) (litBin .add .u64 (sT (fun _ => 0) (szN (pq pg)) (szN (pq pg)) 0 0 1 2 (litBin .add .u64 va 1) 1) 0) 1 (litBin .shr .u64 x 8)) (szN (pq pg)) (litBin .add .u64 (sT (fun _ => 0) (szN (pq pg)) (szN (pq pg)) 0 0 1 2 (litBin .add .u64 va 2) 1) 0) 1 (litBin .shr .u64 x 16)) (szN (pq pg)) (litBin .add .u64 (sT (fun _ => 0) (szN (pq pg)) (szN (pq pg)) 0 0 1 2 (litBin .add .u64 va 3) 1) 0) 1 (litBin .shr .u64 x 24)) 0 0 va 4) && (inA (szN (pq pg)) va 4)))))], .val (.bool (.sym (v4u_4 pg va x nn)))) := by kernel_rfl
theorem law4u {pg va x nn : Int} (hpg : 0 ≤ pg ∧ pg < 256) (hva : inU va) (hx : inU x) (wnn : 0 ≤ nn ∧ nn < 256) (hnn : sizeS nn = 4) (hal : decide (va % 4 = 0) = false) :
    ∃ (C : Cx DC) (ds cs : List Bool) (v : Bool), Ok Try.prog C ∧ ((call Try.prog C 70 18 [.int .u8 (.sym pg), .agg [.int .u64 (.sym va), .int .u64 (.sym x)], .int .u8 (.sym nn)] []).route ds).map (fun p => (p.1, p.2.1)) = some (cs, .val (.bool (.sym v))) ∧ cs = ds ∧ v = true := by
  have hp := pq_in hpg
  have hle : (szN (pq pg)) ≤ 65536 := (szN_eq hp).2
  have hN : (((szN (pq pg)) : Nat) : Int) % 8 = 0 := by
    rw [(szN_eq hp).1]
    omega
  have hm : MemOk (szN (pq pg)) (fun _ => 0) := MemOk.zero hle
  have hq : szq 4 nn = true := szq_of wnn hnn
  have hpi := pgs_in hp
  have pL : litCmp .lss (pgs (pq pg)) 1 = false := by rw [lss_eq]; exact decide_eq_false (by omega)
  have pG : litCmp .gtr (pgs (pq pg)) 16 = false := by rw [gtr_eq]; exact decide_eq_false (by omega)
  have pU : decide (0 ≤ (litBin .mul .i64 (pgs (pq pg)) 4096) ∧ (litBin .mul .i64 (pgs (pq pg)) 4096) < ((16777216 : Nat) : Int)) = true := (pgT_f hp).2
  have hne : litCmp .neq (litBin .rem .u64 va 4) 0 = true := by rw [neq0 hva, hal]; rfl
  have z0 : (litBin .add .u64 va 0) = va := add0 hva
  have hk : num 4 = true := rfl
  have hin : inA (szN (pq pg)) va 4 = okS (szN (pq pg)) va 4 := in_ok hle hva hk
  have hall := all_ok hle hva hk
  have aL : askL (szN (pq pg)) (szN (pq pg)) (szN (pq pg)) (fun _ => 0) 0 0 va 4 = true := yes_of ⟨⟨rfl, rfl, hm, hN⟩, inU0, inU0, hva, rfl⟩
  have q0 : askS (szN (pq pg)) (szN (pq pg)) (szN (pq pg)) (fun _ => 0) 0 0 1 2 (litBin .add .u64 va 0) 1 = true := Page.askS_t hm inU0 inU0 (inU.add _ _) rfl
  have q1 : askS (szN (pq pg)) (szN (pq pg)) (szN (pq pg)) (fun _ => 0) 0 0 1 2 (litBin .add .u64 va 1) 1 = true := Page.askS_t hm inU0 inU0 (inU.add _ _) rfl
  have q2 : askS (szN (pq pg)) (szN (pq pg)) (szN (pq pg)) (fun _ => 0) 0 0 1 2 (litBin .add .u64 va 2) 1 = true := Page.askS_t hm inU0 inU0 (inU.add _ _) rfl
  have q3 : askS (szN (pq pg)) (szN (pq pg)) (szN (pq pg)) (fun _ => 0) 0 0 1 2 (litBin .add .u64 va 3) 1 = true := Page.askS_t hm inU0 inU0 (inU.add _ _) rfl
  cases u0 : okS (szN (pq pg)) (litBin .add .u64 va 0) 1
  · have f0 : sF (fun _ => 0) (szN (pq pg)) (szN (pq pg)) 0 0 1 2 (litBin .add .u64 va 0) 1 = true := by rw [sF0, u0]; rfl
    have ni : inA (szN (pq pg)) va 4 = false := by
      rw [hin]
      cases ho : okS (szN (pq pg)) va 4
      · rfl
      · exact absurd ((hall.1 ho 0 (by omega)).symm.trans u0) (by decide)
    have l0 : ldA (fun _ => 0) (szN (pq pg)) 0 0 0 va 0 = true := by unfold ldA; rw [sF0, u0]; rfl
    have e0 : ldI (fun _ => 0) (szN (pq pg)) 0 0 0 va 4 = some 0 := by unfold ldI; simp only [show ixs 4 = [0, 1, 2, 3] from rfl, firstL, l0, cond_true, cond_false]
    have eF : ldF (fun _ => 0) (szN (pq pg)) 0 0 0 va 4 = true := by unfold ldF; rw [e0]
    have eV : ldV (fun _ => 0) (szN (pq pg)) 0 0 0 va 4 = va := by unfold ldV; rw [e0]; exact z0
    have eC : ldC (fun _ => 0) (szN (pq pg)) 0 0 0 va 4 = 5 := by unfold ldC; rw [e0]; exact (sC0 u0).trans cau5
    have u0' : okS (szN (pq pg)) va 1 = false := by rw [← z0]; exact u0
    cases gB : litCmp .geq va 2147483648
    · have hgB := gB
      have eS : sV (fun _ => 0) (szN (pq pg)) (szN (pq pg)) 0 0 1 2 (litBin .add .u64 va 0) 1 = va := (Page.sV_t f0).trans z0
      have eK : sC (fun _ => 0) (szN (pq pg)) (szN (pq pg)) 0 0 1 2 (litBin .add .u64 va 0) 1 = 7 := (sC0 u0).trans cau7
      have aI : askG true (szN (pq pg)) (szN (pq pg)) (szN (pq pg)) (fun _ => 0) 0 0 1 2 (litBin .add .u64 va 0) 1 = true := by unfold askG; rw [q0, f0]; rfl
      refine ⟨cxU 4 0 true, _, _, _, cxU_ok 4 0 true, road4u_0v pg va x nn, ?_, ?_⟩
      · simp only [pL, pG, pU, hq, hne, aI, aL, ni, gB, Bool.and_self, Bool.not_false, Bool.not_true, Bool.cond_self, cond_true, cond_false, beq_self_eq_true, Bool.true_and, Bool.and_true]
        try rfl
      · unfold v4u_0v
        simp only [ni, eF, eV, eC, eS, eK, eql_self, cond_true, cond_false]
        try rfl
    · have lB : litCmp .lss va (endE (szN (pq pg))) = false := lt_of hle u0' gB
      have eS : sV (fun _ => 0) (szN (pq pg)) (szN (pq pg)) 0 0 1 2 (litBin .add .u64 va 0) 1 = va := (Page.sV_t f0).trans z0
      have eK : sC (fun _ => 0) (szN (pq pg)) (szN (pq pg)) 0 0 1 2 (litBin .add .u64 va 0) 1 = 7 := (sC0 u0).trans cau7
      have aI : askG true (szN (pq pg)) (szN (pq pg)) (szN (pq pg)) (fun _ => 0) 0 0 1 2 (litBin .add .u64 va 0) 1 = true := by unfold askG; rw [q0, f0]; rfl
      refine ⟨cxU 4 0 false, _, _, _, cxU_ok 4 0 false, road4u_0 pg va x nn, ?_, ?_⟩
      · simp only [pL, pG, pU, hq, hne, aI, aL, ni, gB, lB, Bool.and_self, Bool.not_false, Bool.not_true, Bool.cond_self, cond_true, cond_false, beq_self_eq_true, Bool.true_and, Bool.and_true]
        try rfl
      · unfold v4u_0
        simp only [ni, eF, eV, eC, eS, eK, eql_self, cond_true, cond_false]
        try rfl
  have f0 : sF (fun _ => 0) (szN (pq pg)) (szN (pq pg)) 0 0 1 2 (litBin .add .u64 va 0) 1 = false := by rw [sF0, u0]; rfl
  have a0g : askG false (szN (pq pg)) (szN (pq pg)) (szN (pq pg)) (fun _ => 0) 0 0 1 2 (litBin .add .u64 va 0) 1 = true := by unfold askG; rw [q0, f0]; rfl
  cases u1 : okS (szN (pq pg)) (litBin .add .u64 va 1) 1
  · have f1 : sF (fun _ => 0) (szN (pq pg)) (szN (pq pg)) 0 0 1 2 (litBin .add .u64 va 1) 1 = true := by rw [sF0, u1]; rfl
    have ni : inA (szN (pq pg)) va 4 = false := by
      rw [hin]
      cases ho : okS (szN (pq pg)) va 4
      · rfl
      · exact absurd ((hall.1 ho 1 (by omega)).symm.trans u1) (by decide)
    have l0 : ldA (fun _ => 0) (szN (pq pg)) 0 0 0 va 0 = false := by unfold ldA; rw [sF0, u0]; rfl
    have l1 : ldA (fun _ => 0) (szN (pq pg)) 0 0 0 va 1 = true := by unfold ldA; rw [sF0, u1]; rfl
    have e0 : ldI (fun _ => 0) (szN (pq pg)) 0 0 0 va 4 = some 1 := by unfold ldI; simp only [show ixs 4 = [0, 1, 2, 3] from rfl, firstL, l0, l1, cond_true, cond_false]
    have eF : ldF (fun _ => 0) (szN (pq pg)) 0 0 0 va 4 = true := by unfold ldF; rw [e0]
    have eV : ldV (fun _ => 0) (szN (pq pg)) 0 0 0 va 4 = (litBin .add .u64 va 1) := by unfold ldV; rw [e0]
    have eC : ldC (fun _ => 0) (szN (pq pg)) 0 0 0 va 4 = 5 := by unfold ldC; rw [e0]; exact (sC0 u1).trans cau5
    have o0 := ge_of hle (show okS (szN (pq pg)) va 1 = true from by rw [← z0]; exact u0)
    have gI : litCmp .geq (litBin .add .u64 va 1) 2147483648 = true := by
      exact ge_nx hle u0 (by omega)
    have lI : litCmp .lss (litBin .add .u64 va 1) (endE (szN (pq pg))) = false := lt_of hle (by
      exact u1) gI
    have eS : sV (fun _ => 0) (szN (pq pg)) (szN (pq pg)) 0 0 1 2 (litBin .add .u64 va 1) 1 = (litBin .add .u64 va 1) := (Page.sV_t f1)
    have eK : sC (fun _ => 0) (szN (pq pg)) (szN (pq pg)) 0 0 1 2 (litBin .add .u64 va 1) 1 = 7 := (sC0 u1).trans cau7
    have aI : askG true (szN (pq pg)) (szN (pq pg)) (szN (pq pg)) (fun _ => 0) 0 0 1 2 (litBin .add .u64 va 1) 1 = true := by unfold askG; rw [q1, f1]; rfl
    refine ⟨cxU 4 1 false, _, _, _, cxU_ok 4 1 false, road4u_1 pg va x nn, ?_, ?_⟩
    · simp only [pL, pG, pU, hq, hne, a0g, aI, aL, ni, o0.1, o0.2, gI, lI, Bool.and_self, Bool.not_false, Bool.not_true, Bool.cond_self, cond_true, cond_false, beq_self_eq_true, Bool.true_and, Bool.and_true]
      try rfl
    · unfold v4u_1
      simp only [ni, eF, eV, eC, eS, eK, eql_self, cond_true, cond_false]
      try rfl
  have f1 : sF (fun _ => 0) (szN (pq pg)) (szN (pq pg)) 0 0 1 2 (litBin .add .u64 va 1) 1 = false := by rw [sF0, u1]; rfl
  have a1g : askG false (szN (pq pg)) (szN (pq pg)) (szN (pq pg)) (fun _ => 0) 0 0 1 2 (litBin .add .u64 va 1) 1 = true := by unfold askG; rw [q1, f1]; rfl
  cases u2 : okS (szN (pq pg)) (litBin .add .u64 va 2) 1
  · have f2 : sF (fun _ => 0) (szN (pq pg)) (szN (pq pg)) 0 0 1 2 (litBin .add .u64 va 2) 1 = true := by rw [sF0, u2]; rfl
    have ni : inA (szN (pq pg)) va 4 = false := by
      rw [hin]
      cases ho : okS (szN (pq pg)) va 4
      · rfl
      · exact absurd ((hall.1 ho 2 (by omega)).symm.trans u2) (by decide)
    have l0 : ldA (fun _ => 0) (szN (pq pg)) 0 0 0 va 0 = false := by unfold ldA; rw [sF0, u0]; rfl
    have l1 : ldA (fun _ => 0) (szN (pq pg)) 0 0 0 va 1 = false := by unfold ldA; rw [sF0, u1]; rfl
    have l2 : ldA (fun _ => 0) (szN (pq pg)) 0 0 0 va 2 = true := by unfold ldA; rw [sF0, u2]; rfl
    have e0 : ldI (fun _ => 0) (szN (pq pg)) 0 0 0 va 4 = some 2 := by unfold ldI; simp only [show ixs 4 = [0, 1, 2, 3] from rfl, firstL, l0, l1, l2, cond_true, cond_false]
    have eF : ldF (fun _ => 0) (szN (pq pg)) 0 0 0 va 4 = true := by unfold ldF; rw [e0]
    have eV : ldV (fun _ => 0) (szN (pq pg)) 0 0 0 va 4 = (litBin .add .u64 va 2) := by unfold ldV; rw [e0]
    have eC : ldC (fun _ => 0) (szN (pq pg)) 0 0 0 va 4 = 5 := by unfold ldC; rw [e0]; exact (sC0 u2).trans cau5
    have o0 := ge_of hle (show okS (szN (pq pg)) va 1 = true from by rw [← z0]; exact u0)
    have o1 := ge_of hle u1
    have y2e : itz va 2 = (litBin .add .u64 va 2) := itz_eq hva 2
    have gI : litCmp .geq (itz va 2) 2147483648 = true := by
      rw [y2e]
      exact ge_nx hle u1 (by omega)
    have lI : litCmp .lss (itz va 2) (endE (szN (pq pg))) = false := lt_of hle (by
      rw [y2e]
      exact u2) gI
    have eS : sV (fun _ => 0) (szN (pq pg)) (szN (pq pg)) 0 0 1 2 (litBin .add .u64 va 2) 1 = (litBin .add .u64 va 2) := (Page.sV_t f2)
    have eK : sC (fun _ => 0) (szN (pq pg)) (szN (pq pg)) 0 0 1 2 (litBin .add .u64 va 2) 1 = 7 := (sC0 u2).trans cau7
    have aI : askG true (szN (pq pg)) (szN (pq pg)) (szN (pq pg)) (fun _ => 0) 0 0 1 2 (litBin .add .u64 va 2) 1 = true := by unfold askG; rw [q2, f2]; rfl
    refine ⟨cxU 4 2 false, _, _, _, cxU_ok 4 2 false, road4u_2 pg va x nn, ?_, ?_⟩
    · simp only [pL, pG, pU, hq, hne, a0g, a1g, aI, aL, ni, o0.1, o0.2, o1.1, o1.2, gI, lI, Bool.and_self, Bool.not_false, Bool.not_true, Bool.cond_self, cond_true, cond_false, beq_self_eq_true, Bool.true_and, Bool.and_true]
      try rfl
    · unfold v4u_2
      simp only [ni, eF, eV, eC, eS, eK, eql_self, cond_true, cond_false, y2e]
      try rfl
  have f2 : sF (fun _ => 0) (szN (pq pg)) (szN (pq pg)) 0 0 1 2 (litBin .add .u64 va 2) 1 = false := by rw [sF0, u2]; rfl
  have a2g : askG false (szN (pq pg)) (szN (pq pg)) (szN (pq pg)) (fun _ => 0) 0 0 1 2 (litBin .add .u64 va 2) 1 = true := by unfold askG; rw [q2, f2]; rfl
  cases u3 : okS (szN (pq pg)) (litBin .add .u64 va 3) 1
  · have f3 : sF (fun _ => 0) (szN (pq pg)) (szN (pq pg)) 0 0 1 2 (litBin .add .u64 va 3) 1 = true := by rw [sF0, u3]; rfl
    have ni : inA (szN (pq pg)) va 4 = false := by
      rw [hin]
      cases ho : okS (szN (pq pg)) va 4
      · rfl
      · exact absurd ((hall.1 ho 3 (by omega)).symm.trans u3) (by decide)
    have l0 : ldA (fun _ => 0) (szN (pq pg)) 0 0 0 va 0 = false := by unfold ldA; rw [sF0, u0]; rfl
    have l1 : ldA (fun _ => 0) (szN (pq pg)) 0 0 0 va 1 = false := by unfold ldA; rw [sF0, u1]; rfl
    have l2 : ldA (fun _ => 0) (szN (pq pg)) 0 0 0 va 2 = false := by unfold ldA; rw [sF0, u2]; rfl
    have l3 : ldA (fun _ => 0) (szN (pq pg)) 0 0 0 va 3 = true := by unfold ldA; rw [sF0, u3]; rfl
    have e0 : ldI (fun _ => 0) (szN (pq pg)) 0 0 0 va 4 = some 3 := by unfold ldI; simp only [show ixs 4 = [0, 1, 2, 3] from rfl, firstL, l0, l1, l2, l3, cond_true, cond_false]
    have eF : ldF (fun _ => 0) (szN (pq pg)) 0 0 0 va 4 = true := by unfold ldF; rw [e0]
    have eV : ldV (fun _ => 0) (szN (pq pg)) 0 0 0 va 4 = (litBin .add .u64 va 3) := by unfold ldV; rw [e0]
    have eC : ldC (fun _ => 0) (szN (pq pg)) 0 0 0 va 4 = 5 := by unfold ldC; rw [e0]; exact (sC0 u3).trans cau5
    have o0 := ge_of hle (show okS (szN (pq pg)) va 1 = true from by rw [← z0]; exact u0)
    have o1 := ge_of hle u1
    have y2e : itz va 2 = (litBin .add .u64 va 2) := itz_eq hva 2
    have o2 := ge_of hle (show okS (szN (pq pg)) (itz va 2) 1 = true from by rw [y2e]; exact u2)
    have y3e : itz va 3 = (litBin .add .u64 va 3) := itz_eq hva 3
    have gI : litCmp .geq (itz va 3) 2147483648 = true := by
      rw [y3e]
      exact ge_nx hle u2 (by omega)
    have lI : litCmp .lss (itz va 3) (endE (szN (pq pg))) = false := lt_of hle (by
      rw [y3e]
      exact u3) gI
    have eS : sV (fun _ => 0) (szN (pq pg)) (szN (pq pg)) 0 0 1 2 (litBin .add .u64 va 3) 1 = (litBin .add .u64 va 3) := (Page.sV_t f3)
    have eK : sC (fun _ => 0) (szN (pq pg)) (szN (pq pg)) 0 0 1 2 (litBin .add .u64 va 3) 1 = 7 := (sC0 u3).trans cau7
    have aI : askG true (szN (pq pg)) (szN (pq pg)) (szN (pq pg)) (fun _ => 0) 0 0 1 2 (litBin .add .u64 va 3) 1 = true := by unfold askG; rw [q3, f3]; rfl
    refine ⟨cxU 4 3 false, _, _, _, cxU_ok 4 3 false, road4u_3 pg va x nn, ?_, ?_⟩
    · simp only [pL, pG, pU, hq, hne, a0g, a1g, a2g, aI, aL, ni, o0.1, o0.2, o1.1, o1.2, o2.1, o2.2, gI, lI, Bool.and_self, Bool.not_false, Bool.not_true, Bool.cond_self, cond_true, cond_false, beq_self_eq_true, Bool.true_and, Bool.and_true]
      try rfl
    · unfold v4u_3
      simp only [ni, eF, eV, eC, eS, eK, eql_self, cond_true, cond_false, y3e]
      try rfl
  have f3 : sF (fun _ => 0) (szN (pq pg)) (szN (pq pg)) 0 0 1 2 (litBin .add .u64 va 3) 1 = false := by rw [sF0, u3]; rfl
  have a3g : askG false (szN (pq pg)) (szN (pq pg)) (szN (pq pg)) (fun _ => 0) 0 0 1 2 (litBin .add .u64 va 3) 1 = true := by unfold askG; rw [q3, f3]; rfl
  have ho : okS (szN (pq pg)) va 4 = true := hall.2 fun i hi => by
    rcases (by omega : i = 0 ∨ i = 1 ∨ i = 2 ∨ i = 3) with rfl | rfl | rfl | rfl
    · exact u0
    · exact u1
    · exact u2
    · exact u3
  have yi : inA (szN (pq pg)) va 4 = true := by rw [hin]; exact ho
  have y0 : yes (inU (litBin .shr .u64 x 0)) = true := yes_of (inU.shr hx 0 (by omega))
  have m0 : askM (szN (pq pg)) (szN (pq pg)) (szN (pq pg)) (fun _ => 0) (litBin .add .u64 (sT (fun _ => 0) (szN (pq pg)) (szN (pq pg)) 0 0 1 2 (litBin .add .u64 va 0) 1) 0) 1 = true := askM_of hm (inU.add _ _) (Page.inI_num rfl)
  have a0 : (litBin .add .u64 (sT (fun _ => 0) (szN (pq pg)) (szN (pq pg)) 0 0 1 2 (litBin .add .u64 va 0) 1) 0) = (litBin .add .u64 va 0) := by rw [sT0 u0]; exact add0 (inU.add _ _)
  have y1 : yes (inU (litBin .shr .u64 x 8)) = true := yes_of (inU.shr hx 8 (by omega))
  have m1 : askM (szN (pq pg)) (szN (pq pg)) (szN (pq pg)) (putF (fun _ => 0) (szN (pq pg)) (litBin .add .u64 (sT (fun _ => 0) (szN (pq pg)) (szN (pq pg)) 0 0 1 2 (litBin .add .u64 va 0) 1) 0) 1 (litBin .shr .u64 x 0)) (litBin .add .u64 (sT (fun _ => 0) (szN (pq pg)) (szN (pq pg)) 0 0 1 2 (litBin .add .u64 va 1) 1) 0) 1 = true := askM_of (MemOk.put hm _ _ _) (inU.add _ _) (Page.inI_num rfl)
  have a1 : (litBin .add .u64 (sT (fun _ => 0) (szN (pq pg)) (szN (pq pg)) 0 0 1 2 (litBin .add .u64 va 1) 1) 0) = (litBin .add .u64 va 1) := by rw [sT0 u1]; exact add0 (inU.add _ _)
  have y2 : yes (inU (litBin .shr .u64 x 16)) = true := yes_of (inU.shr hx 16 (by omega))
  have m2 : askM (szN (pq pg)) (szN (pq pg)) (szN (pq pg)) (putF (putF (fun _ => 0) (szN (pq pg)) (litBin .add .u64 (sT (fun _ => 0) (szN (pq pg)) (szN (pq pg)) 0 0 1 2 (litBin .add .u64 va 0) 1) 0) 1 (litBin .shr .u64 x 0)) (szN (pq pg)) (litBin .add .u64 (sT (fun _ => 0) (szN (pq pg)) (szN (pq pg)) 0 0 1 2 (litBin .add .u64 va 1) 1) 0) 1 (litBin .shr .u64 x 8)) (litBin .add .u64 (sT (fun _ => 0) (szN (pq pg)) (szN (pq pg)) 0 0 1 2 (litBin .add .u64 va 2) 1) 0) 1 = true := askM_of (MemOk.put (MemOk.put hm _ _ _) _ _ _) (inU.add _ _) (Page.inI_num rfl)
  have a2 : (litBin .add .u64 (sT (fun _ => 0) (szN (pq pg)) (szN (pq pg)) 0 0 1 2 (litBin .add .u64 va 2) 1) 0) = (litBin .add .u64 va 2) := by rw [sT0 u2]; exact add0 (inU.add _ _)
  have y3 : yes (inU (litBin .shr .u64 x 24)) = true := yes_of (inU.shr hx 24 (by omega))
  have m3 : askM (szN (pq pg)) (szN (pq pg)) (szN (pq pg)) (putF (putF (putF (fun _ => 0) (szN (pq pg)) (litBin .add .u64 (sT (fun _ => 0) (szN (pq pg)) (szN (pq pg)) 0 0 1 2 (litBin .add .u64 va 0) 1) 0) 1 (litBin .shr .u64 x 0)) (szN (pq pg)) (litBin .add .u64 (sT (fun _ => 0) (szN (pq pg)) (szN (pq pg)) 0 0 1 2 (litBin .add .u64 va 1) 1) 0) 1 (litBin .shr .u64 x 8)) (szN (pq pg)) (litBin .add .u64 (sT (fun _ => 0) (szN (pq pg)) (szN (pq pg)) 0 0 1 2 (litBin .add .u64 va 2) 1) 0) 1 (litBin .shr .u64 x 16)) (litBin .add .u64 (sT (fun _ => 0) (szN (pq pg)) (szN (pq pg)) 0 0 1 2 (litBin .add .u64 va 3) 1) 0) 1 = true := askM_of (MemOk.put (MemOk.put (MemOk.put hm _ _ _) _ _ _) _ _ _) (inU.add _ _) (Page.inI_num rfl)
  have a3 : (litBin .add .u64 (sT (fun _ => 0) (szN (pq pg)) (szN (pq pg)) 0 0 1 2 (litBin .add .u64 va 3) 1) 0) = (litBin .add .u64 va 3) := by rw [sT0 u3]; exact add0 (inU.add _ _)
  have hmk : MemOk (szN (pq pg)) (putF (putF (putF (putF (fun _ => 0) (szN (pq pg)) (litBin .add .u64 (sT (fun _ => 0) (szN (pq pg)) (szN (pq pg)) 0 0 1 2 (litBin .add .u64 va 0) 1) 0) 1 (litBin .shr .u64 x 0)) (szN (pq pg)) (litBin .add .u64 (sT (fun _ => 0) (szN (pq pg)) (szN (pq pg)) 0 0 1 2 (litBin .add .u64 va 1) 1) 0) 1 (litBin .shr .u64 x 8)) (szN (pq pg)) (litBin .add .u64 (sT (fun _ => 0) (szN (pq pg)) (szN (pq pg)) 0 0 1 2 (litBin .add .u64 va 2) 1) 0) 1 (litBin .shr .u64 x 16)) (szN (pq pg)) (litBin .add .u64 (sT (fun _ => 0) (szN (pq pg)) (szN (pq pg)) 0 0 1 2 (litBin .add .u64 va 3) 1) 0) 1 (litBin .shr .u64 x 24)) := (MemOk.put (MemOk.put (MemOk.put (MemOk.put hm _ _ _) _ _ _) _ _ _) _ _ _)
  have aK : askL (szN (pq pg)) (szN (pq pg)) (szN (pq pg)) (putF (putF (putF (putF (fun _ => 0) (szN (pq pg)) (litBin .add .u64 (sT (fun _ => 0) (szN (pq pg)) (szN (pq pg)) 0 0 1 2 (litBin .add .u64 va 0) 1) 0) 1 (litBin .shr .u64 x 0)) (szN (pq pg)) (litBin .add .u64 (sT (fun _ => 0) (szN (pq pg)) (szN (pq pg)) 0 0 1 2 (litBin .add .u64 va 1) 1) 0) 1 (litBin .shr .u64 x 8)) (szN (pq pg)) (litBin .add .u64 (sT (fun _ => 0) (szN (pq pg)) (szN (pq pg)) 0 0 1 2 (litBin .add .u64 va 2) 1) 0) 1 (litBin .shr .u64 x 16)) (szN (pq pg)) (litBin .add .u64 (sT (fun _ => 0) (szN (pq pg)) (szN (pq pg)) 0 0 1 2 (litBin .add .u64 va 3) 1) 0) 1 (litBin .shr .u64 x 24)) 0 0 va 4 = true := yes_of ⟨⟨rfl, rfl, hmk, hN⟩, inU0, inU0, hva, rfl⟩
  refine ⟨cxF 4 true 4, _, _, _, cxF_ok 4 true 4, road4u_4 pg va x nn, ?_, ?_⟩
  · simp only [pL, pG, pU, hq, hne, a0g, a1g, a2g, a3g, y0, m0, y1, m1, y2, m2, y3, m3, aK, yi, Bool.and_self, Bool.not_false, Bool.not_true, Bool.cond_self, cond_true, cond_false, beq_self_eq_true, Bool.true_and, Bool.and_true]
    try rfl
  · have hG : ∃ G : Nat → Int, (putF (putF (putF (putF (fun _ => 0) (szN (pq pg)) (litBin .add .u64 (sT (fun _ => 0) (szN (pq pg)) (szN (pq pg)) 0 0 1 2 (litBin .add .u64 va 0) 1) 0) 1 (litBin .shr .u64 x 0)) (szN (pq pg)) (litBin .add .u64 (sT (fun _ => 0) (szN (pq pg)) (szN (pq pg)) 0 0 1 2 (litBin .add .u64 va 1) 1) 0) 1 (litBin .shr .u64 x 8)) (szN (pq pg)) (litBin .add .u64 (sT (fun _ => 0) (szN (pq pg)) (szN (pq pg)) 0 0 1 2 (litBin .add .u64 va 2) 1) 0) 1 (litBin .shr .u64 x 16)) (szN (pq pg)) (litBin .add .u64 (sT (fun _ => 0) (szN (pq pg)) (szN (pq pg)) 0 0 1 2 (litBin .add .u64 va 3) 1) 0) 1 (litBin .shr .u64 x 24)) = G ∧ ∀ i : Nat, i < 4 → G (Int.toNat (va - 2147483648) + i) = x / 256 ^ i % 256 := by
      refine ⟨_, rfl, fun i hi => ?_⟩
      have u0' : okS (szN (pq pg)) va 1 = true := by rw [← z0]; exact u0
      rw [a0, a1, a2, a3, put1 u0, put1 u1, put1 u2, put1 u3]
      have s0 := sub_at (i := 0) (k := 0) hle hva u0' (by omega)
      have s1 := sub_at (i := 1) (k := 0) hle hva u0' (by omega)
      have s2 := sub_at (i := 2) (k := 0) hle hva u0' (by omega)
      have s3 := sub_at (i := 3) (k := 0) hle hva u0' (by omega)
      rw [s0, s1, s2, s3]
      have w0 : IntKind.wrap .u8 (litBin .shr .u64 x 0) = x / 256 ^ 0 % 256 := byte_of hx 0 (by omega)
      have w1 : IntKind.wrap .u8 (litBin .shr .u64 x 8) = x / 256 ^ 1 % 256 := byte_of hx 1 (by omega)
      have w2 : IntKind.wrap .u8 (litBin .shr .u64 x 16) = x / 256 ^ 2 % 256 := byte_of hx 2 (by omega)
      have w3 : IntKind.wrap .u8 (litBin .shr .u64 x 24) = x / 256 ^ 3 % 256 := byte_of hx 3 (by omega)
      rw [w0, w1, w2, w3]
      unfold updF
      rcases (by omega : i = 0 ∨ i = 1 ∨ i = 2 ∨ i = 3) with rfl | rfl | rfl | rfl
      · simp
      · simp
      · simp
      · simp
    obtain ⟨G, hG, hB⟩ := hG
    unfold v4u_4
    rw [hG] at hmk ⊢
    have l0 : ldA G (szN (pq pg)) 0 0 0 va 0 = false := by unfold ldA; rw [sF0, u0]; rfl
    have l1 : ldA G (szN (pq pg)) 0 0 0 va 1 = false := by unfold ldA; rw [sF0, u1]; rfl
    have l2 : ldA G (szN (pq pg)) 0 0 0 va 2 = false := by unfold ldA; rw [sF0, u2]; rfl
    have l3 : ldA G (szN (pq pg)) 0 0 0 va 3 = false := by unfold ldA; rw [sF0, u3]; rfl
    have e0 : ldI G (szN (pq pg)) 0 0 0 va 4 = none := by unfold ldI; simp only [show ixs 4 = [0, 1, 2, 3] from rfl, firstL, l0, l1, l2, l3, cond_true, cond_false]
    have eF : ldF G (szN (pq pg)) 0 0 0 va 4 = false := by unfold ldF; rw [e0]
    have eX : ldX G (szN (pq pg)) 0 0 0 va 4 = orL (ldB G (szN (pq pg)) 0 0 0 va) 0 (ixs 4) := by unfold ldX; rw [e0]
    have u0' : okS (szN (pq pg)) va 1 = true := by rw [← z0]; exact u0
    have eB : ∀ i : Nat, i < 4 → ldB G (szN (pq pg)) 0 0 0 va (i : Int) = x / 256 ^ i % 256 := fun i hi => by
      have ui : okS (szN (pq pg)) (litBin .add .u64 va (i : Int)) 1 = true := hall.1 ho _ (by omega)
      unfold ldB
      rw [sT0 ui, get_byte ui, sub_at (k := 0) hle hva u0' (by omega), Int.toNat_natCast]
      exact hB i hi
    have hs : orL (ldB G (szN (pq pg)) 0 0 0 va) 0 (ixs 4) = x % 256 ^ 4 := by
      have h1 := sum_upto hx eB 4 (Nat.le_refl _) (by omega)
      exact h1
    have hx2 : litBin .and .u64 x 4294967295 = x % 256 ^ 4 := and_low hx 32 (by omega)
    rw [eF, eX, hs, hx2, a0, z0, eql_self, eql_self]
    rfl
noncomputable def v4a_0 (pg va x nn : Int) : Bool := (cond (inA (szN (pq pg)) va 4) false (cond (ldF (fun _ => 0) (szN (pq pg)) 0 0 0 va 4) (cond (litCmp .eql (sC (fun _ => 0) (szN (pq pg)) (szN (pq pg)) 0 0 1 2 (litBin .add .u64 va 0) 4) 7) (cond (litCmp .eql (ldC (fun _ => 0) (szN (pq pg)) 0 0 0 va 4) 5) (cond (litCmp .eql (sV (fun _ => 0) (szN (pq pg)) (szN (pq pg)) 0 0 1 2 (litBin .add .u64 va 0) 4) va) (litCmp .eql (ldV (fun _ => 0) (szN (pq pg)) 0 0 0 va 4) va) false) false) false) false))
set_option maxRecDepth 100000 in
theorem road4a_0 (pg va x nn : Int) : ((call Try.prog (cxA 4) 70 18 [.int .u8 (.sym pg), .agg [.int .u64 (.sym va), .int .u64 (.sym x)], .int .u8 (.sym nn)] []).route [true]).map (fun p => (p.1, p.2.1)) = some ([(((((!(litCmp .lss (pgs (pq pg)) 1)) && (!(litCmp .gtr (pgs (pq pg)) 16))) && (decide (0 ≤ (litBin .mul .i64 (pgs (pq pg)) 4096) ∧ (litBin .mul .i64 (pgs (pq pg)) 4096) < ((16777216 : Nat) : Int)))) && (((!(litCmp .lss (pgs (pq pg)) 1)) && (!(litCmp .gtr (pgs (pq pg)) 16))) && (decide (0 ≤ (litBin .mul .i64 (pgs (pq pg)) 4096) ∧ (litBin .mul .i64 (pgs (pq pg)) 4096) < ((16777216 : Nat) : Int))))) && ((szq 4 nn) && (((!(litCmp .neq (litBin .rem .u64 va 4) 0)) && (askG true (szN (pq pg)) (szN (pq pg)) (szN (pq pg)) (fun _ => 0) 0 0 1 2 (litBin .add .u64 va 0) 4)) && ((askL (szN (pq pg)) (szN (pq pg)) (szN (pq pg)) (fun _ => 0) 0 0 va 4) && (cond (inA (szN (pq pg)) va 4) true (!(litCmp .neq (litBin .rem .u64 va 4) 0)))))))], .val (.bool (.sym (v4a_0 pg va x nn)))) := by kernel_rfl
noncomputable def v4a_1 (pg va x nn : Int) : Bool := (cond (!(ldF (putF (putF (putF (putF (fun _ => 0) (szN (pq pg)) (litBin .add .u64 (sT (fun _ => 0) (szN (pq pg)) (szN (pq pg)) 0 0 1 2 (litBin .add .u64 va 0) 4) 0) 1 (litBin .shr .u64 x 0)) (szN (pq pg)) (litBin .add .u64 (sT (fun _ => 0) (szN (pq pg)) (szN (pq pg)) 0 0 1 2 (litBin .add .u64 va 0) 4) 1) 1 (litBin .shr .u64 x 8)) (szN (pq pg)) (litBin .add .u64 (sT (fun _ => 0) (szN (pq pg)) (szN (pq pg)) 0 0 1 2 (litBin .add .u64 va 0) 4) 2) 1 (litBin .shr .u64 x 16)) (szN (pq pg)) (litBin .add .u64 (sT (fun _ => 0) (szN (pq pg)) (szN (pq pg)) 0 0 1 2 (litBin .add .u64 va 0) 4) 3) 1 (litBin .shr .u64 x 24)) (szN (pq pg)) 0 0 0 va 4)) (cond (litCmp .eql (litBin .add .u64 (sT (fun _ => 0) (szN (pq pg)) (szN (pq pg)) 0 0 1 2 (litBin .add .u64 va 0) 4) 0) va) (litCmp .eql (ldX (putF (putF (putF (putF (fun _ => 0) (szN (pq pg)) (litBin .add .u64 (sT (fun _ => 0) (szN (pq pg)) (szN (pq pg)) 0 0 1 2 (litBin .add .u64 va 0) 4) 0) 1 (litBin .shr .u64 x 0)) (szN (pq pg)) (litBin .add .u64 (sT (fun _ => 0) (szN (pq pg)) (szN (pq pg)) 0 0 1 2 (litBin .add .u64 va 0) 4) 1) 1 (litBin .shr .u64 x 8)) (szN (pq pg)) (litBin .add .u64 (sT (fun _ => 0) (szN (pq pg)) (szN (pq pg)) 0 0 1 2 (litBin .add .u64 va 0) 4) 2) 1 (litBin .shr .u64 x 16)) (szN (pq pg)) (litBin .add .u64 (sT (fun _ => 0) (szN (pq pg)) (szN (pq pg)) 0 0 1 2 (litBin .add .u64 va 0) 4) 3) 1 (litBin .shr .u64 x 24)) (szN (pq pg)) 0 0 0 va 4) (litBin .and .u64 x 4294967295)) false) false)
set_option maxRecDepth 100000 in
theorem road4a_1 (pg va x nn : Int) : ((call Try.prog (cxF 4 false 1) 70 18 [.int .u8 (.sym pg), .agg [.int .u64 (.sym va), .int .u64 (.sym x)], .int .u8 (.sym nn)] []).route [true]).map (fun p => (p.1, p.2.1)) = some ([(((((!(litCmp .lss (pgs (pq pg)) 1)) && (!(litCmp .gtr (pgs (pq pg)) 16))) && (decide (0 ≤ (litBin .mul .i64 (pgs (pq pg)) 4096) ∧ (litBin .mul .i64 (pgs (pq pg)) 4096) < ((16777216 : Nat) : Int)))) && (((!(litCmp .lss (pgs (pq pg)) 1)) && (!(litCmp .gtr (pgs (pq pg)) 16))) && (decide (0 ≤ (litBin .mul .i64 (pgs (pq pg)) 4096) ∧ (litBin .mul .i64 (pgs (pq pg)) 4096) < ((16777216 : Nat) : Int))))) && ((szq 4 nn) && ((((!(litCmp .neq (litBin .rem .u64 va 4) 0)) && (askG false (szN (pq pg)) (szN (pq pg)) (szN (pq pg)) (fun _ => 0) 0 0 1 2 (litBin .add .u64 va 0) 4)) && ((askM (szN (pq pg)) (szN (pq pg)) (szN (pq pg)) (fun _ => 0) (litBin .add .u64 (sT (fun _ => 0) (szN (pq pg)) (szN (pq pg)) 0 0 1 2 (litBin .add .u64 va 0) 4) 0) 1 && yes (inU (litBin .shr .u64 x 0))) && ((askM (szN (pq pg)) (szN (pq pg)) (szN (pq pg)) (putF (fun _ => 0) (szN (pq pg)) (litBin .add .u64 (sT (fun _ => 0) (szN (pq pg)) (szN (pq pg)) 0 0 1 2 (litBin .add .u64 va 0) 4) 0) 1 (litBin .shr .u64 x 0)) (litBin .add .u64 (sT (fun _ => 0) (szN (pq pg)) (szN (pq pg)) 0 0 1 2 (litBin .add .u64 va 0) 4) 1) 1 && yes (inU (litBin .shr .u64 x 8))) && ((askM (szN (pq pg)) (szN (pq pg)) (szN (pq pg)) (putF (putF (fun _ => 0) (szN (pq pg)) (litBin .add .u64 (sT (fun _ => 0) (szN (pq pg)) (szN (pq pg)) 0 0 1 2 (litBin .add .u64 va 0) 4) 0) 1 (litBin .shr .u64 x 0)) (szN (pq pg)) (litBin .add .u64 (sT (fun _ => 0) (szN (pq pg)) (szN (pq pg)) 0 0 1 2 (litBin .add .u64 va 0) 4) 1) 1 (litBin .shr .u64 x 8)) (litBin .add .u64 (sT (fun _ => 0) (szN (pq pg)) (szN (pq pg)) 0 0 1 2 (litBin .add .u64 va 0) 4) 2) 1 && yes (inU (litBin .shr .u64 x 16))) && (askM (szN (pq pg)) (szN (pq pg)) (szN (pq pg)) (putF (putF (putF (fun _ => 0) (szN (pq pg)) (litBin .add .u64 (sT (fun _ => 0) (szN (pq pg)) (szN (pq pg)) 0 0 1 2 (litBin .add .u64 va 0) 4) 0) 1 (litBin .shr .u64 x 0)) (szN (pq pg)) (litBin .add .u64 (sT (fun _ => 0) (szN (pq pg)) (szN (pq pg)) 0 0 1 2 (litBin .add .u64 va 0) 4) 1) 1 (litBin .shr .u64 x 8)) (szN (pq pg)) (litBin .add .u64 (sT (fun _ => 0) (szN (pq pg)) (szN (pq pg)) 0 0 1 2 (litBin .add .u64 va 0) 4) 2) 1 (litBin .shr .u64 x 16)) (litBin .add .u64 (sT (fun _ => 0) (szN (pq pg)) (szN (pq pg)) 0 0 1 2 (litBin .add .u64 va 0) 4) 3) 1 && yes (inU (litBin .shr .u64 x 24))))))) && ((askL (szN (pq pg)) (szN (pq pg)) (szN (pq pg)) (putF (putF (putF (putF (fun _ => 0) (szN (pq pg)) (litBin .add .u64 (sT (fun _ => 0) (szN (pq pg)) (szN (pq pg)) 0 0 1 2 (litBin .add .u64 va 0) 4) 0) 1 (litBin .shr .u64 x 0)) (szN (pq pg)) (litBin .add .u64 (sT (fun _ => 0) (szN (pq pg)) (szN (pq pg)) 0 0 1 2 (litBin .add .u64 va 0) 4) 1) 1 (litBin .shr .u64 x 8)) (szN (pq pg)) (litBin .add .u64 (sT (fun _ => 0) (szN (pq pg)) (szN (pq pg)) 0 0 1 2 (litBin .add .u64 va 0) 4) 2) 1 (litBin .shr .u64 x 16)) (szN (pq pg)) (litBin .add .u64 (sT (fun _ => 0) (szN (pq pg)) (szN (pq pg)) 0 0 1 2 (litBin .add .u64 va 0) 4) 3) 1 (litBin .shr .u64 x 24)) 0 0 va 4) && (inA (szN (pq pg)) va 4)))))], .val (.bool (.sym (v4a_1 pg va x nn)))) := by kernel_rfl
theorem law4a {pg va x nn : Int} (hpg : 0 ≤ pg ∧ pg < 256) (hva : inU va) (hx : inU x) (wnn : 0 ≤ nn ∧ nn < 256) (hnn : sizeS nn = 4) (hal : decide (va % 4 = 0) = true) :
    ∃ (C : Cx DC) (ds cs : List Bool) (v : Bool), Ok Try.prog C ∧ ((call Try.prog C 70 18 [.int .u8 (.sym pg), .agg [.int .u64 (.sym va), .int .u64 (.sym x)], .int .u8 (.sym nn)] []).route ds).map (fun p => (p.1, p.2.1)) = some (cs, .val (.bool (.sym v))) ∧ cs = ds ∧ v = true := by
  have hp := pq_in hpg
  have hle : (szN (pq pg)) ≤ 65536 := (szN_eq hp).2
  have hN : (((szN (pq pg)) : Nat) : Int) % 8 = 0 := by
    rw [(szN_eq hp).1]
    omega
  have hm : MemOk (szN (pq pg)) (fun _ => 0) := MemOk.zero hle
  have hq : szq 4 nn = true := szq_of wnn hnn
  have hpi := pgs_in hp
  have pL : litCmp .lss (pgs (pq pg)) 1 = false := by rw [lss_eq]; exact decide_eq_false (by omega)
  have pG : litCmp .gtr (pgs (pq pg)) 16 = false := by rw [gtr_eq]; exact decide_eq_false (by omega)
  have pU : decide (0 ≤ (litBin .mul .i64 (pgs (pq pg)) 4096) ∧ (litBin .mul .i64 (pgs (pq pg)) 4096) < ((16777216 : Nat) : Int)) = true := (pgT_f hp).2
  have hne : litCmp .neq (litBin .rem .u64 va 4) 0 = false := by rw [neq0 hva, hal]; rfl
  have z0 : (litBin .add .u64 va 0) = va := add0 hva
  have hk : num 4 = true := rfl
  have hin : inA (szN (pq pg)) va 4 = okS (szN (pq pg)) va 4 := in_ok hle hva hk
  have hall := all_ok hle hva hk
  have aL : askL (szN (pq pg)) (szN (pq pg)) (szN (pq pg)) (fun _ => 0) 0 0 va 4 = true := yes_of ⟨⟨rfl, rfl, hm, hN⟩, inU0, inU0, hva, rfl⟩
  have q0 : askS (szN (pq pg)) (szN (pq pg)) (szN (pq pg)) (fun _ => 0) 0 0 1 2 (litBin .add .u64 va 0) 4 = true := Page.askS_t hm inU0 inU0 (inU.add _ _) rfl
  rcases Bool.eq_false_or_eq_true (okS (szN (pq pg)) va 4) with ho | ho
  rotate_left
  · have uz : okS (szN (pq pg)) (litBin .add .u64 va 0) 4 = false := by rw [z0]; exact ho
    have u0 : okS (szN (pq pg)) (litBin .add .u64 va 0) 1 = false := by
      have := Page.ok_same (t := va) (n := 4) (i := 0) hN hk (of_decide_eq_true hal) (by omega)
      rw [Int.add_zero] at this
      rw [z0]
      exact this.trans ho
    have f0 : sF (fun _ => 0) (szN (pq pg)) (szN (pq pg)) 0 0 1 2 (litBin .add .u64 va 0) 4 = true := by rw [sF0, uz]; rfl
    have ni : inA (szN (pq pg)) va 4 = false := by rw [hin]; exact ho
    have l0 : ldA (fun _ => 0) (szN (pq pg)) 0 0 0 va 0 = true := by unfold ldA; rw [sF0, u0]; rfl
    have e0 : ldI (fun _ => 0) (szN (pq pg)) 0 0 0 va 4 = some 0 := by unfold ldI; simp only [show ixs 4 = [0, 1, 2, 3] from rfl, firstL, l0, cond_true, cond_false]
    have eF : ldF (fun _ => 0) (szN (pq pg)) 0 0 0 va 4 = true := by unfold ldF; rw [e0]
    have eV : ldV (fun _ => 0) (szN (pq pg)) 0 0 0 va 4 = va := by unfold ldV; rw [e0]; exact z0
    have eC : ldC (fun _ => 0) (szN (pq pg)) 0 0 0 va 4 = 5 := by unfold ldC; rw [e0]; exact (sC0 u0).trans cau5
    have eS : sV (fun _ => 0) (szN (pq pg)) (szN (pq pg)) 0 0 1 2 (litBin .add .u64 va 0) 4 = va := (Page.sV_t f0).trans z0
    have eK : sC (fun _ => 0) (szN (pq pg)) (szN (pq pg)) 0 0 1 2 (litBin .add .u64 va 0) 4 = 7 := (sC0 uz).trans cau7
    have aI : askG true (szN (pq pg)) (szN (pq pg)) (szN (pq pg)) (fun _ => 0) 0 0 1 2 (litBin .add .u64 va 0) 4 = true := by unfold askG; rw [q0, f0]; rfl
    refine ⟨cxA 4, _, _, _, cxA_ok 4, road4a_0 pg va x nn, ?_, ?_⟩
    · simp only [pL, pG, pU, hq, hne, aI, aL, ni, Bool.and_self, Bool.not_false, Bool.not_true, Bool.cond_self, cond_true, cond_false, beq_self_eq_true, Bool.true_and, Bool.and_true]
      try rfl
    · unfold v4a_0
      simp only [ni, eF, eV, eC, eS, eK, eql_self, cond_true, cond_false]
      try rfl
  have u0 : okS (szN (pq pg)) (litBin .add .u64 va 0) 1 = true := hall.1 ho 0 (by omega)
  have u1 : okS (szN (pq pg)) (litBin .add .u64 va 1) 1 = true := hall.1 ho 1 (by omega)
  have u2 : okS (szN (pq pg)) (litBin .add .u64 va 2) 1 = true := hall.1 ho 2 (by omega)
  have u3 : okS (szN (pq pg)) (litBin .add .u64 va 3) 1 = true := hall.1 ho 3 (by omega)
  have f0 : sF (fun _ => 0) (szN (pq pg)) (szN (pq pg)) 0 0 1 2 (litBin .add .u64 va 0) 4 = false := by rw [sF0, z0, ho]; rfl
  have a0g : askG false (szN (pq pg)) (szN (pq pg)) (szN (pq pg)) (fun _ => 0) 0 0 1 2 (litBin .add .u64 va 0) 4 = true := by unfold askG; rw [q0, f0]; rfl
  have yi : inA (szN (pq pg)) va 4 = true := by rw [hin]; exact ho
  have y0 : yes (inU (litBin .shr .u64 x 0)) = true := yes_of (inU.shr hx 0 (by omega))
  have m0 : askM (szN (pq pg)) (szN (pq pg)) (szN (pq pg)) (fun _ => 0) (litBin .add .u64 (sT (fun _ => 0) (szN (pq pg)) (szN (pq pg)) 0 0 1 2 (litBin .add .u64 va 0) 4) 0) 1 = true := askM_of hm (inU.add _ _) (Page.inI_num rfl)
  have a0 : (litBin .add .u64 (sT (fun _ => 0) (szN (pq pg)) (szN (pq pg)) 0 0 1 2 (litBin .add .u64 va 0) 4) 0) = (litBin .add .u64 va 0) := by
    have e : sT (fun _ => 0) (szN (pq pg)) (szN (pq pg)) 0 0 1 2 (litBin .add .u64 va 0) 4 = va := (sT0 (by rw [z0]; exact ho)).trans z0
    rw [e]
  have y1 : yes (inU (litBin .shr .u64 x 8)) = true := yes_of (inU.shr hx 8 (by omega))
  have m1 : askM (szN (pq pg)) (szN (pq pg)) (szN (pq pg)) (putF (fun _ => 0) (szN (pq pg)) (litBin .add .u64 (sT (fun _ => 0) (szN (pq pg)) (szN (pq pg)) 0 0 1 2 (litBin .add .u64 va 0) 4) 0) 1 (litBin .shr .u64 x 0)) (litBin .add .u64 (sT (fun _ => 0) (szN (pq pg)) (szN (pq pg)) 0 0 1 2 (litBin .add .u64 va 0) 4) 1) 1 = true := askM_of (MemOk.put hm _ _ _) (inU.add _ _) (Page.inI_num rfl)
  have a1 : (litBin .add .u64 (sT (fun _ => 0) (szN (pq pg)) (szN (pq pg)) 0 0 1 2 (litBin .add .u64 va 0) 4) 1) = (litBin .add .u64 va 1) := by
    have e : sT (fun _ => 0) (szN (pq pg)) (szN (pq pg)) 0 0 1 2 (litBin .add .u64 va 0) 4 = va := (sT0 (by rw [z0]; exact ho)).trans z0
    rw [e]
  have y2 : yes (inU (litBin .shr .u64 x 16)) = true := yes_of (inU.shr hx 16 (by omega))
  have m2 : askM (szN (pq pg)) (szN (pq pg)) (szN (pq pg)) (putF (putF (fun _ => 0) (szN (pq pg)) (litBin .add .u64 (sT (fun _ => 0) (szN (pq pg)) (szN (pq pg)) 0 0 1 2 (litBin .add .u64 va 0) 4) 0) 1 (litBin .shr .u64 x 0)) (szN (pq pg)) (litBin .add .u64 (sT (fun _ => 0) (szN (pq pg)) (szN (pq pg)) 0 0 1 2 (litBin .add .u64 va 0) 4) 1) 1 (litBin .shr .u64 x 8)) (litBin .add .u64 (sT (fun _ => 0) (szN (pq pg)) (szN (pq pg)) 0 0 1 2 (litBin .add .u64 va 0) 4) 2) 1 = true := askM_of (MemOk.put (MemOk.put hm _ _ _) _ _ _) (inU.add _ _) (Page.inI_num rfl)
  have a2 : (litBin .add .u64 (sT (fun _ => 0) (szN (pq pg)) (szN (pq pg)) 0 0 1 2 (litBin .add .u64 va 0) 4) 2) = (litBin .add .u64 va 2) := by
    have e : sT (fun _ => 0) (szN (pq pg)) (szN (pq pg)) 0 0 1 2 (litBin .add .u64 va 0) 4 = va := (sT0 (by rw [z0]; exact ho)).trans z0
    rw [e]
  have y3 : yes (inU (litBin .shr .u64 x 24)) = true := yes_of (inU.shr hx 24 (by omega))
  have m3 : askM (szN (pq pg)) (szN (pq pg)) (szN (pq pg)) (putF (putF (putF (fun _ => 0) (szN (pq pg)) (litBin .add .u64 (sT (fun _ => 0) (szN (pq pg)) (szN (pq pg)) 0 0 1 2 (litBin .add .u64 va 0) 4) 0) 1 (litBin .shr .u64 x 0)) (szN (pq pg)) (litBin .add .u64 (sT (fun _ => 0) (szN (pq pg)) (szN (pq pg)) 0 0 1 2 (litBin .add .u64 va 0) 4) 1) 1 (litBin .shr .u64 x 8)) (szN (pq pg)) (litBin .add .u64 (sT (fun _ => 0) (szN (pq pg)) (szN (pq pg)) 0 0 1 2 (litBin .add .u64 va 0) 4) 2) 1 (litBin .shr .u64 x 16)) (litBin .add .u64 (sT (fun _ => 0) (szN (pq pg)) (szN (pq pg)) 0 0 1 2 (litBin .add .u64 va 0) 4) 3) 1 = true := askM_of (MemOk.put (MemOk.put (MemOk.put hm _ _ _) _ _ _) _ _ _) (inU.add _ _) (Page.inI_num rfl)
  have a3 : (litBin .add .u64 (sT (fun _ => 0) (szN (pq pg)) (szN (pq pg)) 0 0 1 2 (litBin .add .u64 va 0) 4) 3) = (litBin .add .u64 va 3) := by
    have e : sT (fun _ => 0) (szN (pq pg)) (szN (pq pg)) 0 0 1 2 (litBin .add .u64 va 0) 4 = va := (sT0 (by rw [z0]; exact ho)).trans z0
    rw [e]
  have hmk : MemOk (szN (pq pg)) (putF (putF (putF (putF (fun _ => 0) (szN (pq pg)) (litBin .add .u64 (sT (fun _ => 0) (szN (pq pg)) (szN (pq pg)) 0 0 1 2 (litBin .add .u64 va 0) 4) 0) 1 (litBin .shr .u64 x 0)) (szN (pq pg)) (litBin .add .u64 (sT (fun _ => 0) (szN (pq pg)) (szN (pq pg)) 0 0 1 2 (litBin .add .u64 va 0) 4) 1) 1 (litBin .shr .u64 x 8)) (szN (pq pg)) (litBin .add .u64 (sT (fun _ => 0) (szN (pq pg)) (szN (pq pg)) 0 0 1 2 (litBin .add .u64 va 0) 4) 2) 1 (litBin .shr .u64 x 16)) (szN (pq pg)) (litBin .add .u64 (sT (fun _ => 0) (szN (pq pg)) (szN (pq pg)) 0 0 1 2 (litBin .add .u64 va 0) 4) 3) 1 (litBin .shr .u64 x 24)) := (MemOk.put (MemOk.put (MemOk.put (MemOk.put hm _ _ _) _ _ _) _ _ _) _ _ _)
  have aK : askL (szN (pq pg)) (szN (pq pg)) (szN (pq pg)) (putF (putF (putF (putF (fun _ => 0) (szN (pq pg)) (litBin .add .u64 (sT (fun _ => 0) (szN (pq pg)) (szN (pq pg)) 0 0 1 2 (litBin .add .u64 va 0) 4) 0) 1 (litBin .shr .u64 x 0)) (szN (pq pg)) (litBin .add .u64 (sT (fun _ => 0) (szN (pq pg)) (szN (pq pg)) 0 0 1 2 (litBin .add .u64 va 0) 4) 1) 1 (litBin .shr .u64 x 8)) (szN (pq pg)) (litBin .add .u64 (sT (fun _ => 0) (szN (pq pg)) (szN (pq pg)) 0 0 1 2 (litBin .add .u64 va 0) 4) 2) 1 (litBin .shr .u64 x 16)) (szN (pq pg)) (litBin .add .u64 (sT (fun _ => 0) (szN (pq pg)) (szN (pq pg)) 0 0 1 2 (litBin .add .u64 va 0) 4) 3) 1 (litBin .shr .u64 x 24)) 0 0 va 4 = true := yes_of ⟨⟨rfl, rfl, hmk, hN⟩, inU0, inU0, hva, rfl⟩
  refine ⟨cxF 4 false 1, _, _, _, cxF_ok 4 false 1, road4a_1 pg va x nn, ?_, ?_⟩
  · simp only [pL, pG, pU, hq, hne, a0g, y0, m0, y1, m1, y2, m2, y3, m3, aK, yi, Bool.and_self, Bool.not_false, Bool.not_true, Bool.cond_self, cond_true, cond_false, beq_self_eq_true, Bool.true_and, Bool.and_true]
    try rfl
  · have hG : ∃ G : Nat → Int, (putF (putF (putF (putF (fun _ => 0) (szN (pq pg)) (litBin .add .u64 (sT (fun _ => 0) (szN (pq pg)) (szN (pq pg)) 0 0 1 2 (litBin .add .u64 va 0) 4) 0) 1 (litBin .shr .u64 x 0)) (szN (pq pg)) (litBin .add .u64 (sT (fun _ => 0) (szN (pq pg)) (szN (pq pg)) 0 0 1 2 (litBin .add .u64 va 0) 4) 1) 1 (litBin .shr .u64 x 8)) (szN (pq pg)) (litBin .add .u64 (sT (fun _ => 0) (szN (pq pg)) (szN (pq pg)) 0 0 1 2 (litBin .add .u64 va 0) 4) 2) 1 (litBin .shr .u64 x 16)) (szN (pq pg)) (litBin .add .u64 (sT (fun _ => 0) (szN (pq pg)) (szN (pq pg)) 0 0 1 2 (litBin .add .u64 va 0) 4) 3) 1 (litBin .shr .u64 x 24)) = G ∧ ∀ i : Nat, i < 4 → G (Int.toNat (va - 2147483648) + i) = x / 256 ^ i % 256 := by
      refine ⟨_, rfl, fun i hi => ?_⟩
      have u0' : okS (szN (pq pg)) va 1 = true := by rw [← z0]; exact u0
      rw [a0, a1, a2, a3, put1 u0, put1 u1, put1 u2, put1 u3]
      have s0 := sub_at (i := 0) (k := 0) hle hva u0' (by omega)
      have s1 := sub_at (i := 1) (k := 0) hle hva u0' (by omega)
      have s2 := sub_at (i := 2) (k := 0) hle hva u0' (by omega)
      have s3 := sub_at (i := 3) (k := 0) hle hva u0' (by omega)
      rw [s0, s1, s2, s3]
      have w0 : IntKind.wrap .u8 (litBin .shr .u64 x 0) = x / 256 ^ 0 % 256 := byte_of hx 0 (by omega)
      have w1 : IntKind.wrap .u8 (litBin .shr .u64 x 8) = x / 256 ^ 1 % 256 := byte_of hx 1 (by omega)
      have w2 : IntKind.wrap .u8 (litBin .shr .u64 x 16) = x / 256 ^ 2 % 256 := byte_of hx 2 (by omega)
      have w3 : IntKind.wrap .u8 (litBin .shr .u64 x 24) = x / 256 ^ 3 % 256 := byte_of hx 3 (by omega)
      rw [w0, w1, w2, w3]
      unfold updF
      rcases (by omega : i = 0 ∨ i = 1 ∨ i = 2 ∨ i = 3) with rfl | rfl | rfl | rfl
      · simp
      · simp
      · simp
      · simp
    obtain ⟨G, hG, hB⟩ := hG
    unfold v4a_1
    rw [hG] at hmk ⊢
    have l0 : ldA G (szN (pq pg)) 0 0 0 va 0 = false := by unfold ldA; rw [sF0, u0]; rfl
    have l1 : ldA G (szN (pq pg)) 0 0 0 va 1 = false := by unfold ldA; rw [sF0, u1]; rfl
    have l2 : ldA G (szN (pq pg)) 0 0 0 va 2 = false := by unfold ldA; rw [sF0, u2]; rfl
    have l3 : ldA G (szN (pq pg)) 0 0 0 va 3 = false := by unfold ldA; rw [sF0, u3]; rfl
    have e0 : ldI G (szN (pq pg)) 0 0 0 va 4 = none := by unfold ldI; simp only [show ixs 4 = [0, 1, 2, 3] from rfl, firstL, l0, l1, l2, l3, cond_true, cond_false]
    have eF : ldF G (szN (pq pg)) 0 0 0 va 4 = false := by unfold ldF; rw [e0]
    have eX : ldX G (szN (pq pg)) 0 0 0 va 4 = orL (ldB G (szN (pq pg)) 0 0 0 va) 0 (ixs 4) := by unfold ldX; rw [e0]
    have u0' : okS (szN (pq pg)) va 1 = true := by rw [← z0]; exact u0
    have eB : ∀ i : Nat, i < 4 → ldB G (szN (pq pg)) 0 0 0 va (i : Int) = x / 256 ^ i % 256 := fun i hi => by
      have ui : okS (szN (pq pg)) (litBin .add .u64 va (i : Int)) 1 = true := hall.1 ho _ (by omega)
      unfold ldB
      rw [sT0 ui, get_byte ui, sub_at (k := 0) hle hva u0' (by omega), Int.toNat_natCast]
      exact hB i hi
    have hs : orL (ldB G (szN (pq pg)) 0 0 0 va) 0 (ixs 4) = x % 256 ^ 4 := by
      have h1 := sum_upto hx eB 4 (Nat.le_refl _) (by omega)
      exact h1
    have hx2 : litBin .and .u64 x 4294967295 = x % 256 ^ 4 := and_low hx 32 (by omega)
    rw [eF, eX, hs, hx2, a0, z0, eql_self, eql_self]
    rfl
noncomputable def v8a_0 (pg va x nn : Int) : Bool := (cond (inA (szN (pq pg)) va 8) false (cond (ldF (fun _ => 0) (szN (pq pg)) 0 0 0 va 8) (cond (litCmp .eql (sC (fun _ => 0) (szN (pq pg)) (szN (pq pg)) 0 0 1 2 (litBin .add .u64 va 0) 8) 7) (cond (litCmp .eql (ldC (fun _ => 0) (szN (pq pg)) 0 0 0 va 8) 5) (cond (litCmp .eql (sV (fun _ => 0) (szN (pq pg)) (szN (pq pg)) 0 0 1 2 (litBin .add .u64 va 0) 8) va) (litCmp .eql (ldV (fun _ => 0) (szN (pq pg)) 0 0 0 va 8) va) false) false) false) false))
set_option maxRecDepth 100000 in
theorem road8a_0 (pg va x nn : Int) : ((call Try.prog (cxA 8) 70 18 [.int .u8 (.sym pg), .agg [.int .u64 (.sym va), .int .u64 (.sym x)], .int .u8 (.sym nn)] []).route [true]).map (fun p => (p.1, p.2.1)) = some ([(((((!(litCmp .lss (pgs (pq pg)) 1)) && (!(litCmp .gtr (pgs (pq pg)) 16))) && (decide (0 ≤ (litBin .mul .i64 (pgs (pq pg)) 4096) ∧ (litBin .mul .i64 (pgs (pq pg)) 4096) < ((16777216 : Nat) : Int)))) && (((!(litCmp .lss (pgs (pq pg)) 1)) && (!(litCmp .gtr (pgs (pq pg)) 16))) && (decide (0 ≤ (litBin .mul .i64 (pgs (pq pg)) 4096) ∧ (litBin .mul .i64 (pgs (pq pg)) 4096) < ((16777216 : Nat) : Int))))) && ((szq 8 nn) && (((!(litCmp .neq (litBin .rem .u64 va 8) 0)) && (askG true (szN (pq pg)) (szN (pq pg)) (szN (pq pg)) (fun _ => 0) 0 0 1 2 (litBin .add .u64 va 0) 8)) && ((askL (szN (pq pg)) (szN (pq pg)) (szN (pq pg)) (fun _ => 0) 0 0 va 8) && (cond (inA (szN (pq pg)) va 8) true (!(litCmp .neq (litBin .rem .u64 va 8) 0)))))))], .val (.bool (.sym (v8a_0 pg va x nn)))) := by kernel_rfl
noncomputable def v8a_1 (pg va x nn : Int) : Bool := (cond (!(ldF (putF (putF (putF (putF (putF (putF (putF (putF (fun _ => 0) (szN (pq pg)) (litBin .add .u64 (sT (fun _ => 0) (szN (pq pg)) (szN (pq pg)) 0 0 1 2 (litBin .add .u64 va 0) 8) 0) 1 (litBin .shr .u64 x 0)) (szN (pq pg)) (litBin .add .u64 (sT (fun _ => 0) (szN (pq pg)) (szN (pq pg)) 0 0 1 2 (litBin .add .u64 va 0) 8) 1) 1 (litBin .shr .u64 x 8)) (szN (pq pg)) (litBin .add .u64 (sT (fun _ => 0) (szN (pq pg)) (szN (pq pg)) 0 0 1 2 (litBin .add .u64 va 0) 8) 2) 1 (litBin .shr .u64 x 16)) (szN (pq pg)) (litBin .add .u64 (sT (fun _ => 0) (szN (pq pg)) (szN (pq pg)) 0 0 1 2 (litBin .add .u64 va 0) 8) 3) 1 (litBin .shr .u64 x 24)) (szN (pq pg)) (litBin .add .u64 (sT (fun _ => 0) (szN (pq pg)) (szN (pq pg)) 0 0 1 2 (litBin .add .u64 va 0) 8) 4) 1 (litBin .shr .u64 x 32)) (szN (pq pg)) (litBin .add .u64 (sT (fun _ => 0) (szN (pq pg)) (szN (pq pg)) 0 0 1 2 (litBin .add .u64 va 0) 8) 5) 1 (litBin .shr .u64 x 40)) (szN (pq pg)) (litBin .add .u64 (sT (fun _ => 0) (szN (pq pg)) (szN (pq pg)) 0 0 1 2 (litBin .add .u64 va 0) 8) 6) 1 (litBin .shr .u64 x 48)) (szN (pq pg)) (litBin .add .u64 (sT (fun _ => 0) (szN (pq pg)) (szN (pq pg)) 0 0 1 2 (litBin .add .u64 va 0) 8) 7) 1 (litBin .shr .u64 x 56)) (szN (pq pg)) 0 0 0 va 8)) (cond (litCmp .eql (litBin .add .u64 (sT (fun _ => 0) (szN (pq pg)) (szN (pq pg)) 0 0 1 2 (litBin .add .u64 va 0) 8) 0) va) (litCmp .eql (ldX (putF (putF (putF (putF (putF (putF (putF (putF (fun _ => 0) (szN (pq pg)) (litBin .add .u64 (sT (fun _ => 0) (szN (pq pg)) (szN (pq pg)) 0 0 1 2 (litBin .add .u64 va 0) 8) 0) 1 (litBin .shr .u64 x 0)) (szN (pq pg)) (litBin .add .u64 (sT (fun _ => 0) (szN (pq pg)) (szN (pq pg)) 0 0 1 2 (litBin .add .u64 va 0) 8) 1) 1 (litBin .shr .u64 x 8)) (szN (pq pg)) (litBin .add .u64 (sT (fun _ => 0) (szN (pq pg)) (szN (pq pg)) 0 0 1 2 (litBin .add .u64 va 0) 8) 2) 1 (litBin .shr .u64 x 16)) (szN (pq pg)) (litBin .add .u64 (sT (fun _ => 0) (szN (pq pg)) (szN (pq pg)) 0 0 1 2 (litBin .add .u64 va 0) 8) 3) 1 (litBin .shr .u64 x 24)) (szN (pq pg)) (litBin .add .u64 (sT (fun _ => 0) (szN (pq pg)) (szN (pq pg)) 0 0 1 2 (litBin .add .u64 va 0) 8) 4) 1 (litBin .shr .u64 x 32)) (szN (pq pg)) (litBin .add .u64 (sT (fun _ => 0) (szN (pq pg)) (szN (pq pg)) 0 0 1 2 (litBin .add .u64 va 0) 8) 5) 1 (litBin .shr .u64 x 40)) (szN (pq pg)) (litBin .add .u64 (sT (fun _ => 0) (szN (pq pg)) (szN (pq pg)) 0 0 1 2 (litBin .add .u64 va 0) 8) 6) 1 (litBin .shr .u64 x 48)) (szN (pq pg)) (litBin .add .u64 (sT (fun _ => 0) (szN (pq pg)) (szN (pq pg)) 0 0 1 2 (litBin .add .u64 va 0) 8) 7) 1 (litBin .shr .u64 x 56)) (szN (pq pg)) 0 0 0 va 8) (litBin .and .u64 x 18446744073709551615)) false) false)
set_option maxRecDepth 100000 in
theorem road8a_1 (pg va x nn : Int) : ((call Try.prog (cxF 8 false 1) 70 18 [.int .u8 (.sym pg), .agg [.int .u64 (.sym va), .int .u64 (.sym x)], .int .u8 (.sym nn)] []).route [true]).map (fun p => (p.1, p.2.1)) = some ([(((((!(litCmp .lss (pgs (pq pg)) 1)) && (!(litCmp .gtr (pgs (pq pg)) 16))) && (decide (0 ≤ (litBin .mul .i64 (pgs (pq pg)) 4096) ∧ (litBin .mul .i64 (pgs (pq pg)) 4096) < ((16777216 : Nat) : Int)))) && (((!(litCmp .lss (pgs (pq pg)) 1)) && (!(litCmp .gtr (pgs (pq pg)) 16))) && (decide (0 ≤ (litBin .mul .i64 (pgs (pq pg)) 4096) ∧ (litBin .mul .i64 (pgs (pq pg)) 4096) < ((16777216 : Nat) : Int))))) && ((szq 8 nn) && ((((!(litCmp .neq (litBin .rem .u64 va 8) 0)) && (askG false (szN (pq pg)) (szN (pq pg)) (szN (pq pg)) (fun _ => 0) 0 0 1 2 (litBin .add .u64 va 0) 8)) && ((askM (szN (pq pg)) (szN (pq pg)) (szN (pq pg)) (fun _ => 0) (litBin .add .u64 (sT (fun _ => 0) (szN (pq pg)) (szN (pq pg)) 0 0 1 2 (litBin .add .u64 va 0) 8) 0) 1 && yes (inU (litBin .shr .u64 x 0))) && ((askM (szN (pq pg)) (szN (pq pg)) (szN (pq pg)) (putF (fun _ => 0) (szN (pq pg)) (litBin .add .u64 (sT (fun _ => 0) (szN (pq pg)) (szN (pq pg)) 0 0 1 2 (litBin .add .u64 va 0) 8) 0) 1 (litBin .shr .u64 x 0)) (litBin .add .u64 (sT (fun _ => 0) (szN (pq pg)) (szN (pq pg)) 0 0 1 2 (litBin .add .u64 va 0) 8) 1) 1 && yes (inU (litBin .shr .u64 x 8))) && ((askM (szN (pq pg)) (szN (pq pg)) (szN (pq pg)) (putF (putF (fun _ => 0) (szN (pq pg)) (litBin .add .u64 (sT (fun _ => 0) (szN (pq pg)) (szN (pq pg)) 0 0 1 2 (litBin .add .u64 va 0) 8) 0) 1 (litBin .shr .u64 x 0)) (szN (pq pg)) (litBin .add .u64 (sT (fun _ => 0) (szN (pq pg)) (szN (pq pg)) 0 0 1 2 (litBin .add .u64 va 0) 8) 1) 1 (litBin .shr .u64 x 8)) (litBin .add .u64 (sT (fun _ => 0) (szN (pq pg)) (szN (pq pg)) 0 0 1 2 (litBin .add .u64 va 0) 8) 2) 1 && yes (inU (litBin .shr .u64 x 16))) && ((askM (szN (pq pg)) (szN (pq pg)) (szN (pq pg)) (putF (putF (putF (fun _ => 0) (szN (pq pg)) (litBin .add .u64 (sT (fun _ => 0) (szN (pq pg)) (szN (pq pg)) 0 0 1 2 (litBin .add .u64 va 0) 8) 0) 1 (litBin .shr .u64 x 0)) (szN (pq pg)) (litBin .add .u64 (sT (fun _ => 0) (szN (pq pg)) (szN (pq pg)) 0 0 1 2 (litBin .add .u64 va 0) 8) 1) 1 (litBin .shr .u64 x 8)) (szN (pq pg)) (litBin .add .u64 (sT (fun _ => 0) (szN (pq pg)) (szN (pq pg)) 0 0 1 2 (litBin .add .u64 va 0) 8) 2) 1 (litBin .shr .u64 x 16)) (litBin .add .u64 (sT (fun _ => 0) (szN (pq pg)) (szN (pq pg)) 0 0 1 2 (litBin .add .u64 va 0) 8) 3) 1 && yes (inU (litBin .shr .u64 x 24))) && ((askM (szN (pq pg)) (szN (pq pg)) (szN (pq pg)) (putF (putF (putF (putF (fun _ => 0) (szN (pq pg)) (litBin .add .u64 (sT (fun _ => 0) (szN (pq pg)) (szN (pq pg)) 0 0 1 2 (litBin .add .u64 va 0) 8) 0) 1 (litBin .shr .u64 x 0)) (szN (pq pg)) (litBin .add .u64 (sT (fun _ => 0) (szN (pq pg)) (szN (pq pg)) 0 0 1 2 (litBin .add .u64 va 0) 8) 1) 1 (litBin .shr .u64 x 8)) (szN (pq pg)) (litBin .add .u64 (sT (fun _ => 0) (szN (pq pg)) (szN (pq pg)) 0 0 1 2 (litBin .add .u64 va 0) 8) 2) 1 (litBin .shr .u64 x 16)) (szN (pq pg)) (litBin .add .u64 (sT (fun _ => 0) (szN (pq pg)) (szN (pq pg)) 0 0 1 2 (litBin .add .u64 va 0) 8) 3) 1 (litBin .shr .u64 x 24)) (litBin .add .u64 (sT (fun _ => 0) (szN (pq pg)) (szN (pq pg)) 0 0 1 2 (litBin .add .u64 va 0) 8) 4) 1 && yes (inU (litBin .shr .u64 x 32))) && ((askM (szN (pq pg)) (szN (pq pg)) (szN (pq pg)) (putF (putF (putF (putF (putF (fun _ => 0) (szN (pq pg)) (litBin .add .u64 (sT (fun _ => 0) (szN (pq pg)) (szN (pq pg)) 0 0 1 2 (litBin .add .u64 va 0) 8) 0) 1 (litBin .shr .u64 x 0)) (szN (pq pg)) (litBin .add .u64 (sT (fun _ => 0) (szN (pq pg)) (szN (pq pg)) 0 0 1 2 (litBin .add .u64 va 0) 8) 1) 1 (litBin .shr .u64 x 8)) (szN (pq pg)) (litBin .add .u64 (sT (fun _ => 0) (szN (pq pg)) (szN (pq pg)) 0 0 1 2 (litBin .add .u64 va 0) 8) 2) 1 (litBin .shr .u64 x 16)) (szN (pq pg)) (litBin .add .u64 (sT (fun _ => 0) (szN (pq pg)) (szN (pq pg)) 0 0 1 2 (litBin .add .u64 va 0) 8) 3) 1 (litBin .shr .u64 x 24)) (szN (pq pg)) (litBin .add .u64 (sT (fun _ => 0) (szN (pq pg)) (szN (pq pg)) 0 0 1 2 (litBin .add .u64 va 0) 8) 4) 1 (litBin .shr .u64 x 32)) (litBin .add .u64 (sT (fun _ => 0) (szN (pq pg)) (szN (pq pg)) 0 0 1 2 (litBin .add .u64 va 0) 8) 5) 1 && yes (inU (litBin .shr .u64 x 40))) && ((askM (szN (pq pg)) (szN (pq pg)) (szN (pq pg)) (putF (putF (putF (putF (putF (putF (fun _ => 0) (szN (pq pg)) (litBin .add .u64 (sT (fun _ => 0) (szN (pq pg)) (szN (pq pg)) 0 0 1 2 (litBin .add .u64 va 0) 8) 0) 1 (litBin .shr .u64 x 0)) (szN (pq pg)) (litBin .add .u64 (sT (fun _ => 0) (szN (pq pg)) (szN (pq pg)) 0 0 1 2 (litBin .add .u64 va 0) 8) 1) 1 (litBin .shr .u64 x 8)) (szN (pq pg)) (litBin .add .u64 (sT (fun _ => 0) (szN (pq pg)) (szN (pq pg)) 0 0 1 2 (litBin .add .u64 va 0) 8) 2) 1 (litBin .shr .u64 x 16)) (szN (pq pg)) (litBin .add .u64 (sT (fun _ => 0) (szN (pq pg)) (szN (pq pg)) 0 0 1 2 (litBin .add .u64 va 0) 8) 3) 1 (litBin .shr .u64 x 24)) (szN (pq pg)) (litBin .add .u64 (sT (fun _ => 0) (szN (pq pg)) (szN (pq pg)) 0 0 1 2 (litBin .add .u64 va 0) 8) 4) 1 (litBin .shr .u64 x 32)) (szN (pq pg)) (litBin .add .u64 (sT (fun _ => 0) (szN (pq pg)) (szN (pq pg)) 0 0 1 2 (litBin .add .u64 va 0) 8) 5) 1 (litBin .shr .u64 x 40)) (litBin .add .u64 (sT (fun _ => 0) (szN (pq pg)) (szN (pq pg)) 0 0 1 2 (litBin .add .u64 va 0) 8) 6) 1 && yes (inU (litBin .shr .u64 x 48))) && (askM (szN (pq pg)) (szN (pq pg)) (szN (pq pg)) (putF (putF (putF (putF (putF (putF (putF (fun _ => 0) (szN (pq pg)) (litBin .add .u64 (sT (fun _ => 0) (szN (pq pg)) (szN (pq pg)) 0 0 1 2 (litBin .add .u64 va 0) 8) 0) 1 (litBin .shr .u64 x 0)) (szN (pq pg)) (litBin .add .u64 (sT (fun _ => 0) (szN (pq pg)) (szN (pq pg)) 0 0 1 2 (litBin .add .u64 va 0) 8) 1) 1 (litBin .shr .u64 x 8)) (szN (pq pg)) (litBin .add .u64 (sT (fun _ => 0) (szN (pq pg)) (szN (pq pg)) 0 0 1 2 (litBin .add .u64 va 0) 8) 2) 1 (litBin .shr .u64 x 16)) (szN (pq pg)) (litBin .add .u64 (sT (fun _ => 0) (szN (pq pg)) (szN (pq pg)) 0 0 1 2 (litBin .add .u64 va 0) 8) 3) 1 (litBin .shr .u64 x 24)) (szN (pq pg)) (litBin .add .u64 (sT (fun _ => 0) (szN (pq pg)) (szN (pq pg)) 0 0 1 2 (litBin .add .u64 va 0) 8) 4) 1 (litBin .shr .u64 x 32)) (szN (pq pg)) (litBin .add .u64 (sT (fun _ => 0) (szN (pq pg)) (szN (pq pg)) 0 0 1 2 (litBin .add .u64 va 0) 8) 5) 1 (litBin .shr .u64 x 40)) (szN (pq pg)) (litBin .add .u64 (sT (fun _ => 0) (szN (pq pg)) (szN (pq pg)) 0 0 1 2 (litBin .add .u64 va 0) 8) 6) 1 (litBin .shr .u64 x 48)) (litBin .add .u64 (sT (fun _ => 0) (szN (pq pg)) (szN (pq pg)) 0 0 1 2 (litBin .add .u64 va 0) 8) 7) 1 && yes (inU (litBin .shr .u64 x 56))))))))))) && ((askL (szN (pq pg)) (szN (pq pg)) (szN (pq pg)) (putF (putF (putF (putF (putF (putF (putF (putF (fun _ => 0) (szN (pq pg)) (litBin .add .u64 (sT (fun _ => 0) (szN (pq pg)) (szN (pq pg)) 0 0 1 2 (litBin .add .u64 va 0) 8) 0) 1 (litBin .shr .u64 x 0)) (szN (pq pg)) (litBin .add .u64 (sT (fun _ => 0) (szN (pq pg)) (szN (pq pg)) 0 0 1 2 (litBin .add .u64 va 0) 8) 1) 1 (litBin .shr .u64 x 8)) (szN (pq pg)) (litBin .add .u64 (sT (fun _ => 0) (szN (pq pg)) (szN (pq pg)) 0 0 1 2 (litBin .add .u64 va 0) 8) 2) 1 (litBin .shr .u64 x 16)) (szN (pq pg)) (litBin .add .u64 (sT (fun _ => 0) (szN (pq pg)) (szN (pq pg)) 0 0 1 2 (litBin .add .u64 va 0) 8) 3) 1 (litBin .shr .u64 x 24)) (szN (pq pg)) (litBin .add .u64 (sT (fun _ => 0) (szN (pq pg)) (szN (pq pg)) 0 0 1 2 (litBin .add .u64 va 0) 8) 4) 1 (litBin .shr .u64 x 32)) (szN (pq pg)) (litBin .add .u64 (sT (fun _ => 0) (szN (pq pg)) (szN (pq pg)) 0 0 1 2 (litBin .add .u64 va 0) 8) 5) 1 (litBin .shr .u64 x 40)) (szN (pq pg)) (litBin .add .u64 (sT (fun _ => 0) (szN (pq pg)) (szN (pq pg)) 0 0 1 2 (litBin .add .u64 va 0) 8) 6) 1 (litBin .shr .u64 x 48)) (szN (pq pg)) (litBin .add .u64 (sT (fun _ => 0) (szN (pq pg)) (szN (pq pg)) 0 0 1 2 (litBin .add .u64 va 0) 8) 7) 1 (litBin .shr .u64 x 56)) 0 0 va 8) && (inA (szN (pq pg)) va 8)))))], .val (.bool (.sym (v8a_1 pg va x nn)))) := by kernel_rfl
theorem law8a {pg va x nn : Int} (hpg : 0 ≤ pg ∧ pg < 256) (hva : inU va) (hx : inU x) (wnn : 0 ≤ nn ∧ nn < 256) (hnn : sizeS nn = 8) (hal : decide (va % 8 = 0) = true) :
    ∃ (C : Cx DC) (ds cs : List Bool) (v : Bool), Ok Try.prog C ∧ ((call Try.prog C 70 18 [.int .u8 (.sym pg), .agg [.int .u64 (.sym va), .int .u64 (.sym x)], .int .u8 (.sym nn)] []).route ds).map (fun p => (p.1, p.2.1)) = some (cs, .val (.bool (.sym v))) ∧ cs = ds ∧ v = true := by
  have hp := pq_in hpg
  have hle : (szN (pq pg)) ≤ 65536 := (szN_eq hp).2
  have hN : (((szN (pq pg)) : Nat) : Int) % 8 = 0 := by
    rw [(szN_eq hp).1]
    omega
  have hm : MemOk (szN (pq pg)) (fun _ => 0) := MemOk.zero hle
  have hq : szq 8 nn = true := szq_of wnn hnn
  have hpi := pgs_in hp
  have pL : litCmp .lss (pgs (pq pg)) 1 = false := by rw [lss_eq]; exact decide_eq_false (by omega)
  have pG : litCmp .gtr (pgs (pq pg)) 16 = false := by rw [gtr_eq]; exact decide_eq_false (by omega)
  have pU : decide (0 ≤ (litBin .mul .i64 (pgs (pq pg)) 4096) ∧ (litBin .mul .i64 (pgs (pq pg)) 4096) < ((16777216 : Nat) : Int)) = true := (pgT_f hp).2
  have hne : litCmp .neq (litBin .rem .u64 va 8) 0 = false := by rw [neq0 hva, hal]; rfl
  have z0 : (litBin .add .u64 va 0) = va := add0 hva
  have hk : num 8 = true := rfl
  have hin : inA (szN (pq pg)) va 8 = okS (szN (pq pg)) va 8 := in_ok hle hva hk
  have hall := all_ok hle hva hk
  have aL : askL (szN (pq pg)) (szN (pq pg)) (szN (pq pg)) (fun _ => 0) 0 0 va 8 = true := yes_of ⟨⟨rfl, rfl, hm, hN⟩, inU0, inU0, hva, rfl⟩
  have q0 : askS (szN (pq pg)) (szN (pq pg)) (szN (pq pg)) (fun _ => 0) 0 0 1 2 (litBin .add .u64 va 0) 8 = true := Page.askS_t hm inU0 inU0 (inU.add _ _) rfl
  rcases Bool.eq_false_or_eq_true (okS (szN (pq pg)) va 8) with ho | ho
  rotate_left
  · have uz : okS (szN (pq pg)) (litBin .add .u64 va 0) 8 = false := by rw [z0]; exact ho
    have u0 : okS (szN (pq pg)) (litBin .add .u64 va 0) 1 = false := by
      have := Page.ok_same (t := va) (n := 8) (i := 0) hN hk (of_decide_eq_true hal) (by omega)
      rw [Int.add_zero] at this
      rw [z0]
      exact this.trans ho
    have f0 : sF (fun _ => 0) (szN (pq pg)) (szN (pq pg)) 0 0 1 2 (litBin .add .u64 va 0) 8 = true := by rw [sF0, uz]; rfl
    have ni : inA (szN (pq pg)) va 8 = false := by rw [hin]; exact ho
    have l0 : ldA (fun _ => 0) (szN (pq pg)) 0 0 0 va 0 = true := by unfold ldA; rw [sF0, u0]; rfl
    have e0 : ldI (fun _ => 0) (szN (pq pg)) 0 0 0 va 8 = some 0 := by unfold ldI; simp only [show ixs 8 = [0, 1, 2, 3, 4, 5, 6, 7] from rfl, firstL, l0, cond_true, cond_false]
    have eF : ldF (fun _ => 0) (szN (pq pg)) 0 0 0 va 8 = true := by unfold ldF; rw [e0]
    have eV : ldV (fun _ => 0) (szN (pq pg)) 0 0 0 va 8 = va := by unfold ldV; rw [e0]; exact z0
    have eC : ldC (fun _ => 0) (szN (pq pg)) 0 0 0 va 8 = 5 := by unfold ldC; rw [e0]; exact (sC0 u0).trans cau5
    have eS : sV (fun _ => 0) (szN (pq pg)) (szN (pq pg)) 0 0 1 2 (litBin .add .u64 va 0) 8 = va := (Page.sV_t f0).trans z0
    have eK : sC (fun _ => 0) (szN (pq pg)) (szN (pq pg)) 0 0 1 2 (litBin .add .u64 va 0) 8 = 7 := (sC0 uz).trans cau7
    have aI : askG true (szN (pq pg)) (szN (pq pg)) (szN (pq pg)) (fun _ => 0) 0 0 1 2 (litBin .add .u64 va 0) 8 = true := by unfold askG; rw [q0, f0]; rfl
    refine ⟨cxA 8, _, _, _, cxA_ok 8, road8a_0 pg va x nn, ?_, ?_⟩
    · simp only [pL, pG, pU, hq, hne, aI, aL, ni, Bool.and_self, Bool.not_false, Bool.not_true, Bool.cond_self, cond_true, cond_false, beq_self_eq_true, Bool.true_and, Bool.and_true]
      try rfl
    · unfold v8a_0
      simp only [ni, eF, eV, eC, eS, eK, eql_self, cond_true, cond_false]
      try rfl
  have u0 : okS (szN (pq pg)) (litBin .add .u64 va 0) 1 = true := hall.1 ho 0 (by omega)
  have u1 : okS (szN (pq pg)) (litBin .add .u64 va 1) 1 = true := hall.1 ho 1 (by omega)
  have u2 : okS (szN (pq pg)) (litBin .add .u64 va 2) 1 = true := hall.1 ho 2 (by omega)
  have u3 : okS (szN (pq pg)) (litBin .add .u64 va 3) 1 = true := hall.1 ho 3 (by omega)
  have u4 : okS (szN (pq pg)) (litBin .add .u64 va 4) 1 = true := hall.1 ho 4 (by omega)
  have u5 : okS (szN (pq pg)) (litBin .add .u64 va 5) 1 = true := hall.1 ho 5 (by omega)
  have u6 : okS (szN (pq pg)) (litBin .add .u64 va 6) 1 = true := hall.1 ho 6 (by omega)
  have u7 : okS (szN (pq pg)) (litBin .add .u64 va 7) 1 = true := hall.1 ho 7 (by omega)
  have f0 : sF (fun _ => 0) (szN (pq pg)) (szN (pq pg)) 0 0 1 2 (litBin .add .u64 va 0) 8 = false := by rw [sF0, z0, ho]; rfl
  have a0g : askG false (szN (pq pg)) (szN (pq pg)) (szN (pq pg)) (fun _ => 0) 0 0 1 2 (litBin .add .u64 va 0) 8 = true := by unfold askG; rw [q0, f0]; rfl
  have yi : inA (szN (pq pg)) va 8 = true := by rw [hin]; exact ho
  have y0 : yes (inU (litBin .shr .u64 x 0)) = true := yes_of (inU.shr hx 0 (by omega))
  have m0 : askM (szN (pq pg)) (szN (pq pg)) (szN (pq pg)) (fun _ => 0) (litBin .add .u64 (sT (fun _ => 0) (szN (pq pg)) (szN (pq pg)) 0 0 1 2 (litBin .add .u64 va 0) 8) 0) 1 = true := askM_of hm (inU.add _ _) (Page.inI_num rfl)
  have a0 : (litBin .add .u64 (sT (fun _ => 0) (szN (pq pg)) (szN (pq pg)) 0 0 1 2 (litBin .add .u64 va 0) 8) 0) = (litBin .add .u64 va 0) := by
    have e : sT (fun _ => 0) (szN (pq pg)) (szN (pq pg)) 0 0 1 2 (litBin .add .u64 va 0) 8 = va := (sT0 (by rw [z0]; exact ho)).trans z0
    rw [e]
  have y1 : yes (inU (litBin .shr .u64 x 8)) = true := yes_of (inU.shr hx 8 (by omega))
  have m1 : askM (szN (pq pg)) (szN (pq pg)) (szN (pq pg)) (putF (fun _ => 0) (szN (pq pg)) (litBin .add .u64 (sT (fun _ => 0) (szN (pq pg)) (szN (pq pg)) 0 0 1 2 (litBin .add .u64 va 0) 8) 0) 1 (litBin .shr .u64 x 0)) (litBin .add .u64 (sT (fun _ => 0) (szN (pq pg)) (szN (pq pg)) 0 0 1 2 (litBin .add .u64 va 0) 8) 1) 1 = true := askM_of (MemOk.put hm _ _ _) (inU.add _ _) (Page.inI_num rfl)
  have a1 : (litBin .add .u64 (sT (fun _ => 0) (szN (pq pg)) (szN (pq pg)) 0 0 1 2 (litBin .add .u64 va 0) 8) 1) = (litBin .add .u64 va 1) := by
    have e : sT (fun _ => 0) (szN (pq pg)) (szN (pq pg)) 0 0 1 2 (litBin .add .u64 va 0) 8 = va := (sT0 (by rw [z0]; exact ho)).trans z0
    rw [e]
  have y2 : yes (inU (litBin .shr .u64 x 16)) = true := yes_of (inU.shr hx 16 (by omega))
  have m2 : askM (szN (pq pg)) (szN (pq pg)) (szN (pq pg)) (putF (putF (fun _ => 0) (szN (pq pg)) (litBin .add .u64 (sT (fun _ => 0) (szN (pq pg)) (szN (pq pg)) 0 0 1 2 (litBin .add .u64 va 0) 8) 0) 1 (litBin .shr .u64 x 0)) (szN (pq pg)) (litBin .add .u64 (sT (fun _ => 0) (szN (pq pg)) (szN (pq pg)) 0 0 1 2 (litBin .add .u64 va 0) 8) 1) 1 (litBin .shr .u64 x 8)) (litBin .add .u64 (sT (fun _ => 0) (szN (pq pg)) (szN (pq pg)) 0 0 1 2 (litBin .add .u64 va 0) 8) 2) 1 = true := askM_of (MemOk.put (MemOk.put hm _ _ _) _ _ _) (inU.add _ _) (Page.inI_num rfl)
  have a2 : (litBin .add .u64 (sT (fun _ => 0) (szN (pq pg)) (szN (pq pg)) 0 0 1 2 (litBin .add .u64 va 0) 8) 2) = (litBin .add .u64 va 2) := by
    have e : sT (fun _ => 0) (szN (pq pg)) (szN (pq pg)) 0 0 1 2 (litBin .add .u64 va 0) 8 = va := (sT0 (by rw [z0]; exact ho)).trans z0
    rw [e]
  have y3 : yes (inU (litBin .shr .u64 x 24)) = true := yes_of (inU.shr hx 24 (by omega))
  have m3 : askM (szN (pq pg)) (szN (pq pg)) (szN (pq pg)) (putF (putF (putF (fun _ => 0) (szN (pq pg)) (litBin .add .u64 (sT (fun _ => 0) (szN (pq pg)) (szN (pq pg)) 0 0 1 2 (litBin .add .u64 va 0) 8) 0) 1 (litBin .shr .u64 x 0)) (szN (pq pg)) (litBin .add .u64 (sT (fun _ => 0) (szN (pq pg)) (szN (pq pg)) 0 0 1 2 (litBin .add .u64 va 0) 8) 1) 1 (litBin .shr .u64 x 8)) (szN (pq pg)) (litBin .add .u64 (sT (fun _ => 0) (szN (pq pg)) (szN (pq pg)) 0 0 1 2 (litBin .add .u64 va 0) 8) 2) 1 (litBin .shr .u64 x 16)) (litBin .add .u64 (sT (fun _ => 0) (szN (pq pg)) (szN (pq pg)) 0 0 1 2 (litBin .add .u64 va 0) 8) 3) 1 = true := askM_of (MemOk.put (MemOk.put (MemOk.put hm _ _ _) _ _ _) _ _ _) (inU.add _ _) (Page.inI_num rfl)
  have a3 : (litBin .add .u64 (sT (fun _ => 0) (szN (pq pg)) (szN (pq pg)) 0 0 1 2 (litBin .add .u64 va 0) 8) 3) = (litBin .add .u64 va 3) := by
    have e : sT (fun _ => 0) (szN (pq pg)) (szN (pq pg)) 0 0 1 2 (litBin .add .u64 va 0) 8 = va := (sT0 (by rw [z0]; exact ho)).trans z0
    rw [e]
  have y4 : yes (inU (litBin .shr .u64 x 32)) = true := yes_of (inU.shr hx 32 (by omega))
  have m4 : askM (szN (pq pg)) (szN (pq pg)) (szN (pq pg)) (putF (putF (putF (putF (fun _ => 0) (szN (pq pg)) (litBin .add .u64 (sT (fun _ => 0) (szN (pq pg)) (szN (pq pg)) 0 0 1 2 (litBin .add .u64 va 0) 8) 0) 1 (litBin .shr .u64 x 0)) (szN (pq pg)) (litBin .add .u64 (sT (fun _ => 0) (szN (pq pg)) (szN (pq pg)) 0 0 1 2 (litBin .add .u64 va 0) 8) 1) 1 (litBin .shr .u64 x 8)) (szN (pq pg)) (litBin .add .u64 (sT (fun _ => 0) (szN (pq pg)) (szN (pq pg)) 0 0 1 2 (litBin .add .u64 va 0) 8) 2) 1 (litBin .shr .u64 x 16)) (szN (pq pg)) (litBin .add .u64 (sT (fun _ => 0) (szN (pq pg)) (szN (pq pg)) 0 0 1 2 (litBin .add .u64 va 0) 8) 3) 1 (litBin .shr .u64 x 24)) (litBin .add .u64 (sT (fun _ => 0) (szN (pq pg)) (szN (pq pg)) 0 0 1 2 (litBin .add .u64 va 0) 8) 4) 1 = true := askM_of (MemOk.put (MemOk.put (MemOk.put (MemOk.put hm _ _ _) _ _ _) _ _ _) _ _ _) (inU.add _ _) (Page.inI_num rfl)
  have a4 : (litBin .add .u64 (sT (fun _ => 0) (szN (pq pg)) (szN (pq pg)) 0 0 1 2 (litBin .add .u64 va 0) 8) 4) = (litBin .add .u64 va 4) := by
    have e : sT (fun _ => 0) (szN (pq pg)) (szN (pq pg)) 0 0 1 2 (litBin .add .u64 va 0) 8 = va := (sT0 (by rw [z0]; exact ho)).trans z0
    rw [e]
  have y5 : yes (inU (litBin .shr .u64 x 40)) = true := yes_of (inU.shr hx 40 (by omega))
  have m5 : askM (szN (pq pg)) (szN (pq pg)) (szN (pq pg)) (putF (putF (putF (putF (putF (fun _ => 0) (szN (pq pg)) (litBin .add .u64 (sT (fun _ => 0) (szN (pq pg)) (szN (pq pg)) 0 0 1 2 (litBin .add .u64 va 0) 8) 0) 1 (litBin .shr .u64 x 0)) (szN (pq pg)) (litBin .add .u64 (sT (fun _ => 0) (szN (pq pg)) (szN (pq pg)) 0 0 1 2 (litBin .add .u64 va 0) 8) 1) 1 (litBin .shr .u64 x 8)) (szN (pq pg)) (litBin .add .u64 (sT (fun _ => 0) (szN (pq pg)) (szN (pq pg)) 0 0 1 2 (litBin .add .u64 va 0) 8) 2) 1 (litBin .shr .u64 x 16)) (szN (pq pg)) (litBin .add .u64 (sT (fun _ => 0) (szN (pq pg)) (szN (pq pg)) 0 0 1 2 (litBin .add .u64 va 0) 8) 3) 1 (litBin .shr .u64 x 24)) (szN (pq pg)) (litBin .add .u64 (sT (fun _ => 0) (szN (pq pg)) (szN (pq pg)) 0 0 1 2 (litBin .add .u64 va 0) 8) 4) 1 (litBin .shr .u64 x 32)) (litBin .add .u64 (sT (fun _ => 0) (szN (pq pg)) (szN (pq pg)) 0 0 1 2 (litBin .add .u64 va 0) 8) 5) 1 = true := askM_of (MemOk.put (MemOk.put (MemOk.put (MemOk.put (MemOk.put hm _ _ _) _ _ _) _ _ _) _ _ _) _ _ _) (inU.add _ _) (Page.inI_num rfl)
  have a5 : (litBin .add .u64 (sT (fun _ => 0) (szN (pq pg)) (szN (pq pg)) 0 0 1 2 (litBin .add .u64 va 0) 8) 5) = (litBin .add .u64 va 5) := by
    have e : sT (fun _ => 0) (szN (pq pg)) (szN (pq pg)) 0 0 1 2 (litBin .add .u64 va 0) 8 = va := (sT0 (by rw [z0]; exact ho)).trans z0
    rw [e]
  have y6 : yes (inU (litBin .shr .u64 x 48)) = true := yes_of (inU.shr hx 48 (by omega))
  have m6 : askM (szN (pq pg)) (szN (pq pg)) (szN (pq pg)) (putF (putF (putF (putF (putF (putF (fun _ => 0) (szN (pq pg)) (litBin .add .u64 (sT (fun _ => 0) (szN (pq pg)) (szN (pq pg)) 0 0 1 2 (litBin .add .u64 va 0) 8) 0) 1 (litBin .shr .u64 x 0)) (szN (pq pg)) (litBin .add .u64 (sT (fun _ => 0) (szN (pq pg)) (szN (pq pg)) 0 0 1 2 (litBin .add .u64 va 0) 8) 1) 1 (litBin .shr .u64 x 8)) (szN (pq pg)) (litBin .add .u64 (sT (fun _ => 0) (szN (pq pg)) (szN (pq pg)) 0 0 1 2 (litBin .add .u64 va 0) 8) 2) 1 (litBin .shr .u64 x 16)) (szN (pq pg)) (litBin .add .u64 (sT (fun _ => 0) (szN (pq pg)) (szN (pq pg)) 0 0 1 2 (litBin .add .u64 va 0) 8) 3) 1 (litBin .shr .u64 x 24)) (szN (pq pg)) (litBin .add .u64 (sT (fun _ => 0) (szN (pq pg)) (szN (pq pg)) 0 0 1 2 (litBin .add .u64 va 0) 8) 4) 1 (litBin .shr .u64 x 32)) (szN (pq pg)) (litBin .add .u64 (sT (fun _ => 0) (szN (pq pg)) (szN (pq pg)) 0 0 1 2 (litBin .add .u64 va 0) 8) 5) 1 (litBin .shr .u64 x 40)) (litBin .add .u64 (sT (fun _ => 0) (szN (pq pg)) (szN (pq pg)) 0 0 1 2 (litBin .add .u64 va 0) 8) 6) 1 = true := askM_of (MemOk.put (MemOk.put (MemOk.put (MemOk.put (MemOk.put (MemOk.put hm _ _ _) _ _ _) _ _ _) _ _ _) _ _ _) _ _ _) (inU.add _ _) (Page.inI_num rfl)
  have a6 : (litBin .add .u64 (sT (fun _ => 0) (szN (pq pg)) (szN (pq pg)) 0 0 1 2 (litBin .add .u64 va 0) 8) 6) = (litBin .add .u64 va 6) := by
    have e : sT (fun _ => 0) (szN (pq pg)) (szN (pq pg)) 0 0 1 2 (litBin .add .u64 va 0) 8 = va := (sT0 (by rw [z0]; exact ho)).trans z0
    rw [e]
  have y7 : yes (inU (litBin .shr .u64 x 56)) = true := yes_of (inU.shr hx 56 (by omega))
  have m7 : askM (szN (pq pg)) (szN (pq pg)) (szN (pq pg)) (putF (putF (putF (putF (putF (putF (putF (fun _ => 0) (szN (pq pg)) (litBin .add .u64 (sT (fun _ => 0) (szN (pq pg)) (szN (pq pg)) 0 0 1 2 (litBin .add .u64 va 0) 8) 0) 1 (litBin .shr .u64 x 0)) (szN (pq pg)) (litBin .add .u64 (sT (fun _ => 0) (szN (pq pg)) (szN (pq pg)) 0 0 1 2 (litBin .add .u64 va 0) 8) 1) 1 (litBin .shr .u64 x 8)) (szN (pq pg)) (litBin .add .u64 (sT (fun _ => 0) (szN (pq pg)) (szN (pq pg)) 0 0 1 2 (litBin .add .u64 va 0) 8) 2) 1 (litBin .shr .u64 x 16)) (szN (pq pg)) (litBin .add .u64 (sT (fun _ => 0) (szN (pq pg)) (szN (pq pg)) 0 0 1 2 (litBin .add .u64 va 0) 8) 3) 1 (litBin .shr .u64 x 24)) (szN (pq pg)) (litBin .add .u64 (sT (fun _ => 0) (szN (pq pg)) (szN (pq pg)) 0 0 1 2 (litBin .add .u64 va 0) 8) 4) 1 (litBin .shr .u64 x 32)) (szN (pq pg)) (litBin .add .u64 (sT (fun _ => 0) (szN (pq pg)) (szN (pq pg)) 0 0 1 2 (litBin .add .u64 va 0) 8) 5) 1 (litBin .shr .u64 x 40)) (szN (pq pg)) (litBin .add .u64 (sT (fun _ => 0) (szN (pq pg)) (szN (pq pg)) 0 0 1 2 (litBin .add .u64 va 0) 8) 6) 1 (litBin .shr .u64 x 48)) (litBin .add .u64 (sT (fun _ => 0) (szN (pq pg)) (szN (pq pg)) 0 0 1 2 (litBin .add .u64 va 0) 8) 7) 1 = true := askM_of (MemOk.put (MemOk.put (MemOk.put (MemOk.put (MemOk.put (MemOk.put (MemOk.put hm _ _ _) _ _ _) _ _ _) _ _ _) _ _ _) _ _ _) _ _ _) (inU.add _ _) (Page.inI_num rfl)
  have a7 : (litBin .add .u64 (sT (fun _ => 0) (szN (pq pg)) (szN (pq pg)) 0 0 1 2 (litBin .add .u64 va 0) 8) 7) = (litBin .add .u64 va 7) := by
    have e : sT (fun _ => 0) (szN (pq pg)) (szN (pq pg)) 0 0 1 2 (litBin .add .u64 va 0) 8 = va := (sT0 (by rw [z0]; exact ho)).trans z0
    rw [e]
  have hmk : MemOk (szN (pq pg)) (putF (putF (putF (putF (putF (putF (putF (putF (fun _ => 0) (szN (pq pg)) (litBin .add .u64 (sT (fun _ => 0) (szN (pq pg)) (szN (pq pg)) 0 0 1 2 (litBin .add .u64 va 0) 8) 0) 1 (litBin .shr .u64 x 0)) (szN (pq pg)) (litBin .add .u64 (sT (fun _ => 0) (szN (pq pg)) (szN (pq pg)) 0 0 1 2 (litBin .add .u64 va 0) 8) 1) 1 (litBin .shr .u64 x 8)) (szN (pq pg)) (litBin .add .u64 (sT (fun _ => 0) (szN (pq pg)) (szN (pq pg)) 0 0 1 2 (litBin .add .u64 va 0) 8) 2) 1 (litBin .shr .u64 x 16)) (szN (pq pg)) (litBin .add .u64 (sT (fun _ => 0) (szN (pq pg)) (szN (pq pg)) 0 0 1 2 (litBin .add .u64 va 0) 8) 3) 1 (litBin .shr .u64 x 24)) (szN (pq pg)) (litBin .add .u64 (sT (fun _ => 0) (szN (pq pg)) (szN (pq pg)) 0 0 1 2 (litBin .add .u64 va 0) 8) 4) 1 (litBin .shr .u64 x 32)) (szN (pq pg)) (litBin .add .u64 (sT (fun _ => 0) (szN (pq pg)) (szN (pq pg)) 0 0 1 2 (litBin .add .u64 va 0) 8) 5) 1 (litBin .shr .u64 x 40)) (szN (pq pg)) (litBin .add .u64 (sT (fun _ => 0) (szN (pq pg)) (szN (pq pg)) 0 0 1 2 (litBin .add .u64 va 0) 8) 6) 1 (litBin .shr .u64 x 48)) (szN (pq pg)) (litBin .add .u64 (sT (fun _ => 0) (szN (pq pg)) (szN (pq pg)) 0 0 1 2 (litBin .add .u64 va 0) 8) 7) 1 (litBin .shr .u64 x 56)) := (MemOk.put (MemOk.put (MemOk.put (MemOk.put (MemOk.put (MemOk.put (MemOk.put (MemOk.put hm _ _ _) _ _ _) _ _ _) _ _ _) _ _ _) _ _ _) _ _ _) _ _ _)
  have aK : askL (szN (pq pg)) (szN (pq pg)) (szN (pq pg)) (putF (putF (putF (putF (putF (putF (putF (putF (fun _ => 0) (szN (pq pg)) (litBin .add .u64 (sT (fun _ => 0) (szN (pq pg)) (szN (pq pg)) 0 0 1 2 (litBin .add .u64 va 0) 8) 0) 1 (litBin .shr .u64 x 0)) (szN (pq pg)) (litBin .add .u64 (sT (fun _ => 0) (szN (pq pg)) (szN (pq pg)) 0 0 1 2 (litBin .add .u64 va 0) 8) 1) 1 (litBin .shr .u64 x 8)) (szN (pq pg)) (litBin .add .u64 (sT (fun _ => 0) (szN (pq pg)) (szN (pq pg)) 0 0 1 2 (litBin .add .u64 va 0) 8) 2) 1 (litBin .shr .u64 x 16)) (szN (pq pg)) (litBin .add .u64 (sT (fun _ => 0) (szN (pq pg)) (szN (pq pg)) 0 0 1 2 (litBin .add .u64 va 0) 8) 3) 1 (litBin .shr .u64 x 24)) (szN (pq pg)) (litBin .add .u64 (sT (fun _ => 0) (szN (pq pg)) (szN (pq pg)) 0 0 1 2 (litBin .add .u64 va 0) 8) 4) 1 (litBin .shr .u64 x 32)) (szN (pq pg)) (litBin .add .u64 (sT (fun _ => 0) (szN (pq pg)) (szN (pq pg)) 0 0 1 2 (litBin .add .u64 va 0) 8) 5) 1 (litBin .shr .u64 x 40)) (szN (pq pg)) (litBin .add .u64 (sT (fun _ => 0) (szN (pq pg)) (szN (pq pg)) 0 0 1 2 (litBin .add .u64 va 0) 8) 6) 1 (litBin .shr .u64 x 48)) (szN (pq pg)) (litBin .add .u64 (sT (fun _ => 0) (szN (pq pg)) (szN (pq pg)) 0 0 1 2 (litBin .add .u64 va 0) 8) 7) 1 (litBin .shr .u64 x 56)) 0 0 va 8 = true := yes_of ⟨⟨rfl, rfl, hmk, hN⟩, inU0, inU0, hva, rfl⟩
  refine ⟨cxF 8 false 1, _, _, _, cxF_ok 8 false 1, road8a_1 pg va x nn, ?_, ?_⟩
  · simp only [pL, pG, pU, hq, hne, a0g, y0, m0, y1, m1, y2, m2, y3, m3, y4, m4, y5, m5, y6, m6, y7, m7, aK, yi, Bool.and_self, Bool.not_false, Bool.not_true, Bool.cond_self, cond_true, cond_false, beq_self_eq_true, Bool.true_and, Bool.and_true]
    try rfl
  · have hG : ∃ G : Nat → Int, (putF (putF (putF (putF (putF (putF (putF (putF (fun _ => 0) (szN (pq pg)) (litBin .add .u64 (sT (fun _ => 0) (szN (pq pg)) (szN (pq pg)) 0 0 1 2 (litBin .add .u64 va 0) 8) 0) 1 (litBin .shr .u64 x 0)) (szN (pq pg)) (litBin .add .u64 (sT (fun _ => 0) (szN (pq pg)) (szN (pq pg)) 0 0 1 2 (litBin .add .u64 va 0) 8) 1) 1 (litBin .shr .u64 x 8)) (szN (pq pg)) (litBin .add .u64 (sT (fun _ => 0) (szN (pq pg)) (szN (pq pg)) 0 0 1 2 (litBin .add .u64 va 0) 8) 2) 1 (litBin .shr .u64 x 16)) (szN (pq pg)) (litBin .add .u64 (sT (fun _ => 0) (szN (pq pg)) (szN (pq pg)) 0 0 1 2 (litBin .add .u64 va 0) 8) 3) 1 (litBin .shr .u64 x 24)) (szN (pq pg)) (litBin .add .u64 (sT (fun _ => 0) (szN (pq pg)) (szN (pq pg)) 0 0 1 2 (litBin .add .u64 va 0) 8) 4) 1 (litBin .shr .u64 x 32)) (szN (pq pg)) (litBin .add .u64 (sT (fun _ => 0) (szN (pq pg)) (szN (pq pg)) 0 0 1 2 (litBin .add .u64 va 0) 8) 5) 1 (litBin .shr .u64 x 40)) (szN (pq pg)) (litBin .add .u64 (sT (fun _ => 0) (szN (pq pg)) (szN (pq pg)) 0 0 1 2 (litBin .add .u64 va 0) 8) 6) 1 (litBin .shr .u64 x 48)) (szN (pq pg)) (litBin .add .u64 (sT (fun _ => 0) (szN (pq pg)) (szN (pq pg)) 0 0 1 2 (litBin .add .u64 va 0) 8) 7) 1 (litBin .shr .u64 x 56)) = G ∧ ∀ i : Nat, i < 8 → G (Int.toNat (va - 2147483648) + i) = x / 256 ^ i % 256 := by
      refine ⟨_, rfl, fun i hi => ?_⟩
      have u0' : okS (szN (pq pg)) va 1 = true := by rw [← z0]; exact u0
      rw [a0, a1, a2, a3, a4, a5, a6, a7, put1 u0, put1 u1, put1 u2, put1 u3, put1 u4, put1 u5, put1 u6, put1 u7]
      have s0 := sub_at (i := 0) (k := 0) hle hva u0' (by omega)
      have s1 := sub_at (i := 1) (k := 0) hle hva u0' (by omega)
      have s2 := sub_at (i := 2) (k := 0) hle hva u0' (by omega)
      have s3 := sub_at (i := 3) (k := 0) hle hva u0' (by omega)
      have s4 := sub_at (i := 4) (k := 0) hle hva u0' (by omega)
      have s5 := sub_at (i := 5) (k := 0) hle hva u0' (by omega)
      have s6 := sub_at (i := 6) (k := 0) hle hva u0' (by omega)
      have s7 := sub_at (i := 7) (k := 0) hle hva u0' (by omega)
      rw [s0, s1, s2, s3, s4, s5, s6, s7]
      have w0 : IntKind.wrap .u8 (litBin .shr .u64 x 0) = x / 256 ^ 0 % 256 := byte_of hx 0 (by omega)
      have w1 : IntKind.wrap .u8 (litBin .shr .u64 x 8) = x / 256 ^ 1 % 256 := byte_of hx 1 (by omega)
      have w2 : IntKind.wrap .u8 (litBin .shr .u64 x 16) = x / 256 ^ 2 % 256 := byte_of hx 2 (by omega)
      have w3 : IntKind.wrap .u8 (litBin .shr .u64 x 24) = x / 256 ^ 3 % 256 := byte_of hx 3 (by omega)
      have w4 : IntKind.wrap .u8 (litBin .shr .u64 x 32) = x / 256 ^ 4 % 256 := byte_of hx 4 (by omega)
      have w5 : IntKind.wrap .u8 (litBin .shr .u64 x 40) = x / 256 ^ 5 % 256 := byte_of hx 5 (by omega)
      have w6 : IntKind.wrap .u8 (litBin .shr .u64 x 48) = x / 256 ^ 6 % 256 := byte_of hx 6 (by omega)
      have w7 : IntKind.wrap .u8 (litBin .shr .u64 x 56) = x / 256 ^ 7 % 256 := byte_of hx 7 (by omega)
      rw [w0, w1, w2, w3, w4, w5, w6, w7]
      unfold updF
      rcases (by omega : i = 0 ∨ i = 1 ∨ i = 2 ∨ i = 3 ∨ i = 4 ∨ i = 5 ∨ i = 6 ∨ i = 7) with rfl | rfl | rfl | rfl | rfl | rfl | rfl | rfl
      · simp
      · simp
      · simp
      · simp
      · simp
      · simp
      · simp
      · simp
    obtain ⟨G, hG, hB⟩ := hG
    unfold v8a_1
    rw [hG] at hmk ⊢
    have l0 : ldA G (szN (pq pg)) 0 0 0 va 0 = false := by unfold ldA; rw [sF0, u0]; rfl
    have l1 : ldA G (szN (pq pg)) 0 0 0 va 1 = false := by unfold ldA; rw [sF0, u1]; rfl
    have l2 : ldA G (szN (pq pg)) 0 0 0 va 2 = false := by unfold ldA; rw [sF0, u2]; rfl
    have l3 : ldA G (szN (pq pg)) 0 0 0 va 3 = false := by unfold ldA; rw [sF0, u3]; rfl
    have l4 : ldA G (szN (pq pg)) 0 0 0 va 4 = false := by unfold ldA; rw [sF0, u4]; rfl
    have l5 : ldA G (szN (pq pg)) 0 0 0 va 5 = false := by unfold ldA; rw [sF0, u5]; rfl
    have l6 : ldA G (szN (pq pg)) 0 0 0 va 6 = false := by unfold ldA; rw [sF0, u6]; rfl
    have l7 : ldA G (szN (pq pg)) 0 0 0 va 7 = false := by unfold ldA; rw [sF0, u7]; rfl
    have e0 : ldI G (szN (pq pg)) 0 0 0 va 8 = none := by unfold ldI; simp only [show ixs 8 = [0, 1, 2, 3, 4, 5, 6, 7] from rfl, firstL, l0, l1, l2, l3, l4, l5, l6, l7, cond_true, cond_false]
    have eF : ldF G (szN (pq pg)) 0 0 0 va 8 = false := by unfold ldF; rw [e0]
    have eX : ldX G (szN (pq pg)) 0 0 0 va 8 = orL (ldB G (szN (pq pg)) 0 0 0 va) 0 (ixs 8) := by unfold ldX; rw [e0]
    have u0' : okS (szN (pq pg)) va 1 = true := by rw [← z0]; exact u0
    have eB : ∀ i : Nat, i < 8 → ldB G (szN (pq pg)) 0 0 0 va (i : Int) = x / 256 ^ i % 256 := fun i hi => by
      have ui : okS (szN (pq pg)) (litBin .add .u64 va (i : Int)) 1 = true := hall.1 ho _ (by omega)
      unfold ldB
      rw [sT0 ui, get_byte ui, sub_at (k := 0) hle hva u0' (by omega), Int.toNat_natCast]
      exact hB i hi
    have hs : orL (ldB G (szN (pq pg)) 0 0 0 va) 0 (ixs 8) = x % 256 ^ 8 := by
      have h1 := sum_upto hx eB 8 (Nat.le_refl _) (by omega)
      exact h1
    have hx2 : litBin .and .u64 x 18446744073709551615 = x % 256 ^ 8 := and_low hx 64 (by omega)
    rw [eF, eX, hs, hx2, a0, z0, eql_self, eql_self]
    rfl

theorem run : ∀ xs h, Abs [.plain (.one (.int .u8)), .plain (.agg [.int .u64, .int .u64]), .plain (.one (.int .u8))] 0 xs h → ∃ (X : Cx DC) (n : Nat) (b : AB DC) (l : List (W DC)), Ok Try.prog X ∧ (call Try.prog X n 18 xs h).pick = some (.val (.bool b), l) ∧ b.den = true := by
  rintro xs h ⟨_, as0, rfl, ⟨pg, rfl, wpg⟩, ⟨_, as1, rfl, ⟨_, rfl, ⟨_, _, rfl, ⟨va, rfl, wva⟩, ⟨_, _, rfl, ⟨x, rfl, wx⟩, rfl⟩⟩⟩, ⟨_, as2, rfl, ⟨nn, rfl, wnn⟩, rfl, rfl⟩⟩⟩
  rcases size_cases (wf8 wnn) with hz | hz | hz | hz
  · obtain ⟨C, ds, cs, v, hC, hr, hcs, hv⟩ := law1a (wf8 wpg) (inU_wf wva) (inU_wf wx) (wf8 wnn) hz (decide_eq_true (by omega))
    exact (road_at hr hcs).elim fun l hl => ⟨C, 70, .sym _, l, hC, hl, hv⟩
  · cases ha : decide (va % 2 = 0)
    · obtain ⟨C, ds, cs, v, hC, hr, hcs, hv⟩ := law2u (wf8 wpg) (inU_wf wva) (inU_wf wx) (wf8 wnn) hz ha
      exact (road_at hr hcs).elim fun l hl => ⟨C, 70, .sym _, l, hC, hl, hv⟩
    · obtain ⟨C, ds, cs, v, hC, hr, hcs, hv⟩ := law2a (wf8 wpg) (inU_wf wva) (inU_wf wx) (wf8 wnn) hz ha
      exact (road_at hr hcs).elim fun l hl => ⟨C, 70, .sym _, l, hC, hl, hv⟩
  · cases ha : decide (va % 4 = 0)
    · obtain ⟨C, ds, cs, v, hC, hr, hcs, hv⟩ := law4u (wf8 wpg) (inU_wf wva) (inU_wf wx) (wf8 wnn) hz ha
      exact (road_at hr hcs).elim fun l hl => ⟨C, 70, .sym _, l, hC, hl, hv⟩
    · obtain ⟨C, ds, cs, v, hC, hr, hcs, hv⟩ := law4a (wf8 wpg) (inU_wf wva) (inU_wf wx) (wf8 wnn) hz ha
      exact (road_at hr hcs).elim fun l hl => ⟨C, 70, .sym _, l, hC, hl, hv⟩
  · cases ha : decide (va % 8 = 0)
    · obtain ⟨C, ds, cs, v, hC, hr, hcs, hv⟩ := law8u (wf8 wpg) (inU_wf wva) (inU_wf wx) (wf8 wnn) hz ha
      exact (road_at hr hcs).elim fun l hl => ⟨C, 70, .sym _, l, hC, hl, hv⟩
    · obtain ⟨C, ds, cs, v, hC, hr, hcs, hv⟩ := law8a (wf8 wpg) (inU_wf wva) (inU_wf wx) (wf8 wnn) hz ha
      exact (road_at hr hcs).elim fun l hl => ⟨C, 70, .sym _, l, hC, hl, hv⟩

set_option maxRecDepth 100000 in
theorem lifted (os : Os) (started : os.Started) (H : Type) (enc : TypeId × Value → H) :
    ReturnsInHanded {} Try.checked os 18 .any (Rows.spaceAlignedSpec.pre6 enc Try.prog Try.f18 Rows.spaceAlignedRow.domain false) (Rows.spaceAlignedSpec.post enc Try.prog Try.f18 false true false false) := by
  refine returnsInHanded_of_change (C := Try.checked) own started (by kernel_rfl) Try.func18
    (ChangeSpec.witness6 (enc := enc) (C := Try.checked) false ⟨#[], #[.int .u8 0, .agg #[.int .u64 0, .int .u64 0], .int .u8 0], []⟩ 8 (by kernel_rfl) (by kernel_rfl) (by kernel_rfl) (by kernel_rfl)) ?_
  intro W base args ds gs before hval hW _ _
  exact lifted_cases (P := Try.prog) (f := 18) (fn := Try.f18) (s := Rows.spaceAlignedSpec) rfl
    (fun ds h => by
      match ds, h with
      | [d1, d2, d3], _ => rfl)
    (by kernel_rfl) rfl (by kernel_rfl) (by kernel_rfl) (by kernel_rfl) run W base args ds gs before hval hW
theorem closed : joinedFacts Try.prog 18 Try.f18 Rows.spaceAlignedSpec Rows.spaceAlignedRow = true := by
  unfold joinedFacts
  rw [may_enter, lifts_final, make_cut]
  repeat' (with_reducible refine Bool.and_eq_true_iff.mpr ⟨?_, ?_⟩)
  all_goals kernel_rfl

theorem over : Rows.spaceAlignedRow.holds Try.pinned (OpenSpec.ofChange Rows.spaceAlignedSpec) :=
  OpenClaim.holds_of_wide 18 Try.f18 rfl rfl rfl rfl rfl rfl rfl ⟨rfl, rfl, rfl, rfl, rfl⟩ rfl rfl rfl rfl rfl (by kernel_rfl) Try.func18 closed
    (of_decide_eq_true (by kernel_rfl)) (by unfold Func.isWrapper; first | (rw [if_pos (by decide +kernel)]; kernel_rfl) | (rw [if_neg (by decide +kernel)]; exact ⟨rfl, rfl⟩))
    (fun os started H enc _ => lifted os started H enc)

/-- The statement. -/
theorem proved : Rows.SpaceAlignedSaid :=
  over
#print axioms proved
end Go.Proofs.Ytngcbpcfgolifaa.SpaceAligned
