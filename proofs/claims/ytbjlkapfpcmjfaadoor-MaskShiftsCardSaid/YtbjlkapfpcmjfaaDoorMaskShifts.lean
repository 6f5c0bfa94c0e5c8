/- The statement 'MaskShifts': a mask from a hart on means the harts of the mask shifted so far; and none is meant by none, whatever the base. Conditions: the library's table reads as its initialiser lays it (the card ties that to the program's text). -/
import Derived.Test.YtbjlkapfpcmjfaaDoorDoor
namespace Go.Proofs.YtbjlkapfpcmjfaaDoor.MaskShifts
open Go.RowKit Go.WideShapes Go.ChangeShapes Go.ChangeAt Ev Mask
set_option linter.unusedVariables false
set_option linter.unusedSimpArgs false

noncomputable def test0 (m : Int) (b : Int) (n : Int) : Bool := ((inB (IntKind.wrap .u64 m) && inB (litBin .rem .u64 (IntKind.wrap .u64 b) 71)) && (((!(litCmp .lss (cond (litCmp .lss 56 (litBin .rem .u64 (IntKind.wrap .u64 b) 71)) 56 (litBin .rem .u64 (IntKind.wrap .u64 b) 71)) 0)) && (inB (litBin .shl .u64 (litBin .and .u64 (IntKind.wrap .u64 m) 255) (cond (litCmp .lss 56 (litBin .rem .u64 (IntKind.wrap .u64 b) 71)) 56 (litBin .rem .u64 (IntKind.wrap .u64 b) 71))) && inB 0)) && ((inB 0 && inB (litBin .rem .u64 (IntKind.wrap .u64 b) 71)) && (yes ((lenH (IntKind.wrap .u64 m) (litBin .rem .u64 (IntKind.wrap .u64 b) 71) n) = (lenH (litBin .shl .u64 (litBin .and .u64 (IntKind.wrap .u64 m) 255) (cond (litCmp .lss 56 (litBin .rem .u64 (IntKind.wrap .u64 b) 71)) 56 (litBin .rem .u64 (IntKind.wrap .u64 b) 71))) 0 n) ∧ (lenH (IntKind.wrap .u64 m) (litBin .rem .u64 (IntKind.wrap .u64 b) 71) n) = (lenH (IntKind.wrap .u64 m) (litBin .rem .u64 (IntKind.wrap .u64 b) 71) n) ∧ (lenH (IntKind.wrap .u64 m) (litBin .rem .u64 (IntKind.wrap .u64 b) 71) n) = (lenH (litBin .shl .u64 (litBin .and .u64 (IntKind.wrap .u64 m) 255) (cond (litCmp .lss 56 (litBin .rem .u64 (IntKind.wrap .u64 b) 71)) 56 (litBin .rem .u64 (IntKind.wrap .u64 b) 71))) 0 n) ∧ Eqs.Q (lenH (IntKind.wrap .u64 m) (litBin .rem .u64 (IntKind.wrap .u64 b) 71) n) (atH (IntKind.wrap .u64 m) (litBin .rem .u64 (IntKind.wrap .u64 b) 71) n) (atH (litBin .shl .u64 (litBin .and .u64 (IntKind.wrap .u64 m) 255) (cond (litCmp .lss 56 (litBin .rem .u64 (IntKind.wrap .u64 b) 71)) 56 (litBin .rem .u64 (IntKind.wrap .u64 b) 71))) 0 n))))))
noncomputable def val (m : Int) (b : Int) (n : Int) : Bool := (cond (litCmp .eql (((lenH 0 (litBin .rem .u64 (IntKind.wrap .u64 b) 71) n) : Nat) : Int) 0) (cond (okH 0 (litBin .rem .u64 (IntKind.wrap .u64 b) 71) n) (cond (litCmp .gtr (litBin .rem .u64 (IntKind.wrap .u64 b) 71) 56) (cond ((litCmp .eql m 0) == (okH (IntKind.wrap .u64 m) (litBin .rem .u64 (IntKind.wrap .u64 b) 71) n)) true (cond (litCmp .leq (litBin .rem .u64 (IntKind.wrap .u64 b) 71) 56) ((okH (IntKind.wrap .u64 m) (litBin .rem .u64 (IntKind.wrap .u64 b) 71) n) == (okH (litBin .shl .u64 (litBin .and .u64 (IntKind.wrap .u64 m) 255) (cond (litCmp .lss 56 (litBin .rem .u64 (IntKind.wrap .u64 b) 71)) 56 (litBin .rem .u64 (IntKind.wrap .u64 b) 71))) 0 n)) false)) (cond (litCmp .leq (litBin .rem .u64 (IntKind.wrap .u64 b) 71) 56) ((okH (IntKind.wrap .u64 m) (litBin .rem .u64 (IntKind.wrap .u64 b) 71) n) == (okH (litBin .shl .u64 (litBin .and .u64 (IntKind.wrap .u64 m) 255) (cond (litCmp .lss 56 (litBin .rem .u64 (IntKind.wrap .u64 b) 71)) 56 (litBin .rem .u64 (IntKind.wrap .u64 b) 71))) 0 n)) false)) false) false)
set_option maxRecDepth 100000 in
theorem road (m : Int) (b : Int) (n : Int) : ((call Tryd.prog cxl 60 3 [.int .u8 (.sym m), .int .u8 (.sym b), .int .i64 (.sym n)] []).route [true]).map (fun p => (p.1, p.2.1)) = some ([test0 m b n], .val (.bool (.sym (val m b n)))) := by kernel_rfl

theorem bits_small {m : Nat} (hm : m < 256) {t : Nat} (ht : 8 ≤ t) (ht' : t ≤ 64) : (List.range t).filter (fun i => m.testBit i) = bitsL m := by
  unfold bitsL
  have e' : (64 : Nat) = t + (64 - t) := by omega
  rw [List.range_eq_range', List.range_eq_range', e', ← List.range'_append_1, List.filter_append]
  have : (List.range' (0 + t) (64 - t)).filter (fun i => m.testBit i) = [] := List.filter_eq_nil_iff.2 fun i hi => by
    have := (List.mem_range'_1.1 hi).1
    have h8 : (2 : Nat) ^ 8 ≤ 2 ^ i := Nat.pow_le_pow_right (by decide) (by omega)
    rw [Nat.testBit_lt_two_pow (Nat.lt_of_lt_of_le (show m < 2 ^ 8 from hm) h8)]
    simp
  rw [this, List.append_nil]
theorem bits_shift {m s : Nat} (hm : m < 256) (hs : s ≤ 56) : bitsL (m * 2 ^ s) = (bitsL m).map fun i => s + i := by
  have hb : ∀ j, (m * 2 ^ s).testBit j = (decide (s ≤ j) && m.testBit (j - s)) := fun j => by rw [Nat.testBit_mul_two_pow]
  have e' : (64 : Nat) = s + (64 - s) := by omega
  rw [← bits_small hm (t := 64 - s) (by omega) (by omega)]
  conv => lhs; unfold bitsL
  rw [List.range_eq_range', e', ← List.range'_append_1, List.filter_append]
  have h1 : (List.range' 0 s).filter (fun i => (m * 2 ^ s).testBit i) = [] := List.filter_eq_nil_iff.2 fun i hi => by
    have := (List.mem_range'_1.1 hi).2
    rw [hb, decide_eq_false (by omega)]
    simp
  rw [h1, List.nil_append, Nat.zero_add, List.range'_eq_map_range, List.filter_map]
  congr 1
  rw [Nat.add_sub_cancel_left]
  refine List.filter_congr fun i _ => ?_
  simp only [Function.comp_apply]
  rw [hb, decide_eq_true (by omega), Nat.add_sub_cancel_left, Bool.true_and]
theorem shift_same {m s y : Nat} (hm : m < 256) (hs : s ≤ 56) : okN m s y = okN (m * 2 ^ s) 0 y ∧ listN m s y = listN (m * 2 ^ s) 0 y := by
  have a1 : maskOf m s y = m := if_neg (by omega)
  have a2 : baseOf s = s := if_neg (by omega)
  have a3 : maskOf (m * 2 ^ s) 0 y = m * 2 ^ s := if_neg (by omega)
  have a4 : baseOf 0 = 0 := rfl
  have hok : okN m s y = okN (m * 2 ^ s) 0 y := by
    unfold okN
    rw [a1, a2, a3, a4, bits_shift hm hs, List.all_map]
    congr 1
    funext i
    unfold pass
    simp only [Function.comp_apply]
    by_cases h : s + i < y
    · rw [decide_eq_true h, decide_eq_true (by omega : s < y), decide_eq_true (by omega : 0 < y), decide_eq_true (by omega : 0 + (s + i) < y)]
    · rw [decide_eq_false h, decide_eq_false (by omega : ¬ 0 + (s + i) < y), Bool.and_false, Bool.and_false]
  refine ⟨hok, ?_⟩
  unfold listN
  rw [← hok, a1, a2, a3, a4, bits_shift hm hs, List.map_map]
  split
  · refine List.map_congr_left fun i _ => ?_
    simp only [Function.comp_apply, Nat.zero_add]
  · rfl
theorem zero_N {s y : Nat} (hs : s < 71) : okN 0 s y = true ∧ listN 0 s y = [] := by
  have a1 : maskOf 0 s y = 0 := if_neg (by omega)
  have hb : bitsL 0 = [] := (bits_nil (by decide)).2 rfl
  have h1 : okN 0 s y = true := by unfold okN; rw [a1, hb]; rfl
  exact ⟨h1, by unfold listN; rw [h1, a1, hb]; rfl⟩
theorem far_N {m s y : Nat} (hm : m < 18446744073709551616) (h0 : m ≠ 0) (hs : s < 71) (hy : y ≤ s) : okN m s y = false ∧ listN m s y = [] := by
  have a1 : maskOf m s y = m := if_neg (by omega)
  have a2 : baseOf s = s := if_neg (by omega)
  have h1 : okN m s y = false := by
    unfold okN
    rw [a1, a2, bits_step h0 hm, List.all_cons]
    unfold pass
    rw [decide_eq_false (by omega : ¬ s < y)]
    rfl
  exact ⟨h1, by unfold listN; rw [h1]; rfl⟩
theorem top_N {m y : Nat} (hm : m < 256) (h0 : m ≠ 0) (hy : y ≤ 8) : okN (m * 2 ^ 56) 0 y = false ∧ listN (m * 2 ^ 56) 0 y = [] := by
  obtain ⟨h1, h2⟩ := shift_same (m := m) (s := 56) (y := y) hm (by decide)
  obtain ⟨h3, h4⟩ := far_N (m := m) (s := 56) (y := y) (by omega) h0 (by decide) (by omega)
  exact ⟨by rw [← h1, h3], by rw [← h2, h4]⟩
theorem wf8 {a : Int} (h : (Lit.int .u8 a).wf = true) : ∃ x : Nat, a = (x : Int) ∧ x < 256 := by
  simp [Lit.wf, IntKind.min, IntKind.max, IntKind.signed, IntKind.bits] at h
  exact ⟨a.toNat, by omega, by omega⟩
theorem rem_eq (b : Nat) : litBin .rem .u64 (b : Int) 71 = ((b % 71 : Nat) : Int) := by
  show Int.tmod (b : Int) 71 = _
  rw [Int.tmod_eq_emod_of_nonneg (by omega)]
  rfl
theorem and255 {m : Nat} (hm : m < 256) : litBin .and .u64 (m : Int) 255 = (m : Int) := by
  rw [show (255 : Int) = ((255 : Nat) : Int) from rfl, and_nat (by omega) (by decide)]
  rw [show (255 : Nat) = 2 ^ 8 - 1 from rfl, Nat.and_two_pow_sub_one_eq_mod, Nat.mod_eq_of_lt hm]
theorem shl_eq {m s : Nat} (hm : m < 256) (hs : s ≤ 56) : litBin .shl .u64 (m : Int) (s : Int) = ((m * 2 ^ s : Nat) : Int) ∧ m * 2 ^ s < 18446744073709551616 := by
  have hp : 2 ^ s ≤ 2 ^ 56 := Nat.pow_le_pow_right (by decide) hs
  have hlt : m * 2 ^ s < 18446744073709551616 := by
    have : m * 2 ^ s ≤ 255 * 2 ^ 56 := Nat.mul_le_mul (by omega) hp
    omega
  refine ⟨?_, hlt⟩
  show IntKind.u64.wrap ((m : Int) * 2 ^ (min ((s : Int).toNat) IntKind.u64.bits)) = _
  have e : min ((s : Int).toNat) IntKind.u64.bits = s := by rw [Int.toNat_natCast]; exact Nat.min_eq_left (Nat.le_trans hs (by decide))
  rw [e]
  have e2 : (m : Int) * 2 ^ s = ((m * 2 ^ s : Nat) : Int) := by rw [Int.natCast_mul, Int.natCast_pow]; rfl
  rw [e2, wrap_nat hlt]
theorem inB_of {m : Nat} (h : m < 18446744073709551616) : inB (m : Int) = true := decide_eq_true ⟨by omega, by omega⟩
theorem law {m b n : Int} (wm : (Lit.int .u8 m).wf = true) (wb : (Lit.int .u8 b).wf = true) (wn : (Lit.int .i64 n).wf = true) : test0 m b n = true ∧ val m b n = true := by
  obtain ⟨m, rfl, hm⟩ := wf8 wm
  obtain ⟨b, rfl, hb⟩ := wf8 wb
  have hk : b % 71 < 71 := Nat.mod_lt _ (by decide)
  have e1 : IntKind.u64.wrap (m : Int) = (m : Int) := wrap_nat (by omega)
  have e2 : litBin .rem .u64 (IntKind.u64.wrap (b : Int)) 71 = ((b % 71 : Nat) : Int) := by rw [wrap_nat (by omega), rem_eq]
  generalize b % 71 = k at *
  have hy := lanes_le n
  -- how far
  obtain ⟨s, hs, es⟩ : ∃ s : Nat, s ≤ 56 ∧ s = min k 56 := ⟨min k 56, by omega, rfl⟩
  have e3 : cond (litCmp .lss 56 ((k : Nat) : Int)) 56 ((k : Nat) : Int) = ((s : Nat) : Int) := by
    rw [lss_eq]
    by_cases h : 56 < k
    · rw [decide_eq_true (by omega), cond_true]; omega
    · rw [decide_eq_false (by omega), cond_false]; omega
  obtain ⟨e5, e6⟩ := shl_eq hm hs
  have same : okH (m : Int) (k : Int) n = okH ((m * 2 ^ s : Nat) : Int) 0 n ∧ listH (m : Int) (k : Int) n = listH ((m * 2 ^ s : Nat) : Int) 0 n := by
    show okN m k (lanes n) = okN (m * 2 ^ s) 0 (lanes n) ∧ listN m k (lanes n) = listN (m * 2 ^ s) 0 (lanes n)
    by_cases h : k ≤ 56
    · have : s = k := by omega
      rw [this]
      exact shift_same hm h
    · have h56 : s = 56 := by omega
      rw [h56]
      by_cases h0 : m = 0
      · subst h0
        obtain ⟨z1, z2⟩ := zero_N (s := k) (y := lanes n) hk
        obtain ⟨z3, z4⟩ := zero_N (s := 0) (y := lanes n) (by decide)
        rw [Nat.zero_mul, z1, z2, z3, z4]
        exact ⟨rfl, rfl⟩
      · obtain ⟨z1, z2⟩ := far_N (m := m) (s := k) (y := lanes n) (by omega) h0 hk (by omega)
        obtain ⟨z3, z4⟩ := top_N (m := m) (y := lanes n) hm h0 hy
        rw [z1, z2, z3, z4]
        exact ⟨rfl, rfl⟩
  obtain ⟨z1, z2⟩ := zero_N (s := k) (y := lanes n) hk
  have z1' : okH 0 (k : Int) n = true := z1
  have z2' : lenH 0 (k : Int) n = 0 := by unfold lenH; rw [show listH 0 (k : Int) n = [] from z2]; rfl
  constructor
  · unfold test0
    rw [e1, e2, and255 hm, e3, e5, inB_of (by omega), inB_of (by omega), inB_of e6, Ref.pos_nat]
    have hS : yes ((lenH (m : Int) (k : Int) n) = (lenH ((m * 2 ^ s : Nat) : Int) 0 n) ∧ (lenH (m : Int) (k : Int) n) = (lenH (m : Int) (k : Int) n) ∧ (lenH (m : Int) (k : Int) n) = (lenH ((m * 2 ^ s : Nat) : Int) 0 n) ∧ Eqs.Q (lenH (m : Int) (k : Int) n) (atH (m : Int) (k : Int) n) (atH ((m * 2 ^ s : Nat) : Int) 0 n)) = true := by
      refine yes_of ⟨?_, rfl, ?_, by have := lenH_le (m : Int) (k : Int) n; omega, fun i _ => ?_⟩
      · unfold lenH; rw [same.2]
      · unfold lenH; rw [same.2]
      · unfold atH; rw [same.2]
    rw [hS]
    rfl
  · unfold val
    rw [e1, e2, and255 hm, e3, e5, z1', z2', ← same.1, beq_self_eq_true]
    by_cases h : k ≤ 56
    · have g1 : litCmp .gtr ((k : Nat) : Int) 56 = false := by rw [gtr_eq]; exact decide_eq_false (by omega)
      have g2 : litCmp .leq ((k : Nat) : Int) 56 = true := by rw [leq_eq]; exact decide_eq_true (by omega)
      rw [g1, g2]
      rfl
    · have g1 : litCmp .gtr ((k : Nat) : Int) 56 = true := by rw [gtr_eq]; exact decide_eq_true (by omega)
      have g2 : litCmp .eql ((m : Nat) : Int) 0 = okH (m : Int) (k : Int) n := by
        rw [eql_eq]
        by_cases h0 : m = 0
        · subst h0
          rw [show okH ((0 : Nat) : Int) (k : Int) n = true from z1]
          rfl
        · obtain ⟨y1, _⟩ := far_N (m := m) (s := k) (y := lanes n) (by omega) h0 hk (by omega)
          rw [show okH ((m : Nat) : Int) (k : Int) n = false from y1]
          exact decide_eq_false (by omega)
      rw [g1, g2, beq_self_eq_true]
      rfl

theorem run : ∀ xs h, Abs [.plain (.one (.int .u8)), .plain (.one (.int .u8)), .plain (.one (.int .i64))] 0 xs h → ∃ b l, (call Tryd.prog cxl 60 3 xs h).pick = some (.val (.bool b), l) ∧ b.den = true := by
  rintro xs h ⟨_, as0, rfl, ⟨m, rfl, wm⟩, ⟨_, as1, rfl, ⟨b, rfl, wb⟩, ⟨_, as2, rfl, ⟨n, rfl, wn⟩, rfl, rfl⟩⟩⟩
  obtain ⟨t0, hv⟩ := law wm wb wn
  refine (road_at (road m b n) (show _ = _ from ?_)).elim fun l hl => ⟨.sym _, l, hl, hv⟩
  rw [t0]

set_option maxRecDepth 100000 in
theorem lifted (os : Os) (started : os.Started) (H : Type) (enc : TypeId × Value → H) :
    ReturnsInHanded {} Tryd.checked os 3 .any (fun w args => (Rows.maskShiftsSpec.pre enc Tryd.prog Tryd.f3 [] false w args ∧ laidMetH Tryd.prog laidT w) ∧ sizedMet enc Tryd.prog Tryd.f3 (OpenSpec.ofChange Rows.maskShiftsSpec) false w args)
      (Rows.maskShiftsSpec.post enc Tryd.prog Tryd.f3 false true false false) := by
  refine returnsInHanded_of_change_and (C := Tryd.checked) (X := fun w _ => laidMetH Tryd.prog laidT w) (fun _ _ _ hh h => h.of_heap hh) own started (by kernel_rfl) Tryd.func3
    (ChangeSpec.witness_shaped (enc := enc) (C := Tryd.checked) (os := os) (X := fun w _ => laidMetH Tryd.prog laidT w) false (World.doorLaid Tryd.prog 400 os) #[.int .u8 0, .int .u8 0, .int .i64 0] 8 rfl (World.shaped_of_RefB (by kernel_rfl) (by kernel_rfl)) (by kernel_rfl) (by kernel_rfl) (by kernel_rfl) (door_met os _)) ?_
  intro W base args ds gs before hval0 hW _ _ hL _
  exact lifted_rows (P := Tryd.prog) (f := 3) (fn := Tryd.f3) (s := Rows.maskShiftsSpec) cxl_ok (n := 60) rfl
    (fun ds h => by
      match ds, h with
      | [d1, d2, d3], _ => rfl)
    (by kernel_rfl) rfl (by kernel_rfl) (by kernel_rfl) (by kernel_rfl) run W base args ds gs before hval0 hW (pin_of hL)

theorem over : Rows.MaskShiftsSaid :=
  OpenClaim.holds_of_wide 3 Tryd.f3 rfl rfl rfl rfl rfl rfl rfl ⟨rfl, rfl, rfl, rfl, rfl⟩ rfl rfl rfl rfl rfl (by kernel_rfl) Tryd.func3 (by kernel_rfl)
    (of_decide_eq_true (by kernel_rfl)) (by unfold Func.isWrapper; first | (rw [if_pos (by decide +kernel)]; kernel_rfl) | (rw [if_neg (by decide +kernel)]; exact ⟨rfl, rfl⟩))
    (fun os started H enc _ => lifted os started H enc)

/-- The statement. -/
theorem proved : Rows.MaskShiftsCardSaid :=
  Claim7.holds_tied_plain_at .later [] [.data] true (true, "5cf1515ca18a25668685078fb5d0ec4d4af7631064a11983c22f11ed67e0744f") false
    over (fun _ h => by cases h) (by kernel_rfl) (fun _ h => by cases h) maskShifts_row_tie rfl ⟨rfl, rfl⟩ (by kernel_rfl) rfl
    (fun f fn hf hfn => by
      obtain rfl : f = 3 := Option.some.inj ((show Tryd.prog.funcNamed "suzerain/suzerainlaw16.MaskShifts" = some 3 by kernel_rfl).symm.trans hf) |>.symm
      obtain rfl : fn = Tryd.f3 := (Option.some.inj (Tryd.func3.symm.trans hfn)).symm
      exact ⟨by kernel_rfl, fun j t ht => by
        have hall : (Tryd.f3.params.toList.all fun u => !Tryd.prog.wantsStandIn u) = true := by kernel_rfl
        have hm : t ∈ Tryd.f3.params.toList := by simpa using Array.mem_of_getElem? ht
        exact (show Tryd.prog.wantsStandIn t = false by simpa using List.all_eq_true.1 hall t hm)⟩)
    (by kernel_rfl)
#print axioms proved
end Go.Proofs.YtbjlkapfpcmjfaaDoor.MaskShifts
