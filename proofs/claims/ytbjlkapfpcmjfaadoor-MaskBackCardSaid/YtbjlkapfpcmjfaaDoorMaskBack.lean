/- The statement 'MaskBack': the harts of a mask, as a mask again, are that mask; they rise, and are below how many there are; and a base of all ones means all. Conditions: the library's table reads as its initialiser lays it (the card ties that to the program's text). -/
import Derived.Test.YtbjlkapfpcmjfaaDoorDoor
import Derived.Test.YtbjlkapfpcmjfaaDoorBackLoop
namespace Go.Proofs.YtbjlkapfpcmjfaaDoor.MaskBack
open Go.RowKit Go.WideShapes Go.ChangeShapes Go.ChangeAt Ev Mask
set_option linter.unusedVariables false
set_option linter.unusedSimpArgs false

noncomputable def test0 (m : Int) (n : Int) : Bool := (inB m && inB 0)
noncomputable def test1 (m : Int) (n : Int) : Bool := (inB m && inB 18446744073709551615)
noncomputable def test2 (m : Int) (n : Int) : Bool := (cond (!(okH m 18446744073709551615 n)) true (cond (litCmp .neq (((lenH m 18446744073709551615 n) : Nat) : Int) (cond (litCmp .lss 8 (cond (litCmp .gtr 0 n) 0 n)) 8 (cond (litCmp .gtr 0 n) 0 n))) true (!(litCmp .lss (cond (litCmp .lss 8 (cond (litCmp .gtr 0 n) 0 n)) 8 (cond (litCmp .gtr 0 n) 0 n)) 0))))
noncomputable def test3 (m : Int) (n : Int) : Bool := (cond (!(okH m 18446744073709551615 n)) true (cond (litCmp .neq (((lenH m 18446744073709551615 n) : Nat) : Int) (cond (litCmp .lss 8 (cond (litCmp .gtr 0 n) 0 n)) 8 (cond (litCmp .gtr 0 n) 0 n))) true (cond (!((okH m 0 n) == (litCmp .eql (litBin .shr .u64 m (cond (litCmp .lss 8 (cond (litCmp .gtr 0 n) 0 n)) 8 (cond (litCmp .gtr 0 n) 0 n))) 0))) true (cond (!(okH m 0 n)) (litCmp .neq (((lenH m 0 n) : Nat) : Int) 0) false))))
noncomputable def test4 (m : Int) (n : Int) : Bool := ((Back.askB ⟨[m, (cond (litCmp .lss 8 (cond (litCmp .gtr 0 n) 0 n)) 8 (cond (litCmp .gtr 0 n) 0 n)), 0], [(okH m 0 n)], [(lenH m 0 n), (lenH m 0 n)], [(atH m 0 n)]⟩) && (cond (!(okH m 0 n)) true (yes (Ofs.Q (lenH m 0 n) (lenH m 0 n)))))
noncomputable def val (m : Int) (n : Int) : Bool := (cond (!(okH m 0 n)) true (litCmp .eql (ofI (atH m 0 n) (lenH m 0 n)) m))
set_option maxRecDepth 100000 in
theorem road (m : Int) (n : Int) : ((call Tryd.prog Back.cxb 60 6 [.int .u64 (.sym m), .int .i64 (.sym n)] []).route [true, true, true, false, true]).map (fun p => (p.1, p.2.1)) = some ([test0 m n, test1 m n, test2 m n, test3 m n, test4 m n], .val (.bool (.sym (val m n)))) := by kernel_rfl

theorem inB_of {m : Nat} (h : m < 18446744073709551616) : inB (m : Int) = true := decide_eq_true ⟨by omega, by omega⟩
theorem ok_iff {m y : Nat} (hm : m < 18446744073709551616) : okN m 0 y = decide (m < 2 ^ y) := by
  have a1 : maskOf m 0 y = m := if_neg (by decide)
  unfold okN
  rw [a1]
  by_cases h : m < 2 ^ y
  · rw [decide_eq_true h, List.all_eq_true]
    intro i hi
    have hb := (mem_bits.1 hi).2
    have hlt : i < y := by
      rcases Nat.lt_or_ge i y with h1 | h1
      · exact h1
      · rw [Nat.testBit_lt_two_pow (Nat.lt_of_lt_of_le h (Nat.pow_le_pow_right (by decide) h1))] at hb
        cases hb
    show (decide (0 < y) && decide (0 + i < y)) = true
    rw [decide_eq_true (by omega), decide_eq_true (by omega)]
    rfl
  · rw [decide_eq_false h]
    rw [List.all_eq_false]
    have : ∃ i, i ≥ y ∧ m.testBit i = true := Nat.exists_ge_and_testBit_of_ge_two_pow (Nat.le_of_not_lt h)
    obtain ⟨i, h1, h2⟩ := this
    have hi : i < 64 := by
      rcases Nat.lt_or_ge i 64 with h3 | h3
      · exact h3
      · rw [Nat.testBit_lt_two_pow (Nat.lt_of_lt_of_le (show m < 2 ^ 64 from hm) (Nat.pow_le_pow_right (by decide) h3))] at h2
        cases h2
    refine ⟨i, mem_bits.2 ⟨hi, h2⟩, ?_⟩
    show ¬(decide (0 < y) && decide (0 + i < y)) = true
    rw [decide_eq_false (by omega : ¬ 0 + i < y), Bool.and_false]
    simp
theorem shr_eq {m y : Nat} (hy : y ≤ 8) : litCmp .eql (litBin .shr .u64 (m : Int) ((y : Nat) : Int)) 0 = decide (m < 2 ^ y) := by
  rw [shr_nat m y (by omega), eql_eq, Nat.shiftRight_eq_div_pow]
  congr 1
  apply propext
  have hp : 0 < 2 ^ y := Nat.two_pow_pos y
  rw [← Nat.div_eq_zero_iff_lt hp]
  omega
/-- The list's numbers, in order. -/
theorem list_at {m y i : Nat} (hok : okN m 0 y = true) (hi : i < (bitsL m).length) : listF (listN m 0 y) i = (((bitsL m)[i]'hi : Nat) : Int) := by
  have a1 : maskOf m 0 y = m := if_neg (by decide)
  have a2 : baseOf 0 = 0 := rfl
  unfold listF listN
  rw [if_pos hok, a1, a2, List.getD_eq_getElem?_getD, List.getElem?_map, List.getElem?_eq_getElem hi]
  simp
theorem len_ok {m y : Nat} (hok : okN m 0 y = true) : (listN m 0 y).length = (bitsL m).length := by
  have a1 : maskOf m 0 y = m := if_neg (by decide)
  unfold listN
  rw [if_pos hok, a1, List.length_map]
theorem len_no {m y : Nat} (hok : okN m 0 y = false) : (listN m 0 y).length = 0 := by unfold listN; rw [hok]; rfl
theorem rises (m : Nat) : (bitsL m).Pairwise (· < ·) := List.Pairwise.filter _ List.pairwise_lt_range
/-- The mask of places. -/
theorem of_places (g : Nat → Nat) (F : Nat → Int) : ∀ k, (∀ j, j < k → F j = ((g j : Nat) : Int) ∧ g j < 64) → ∃ x : Nat, ofI F k = (x : Int) ∧ x < 18446744073709551616 ∧ ∀ i, x.testBit i = true ↔ ∃ j, j < k ∧ g j = i
  | 0, _ => ⟨0, rfl, by decide, fun i => by simp⟩
  | k + 1, h => by
    obtain ⟨x, e, hx, hb⟩ := of_places g F k fun j hj => h j (by omega)
    obtain ⟨hF, hg⟩ := h k (Nat.lt_succ_self k)
    have hp : 2 ^ g k < 18446744073709551616 := Nat.pow_lt_pow_right (by decide) hg
    have hs : litBin .shl .u64 1 ((g k : Nat) : Int) = ((2 ^ g k : Nat) : Int) := by
      have : ∀ k : Fin 64, litBin .shl .u64 1 ((k.val : Nat) : Int) = ((2 ^ k.val : Nat) : Int) := by decide +kernel
      exact this ⟨g k, hg⟩
    refine ⟨x ||| 2 ^ g k, ?_, Nat.or_lt_two_pow (n := 64) hx hp, fun i => ?_⟩
    · show putBit (ofI F k) (F k) = _
      unfold putBit
      rw [e, hF, geq_eq, lss_eq, decide_eq_true (by omega), decide_eq_true (by omega), hs, or_nat hx hp]
      rfl
    · rw [Nat.testBit_or, Bool.or_eq_true, hb, Nat.testBit_two_pow, decide_eq_true_eq]
      constructor
      · rintro (⟨j, h1, h2⟩ | h1)
        · exact ⟨j, by omega, h2⟩
        · exact ⟨k, Nat.lt_succ_self k, h1⟩
      · rintro ⟨j, h1, h2⟩
        by_cases hjk : j = k
        · subst hjk; exact .inr h2
        · exact .inl ⟨j, by omega, h2⟩
theorem of_mask {m y : Nat} (hm : m < 18446744073709551616) (hok : okN m 0 y = true) : ofI (listF (listN m 0 y)) (listN m 0 y).length = (m : Int) := by
  rw [len_ok hok]
  obtain ⟨x, e, hx, hb⟩ := of_places (fun j => (bitsL m).getD j 0) (listF (listN m 0 y)) (bitsL m).length fun j hj => by
    have hd : (bitsL m).getD j 0 = (bitsL m)[j]'hj := by rw [List.getD_eq_getElem?_getD, List.getElem?_eq_getElem hj]; rfl
    rw [list_at hok hj, hd]
    exact ⟨rfl, (mem_bits.1 (List.getElem_mem hj)).1⟩
  rw [e]
  congr 1
  refine Nat.eq_of_testBit_eq fun i => ?_
  rw [Bool.eq_iff_iff, hb i]
  constructor
  · rintro ⟨j, hj, h2⟩
    have hd : (bitsL m).getD j 0 = (bitsL m)[j]'hj := by rw [List.getD_eq_getElem?_getD, List.getElem?_eq_getElem hj]; rfl
    rw [hd] at h2
    rw [← h2]
    exact (mem_bits.1 (List.getElem_mem hj)).2
  · intro h
    have hi : i < 64 := by
      rcases Nat.lt_or_ge i 64 with h3 | h3
      · exact h3
      · rw [Nat.testBit_lt_two_pow (Nat.lt_of_lt_of_le (show m < 2 ^ 64 from hm) (Nat.pow_le_pow_right (by decide) h3))] at h
        cases h
    obtain ⟨j, hj, h2⟩ := List.mem_iff_getElem.1 (mem_bits.2 ⟨hi, h⟩)
    refine ⟨j, hj, ?_⟩
    show (bitsL m).getD j 0 = i
    rw [List.getD_eq_getElem?_getD, List.getElem?_eq_getElem hj]
    exact h2
theorem law {m n : Int} (wm : (Lit.int .u64 m).wf = true) (wn : (Lit.int .i64 n).wf = true) : test0 m n = true ∧ test1 m n = true ∧ test2 m n = true ∧ test3 m n = false ∧ test4 m n = true ∧ val m n = true := by
  obtain ⟨m, rfl, hm⟩ := (inU_wf wm).nat
  have hy := lanes_le n
  have ey : cond (litCmp .lss 8 (cond (litCmp .gtr 0 n) 0 n)) 8 (cond (litCmp .gtr 0 n) 0 n) = ((lanes n : Nat) : Int) := Ref.yC_eq n
  obtain ⟨l1, l2⟩ := list_all (m := m) hy
  have k1 : okH (m : Int) 18446744073709551615 n = true := l1
  have k2 : lenH (m : Int) 18446744073709551615 n = lanes n := by
    show (listN m 18446744073709551615 (lanes n)).length = lanes n
    rw [l2, Ref.rng_len]
  have k3 : okH (m : Int) 0 n = decide (m < 2 ^ lanes n) := ok_iff hm
  have k4 : lenH (m : Int) 0 n = (listN m 0 (lanes n)).length := rfl
  have k5 : okN m 0 (lanes n) = decide (m < 2 ^ lanes n) := ok_iff hm
  have g0 : litCmp .neq ((lanes n : Nat) : Int) ((lanes n : Nat) : Int) = false := by rw [neq_eq, decide_eq_true rfl]; rfl
  have hQ : Ofs.Q (lenH (m : Int) 0 n) (lenH (m : Int) 0 n) := ⟨by have := lenH_le (m : Int) 0 n; omega, Nat.le_refl _⟩
  have hB : Back.Q ((lanes n : Nat) : Int) (lenH (m : Int) 0 n) (atH (m : Int) 0 n) := by
    refine ⟨by have := lenH_le (m : Int) 0 n; omega, fun i hi => ?_⟩
    rw [k4] at hi
    cases hok : okN m 0 (lanes n) with
    | false => rw [len_no hok] at hi; omega
    | true =>
      rw [len_ok hok] at hi
      have hall := hok
      have a1 : maskOf m 0 (lanes n) = m := if_neg (by decide)
      unfold okN at hall
      rw [a1, List.all_eq_true] at hall
      have hp := hall _ (List.getElem_mem hi)
      have hp' : (decide (0 < lanes n) && decide (0 + (bitsL m)[i] < lanes n)) = true := hp
      rw [Bool.and_eq_true, decide_eq_true_eq, decide_eq_true_eq] at hp'
      show 0 ≤ listF (listN m 0 (lanes n)) i ∧ listF (listN m 0 (lanes n)) i < ((lanes n : Nat) : Int) ∧ (0 < i → listF (listN m 0 (lanes n)) (i - 1) < listF (listN m 0 (lanes n)) i)
      rw [list_at hok hi]
      refine ⟨by omega, by omega, fun h0 => ?_⟩
      rw [list_at hok (show i - 1 < (bitsL m).length by omega)]
      have := List.pairwise_iff_getElem.1 (rises m) (i - 1) i (by omega) hi (by omega)
      omega
  refine ⟨?_, ?_, ?_, ?_, ?_, ?_⟩
  · unfold test0; rw [inB_of hm]; rfl
  · unfold test1; rw [inB_of hm]; rfl
  · unfold test2
    rw [k1, ey, k2, g0, Ref.pos_nat]
    rfl
  · unfold test3
    rw [k1, ey, k2, g0, shr_eq hy, k3, beq_self_eq_true]
    cases hd : decide (m < 2 ^ lanes n) with
    | true => rfl
    | false =>
      rw [k4, len_no (by rw [k5, hd])]
      rfl
  · unfold test4
    have hq : Back.askB ⟨[(m : Int), cond (litCmp .lss 8 (cond (litCmp .gtr 0 n) 0 n)) 8 (cond (litCmp .gtr 0 n) 0 n), 0], [okH (m : Int) 0 n], [lenH (m : Int) 0 n, lenH (m : Int) 0 n], [atH (m : Int) 0 n]⟩ = true := by
      rw [ey]
      exact yes_of ⟨_, _, _, _, _, rfl, hB⟩
    rw [hq, yes_of hQ, Bool.cond_self]
    rfl
  · unfold val
    cases hok : okH (m : Int) 0 n with
    | false => rfl
    | true =>
      have h1 : ofI (atH (m : Int) 0 n) (lenH (m : Int) 0 n) = (m : Int) := of_mask hm hok
      rw [h1, eql_eq, decide_eq_true rfl]
      rfl

theorem run : ∀ xs h, Abs [.plain (.one (.int .u64)), .plain (.one (.int .i64))] 0 xs h → ∃ b l, (call Tryd.prog Back.cxb 60 6 xs h).pick = some (.val (.bool b), l) ∧ b.den = true := by
  rintro xs h ⟨_, as0, rfl, ⟨m, rfl, wm⟩, ⟨_, as1, rfl, ⟨n, rfl, wn⟩, rfl, rfl⟩⟩
  obtain ⟨t0, t1, t2, t3, t4, hv⟩ := law wm wn
  refine (road_at (road m n) (show _ = _ from ?_)).elim fun l hl => ⟨.sym _, l, hl, hv⟩
  rw [t0, t1, t2, t3, t4]

set_option maxRecDepth 100000 in
theorem lifted (os : Os) (started : os.Started) (H : Type) (enc : TypeId × Value → H) :
    ReturnsInHanded {} Tryd.checked os 6 .any (fun w args => (Rows.maskBackSpec.pre enc Tryd.prog Tryd.f6 [] false w args ∧ laidMetH Tryd.prog laidT w) ∧ sizedMet enc Tryd.prog Tryd.f6 (OpenSpec.ofChange Rows.maskBackSpec) false w args)
      (Rows.maskBackSpec.post enc Tryd.prog Tryd.f6 false true false false) := by
  refine returnsInHanded_of_change_and (C := Tryd.checked) (X := fun w _ => laidMetH Tryd.prog laidT w) (fun _ _ _ hh h => h.of_heap hh) own started (by kernel_rfl) Tryd.func6
    (ChangeSpec.witness_shaped (enc := enc) (C := Tryd.checked) (os := os) (X := fun w _ => laidMetH Tryd.prog laidT w) false (World.doorLaid Tryd.prog 400 os) #[.int .u64 0, .int .i64 0] 8 rfl (World.shaped_of_RefB (by kernel_rfl) (by kernel_rfl)) (by kernel_rfl) (by kernel_rfl) (by kernel_rfl) (door_met os _)) ?_
  intro W base args ds gs before hval0 hW _ _ hL _
  exact lifted_rows (P := Tryd.prog) (f := 6) (fn := Tryd.f6) (s := Rows.maskBackSpec) Back.cxb_ok (n := 60) rfl
    (fun ds h => by
      match ds, h with
      | [d1, d2], _ => rfl)
    (by kernel_rfl) rfl (by kernel_rfl) (by kernel_rfl) (by kernel_rfl) run W base args ds gs before hval0 hW (pin_of hL)

theorem over : Rows.MaskBackSaid :=
  OpenClaim.holds_of_wide 6 Tryd.f6 rfl rfl rfl rfl rfl rfl rfl ⟨rfl, rfl, rfl, rfl, rfl⟩ rfl rfl rfl rfl rfl (by kernel_rfl) Tryd.func6 (by kernel_rfl)
    (of_decide_eq_true (by kernel_rfl)) (by unfold Func.isWrapper; first | (rw [if_pos (by decide +kernel)]; kernel_rfl) | (rw [if_neg (by decide +kernel)]; exact ⟨rfl, rfl⟩))
    (fun os started H enc _ => lifted os started H enc)

/-- The statement. -/
theorem proved : Rows.MaskBackCardSaid :=
  Claim7.holds_tied_plain_at .later [] [.data] true (true, "5cf1515ca18a25668685078fb5d0ec4d4af7631064a11983c22f11ed67e0744f") false
    over (fun _ h => by cases h) (by kernel_rfl) (fun _ h => by cases h) maskBack_row_tie rfl ⟨rfl, rfl⟩ (by kernel_rfl) rfl
    (fun f fn hf hfn => by
      obtain rfl : f = 6 := Option.some.inj ((show Tryd.prog.funcNamed "suzerain/suzerainlaw16.MaskBack" = some 6 by kernel_rfl).symm.trans hf) |>.symm
      obtain rfl : fn = Tryd.f6 := (Option.some.inj (Tryd.func6.symm.trans hfn)).symm
      exact ⟨by kernel_rfl, fun j t ht => by
        have hall : (Tryd.f6.params.toList.all fun u => !Tryd.prog.wantsStandIn u) = true := by kernel_rfl
        have hm : t ∈ Tryd.f6.params.toList := by simpa using Array.mem_of_getElem? ht
        exact (show Tryd.prog.wantsStandIn t = false by simpa using List.all_eq_true.1 hall t hm)⟩)
    (by kernel_rfl)
#print axioms proved
end Go.Proofs.YtbjlkapfpcmjfaaDoor.MaskBack
