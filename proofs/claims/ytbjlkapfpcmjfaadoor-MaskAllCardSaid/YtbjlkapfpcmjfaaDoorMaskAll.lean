/- The statement 'MaskAll': which harts any mask means, from any hart on, or that one is none, and the mask of any harts, is as the document says. Conditions: the library's table reads as its initialiser lays it (the card ties that to the program's text). -/
import Derived.Test.YtbjlkapfpcmjfaaDoorDoor
namespace Go.Proofs.YtbjlkapfpcmjfaaDoor.MaskAll
open Go.RowKit Go.WideShapes Go.ChangeShapes Go.ChangeAt Ev Mask
set_option linter.unusedVariables false
set_option linter.unusedSimpArgs false

noncomputable def test0 (m : Int) (b : Int) (n : Int) (N : Nat) (F : Nat → Int) : Bool := ((inB m && inB b) && ((inB m && inB b) && ((yes ((lenH m b n) = (lenH m b n) ∧ (lenH m b n) = (lenH m b n) ∧ (lenH m b n) = (lenH m b n) ∧ Eqs.Q (lenH m b n) (atH m b n) (atH m b n))) && (cond ((okH m b n) == (okH m b n)) (cond (litCmp .gtr ((N : Nat) : Int) 70) (((decide (N ≤ N)) && ((decide ((0 : Int) ≤ 70 ∧ (70 : Int) < (((N + 1) : Nat) : Int))) && (decide (0 ≤ (Int.toNat 70))))) && ((yes (Ofs.Q ((Int.toNat 70) - 0) N)) && (cond (litCmp .gtr ((N : Nat) : Int) 70) (((decide (N ≤ N)) && ((decide ((0 : Int) ≤ 70 ∧ (70 : Int) < (((N + 1) : Nat) : Int))) && (decide (0 ≤ (Int.toNat 70))))) && (yes (Ofs.Q ((Int.toNat 70) - 0) N))) (yes (Ofs.Q N N))))) ((yes (Ofs.Q N N)) && (cond (litCmp .gtr ((N : Nat) : Int) 70) (((decide (N ≤ N)) && ((decide ((0 : Int) ≤ 70 ∧ (70 : Int) < (((N + 1) : Nat) : Int))) && (decide (0 ≤ (Int.toNat 70))))) && (yes (Ofs.Q ((Int.toNat 70) - 0) N))) (yes (Ofs.Q N N))))) true))))
noncomputable def val (m : Int) (b : Int) (n : Int) (N : Nat) (F : Nat → Int) : Bool := (cond ((okH m b n) == (okH m b n)) (cond (litCmp .gtr ((N : Nat) : Int) 70) (cond (litCmp .gtr ((N : Nat) : Int) 70) (litCmp .eql (ofI F ((Int.toNat 70) - 0)) (ofI F ((Int.toNat 70) - 0))) (litCmp .eql (ofI F ((Int.toNat 70) - 0)) (ofI F N))) (cond (litCmp .gtr ((N : Nat) : Int) 70) (litCmp .eql (ofI F N) (ofI F ((Int.toNat 70) - 0))) (litCmp .eql (ofI F N) (ofI F N)))) false)
set_option maxRecDepth 100000 in
theorem road (m : Int) (b : Int) (n : Int) (N : Nat) (F : Nat → Int) : ((call Tryd.prog cxl 60 5 [.agg [.int .u64 (.sym m), .int .u64 (.sym b)], .int .i64 (.sym n), .slice 0 (.lit 0) (.rc N 1 0) .any] [.rows 0 N [(.int .i64, F)]]).route [true]).map (fun p => (p.1, p.2.1)) = some ([test0 m b n N F], .val (.bool (.sym (val m b n N F)))) := by kernel_rfl

theorem inB_of {x : Int} (h : (Lit.int .u64 x).wf = true) : inB x = true := decide_eq_true (wf64 h)
theorem law {m b n : Int} (wm : (Lit.int .u64 m).wf = true) (wb : (Lit.int .u64 b).wf = true) (wn : (Lit.int .i64 n).wf = true) (N : Nat) (F : Nat → Int) : test0 m b n N F = true ∧ val m b n N F = true := by
  have hS : yes ((lenH m b n) = (lenH m b n) ∧ (lenH m b n) = (lenH m b n) ∧ (lenH m b n) = (lenH m b n) ∧ Eqs.Q (lenH m b n) (atH m b n) (atH m b n)) = true :=
    yes_of ⟨rfl, rfl, rfl, by have := lenH_le m b n; omega, fun _ _ => rfl⟩
  by_cases h : (70 : Nat) < N
  · have g : litCmp .gtr ((N : Nat) : Int) 70 = true := by rw [gtr_eq]; exact decide_eq_true (by omega)
    have a1 : decide ((0 : Int) ≤ 70 ∧ (70 : Int) < (((N + 1) : Nat) : Int)) = true := decide_eq_true ⟨by decide, by omega⟩
    have a2 : decide (N ≤ N) = true := decide_eq_true (Nat.le_refl _)
    have a3 : yes (Ofs.Q ((Int.toNat 70) - 0) N) = true := yes_of ⟨by decide, by show 70 ≤ N; omega⟩
    constructor
    · unfold test0
      rw [inB_of wm, inB_of wb, hS, beq_self_eq_true, g, a1, a2, a3]
      rfl
    · unfold val
      rw [beq_self_eq_true, g, eql_eq, decide_eq_true rfl]
      rfl
  · have g : litCmp .gtr ((N : Nat) : Int) 70 = false := by rw [gtr_eq]; exact decide_eq_false (by omega)
    have a3 : yes (Ofs.Q N N) = true := yes_of ⟨by omega, Nat.le_refl _⟩
    constructor
    · unfold test0
      rw [inB_of wm, inB_of wb, hS, beq_self_eq_true, g, a3]
      rfl
    · unfold val
      rw [beq_self_eq_true, g]
      show litCmp .eql (ofI F N) (ofI F N) = true
      rw [eql_eq, decide_eq_true rfl]

theorem run : ∀ xs h, Abs [.plain (.agg [.int .u64, .int .u64]), .plain (.one (.int .i64)), .rows [.int .i64]] 0 xs h → ∃ b l, (call Tryd.prog cxl 60 5 xs h).pick = some (.val (.bool b), l) ∧ b.den = true := by
  rintro xs h ⟨_, as0, rfl, ⟨_, rfl, ⟨_, _, rfl, ⟨m, rfl, wm⟩, ⟨_, _, rfl, ⟨b, rfl, wb⟩, rfl⟩⟩⟩, ⟨_, as1, rfl, ⟨n, rfl, wn⟩, ⟨N, fs, as2, h2, rfl, rfl, hrow, rfl, rfl⟩⟩⟩
  obtain ⟨hn, hlen, hF⟩ := hrow
  match fs, hlen with
  | [F], _ =>
    obtain ⟨t0, hv⟩ := law wm wb wn N F
    refine (road_at (road m b n N F) (show _ = _ from ?_)).elim fun l hl => ⟨.sym _, l, hl, hv⟩
    rw [t0]

set_option maxRecDepth 100000 in
theorem lifted (os : Os) (started : os.Started) (H : Type) (enc : TypeId × Value → H) :
    ReturnsInHanded {} Tryd.checked os 5 .any (fun w args => (Rows.maskAllSpec.pre enc Tryd.prog Tryd.f5 [] false w args ∧ laidMetH Tryd.prog laidT w) ∧ sizedMet enc Tryd.prog Tryd.f5 (OpenSpec.ofChange Rows.maskAllSpec) false w args)
      (Rows.maskAllSpec.post enc Tryd.prog Tryd.f5 false true false false) := by
  refine returnsInHanded_of_change_and (C := Tryd.checked) (X := fun w _ => laidMetH Tryd.prog laidT w) (fun _ _ _ hh h => h.of_heap hh) own started (by kernel_rfl) Tryd.func5
    (ChangeSpec.witness_shaped (enc := enc) (C := Tryd.checked) (os := os) (X := fun w _ => laidMetH Tryd.prog laidT w) false (World.doorLaid Tryd.prog 400 os) #[.agg #[.int .u64 0, .int .u64 0], .int .i64 0, .slice none 0 0] 8 rfl (World.shaped_of_RefB (by kernel_rfl) (by kernel_rfl)) (by kernel_rfl) (by kernel_rfl) (by kernel_rfl) (door_met os _)) ?_
  intro W base args ds gs before hval0 hW _ _ hL _
  exact lifted_rows (P := Tryd.prog) (f := 5) (fn := Tryd.f5) (s := Rows.maskAllSpec) cxl_ok (n := 60) rfl
    (fun ds h => by
      match ds, h with
      | [d1, d2, d3], _ => rfl)
    (by kernel_rfl) rfl (by kernel_rfl) (by kernel_rfl) (by kernel_rfl) run W base args ds gs before hval0 hW (pin_of hL)

theorem over : Rows.MaskAllSaid :=
  OpenClaim.holds_of_wide 5 Tryd.f5 rfl rfl rfl rfl rfl rfl rfl ⟨rfl, rfl, rfl, rfl, rfl⟩ rfl rfl rfl rfl rfl (by kernel_rfl) Tryd.func5 (by kernel_rfl)
    (of_decide_eq_true (by kernel_rfl)) (by unfold Func.isWrapper; first | (rw [if_pos (by decide +kernel)]; kernel_rfl) | (rw [if_neg (by decide +kernel)]; exact ⟨rfl, rfl⟩))
    (fun os started H enc _ => lifted os started H enc)

/-- The statement. -/
theorem proved : Rows.MaskAllCardSaid :=
  Claim7.holds_tied_plain_at .later [] [.data] true (true, "5cf1515ca18a25668685078fb5d0ec4d4af7631064a11983c22f11ed67e0744f") false
    over (fun _ h => by cases h) (by kernel_rfl) (fun _ h => by cases h) maskAll_row_tie rfl ⟨rfl, rfl⟩ (by kernel_rfl) rfl
    (fun f fn hf hfn => by
      obtain rfl : f = 5 := Option.some.inj ((show Tryd.prog.funcNamed "suzerain/suzerainlaw16.MaskAll" = some 5 by kernel_rfl).symm.trans hf) |>.symm
      obtain rfl : fn = Tryd.f5 := (Option.some.inj (Tryd.func5.symm.trans hfn)).symm
      exact ⟨by kernel_rfl, fun j t ht => by
        have hall : (Tryd.f5.params.toList.all fun u => !Tryd.prog.wantsStandIn u) = true := by kernel_rfl
        have hm : t ∈ Tryd.f5.params.toList := by simpa using Array.mem_of_getElem? ht
        exact (show Tryd.prog.wantsStandIn t = false by simpa using List.all_eq_true.1 hall t hm)⟩)
    (by kernel_rfl)
#print axioms proved
end Go.Proofs.YtbjlkapfpcmjfaaDoor.MaskAll
