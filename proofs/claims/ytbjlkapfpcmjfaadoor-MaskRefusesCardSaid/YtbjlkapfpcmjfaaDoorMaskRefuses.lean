/- The statement 'MaskRefuses': a mask with a hart that is none is refused in whole, whichever other ones it has; and one more hart lets it. Conditions: the library's table reads as its initialiser lays it (the card ties that to the program's text). -/
import Derived.Test.YtbjlkapfpcmjfaaDoorDoor
namespace Go.Proofs.YtbjlkapfpcmjfaaDoor.MaskRefuses
open Go.RowKit Go.WideShapes Go.ChangeShapes Go.ChangeAt Ev Mask
set_option linter.unusedVariables false
set_option linter.unusedSimpArgs false

noncomputable def test0 (m : Int) (b : Int) (n : Int) : Bool := (((!(litCmp .lss (litBin .add .i64 1 (litBin .rem .i64 (IntKind.wrap .i64 n) 7)) 0)) && (!(litCmp .eql (litBin .shl .u64 1 (litBin .add .i64 1 (litBin .rem .i64 (IntKind.wrap .i64 n) 7))) 0))) && ((!(litCmp .eql (litBin .sub .i64 64 (litBin .add .i64 1 (litBin .rem .i64 (IntKind.wrap .i64 n) 7))) 0)) && (((!(litCmp .lss (litBin .add .i64 (litBin .add .i64 1 (litBin .rem .i64 (IntKind.wrap .i64 n) 7)) (litBin .rem .i64 (IntKind.wrap .i64 b) (litBin .sub .i64 64 (litBin .add .i64 1 (litBin .rem .i64 (IntKind.wrap .i64 n) 7))))) 0)) && (inB (litBin .or .u64 (litBin .rem .u64 (IntKind.wrap .u64 m) (litBin .shl .u64 1 (litBin .add .i64 1 (litBin .rem .i64 (IntKind.wrap .i64 n) 7)))) (litBin .shl .u64 1 (litBin .add .i64 (litBin .add .i64 1 (litBin .rem .i64 (IntKind.wrap .i64 n) 7)) (litBin .rem .i64 (IntKind.wrap .i64 b) (litBin .sub .i64 64 (litBin .add .i64 1 (litBin .rem .i64 (IntKind.wrap .i64 n) 7))))))) && inB 0)) && ((inB (litBin .rem .u64 (IntKind.wrap .u64 m) (litBin .shl .u64 1 (litBin .add .i64 1 (litBin .rem .i64 (IntKind.wrap .i64 n) 7)))) && inB 0) && ((!(litCmp .lss (litBin .add .i64 1 (litBin .rem .i64 (IntKind.wrap .i64 n) 7)) 0)) && (inB (litBin .or .u64 (litBin .rem .u64 (IntKind.wrap .u64 m) (litBin .shl .u64 1 (litBin .add .i64 1 (litBin .rem .i64 (IntKind.wrap .i64 n) 7)))) (litBin .shl .u64 1 (litBin .add .i64 1 (litBin .rem .i64 (IntKind.wrap .i64 n) 7)))) && inB 0))))))
noncomputable def val (m : Int) (b : Int) (n : Int) : Bool := (cond (!(okH (litBin .or .u64 (litBin .rem .u64 (IntKind.wrap .u64 m) (litBin .shl .u64 1 (litBin .add .i64 1 (litBin .rem .i64 (IntKind.wrap .i64 n) 7)))) (litBin .shl .u64 1 (litBin .add .i64 (litBin .add .i64 1 (litBin .rem .i64 (IntKind.wrap .i64 n) 7)) (litBin .rem .i64 (IntKind.wrap .i64 b) (litBin .sub .i64 64 (litBin .add .i64 1 (litBin .rem .i64 (IntKind.wrap .i64 n) 7))))))) 0 (litBin .add .i64 1 (litBin .rem .i64 (IntKind.wrap .i64 n) 7)))) (cond (litCmp .eql (((lenH (litBin .or .u64 (litBin .rem .u64 (IntKind.wrap .u64 m) (litBin .shl .u64 1 (litBin .add .i64 1 (litBin .rem .i64 (IntKind.wrap .i64 n) 7)))) (litBin .shl .u64 1 (litBin .add .i64 (litBin .add .i64 1 (litBin .rem .i64 (IntKind.wrap .i64 n) 7)) (litBin .rem .i64 (IntKind.wrap .i64 b) (litBin .sub .i64 64 (litBin .add .i64 1 (litBin .rem .i64 (IntKind.wrap .i64 n) 7))))))) 0 (litBin .add .i64 1 (litBin .rem .i64 (IntKind.wrap .i64 n) 7))) : Nat) : Int) 0) (cond (okH (litBin .rem .u64 (IntKind.wrap .u64 m) (litBin .shl .u64 1 (litBin .add .i64 1 (litBin .rem .i64 (IntKind.wrap .i64 n) 7)))) 0 (litBin .add .i64 1 (litBin .rem .i64 (IntKind.wrap .i64 n) 7))) (okH (litBin .or .u64 (litBin .rem .u64 (IntKind.wrap .u64 m) (litBin .shl .u64 1 (litBin .add .i64 1 (litBin .rem .i64 (IntKind.wrap .i64 n) 7)))) (litBin .shl .u64 1 (litBin .add .i64 1 (litBin .rem .i64 (IntKind.wrap .i64 n) 7)))) 0 (litBin .add .i64 (litBin .add .i64 1 (litBin .rem .i64 (IntKind.wrap .i64 n) 7)) 1)) false) false) false)
set_option maxRecDepth 100000 in
theorem road (m : Int) (b : Int) (n : Int) : ((call Tryd.prog cxl 60 4 [.int .u8 (.sym m), .int .u8 (.sym b), .int .u8 (.sym n)] []).route [true]).map (fun p => (p.1, p.2.1)) = some ([test0 m b n], .val (.bool (.sym (val m b n)))) := by kernel_rfl

theorem wf8 {a : Int} (h : (Lit.int .u8 a).wf = true) : ∃ x : Nat, a = (x : Int) ∧ x < 256 := by
  simp [Lit.wf, IntKind.min, IntKind.max, IntKind.signed, IntKind.bits] at h
  exact ⟨a.toNat, by omega, by omega⟩
theorem inB_of {m : Nat} (h : m < 18446744073709551616) : inB (m : Int) = true := decide_eq_true ⟨by omega, by omega⟩
theorem w64i (n : Nat) (h : n < 256) : IntKind.i64.wrap (n : Int) = (n : Int) := wrap64i (by omega)
theorem rem_i (n k : Nat) : litBin .rem .i64 (n : Int) (k : Int) = ((n % k : Nat) : Int) := by
  show Int.tmod (n : Int) (k : Int) = _
  rw [Int.tmod_eq_emod_of_nonneg (by omega)]
  rfl
theorem rem_u (n k : Nat) : litBin .rem .u64 (n : Int) (k : Int) = ((n % k : Nat) : Int) := rem_i n k
theorem add_i (a b : Nat) (h : a + b < 1000) : litBin .add .i64 (a : Int) (b : Int) = ((a + b : Nat) : Int) := by
  rw [Ref.add_i64 (by omega)]
  rfl
theorem sub_i (b : Nat) (h : b ≤ 64) : litBin .sub .i64 64 (b : Int) = ((64 - b : Nat) : Int) := by
  show IntKind.i64.wrap (64 - (b : Int)) = _
  rw [wrap64i (by omega)]
  omega
theorem shl_u {k : Nat} (hk : k < 64) : litBin .shl .u64 1 (k : Int) = ((2 ^ k : Nat) : Int) := by
  have : ∀ k : Fin 64, litBin .shl .u64 1 ((k.val : Nat) : Int) = ((2 ^ k.val : Nat) : Int) := by decide +kernel
  exact this ⟨k, hk⟩
theorem pow_lt {k : Nat} (hk : k < 64) : 2 ^ k < 18446744073709551616 := Nat.pow_lt_pow_right (by decide) hk
theorem lanes_nat {y : Nat} (h : y ≤ 8) : lanes (y : Int) = y := by unfold lanes; omega
theorem ok_low {l y : Nat} (h0 : 0 < y) (h : l < 2 ^ y) : okN l 0 y = true := by
  have a1 : maskOf l 0 y = l := if_neg (by decide)
  unfold okN
  rw [a1, List.all_eq_true]
  intro i hi
  have hb := (mem_bits.1 hi).2
  have hlt : i < y := by
    rcases Nat.lt_or_ge i y with h1 | h1
    · exact h1
    · rw [Nat.testBit_lt_two_pow (Nat.lt_of_lt_of_le h (Nat.pow_le_pow_right (by decide) h1))] at hb
      cases hb
  show (decide (0 < y) && decide (0 + i < y)) = true
  rw [decide_eq_true h0, decide_eq_true (by omega)]
  rfl
theorem bad_high {l k y : Nat} (hk : k < 64) (hy : y ≤ k) : okN (l ||| 2 ^ k) 0 y = false ∧ listN (l ||| 2 ^ k) 0 y = [] := by
  have a1 : maskOf (l ||| 2 ^ k) 0 y = l ||| 2 ^ k := if_neg (by decide)
  have h1 : okN (l ||| 2 ^ k) 0 y = false := by
    unfold okN
    rw [a1, List.all_eq_false]
    refine ⟨k, mem_bits.2 ⟨hk, by rw [Nat.testBit_or, Nat.testBit_two_pow_self, Bool.or_true]⟩, ?_⟩
    show ¬(decide (0 < y) && decide (0 + k < y)) = true
    rw [decide_eq_false (by omega : ¬ 0 + k < y), Bool.and_false]
    simp
  exact ⟨h1, by unfold listN; rw [h1]; rfl⟩
theorem law {m b n : Int} (wm : (Lit.int .u8 m).wf = true) (wb : (Lit.int .u8 b).wf = true) (wn : (Lit.int .u8 n).wf = true) : test0 m b n = true ∧ val m b n = true := by
  obtain ⟨m, rfl, hm⟩ := wf8 wm
  obtain ⟨b, rfl, hb⟩ := wf8 wb
  obtain ⟨n, rfl, hn⟩ := wf8 wn
  have hr : n % 7 < 7 := Nat.mod_lt _ (by decide)
  have e1 : litBin .add .i64 1 (litBin .rem .i64 (IntKind.i64.wrap (n : Int)) 7) = ((1 + n % 7 : Nat) : Int) := by
    rw [w64i n hn, show (7 : Int) = ((7 : Nat) : Int) from rfl, rem_i, show (1 : Int) = ((1 : Nat) : Int) from rfl, add_i _ _ (by omega)]
  obtain ⟨y, hy0, hy7, ey⟩ : ∃ y : Nat, 0 < y ∧ y ≤ 7 ∧ 1 + n % 7 = y := ⟨1 + n % 7, by omega, by omega, rfl⟩
  rw [ey] at e1
  have e2 : litBin .sub .i64 64 ((y : Nat) : Int) = ((64 - y : Nat) : Int) := sub_i y (by omega)
  have hd : b % (64 - y) < 64 - y := Nat.mod_lt _ (by omega)
  have e3 : litBin .add .i64 ((y : Nat) : Int) (litBin .rem .i64 (IntKind.i64.wrap (b : Int)) ((64 - y : Nat) : Int)) = ((y + b % (64 - y) : Nat) : Int) := by
    rw [w64i b hb, rem_i, add_i _ _ (by omega)]
  obtain ⟨k, hk, hyk, ek⟩ : ∃ k : Nat, k < 64 ∧ y ≤ k ∧ y + b % (64 - y) = k := ⟨_, by omega, by omega, rfl⟩
  rw [ek] at e3
  have e4 : litBin .rem .u64 (IntKind.u64.wrap (m : Int)) ((2 ^ y : Nat) : Int) = ((m % 2 ^ y : Nat) : Int) := by rw [wrap_nat (by omega), rem_u]
  have hp : 0 < 2 ^ y := Nat.two_pow_pos y
  have hl : m % 2 ^ y < 2 ^ y := Nat.mod_lt _ hp
  have hpy := pow_lt (k := y) (by omega)
  have hpk := pow_lt hk
  generalize m % 2 ^ y = l at *
  have e5 : litBin .or .u64 ((l : Nat) : Int) ((2 ^ k : Nat) : Int) = ((l ||| 2 ^ k : Nat) : Int) := or_nat (by omega) hpk
  have e6 : litBin .or .u64 ((l : Nat) : Int) ((2 ^ y : Nat) : Int) = ((l ||| 2 ^ y : Nat) : Int) := or_nat (by omega) hpy
  have e7 : litBin .add .i64 ((y : Nat) : Int) 1 = ((y + 1 : Nat) : Int) := add_i y 1 (by omega)
  have s1 : litBin .shl .u64 1 ((y : Nat) : Int) = ((2 ^ y : Nat) : Int) := shl_u (by omega)
  have s2 : litBin .shl .u64 1 ((k : Nat) : Int) = ((2 ^ k : Nat) : Int) := shl_u hk
  have i1 : l ||| 2 ^ k < 18446744073709551616 := Nat.or_lt_two_pow (n := 64) (show l < 2 ^ 64 by omega) hpk
  have i2 : l ||| 2 ^ y < 18446744073709551616 := Nat.or_lt_two_pow (n := 64) (show l < 2 ^ 64 by omega) hpy
  have hup : l ||| 2 ^ y < 2 ^ (y + 1) := Nat.or_lt_two_pow (by rw [Nat.pow_succ]; omega) (by rw [Nat.pow_succ]; omega)
  have n1 : litCmp .eql ((2 ^ y : Nat) : Int) 0 = false := by rw [eql_eq]; exact decide_eq_false (by omega)
  have n2 : litCmp .eql ((64 - y : Nat) : Int) 0 = false := by rw [eql_eq]; exact decide_eq_false (by omega)
  constructor
  · unfold test0
    rw [e1, e2, e3, s1, s2, e4, e5, e6, n1, n2, Ref.pos_nat, Ref.pos_nat, inB_of i1, inB_of i2, inB_of (show l < 18446744073709551616 by omega)]
    rfl
  · have v1 : okH ((l ||| 2 ^ k : Nat) : Int) 0 ((y : Nat) : Int) = false := by
      show okN (l ||| 2 ^ k) 0 (lanes (y : Int)) = false
      rw [lanes_nat (by omega)]
      exact (bad_high hk hyk).1
    have v2 : lenH ((l ||| 2 ^ k : Nat) : Int) 0 ((y : Nat) : Int) = 0 := by
      show (listN (l ||| 2 ^ k) 0 (lanes (y : Int))).length = 0
      rw [lanes_nat (by omega), (bad_high hk hyk).2]
      rfl
    have v3 : okH ((l : Nat) : Int) 0 ((y : Nat) : Int) = true := by
      show okN l 0 (lanes (y : Int)) = true
      rw [lanes_nat (by omega)]
      exact ok_low hy0 hl
    have v4 : okH ((l ||| 2 ^ y : Nat) : Int) 0 ((y + 1 : Nat) : Int) = true := by
      show okN (l ||| 2 ^ y) 0 (lanes ((y + 1 : Nat) : Int)) = true
      rw [lanes_nat (by omega)]
      exact ok_low (by omega) hup
    unfold val
    rw [e1, e2, e3, s1, s2, e4, e5, e6, e7, v1, v2, v3, v4]
    rfl

theorem run : ∀ xs h, Abs [.plain (.one (.int .u8)), .plain (.one (.int .u8)), .plain (.one (.int .u8))] 0 xs h → ∃ b l, (call Tryd.prog cxl 60 4 xs h).pick = some (.val (.bool b), l) ∧ b.den = true := by
  rintro xs h ⟨_, as0, rfl, ⟨m, rfl, wm⟩, ⟨_, as1, rfl, ⟨b, rfl, wb⟩, ⟨_, as2, rfl, ⟨n, rfl, wn⟩, rfl, rfl⟩⟩⟩
  obtain ⟨t0, hv⟩ := law wm wb wn
  refine (road_at (road m b n) (show _ = _ from ?_)).elim fun l hl => ⟨.sym _, l, hl, hv⟩
  rw [t0]

set_option maxRecDepth 100000 in
theorem lifted (os : Os) (started : os.Started) (H : Type) (enc : TypeId × Value → H) :
    ReturnsInHanded {} Tryd.checked os 4 .any (fun w args => (Rows.maskRefusesSpec.pre enc Tryd.prog Tryd.f4 [] false w args ∧ laidMetH Tryd.prog laidT w) ∧ sizedMet enc Tryd.prog Tryd.f4 (OpenSpec.ofChange Rows.maskRefusesSpec) false w args)
      (Rows.maskRefusesSpec.post enc Tryd.prog Tryd.f4 false true false false) := by
  refine returnsInHanded_of_change_and (C := Tryd.checked) (X := fun w _ => laidMetH Tryd.prog laidT w) (fun _ _ _ hh h => h.of_heap hh) own started (by kernel_rfl) Tryd.func4
    (ChangeSpec.witness_shaped (enc := enc) (C := Tryd.checked) (os := os) (X := fun w _ => laidMetH Tryd.prog laidT w) false (World.doorLaid Tryd.prog 400 os) #[.int .u8 0, .int .u8 0, .int .u8 0] 8 rfl (World.shaped_of_RefB (by kernel_rfl) (by kernel_rfl)) (by kernel_rfl) (by kernel_rfl) (by kernel_rfl) (door_met os _)) ?_
  intro W base args ds gs before hval0 hW _ _ hL _
  exact lifted_rows (P := Tryd.prog) (f := 4) (fn := Tryd.f4) (s := Rows.maskRefusesSpec) cxl_ok (n := 60) rfl
    (fun ds h => by
      match ds, h with
      | [d1, d2, d3], _ => rfl)
    (by kernel_rfl) rfl (by kernel_rfl) (by kernel_rfl) (by kernel_rfl) run W base args ds gs before hval0 hW (pin_of hL)

theorem over : Rows.MaskRefusesSaid :=
  OpenClaim.holds_of_wide 4 Tryd.f4 rfl rfl rfl rfl rfl rfl rfl ⟨rfl, rfl, rfl, rfl, rfl⟩ rfl rfl rfl rfl rfl (by kernel_rfl) Tryd.func4 (by kernel_rfl)
    (of_decide_eq_true (by kernel_rfl)) (by unfold Func.isWrapper; first | (rw [if_pos (by decide +kernel)]; kernel_rfl) | (rw [if_neg (by decide +kernel)]; exact ⟨rfl, rfl⟩))
    (fun os started H enc _ => lifted os started H enc)

/-- The statement. -/
theorem proved : Rows.MaskRefusesCardSaid :=
  Claim7.holds_tied_plain_at .later [] [.data] true (true, "5cf1515ca18a25668685078fb5d0ec4d4af7631064a11983c22f11ed67e0744f") false
    over (fun _ h => by cases h) (by kernel_rfl) (fun _ h => by cases h) maskRefuses_row_tie rfl ⟨rfl, rfl⟩ (by kernel_rfl) rfl
    (fun f fn hf hfn => by
      obtain rfl : f = 4 := Option.some.inj ((show Tryd.prog.funcNamed "suzerain/suzerainlaw16.MaskRefuses" = some 4 by kernel_rfl).symm.trans hf) |>.symm
      obtain rfl : fn = Tryd.f4 := (Option.some.inj (Tryd.func4.symm.trans hfn)).symm
      exact ⟨by kernel_rfl, fun j t ht => by
        have hall : (Tryd.f4.params.toList.all fun u => !Tryd.prog.wantsStandIn u) = true := by kernel_rfl
        have hm : t ∈ Tryd.f4.params.toList := by simpa using Array.mem_of_getElem? ht
        exact (show Tryd.prog.wantsStandIn t = false by simpa using List.all_eq_true.1 hall t hm)⟩)
    (by kernel_rfl)
#print axioms proved
end Go.Proofs.YtbjlkapfpcmjfaaDoor.MaskRefuses
