/- The laws' context; what the listed table gives; a law's step of its row. Conditions: none. -/
import Derived.Test.YtbjlkapfpcmjfaaDoorReads
import Derived.Test.YtbjlkapfpcmjfaaDoorTie
import Derived.Test.YtbjlkapfpcmjfaaDoorCards
import Derived.LaidMore
import Derived.LaidHandle
import Derived.LaidLaws
import Derived.Stop.Joined
import Derived.ChangeArms
namespace Go.Proofs.YtbjlkapfpcmjfaaDoor.Mask
open Go.RowKit Go.WideShapes Go.ChangeShapes Go.ChangeAt Go.WideElems Ev
set_option linter.unusedVariables false
set_option linter.unusedSimpArgs false

/-! ### The document's example -/
noncomputable def cxh : Cx DC := (cx.sum 8 gHarts).sum 10 gHarts
theorem cxh_ok : Ok Tryd.prog cxh := (cx_ok.sum (by kernel_rfl) fun args h t r ht hp => sum_of (fun m b n h hm hb => code_fn hm hb h) ht hp).sum (by kernel_rfl) fun args h t r ht hp => sum_of (fun m b n h hm hb => ref_fn hm hb h) ht hp
def shTest : Bool := (inB 5 && inB 1) && (cond (okH 5 1 8) (cond (litCmp .eql (((lenH 5 1 8) : Nat) : Int) 2) ((decide ((0 : Int) ≤ 0 ∧ (0 : Int) < (((lenH 5 1 8) : Nat) : Int))) && ((decide (0 < (lenH 5 1 8))) && (cond (litCmp .eql ((atH 5 1 8) 0) 1) ((decide ((0 : Int) ≤ 1 ∧ (1 : Int) < (((lenH 5 1 8) : Nat) : Int))) && (decide (1 < (lenH 5 1 8)))) true))) true) true)
def shVal : Bool := cond (okH 5 1 8) (cond (litCmp .eql (((lenH 5 1 8) : Nat) : Int) 2) (cond (litCmp .eql ((atH 5 1 8) 0) 1) (litCmp .eql ((atH 5 1 8) 1) 3) false) false) false
set_option maxRecDepth 100000 in
theorem sh_road : ((call Tryd.prog cxh 60 7 [] []).route [true]).map (fun p => (p.1, p.2.1)) = some ([shTest], .val (.bool (.sym shVal))) := by kernel_rfl
theorem sh_ok : okH 5 1 8 = true := by decide +kernel
theorem sh_list : listH 5 1 8 = [1, 3] := by decide +kernel
theorem shTest_true : shTest = true := by
  unfold shTest lenH atH
  rw [sh_ok, sh_list]
  decide +kernel
theorem shVal_true : shVal = true := by
  unfold shVal lenH atH
  rw [sh_ok, sh_list]
  decide +kernel
def gShown (args : List (AV DC)) (h : List (AO DC)) : Option (T DC (AV DC × List (W DC))) := match args with
  | [] => some (.ret (.bool (.lit true), []))
  | _ => none
theorem gShown_ok {args : List (AV DC)} {h : List (AO DC)} {t : T DC (AV DC × List (W DC))} {r : AV DC × List (W DC)} (ht : gShown args h = some t) (hp : t.pick = some r) : FnOk Tryd.prog 7 args h r := by
  unfold gShown at ht
  split at ht
  · cases ht
    have := T.ret_some hp
    subst this
    obtain ⟨l, hl⟩ := road_at sh_road (show [_] = [true] by rw [shTest_true])
    refine fn_val (pure_ok cxh_ok hl rfl rfl) fun ρ u hu => ?_
    have hu' : u = .bool shVal := hu
    rw [hu', shVal_true]
    rfl
  · cases ht
noncomputable def cxl : Cx DC := (((cxh.sum 9 gSame).sum 11 gOf).sum 13 gOf).sum 7 gShown
theorem cxl_ok : Ok Tryd.prog cxl := (((cxh_ok.sum (by kernel_rfl) fun args h t r ht hp => gSame_ok ht hp).sum (by kernel_rfl) fun args h t r ht hp => gOf_ok ht hp).sum (by kernel_rfl) fun args h t r ht hp => gOfr_ok ht hp).sum (by kernel_rfl) fun args h t r ht hp => gShown_ok ht hp

theorem lenH_le (m b n : Int) : lenH m b n ≤ 64 := by
  unfold lenH listH listN
  split
  · rw [List.length_map]
    exact Code.bits_le _
  · exact Nat.zero_le _

/-! ### The table -/
theorem gTab : Tryd.prog.globalNamed "math/bits.deBruijn64tab" = some 0 := by kernel_rfl
theorem tTab : (Tryd.prog.globals[0]?).map (·.type) = some 37 := by kernel_rfl
theorem uTab : Tryd.prog.underlying 37 = some (.array 64 5) := by kernel_rfl
theorem u5 : Tryd.prog.underlying 5 = some (.int .u8) := by kernel_rfl
abbrev laidT : List (String × DataW Unit) := [("math/bits.deBruijn64tab", Rows.laid_math_bits_deBruijn64tab)]
set_option maxRecDepth 100000 in
theorem door_met (os : Os) (args : Array Value) : laidMetH Tryd.prog laidT ((World.doorLaid Tryd.prog 400 os).forCall (fun _ _ => 0) ⟨#[], args, []⟩).memory :=
  laidMetH_of_parts3 (fuel := 8) (laidMet_of_run' 8 (by kernel_rfl) (by kernel_rfl)) (by kernel_rfl) (by kernel_rfl)
theorem tab_data : (Rows.laid_math_bits_deBruijn64tab : DataW Unit) = .agg (Lib.deBruijn64tab.map fun (n : Nat) => .lit (.int .u8 (n : Int))) := by rfl
theorem pin_of {W : World} (h : laidMetH Tryd.prog laidT W) : Pin W [] := by
  rw [MakeChecks.laidMetH_plain _ _ _ (by kernel_rfl)] at h
  obtain ⟨ps, ⟨g0, t0, cs0, f0, p0, q0, hg0, ht0, hv0, hd0, _⟩, _, _⟩ := h
  obtain rfl := Option.some.inj (gTab.symm.trans hg0)
  obtain rfl := Option.some.inj (tTab.symm.trans ht0)
  obtain ⟨xs, m1, hcs, hx1, hlen, hn3, hel⟩ := DataW.trod_array uTab hd0
  have c5 : Tryd.prog.cellsOf 5 = 1 := by kernel_rfl
  have hcell : ∀ j, j < 64 → W.cell? ⟨0, j, none⟩ = some (.int .u8 ((Lib.deBruijn64tab.getD j 0 : Nat) : Int)) := by
    intro j hj
    have hj1 := hel j hj
    have hxj : ∃ x, xs[j]? = some x := ⟨_, List.getElem?_eq_getElem (by omega)⟩
    obtain ⟨x, hx⟩ := hxj
    rw [hx] at hj1
    obtain ⟨k, e1, e2, _⟩ := DataW.trod_int u5 hj1
    have hk : k = ((Lib.deBruijn64tab.getD j 0 : Nat) : Int) := by
      have h1 : (xs.map (·.1))[j]? = some x.1 := by rw [List.getElem?_map, hx]; rfl
      have h2 : (xs.map (·.1)) = Lib.deBruijn64tab.map fun (n : Nat) => (.lit (.int .u8 (n : Int)) : DataW Unit) := by
        have := congrArg Prod.fst hx1
        rw [tab_data] at this
        simpa using this.symm
      rw [h2, List.getElem?_map] at h1
      have h3 : Lib.deBruijn64tab[j]? = some (Lib.deBruijn64tab.getD j 0) := by
        rw [List.getD_eq_getElem?_getD, List.getElem?_eq_getElem (show j < Lib.deBruijn64tab.length from hj)]
        rfl
      rw [h3, e2] at h1
      simpa using h1.symm
    have := World.var?_cell hg0 hv0 j
    rw [this]
    rw [c5] at e1
    subst hk
    have e3 : (cs0.toList.drop (j * 1)).take 1 = [.int .u8 ((Lib.deBruijn64tab.getD j 0 : Nat) : Int)] := e1
    rw [Nat.mul_one] at e3
    have e4 : (cs0.toList.drop j)[0]? = some (.int .u8 ((Lib.deBruijn64tab.getD j 0 : Nat) : Int)) := by
      have := congrArg (·[0]?) e3
      simpa [List.getElem?_take] using this
    simpa using e4
  intro b vs hb
  have hb' := List.mem_singleton.1 hb
  simp only [Prod.mk.injEq] at hb'
  obtain ⟨rfl, rfl⟩ := hb'
  have h0 := hcell 0 (by decide)
  obtain ⟨a, t, fz, ha⟩ : ∃ vs t fz, W.heap[0]? = some (.cells vs t fz) := by
    unfold World.cell? at h0
    split at h0
    · rename_i vs t fz hh
      exact ⟨vs, t, fz, hh⟩
    · cases h0
  refine ⟨by simp, a, t, fz, ha, fun i v hv => ?_⟩
  have hi : i < 64 := by
    have := (List.getElem?_eq_some_iff.1 hv).1
    simpa [Lib.deBruijn64tab] using this
  have h1 := hcell i hi
  rw [cell_of_row W 0 i a t fz ha] at h1
  rw [List.getElem?_map] at hv
  have h3 : Lib.deBruijn64tab[i]? = some (Lib.deBruijn64tab.getD i 0) := by
    rw [List.getD_eq_getElem?_getD, List.getElem?_eq_getElem (show i < Lib.deBruijn64tab.length from hi)]
    rfl
  rw [h3] at hv
  rw [← hv]
  exact h1
end Go.Proofs.YtbjlkapfpcmjfaaDoor.Mask
