/- The context of this seat's program for the evaluator; the library's TrailingZeros64. Conditions: none. -/
import Derived.Test.YtbjlkapfpcmjfaaDoorEvSlice
import Derived.Test.YtbjlkapfpcmjfaaDoorEvTmpl
import Derived.Test.YtbjlkapfpcmjfaaDoorEvLoop
import Derived.Test.YtbjlkapfpcmjfaaDoorEvMem
import Derived.Test.YtbjlkapfpcmjfaaDoorEvApp
import Derived.Test.YtbjlkapfpcmjfaaDoorEvArr
import Derived.Test.YtbjlkapfpcmjfaaDoorEvCtx
import Derived.Test.YtbjlkapfpcmjfaaDoorEvPureA
import Derived.Test.YtbjlkapfpcmjfaaDoorEvRoute
import Derived.Test.YtbjlkapfpcmjfaaDoorEvList
import Derived.Test.YtbjlkapfpcmjfaaDoorRows
import Derived.Test.YtbjlkapfpcmjfaaDoorChecked
import Derived.Shelf.Spec.TrailingZeros
namespace Go.Proofs.YtbjlkapfpcmjfaaDoor.Ev
open Go.RowKit
set_option linter.unusedVariables false

noncomputable def cx0 : Cx DC := mkC0 [0, 0, 0, 17, 17, 13, 12, 3, 11, 6, 11, 6, 3, 5, 3, 0, 0, 0, 0, 0, 0, 0, 0, 0, 0, 0, 0, 0, 0, 0, 0, 0, 0, 0, 0]
noncomputable def cx1 : Cx DC := cx0.more (selX Tryd.prog)
noncomputable def cx2 : Cx DC := cx1.more (memX Tryd.prog)
noncomputable def cx3a : Cx DC := cx2.more (mapX Tryd.prog)
noncomputable def cx3b : Cx DC := cx3a.more (arrX Tryd.prog)
noncomputable def cx3 : Cx DC := cx3b.more (appX Tryd.prog)

theorem cx0_ok : Ok Tryd.prog cx0 := mkC0_ok (by kernel_rfl) (by kernel_rfl)
theorem cx1_ok : Ok Tryd.prog cx1 := cx0_ok.more fun _ _ _ _ ho hz _ _ _ _ _ hS H => selX_sound ho hz hS H
theorem cx2_ok : Ok Tryd.prog cx2 := cx1_ok.more fun _ _ _ _ ho hz _ _ _ _ _ hS H => memX_sound ho hz hS H
theorem cx3a_ok : Ok Tryd.prog cx3a := cx2_ok.more fun _ _ _ _ ho hz _ _ _ _ _ hS H => mapX_sound ho hz hS H
theorem cx3b_ok : Ok Tryd.prog cx3b := cx3a_ok.more fun _ _ _ _ ho hz _ _ _ _ _ hS H => arrX_sound ho hz hS H
theorem cx3_ok : Ok Tryd.prog cx3 := cx3b_ok.more fun _ _ _ _ ho hz _ _ _ _ _ hS H => appX_sound ho hz hS H

theorem own : ownKnob Tryd.prog.godebug = none := by kernel_rfl

/-! ### TrailingZeros64 -/
set_option maxHeartbeats 1000000 in
theorem tz_core (x k idx : Nat) (w : World) (hx0 : ((x : Int) == 0) = false)
    (key : IntKind.u64.wrap (bits BinOp.and IntKind.u64 (x : Int) (IntKind.u64.wrap (-(x : Int))) * 285870213051353865) / 288230376151711744 = (idx : Int))
    (hi : idx < 64) (hk : k < 64) (hcell : w.cell? ⟨0, idx, none⟩ = some (.int .u8 k)) :
    Calls Tryd.prog 14 #[.int .u64 x] w fun e w' => e = .returned (.int .i64 k) ∧ w' = w := by
  go_enter Tryd.func14, Tryd.ntmps14
  go_wp2_with (simp only [key])
  go_ret
  exact ⟨rfl, rfl⟩
theorem tz_zero (w : World) : Calls Tryd.prog 14 #[.int .u64 0] w fun e w' => e = .returned (.int .i64 64) ∧ w' = w := by
  go_enter Tryd.func14, Tryd.ntmps14
  go_wp2
  go_ret
  exact ⟨rfl, rfl⟩
theorem tz_calls (x : Nat) (hx : x < 18446744073709551616) (w : World) (hT : TabAt 0 Lib.deBruijn64tab w) :
    Calls Tryd.prog 14 #[.int .u64 x] w fun e w' => e = .returned (.int .i64 (Lib.ctz 64 x)) ∧ w' = w := by
  by_cases hx0 : x = 0
  · subst hx0
    exact tz_zero w
  · obtain ⟨hlow, hk⟩ := Lib.lowest_bit 64 x hx0 hx
    obtain ⟨hi, htab⟩ := Lib.deBruijn64_at _ hk
    have hcell := hT _ hi
    rw [htab] at hcell
    exact tz_core x _ _ w (by simp; omega) (tz64_key x _ hx hx0 hlow) hi hk hcell
theorem tab_pin {w0 : World} {own : List Nat} (h : Pin w0 own) : TabAt 0 Lib.deBruijn64tab w0 := by
  intro j hj
  obtain ⟨_, a, t, fz, h1, h2⟩ := h 0 _ (List.mem_singleton.2 rfl)
  rw [cell_of_row w0 0 j a t fz h1]
  refine h2 j _ ?_
  rw [List.getElem?_map, List.getElem?_eq_getElem hj, List.getD_eq_getElem?_getD, List.getElem?_eq_getElem hj]
  rfl

/-- How many bits a number has none of, from the lowest on. -/
def tzI (x : Int) : Int := ((Lib.ctz 64 x.toNat : Nat) : Int)
def gTz (args : List (AV DC)) (h : List (AO DC)) : Option (T DC (AV DC × List (W DC))) := match args with
  | [.int .u64 x] => some (.br (decide (0 ≤ x.val ∧ x.val < 18446744073709551616)) (.ret (.int .i64 (.sym (tzI x.val)), [])) .fail)
  | _ => none
theorem gTz_ok {args : List (AV DC)} {h : List (AO DC)} {t : T DC (AV DC × List (W DC))} {r : AV DC × List (W DC)} (ht : gTz args h = some t) (hp : t.pick = some r) : FnOk Tryd.prog 14 args h r := by
  unfold gTz at ht
  split at ht
  · rename_i x
    cases ht
    rcases T.br_some hp with ⟨h1, h2⟩ | ⟨_, h2⟩
    · have := T.ret_some h2
      subst this
      intro w0 own ρ w vals H hvs
      obtain ⟨v, l, rfl, hv, hl⟩ := hvs
      have hl' : l = [] := hl
      subst hl'
      have h1' : (0 : Int) ≤ x.den ∧ x.den < (18446744073709551616 : Int) := by
        rw [← AI.val_den]
        exact of_decide_eq_true h1
      obtain ⟨m, hm⟩ : ∃ m : Nat, x.den = (m : Int) := ⟨x.den.toNat, by omega⟩
      have hv' : v = .int .u64 m := by rw [← hm]; exact hv
      subst hv'
      refine (tz_calls m (by omega) w (tab_pin H.pinned)).mono fun e w' hp => ?_
      obtain ⟨rfl, rfl⟩ := hp
      refine ⟨_, _, ρ, rfl, rfl, Ext.refl _, ?_, H⟩
      show Value.int .i64 (Lib.ctz 64 m) = .int .i64 (tzI x.val)
      rw [AI.val_den, hm]
      rfl
    · cases h2
  · cases ht
noncomputable def cx : Cx DC := cx3.sum 14 gTz
theorem cx_ok : Ok Tryd.prog cx := cx3_ok.sum (by kernel_rfl) fun args h t r ht hp => gTz_ok ht hp
end Go.Proofs.YtbjlkapfpcmjfaaDoor.Ev
