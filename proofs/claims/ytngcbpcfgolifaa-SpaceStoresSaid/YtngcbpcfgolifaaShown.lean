/- What stands at the head of a layer's statements is true. Conditions: none. -/
import Derived.Test.YtngcbpcfgolifaaBoth
namespace Go.Proofs.Ytngcbpcfgolifaa.Ev
open Go.RowKit
set_option linter.unusedVariables false
set_option linter.unusedSimpArgs false

theorem wf8 {h : Int} (wh : (Lit.int .u8 h).wf = true) : 0 ≤ h ∧ h < 256 := by
  simp [Lit.wf, IntKind.min, IntKind.max, IntKind.signed, IntKind.bits] at wh
  omega
theorem wf16 {h : Int} (wh : (Lit.int .u16 h).wf = true) : 0 ≤ h ∧ h < 65536 := by
  simp [Lit.wf, IntKind.min, IntKind.max, IntKind.signed, IntKind.bits] at wh
  omega
theorem wf32 {h : Int} (wh : (Lit.int .u32 h).wf = true) : 0 ≤ h ∧ h < 4294967296 := by
  simp [Lit.wf, IntKind.min, IntKind.max, IntKind.signed, IntKind.bits] at wh
  omega
theorem eql_self (x : Int) : litCmp .eql x x = true := by rw [eql_eq]; exact decide_eq_true rfl
theorem neq_self (x : Int) : litCmp .neq x x = false := by rw [neq_eq, decide_eq_true rfl]; rfl
theorem askB_of {pg : Int} {n : Nat} {X : Nat → Int} (h : 0 ≤ pg ∧ pg < 256) (hX : ∀ j, j < n → inU (X j)) : askB pg n n X = true := yes_of ⟨rfl, h, hX⟩
def gTrue (args : List (AV DC)) (h : List (AO DC)) : Option (T DC (AV DC × List (W DC))) := match args with
  | [] => some (.ret (.bool (.lit true), []))
  | _ => none
theorem gTrue_ok {X : Cx DC} (hX : Ok Try.prog X) {n : Nat} {f : FuncId} {ds cs : List Bool} {b : Bool} (hr : ((call Try.prog X n f [] []).route ds).map (fun p => (p.1, p.2.1)) = some (cs, .val (.bool (.sym b)))) (hcs : cs = ds) (hb : b = true)
    {args : List (AV DC)} {h : List (AO DC)} {t : T DC (AV DC × List (W DC))} {r : AV DC × List (W DC)} (ht : gTrue args h = some t) (hp : t.pick = some r) : FnOk Try.prog f args h r := by
  unfold gTrue at ht
  split at ht
  · cases ht
    have := T.ret_some hp
    subst this
    obtain ⟨l, hl⟩ := road_at hr hcs
    exact pureV hX hl trivial fun σ => hb
  · cases ht
def sh0 : Int → Nat → Int := fun v _ => v
def shown44 : Bool := (cond (litCmp .eql (toW (fun _ => 0) (Int.toNat 4096) 0 0 1 1 5) 5) (cond (!(isW (fun _ => 0) (Int.toNat 4096) 0 0 1 1 5)) (litCmp .eql (cauS 2 12 15 13) 15) false) false)
set_option maxRecDepth 100000 in
theorem shown44_road : ((call Try.prog cxb45 380 44 [] []).route [true]).map (fun p => (p.1, p.2.1)) = some ([(decide ((0 : Int) ≤ 4096 ∧ (4096 : Int) < ((16777216 : Nat) : Int))) && (askW (Int.toNat 4096) (Int.toNat 4096) (Int.toNat 4096) (fun _ => 0) 0 0 5)], .val (.bool (.sym shown44))) := by kernel_rfl
theorem np0 : np 0 = true := by decide +kernel
theorem shown44_t : shown44 = true := by
  unfold shown44
  have h1 : isW (fun _ => 0) (Int.toNat 4096) 0 0 1 1 5 = false := outW_np np0
  have h2 : toW (fun _ => 0) (Int.toNat 4096) 0 0 1 1 5 = 5 := by
    unfold toW
    rw [h1, np0]
    rfl
  rw [h1, h2]
  decide +kernel
noncomputable def cxl : Cx DC := cxb45.sum 44 gTrue
theorem cxl_ok : Ok Try.prog cxl := cxb45_ok.sum (by kernel_rfl) fun args h t r ht hp => gTrue_ok cxb45_ok shown44_road (by
  have h5 : inU 5 := ⟨by decide, by decide⟩
  rw [askW_of (MemOk.zero (by decide)) inU0 inU0 h5]
  rfl) shown44_t ht hp
def blitF (f : Nat → Int) (a : Nat) (g : Nat → Int) (b n : Nat) : Nat → Int := fun i => if a ≤ i ∧ i < a + n then g (b + (i - a)) else f i
def byteF (f : Nat → Int) : Nat → Int := fun i => (((f i).toNat % 256 : Nat) : Int)
def eqF (f : Nat → Int) (a : Nat) (g : Nat → Int) (b n : Nat) : Bool := (List.range n).all fun i => f (a + i) == g (b + i)
theorem same_bytes (F : Nat → Int) (N : Nat) : eqF (byteF (blitF (fun _ => 0) 0 F 0 N)) 0 (byteF F) 0 N = true := by
  refine List.all_eq_true.2 fun i hi => ?_
  have hi' : i < N := List.mem_range.1 hi
  show (((((if 0 ≤ 0 + i ∧ 0 + i < 0 + N then F (0 + (0 + i - 0)) else 0).toNat % 256 : Nat) : Int)) == ((((F (0 + i)).toNat % 256 : Nat) : Int))) = true
  rw [if_pos ⟨Nat.zero_le _, by omega⟩, show 0 + (0 + i - 0) = 0 + i by omega]
  exact beq_self_eq_true _
end Go.Proofs.Ytngcbpcfgolifaa.Ev
