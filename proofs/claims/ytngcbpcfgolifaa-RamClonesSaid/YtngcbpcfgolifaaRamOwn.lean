/- Memory that was cloned: a slice whose capacity is not told; numbers in it. Conditions: none. -/
import Derived.Test.YtngcbpcfgolifaaRamCx
namespace Go.Proofs.Ytngcbpcfgolifaa.Ram
open Go.RowKit Ev
set_option linter.unusedVariables false
set_option linter.unusedSimpArgs false

noncomputable def also (X : Cx DC) (f : FuncId) (g : List (AV DC) → List (AO DC) → Option (T DC (AV DC × List (W DC)))) : Cx DC :=
  X.sum f fun args h => match g args h with
    | some t => some t
    | none => X.sums f args h
theorem also_ok {P : Program} {X : Cx DC} (hX : Ok P X) {f : FuncId} {g : List (AV DC) → List (AO DC) → Option (T DC (AV DC × List (W DC)))} (hb : (match P.funcs[f]? with | some fn => !fn.body.isNone | none => false) = true)
    (hg : ∀ args h t r, g args h = some t → t.pick = some r → FnOk P f args h r) : Ok P (also X f g) :=
  hX.sum hb fun args h t r ht hp => by
    cases hgo : g args h with
    | some t' =>
      rw [hgo] at ht
      cases ht
      exact hg args h _ r hgo hp
    | none =>
      rw [hgo] at ht
      exact hX.sums f args h t r ht hp

def hsU (L N : Nat) (F : Nat → Int) : List (AO DC) := [.cells 156 [.slice 1 (.lit 0) (.rc L 1 0) (.un 1)], .arr 5 N [(.int .u8, F)]]
theorem memU {P : Program} {X : Cx DC} (hX : Ok P X) {n : Nat} {f : FuncId} {b c : Nat} {L N : Nat} {F F1 F2 : Nat → Int} {h : List (AO DC)} {v v' : AV DC} {rest rest' : List (AV DC)} {l : List (W DC)} {ds cs : List Bool}
    (hr : seeM (hsU L N F) (call P X n f (.ptr 0 (.lit 0) :: rest') (hsU L N F)) ds = some (cs, .val v', hsU L N F1)) (hcs : cs = ds)
    (hb : h[b]? = some (.cells 156 [.slice c (.lit 0) (.rc L 1 0) (.un 1)])) (hc : h[c]? = some (.arr 5 N [(.int .u8, F)]))
    (hrest : covL (at' [b, c]) rest rest') (hv : b ≠ c → covV (idx [b, c]) v' v)
    (hl : (l = [] ∧ ∀ i, i < N → F1 i = F i) ∨ (l = [.obj c (.arr 5 N [(.int .u8, F2)])] ∧ ∀ i, i < N → F1 i = F2 i)) : FnOk P f (.ptr b (.lit 0) :: rest) h (v, l) := by
  subst hcs
  have hbc : b ≠ c := fun e => by subst e; rw [hb] at hc; cases hc
  have hbeq : Nat.beq b c = false := by
    cases hh : Nat.beq b c
    · rfl
    · exact absurd (Nat.eq_of_beq_eq_true hh) hbc
  unfold seeM at hr
  obtain ⟨⟨cs', z⟩, h1, h2⟩ := Option.map_eq_some_iff.1 hr
  simp only [Prod.mk.injEq] at h2
  obtain ⟨rfl, h3, h4⟩ := h2
  have hp := route_pick _ _ _ h1
  obtain ⟨z1, z2⟩ := z
  simp only at h3 h4 hp
  subst h3
  obtain ⟨q0, q1⟩ := take2 h4
  have i0 : idx [b, c] b = some 0 := by simp [idx]
  have i1 : idx [b, c] c = some 1 := by simp [idx, hbeq]
  refine frame_old [b, c] (fn_ok hX (r := (v', z2)) hp) ⟨⟨rfl, rfl⟩, hrest⟩ ⟨?_, ?_, trivial⟩ ?_ (by simp [hbc]) (fun j i o hj ho => ?_) ?_ (fun i hi => ?_) (fun j i o hj ho => ?_) (hv hbc)
  · rw [hb]
    exact ⟨rfl, ⟨rfl, rfl, rfl, rfl⟩, trivial⟩
  · rw [hc]
    exact ⟨rfl, rfl, ⟨rfl, fun _ _ => rfl, trivial⟩⟩
  · simp [hsU, injB, notIn, AO.live, AO.mine, hbeq]
  · match j, hj with
    | 0, hj => cases hj; rw [hb] at ho; cases ho; rfl
    | 1, hj => cases hj; rw [hc] at ho; cases ho; rfl
    | _ + 2, hj => cases hj
  · rcases hl with ⟨rfl, _⟩ | ⟨rfl, _⟩
    · rfl
    · simp [St.apps, St.app]
  · rcases hl with ⟨rfl, _⟩ | ⟨rfl, _⟩
    · rfl
    · have : c ≠ i := fun e => hi (by simp [e])
      simp only [St.apps, St.app]
      rw [List.getElem?_set_ne this]
  · match j, hj with
    | 0, hj =>
      cases hj
      have ho' : h[b]? = some o := by
        rcases hl with ⟨rfl, _⟩ | ⟨rfl, _⟩
        · exact ho
        · simp only [St.apps, St.app] at ho
          rwa [List.getElem?_set_ne (fun e => hbc e.symm)] at ho
      rw [hb] at ho'
      cases ho'
      exact ⟨_, q0, rfl, ⟨i1, rfl, rfl, rfl⟩, trivial⟩
    | 1, hj =>
      cases hj
      rcases hl with ⟨rfl, hF⟩ | ⟨rfl, hF⟩
      · have ho' : h[c]? = some o := ho
        rw [hc] at ho'
        cases ho'
        exact ⟨_, q1, rfl, rfl, ⟨rfl, hF, trivial⟩⟩
      · simp only [St.apps, St.app] at ho
        rw [List.getElem?_set_self (List.getElem?_eq_some_iff.1 hc).1] at ho
        cases ho
        exact ⟨_, q1, rfl, rfl, ⟨rfl, hF, trivial⟩⟩
    | _ + 2, hj => cases hj

/-! ### A part of it -/
set_option maxRecDepth 100000 in
theorem part0U (L N : Nat) (F : Nat → Int) (x n : Int) : seeM (hsU L N F) (call Try.prog cx 380 88 [.ptr 0 (.lit 0), .int .u64 (.sym x), .int .i64 (.sym n)] (hsU L N F)) [true] =
    some ([partT L x n], .val (.tuple [.nilslice, .bool (.lit false)]), hsU L N F) := by kernel_rfl
set_option maxRecDepth 100000 in
theorem part1U (L N : Nat) (F : Nat → Int) (x n : Int) : seeM (hsU L N F) (call Try.prog cx 380 88 [.ptr 0 (.lit 0), .int .u64 (.sym x), .int .i64 (.sym n)] (hsU L N F)) [false, true] =
    some ([partT L x n, partU L x n], .val (.tuple [.slice 1 (.rc (off x) 1 0) (.rc ((Int.toNat (endS x n)) - (Int.toNat (litBin .sub .u64 x 2147483648))) 1 0) (.un 0), .bool (.lit true)]), hsU L N F) := by kernel_rfl
noncomputable def gPartU (args : List (AV DC)) (h : List (AO DC)) : Option (T DC (AV DC × List (W DC))) := match args with
  | [.ptr b (.lit 0), .int .u64 x, .int .i64 n] => match h[b]? with
    | some (.cells 156 [.slice c (.lit 0) (.rc L 1 0) (.un 1)]) => match h[c]? with
      | some (.arr 5 N [(.int .u8, F)]) => some (.br (askP L L x.den n.den) (.br (okS L x.den n.den) (.ret (.tuple [.slice c (.rc (off x.den) 1 0) (lenOf n) (.un 0), .bool (.lit true)], [])) (.ret (.tuple [.nilslice, .bool (.lit false)], []))) .fail)
      | _ => none
    | _ => none
  | _ => none
noncomputable def cxu1 : Cx DC := cx.sum 88 gPartU
theorem cxu1_ok : Ok Try.prog cxu1 := cx_ok.sum (by kernel_rfl) fun args h t r ht hp => by
  unfold gPartU at ht
  split at ht
  · rename_i b x n
    split at ht
    · rename_i c L hb
      split at ht
      · rename_i N F hc
        cases ht
        rcases T.br_some hp with ⟨h1, h2⟩ | ⟨_, h2⟩
        · obtain ⟨k1, k2, k3, k4⟩ := of_yes h1
          have ea := part_arith k2 k3 k4
          rcases T.br_some h2 with ⟨h3, h4⟩ | ⟨h3, h4⟩
          · have := T.ret_some h4
            subst this
            rw [h3] at ea
            obtain ⟨g1, g2⟩ := part_end k2 k3 h3
            refine memU (F2 := F) cx_ok (part1U L N F x.den n.den) (by rw [ea, part_u k2 k1 k3 h3]; rfl) hb hc ⟨⟨rfl, rfl⟩, ⟨rfl, rfl⟩, trivial⟩ (fun hbc => ?_) (.inl ⟨rfl, fun _ _ => rfl⟩)
            have hbeq : Nat.beq b c = false := by
              cases hh : Nat.beq b c
              · rfl
              · exact absurd (Nat.eq_of_beq_eq_true hh) hbc
            refine ⟨⟨by simp [idx, hbeq], rfl, ?_, rfl⟩, rfl, trivial⟩
            rw [lenOf_den]
            show ((endS x.den n.den).toNat - (litBin .sub .u64 x.den 2147483648).toNat) * 1 + 0 = _
            rw [g1, g2, Int.toNat_natCast, Int.toNat_natCast]
            omega
          · have := T.ret_some h4
            subst this
            rw [h3] at ea
            exact memU (F2 := F) cx_ok (part0U L N F x.den n.den) (by rw [ea]; rfl) hb hc ⟨⟨rfl, rfl⟩, ⟨rfl, rfl⟩, trivial⟩ (fun hbc => ⟨trivial, rfl, trivial⟩) (.inl ⟨rfl, fun _ _ => rfl⟩)
        · cases h2
      · cases ht
    · cases ht
  · cases ht

/-! ### Numbers of eight bytes in it -/
set_option maxRecDepth 100000 in
theorem getu8 (L N : Nat) (F : Nat → Int) (x : Int) : seeM (hsU L N F) (call Try.prog cxu1 380 36 [.ptr 0 (.lit 0), .int .u64 (.sym x), .int .i64 (.lit 8)] (hsU L N F)) [true] =
    some ([askP L L x 8 && cond (okS L x 8) (bndC N (off x) 7 0) true], .val (.tuple [.int .u64 (.sym (cond (okS L x 8) (orC F (off x) 8) 0)), .bool (.sym (okS L x 8))]), hsU L N F) := by kernel_rfl
set_option maxRecDepth 100000 in
theorem putu8 (L N : Nat) (F : Nat → Int) (x : Int) (v : Int) : seeM (hsU L N F) (call Try.prog cxu1 380 35 [.ptr 0 (.lit 0), .int .u64 (.sym x), .int .i64 (.lit 8), .int .u64 (.sym v)] (hsU L N F)) [true, true, true] =
    some ([askP L L x 8, okS L x 8, bndC N (off x) 7 0], .val (.bool (.lit true)), hsU L N (putC F (off x) v 8)) := by kernel_rfl
set_option maxRecDepth 100000 in
theorem putun8 (L N : Nat) (F : Nat → Int) (x : Int) (v : Int) : seeM (hsU L N F) (call Try.prog cxu1 380 35 [.ptr 0 (.lit 0), .int .u64 (.sym x), .int .i64 (.lit 8), .int .u64 (.sym v)] (hsU L N F)) [true, false] =
    some ([askP L L x 8, okS L x 8], .val (.bool (.lit false)), hsU L N F) := by kernel_rfl
noncomputable def gGetU (args : List (AV DC)) (h : List (AO DC)) : Option (T DC (AV DC × List (W DC))) := match args with
  | [.ptr b (.lit 0), .int .u64 x, .int .i64 (.lit 8)] => match h[b]? with
    | some (.cells 156 [.slice c (.lit 0) (.rc L 1 0) (.un 1)]) => match h[c]? with
      | some (.arr 5 N [(.int .u8, F)]) => some (.br (askM L L N F x.den 8) (.ret (.tuple [.int .u64 (.sym (getS F N x.den 8)), .bool (.sym (num 8 && okS N x.den 8))], [])) .fail)
      | _ => none
    | _ => none
  | _ => none
noncomputable def gPutU (args : List (AV DC)) (h : List (AO DC)) : Option (T DC (AV DC × List (W DC))) := match args with
  | [.ptr b (.lit 0), .int .u64 x, .int .i64 (.lit 8), .int .u64 v] => match h[b]? with
    | some (.cells 156 [.slice c (.lit 0) (.rc L 1 0) (.un 1)]) => match h[c]? with
      | some (.arr 5 N [(.int .u8, F)]) => some (.br (askM L L N F x.den 8 && yes (inU v.den)) (.ret (.bool (.sym (num 8 && okS N x.den 8)), [.obj c (.arr 5 N [(.int .u8, putF F N x.den 8 v.den)])])) .fail)
      | _ => none
    | _ => none
  | _ => none
theorem gGetU_ok {args : List (AV DC)} {h : List (AO DC)} {t : T DC (AV DC × List (W DC))} {r : AV DC × List (W DC)} (ht : gGetU args h = some t) (hp : t.pick = some r) : FnOk Try.prog 36 args h r := by
  unfold gGetU at ht
  split at ht
  · rename_i b x
    split at ht
    · rename_i c L hb
      split at ht
      · rename_i N F hc
        cases ht
        rcases T.br_some hp with ⟨h1, h2⟩ | ⟨_, h2⟩
        · have := T.ret_some h2
          subst this
          have ha := askP_of h1
          obtain ⟨⟨e1, _, hm⟩, hx, hi⟩ := of_yes h1
          subst e1
          refine memU (F2 := F) cxu1_ok (getu8 _ _ F x.den) ?_ hb hc ⟨⟨rfl, rfl⟩, ⟨rfl, rfl⟩, trivial⟩ (fun hbc => ⟨⟨rfl, ?_⟩, ?_, trivial⟩) (.inl ⟨rfl, fun _ _ => rfl⟩)
          · rw [ha]
            cases hb' : okS L x.den 8
            · rfl
            · have := (ok_off hb' hx).2.2
              rw [cond_true, bndC_t 7 0 (by simp at this; omega)]; rfl
          · show cond (okS L x.den 8) (orC F (off x.den) 8) 0 = getS F L x.den 8
            rw [getS_ok num8]
            cases hb' : okS L x.den 8
            · rfl
            · have := (ok_off hb' hx).2.2
              exact orC_eq hm.byte 8 (off x.den) (by omega) (by simpa using this)
          · show okS L x.den 8 = (num 8 && okS L x.den 8)
            rw [num8]
            rfl
        · cases h2
      · cases ht
    · cases ht
  · cases ht
theorem gPutU_ok {args : List (AV DC)} {h : List (AO DC)} {t : T DC (AV DC × List (W DC))} {r : AV DC × List (W DC)} (ht : gPutU args h = some t) (hp : t.pick = some r) : FnOk Try.prog 35 args h r := by
  unfold gPutU at ht
  split at ht
  · rename_i b x v
    split at ht
    · rename_i c L hb
      split at ht
      · rename_i N F hc
        cases ht
        rcases T.br_some hp with ⟨h1, h2⟩ | ⟨_, h2⟩
        · have := T.ret_some h2
          subst this
          simp only [Bool.and_eq_true] at h1
          obtain ⟨h1, h1v⟩ := h1
          have hv := of_yes h1v
          have ha := askP_of h1
          obtain ⟨⟨e1, _, hm⟩, hx, hi⟩ := of_yes h1
          subst e1
          cases hb' : okS L x.den 8
          · refine memU cxu1_ok (putun8 _ _ F x.den v.den) (by rw [ha, hb']) hb hc ⟨⟨rfl, rfl⟩, ⟨rfl, rfl⟩, ⟨rfl, rfl⟩, trivial⟩ (fun hbc => ?_) (.inr ⟨rfl, fun _ _ => ?_⟩)
            · show false = (num 8 && false)
              rw [Bool.and_false]
            · rw [putF_ok num8, hb']
              rfl
          · have := (ok_off hb' hx).2.2
            refine memU cxu1_ok (putu8 _ _ F x.den v.den) (by rw [ha, hb', bndC_t 7 0 (by simp at this; omega)]) hb hc ⟨⟨rfl, rfl⟩, ⟨rfl, rfl⟩, ⟨rfl, rfl⟩, trivial⟩ (fun hbc => ?_) (.inr ⟨rfl, fun _ _ => ?_⟩)
            · show true = (num 8 && true)
              rw [num8]
              rfl
            · rw [putF_ok num8, hb', putC_eq F (off x.den) hv 8 (by omega)]
              rfl
        · cases h2
      · cases ht
    · cases ht
  · cases ht
noncomputable def cxo : Cx DC := also (also (cxr.more (ownX Try.prog)) 35 gPutU) 36 gGetU
theorem cxo_ok : Ok Try.prog cxo := also_ok (also_ok (cxr_ok.more fun _ _ _ _ ho hz _ _ _ _ _ hS H => ownX_sound ho hz hS H) (by kernel_rfl) fun args h t r ht hp => gPutU_ok ht hp) (by kernel_rfl) fun args h t r ht hp => gGetU_ok ht hp
end Go.Proofs.Ytngcbpcfgolifaa.Ram
