/- Get and Put as terms. Conditions: none. -/
import Derived.Test.YtngcbpcfgolifaaMemRoads
namespace Go.Proofs.Ytngcbpcfgolifaa.Ev
open Go.RowKit
set_option linter.unusedVariables false
set_option linter.unusedSimpArgs false

/-! ### Get and Put -/
theorem num_of {n : Int} (h : num n = true) : n = 1 ∨ n = 2 ∨ n = 4 ∨ n = 8 := of_decide_eq_true h
theorem getS_n {F : Nat → Int} {N : Nat} {x n : Int} (h : num n = false) : getS F N x n = 0 := by unfold getS; rw [h]; rfl
theorem putF_n {F : Nat → Int} {N : Nat} {x n v : Int} (h : num n = false) : putF F N x n v = F := by unfold putF; rw [h]; rfl
theorem getS_ok {F : Nat → Int} {N : Nat} {x n : Int} (h : num n = true) : getS F N x n = cond (okS N x n) (le F (off x) n.toNat) 0 := by unfold getS; rw [h]; rfl
theorem putF_ok {F : Nat → Int} {N : Nat} {x n v : Int} (h : num n = true) : putF F N x n v = cond (okS N x n) (putS F (off x) n.toNat v) F := by unfold putF; rw [h]; rfl
noncomputable def gGet (T0 : TypeId) (args : List (AV DC)) (h : List (AO DC)) : Option (T DC (AV DC × List (W DC))) := match args with
  | [.ptr b (.lit 0), .int .u64 x, .int .i64 n] => match h[b]? with
    | some (.cells t [.slice c (.lit 0) (.rc L 1 0) (.kn (.rc C 1 0))]) => if Nat.beq t T0 then (match h[c]? with
      | some (.arr 5 N [(.int .u8, F)]) => some (.br (askM L C N F x.den n.den) (.ret (.tuple [.int .u64 (.sym (getS F N x.den n.den)), .bool (.sym (num n.den && okS N x.den n.den))], [])) .fail)
      | _ => none) else none
    | _ => none
  | _ => none
noncomputable def gPut (T0 : TypeId) (args : List (AV DC)) (h : List (AO DC)) : Option (T DC (AV DC × List (W DC))) := match args with
  | [.ptr b (.lit 0), .int .u64 x, .int .i64 n, .int .u64 v] => match h[b]? with
    | some (.cells t [.slice c (.lit 0) (.rc L 1 0) (.kn (.rc C 1 0))]) => if Nat.beq t T0 then (match h[c]? with
      | some (.arr 5 N [(.int .u8, F)]) => some (.br (askM L C N F x.den n.den && yes (inU v.den)) (.ret (.bool (.sym (num n.den && okS N x.den n.den)), [.obj c (.arr 5 N [(.int .u8, putF F N x.den n.den v.den)])])) .fail)
      | _ => none) else none
    | _ => none
  | _ => none
theorem get_ok {X Y : Cx DC} (hX : Ok Try.prog X) (hY : Ok Try.prog Y) {f : FuncId} {T0 : TypeId}
    (hn : ∀ (L C N : Nat) (F : Nat → Int) (x n : Int), askP L C x n = true → num n = false → ∃ (ds cs : List Bool), seeM (hsM T0 L C N F) (call Try.prog Y 380 f [.ptr 0 (.lit 0), .int .u64 (.sym x), .int .i64 (.sym n)] (hsM T0 L C N F)) ds = some (cs, .val (.tuple [.int .u64 (.lit 0), .bool (.lit false)]), hsM T0 L C N F) ∧ cs = ds)
    (hf : ∀ (N : Nat) (F : Nat → Int) (x n : Int), MemOk N F → inU x → num n = true → ∃ (ds cs : List Bool) (q : Int) (b : Bool), seeM (hsM T0 N N N F) (call Try.prog X 380 f [.ptr 0 (.lit 0), .int .u64 (.sym x), .int .i64 (.lit n)] (hsM T0 N N N F)) ds = some (cs, .val (.tuple [.int .u64 (.sym q), .bool (.sym b)]), hsM T0 N N N F) ∧ cs = ds ∧ q = cond (okS N x n) (le F (off x) n.toNat) 0 ∧ b = okS N x n)
    {args : List (AV DC)} {h : List (AO DC)} {t : T DC (AV DC × List (W DC))} {r : AV DC × List (W DC)} (ht : gGet T0 args h = some t) (hp : t.pick = some r) : FnOk Try.prog f args h r := by
  unfold gGet at ht
  split at ht
  · rename_i b x n
    split at ht
    · rename_i t0 c L C hb
      split at ht
      · rename_i hT
        have := Nat.eq_of_beq_eq_true hT
        subst this
        split at ht
        · rename_i N F hc
          cases ht
          rcases T.br_some hp with ⟨h1, h2⟩ | ⟨_, h2⟩
          · have := T.ret_some h2
            subst this
            have ha := askP_of h1
            obtain ⟨⟨e1, e2, hm⟩, hx, hi⟩ := of_yes h1
            cases hq : num n.den
            · obtain ⟨ds, cs, g1, g2⟩ := hn L C N F x.den n.den ha hq
              refine memF (F2 := F) hY g1 g2 hb hc ⟨⟨rfl, rfl⟩, ⟨rfl, rfl⟩, trivial⟩ (fun hbc => ⟨⟨rfl, ?_⟩, rfl, trivial⟩) (.inl ⟨rfl, fun _ _ => rfl⟩)
              rw [getS_n hq]
              rfl
            · subst e1 e2
              obtain ⟨ds, cs, q, b', g1, g2, g3, g4⟩ := hf _ F x.den n.den hm hx hq
              refine memF (F2 := F) hX g1 g2 hb hc ⟨⟨rfl, rfl⟩, ⟨rfl, rfl⟩, trivial⟩ (fun hbc => ⟨⟨rfl, ?_⟩, g4, trivial⟩) (.inl ⟨rfl, fun _ _ => rfl⟩)
              rw [getS_ok hq]
              exact g3
          · cases h2
        · cases ht
      · cases ht
    · cases ht
  · cases ht
theorem put_ok {X Y : Cx DC} (hX : Ok Try.prog X) (hY : Ok Try.prog Y) {f : FuncId} {T0 : TypeId}
    (hn : ∀ (L C N : Nat) (F : Nat → Int) (x n v : Int), askP L C x n = true → num n = false → ∃ (ds cs : List Bool), seeM (hsM T0 L C N F) (call Try.prog Y 380 f [.ptr 0 (.lit 0), .int .u64 (.sym x), .int .i64 (.sym n), .int .u64 (.sym v)] (hsM T0 L C N F)) ds = some (cs, .val (.bool (.lit false)), hsM T0 L C N F) ∧ cs = ds)
    (hf : ∀ (N : Nat) (F : Nat → Int) (x n v : Int), MemOk N F → inU x → inU v → num n = true → ∃ (ds cs : List Bool) (G : Nat → Int), seeM (hsM T0 N N N F) (call Try.prog X 380 f [.ptr 0 (.lit 0), .int .u64 (.sym x), .int .i64 (.lit n), .int .u64 (.sym v)] (hsM T0 N N N F)) ds = some (cs, .val (.bool (.lit (okS N x n))), hsM T0 N N N G) ∧ cs = ds ∧ G = cond (okS N x n) (putS F (off x) n.toNat v) F)
    {args : List (AV DC)} {h : List (AO DC)} {t : T DC (AV DC × List (W DC))} {r : AV DC × List (W DC)} (ht : gPut T0 args h = some t) (hp : t.pick = some r) : FnOk Try.prog f args h r := by
  unfold gPut at ht
  split at ht
  · rename_i b x n v
    split at ht
    · rename_i t0 c L C hb
      split at ht
      · rename_i hT
        have := Nat.eq_of_beq_eq_true hT
        subst this
        split at ht
        · rename_i N F hc
          cases ht
          rcases T.br_some hp with ⟨h1, h2⟩ | ⟨_, h2⟩
          · have := T.ret_some h2
            subst this
            simp only [Bool.and_eq_true] at h1
            obtain ⟨h1, h1v⟩ := h1
            have hvu := of_yes h1v
            have ha := askP_of h1
            obtain ⟨⟨e1, e2, hm⟩, hx, hi⟩ := of_yes h1
            cases hq : num n.den
            · obtain ⟨ds, cs, g1, g2⟩ := hn L C N F x.den n.den v.den ha hq
              exact memF hY g1 g2 hb hc ⟨⟨rfl, rfl⟩, ⟨rfl, rfl⟩, ⟨rfl, rfl⟩, trivial⟩ (fun hbc => rfl) (.inr ⟨rfl, fun _ _ => by rw [putF_n hq]⟩)
            · subst e1 e2
              obtain ⟨ds, cs, G, g1, g2, g3⟩ := hf _ F x.den n.den v.den hm hx hvu hq
              exact memF hX g1 g2 hb hc ⟨⟨rfl, rfl⟩, ⟨rfl, rfl⟩, ⟨rfl, rfl⟩, trivial⟩ (fun hbc => rfl) (.inr ⟨rfl, fun _ _ => by rw [g3, putF_ok hq]⟩)
          · cases h2
        · cases ht
      · cases ht
    · cases ht
  · cases ht
theorem askP_m {N : Nat} {F : Nat → Int} {x n : Int} (hm : MemOk N F) (hx : inU x) (hn : num n = true) : askP N N x n = true := by
  refine yes_of ⟨rfl, hm.le, hx, ?_⟩
  have := num_of hn
  unfold inI
  omega

noncomputable def cxm_g1 : Cx DC := cxm2.sum 36 (gGet 156)
theorem cxm_g1_ok : Ok Try.prog cxm_g1 := cxm2_ok.sum (by kernel_rfl) fun args h t r ht hp => by
  refine get_ok cxm2_ok cxn_ok (fun L C N F x n ha hq => ⟨[true], _, getcN L C N F x n, by rw [hq]; rfl⟩) (fun N F x n hm hx hn => ?_) ht hp
  have ha := askP_m hm hx hn
  rcases num_of hn with rfl | rfl | rfl | rfl
  · refine ⟨[true], _, _, _, getc1 N N N F x, ?_, ?_, rfl⟩
    · rw [ha]
      cases hb : okS N x 1
      · rfl
      · have := (ok_off hb hx).2.2
        rw [cond_true, bndC_t 0 0 (by simp at this; omega)]; rfl
    · cases hb : okS N x 1
      · rfl
      · have := (ok_off hb hx).2.2
        exact orC_eq hm.byte 1 (off x) (by omega) (by simpa using this)
  · refine ⟨[true], _, _, _, getc2 N N N F x, ?_, ?_, rfl⟩
    · rw [ha]
      cases hb : okS N x 2
      · rfl
      · have := (ok_off hb hx).2.2
        rw [cond_true, bndC_t 1 0 (by simp at this; omega)]; rfl
    · cases hb : okS N x 2
      · rfl
      · have := (ok_off hb hx).2.2
        exact orC_eq hm.byte 2 (off x) (by omega) (by simpa using this)
  · refine ⟨[true], _, _, _, getc4 N N N F x, ?_, ?_, rfl⟩
    · rw [ha]
      cases hb : okS N x 4
      · rfl
      · have := (ok_off hb hx).2.2
        rw [cond_true, bndC_t 3 0 (by simp at this; omega)]; rfl
    · cases hb : okS N x 4
      · rfl
      · have := (ok_off hb hx).2.2
        exact orC_eq hm.byte 4 (off x) (by omega) (by simpa using this)
  · refine ⟨[true], _, _, _, getc8 N N N F x, ?_, ?_, rfl⟩
    · rw [ha]
      cases hb : okS N x 8
      · rfl
      · have := (ok_off hb hx).2.2
        rw [cond_true, bndC_t 7 0 (by simp at this; omega)]; rfl
    · cases hb : okS N x 8
      · rfl
      · have := (ok_off hb hx).2.2
        exact orC_eq hm.byte 8 (off x) (by omega) (by simpa using this)
noncomputable def cxm_g2 : Cx DC := cxm_g1.sum 39 (gGet 63)
theorem cxm_g2_ok : Ok Try.prog cxm_g2 := cxm_g1_ok.sum (by kernel_rfl) fun args h t r ht hp => by
  refine get_ok cxm2_ok cxn_ok (fun L C N F x n ha hq => ⟨[true], _, getrN L C N F x n, by rw [ha, hq]; rfl⟩) (fun N F x n hm hx hn => ?_) ht hp
  have ha := askP_m hm hx hn
  rcases num_of hn with rfl | rfl | rfl | rfl
  · refine ⟨[true], _, _, _, getr1 N N N F x, ?_, ?_, by cases okS N x 1 <;> rfl⟩
    · rw [ha]
      cases hb : okS N x 1
      · rfl
      · have := (ok_off hb hx).2.2
        rw [bndD_t hm.le hb hx 0 (by omega) (by simp at this; omega)]; rfl
    · cases hb : okS N x 1
      · rfl
      · have := (ok_off hb hx).2.2
        exact refC_eq hm hb hx 1 0 (by omega) (by simpa using this)
  · refine ⟨[true], _, _, _, getr2 N N N F x, ?_, ?_, by cases okS N x 2 <;> rfl⟩
    · rw [ha]
      cases hb : okS N x 2
      · rfl
      · have := (ok_off hb hx).2.2
        rw [bndD_t hm.le hb hx 1 (by omega) (by simp at this; omega)]; rfl
    · cases hb : okS N x 2
      · rfl
      · have := (ok_off hb hx).2.2
        exact refC_eq hm hb hx 2 0 (by omega) (by simpa using this)
  · refine ⟨[true], _, _, _, getr4 N N N F x, ?_, ?_, by cases okS N x 4 <;> rfl⟩
    · rw [ha]
      cases hb : okS N x 4
      · rfl
      · have := (ok_off hb hx).2.2
        rw [bndD_t hm.le hb hx 3 (by omega) (by simp at this; omega)]; rfl
    · cases hb : okS N x 4
      · rfl
      · have := (ok_off hb hx).2.2
        exact refC_eq hm hb hx 4 0 (by omega) (by simpa using this)
  · refine ⟨[true], _, _, _, getr8 N N N F x, ?_, ?_, by cases okS N x 8 <;> rfl⟩
    · rw [ha]
      cases hb : okS N x 8
      · rfl
      · have := (ok_off hb hx).2.2
        rw [bndD_t hm.le hb hx 7 (by omega) (by simp at this; omega)]; rfl
    · cases hb : okS N x 8
      · rfl
      · have := (ok_off hb hx).2.2
        exact refC_eq hm hb hx 8 0 (by omega) (by simpa using this)
noncomputable def cxm_p1 : Cx DC := cxm_g2.sum 35 (gPut 156)
theorem cxm_p1_ok : Ok Try.prog cxm_p1 := cxm_g2_ok.sum (by kernel_rfl) fun args h t r ht hp => by
  refine put_ok cxm2_ok cxn_ok (fun L C N F x n v ha hq => ⟨[true], _, putcN L C N F x n v, by rw [hq]; rfl⟩) (fun N F x n v hm hx hv hn => ?_) ht hp
  have ha := askP_m hm hx hn
  rcases num_of hn with rfl | rfl | rfl | rfl
  · cases hb : okS N x 1
    · exact ⟨[true, false], _, _, putcn1 N N N F x v, by rw [ha, hb], rfl⟩
    · have := (ok_off hb hx).2.2
      refine ⟨[true, true, true], _, _, putc1 N N N F x v, ?_, putC_eq F (off x) hv 1 (by omega)⟩
      rw [ha, hb, bndC_t 0 0 (by simp at this; omega)]
  · cases hb : okS N x 2
    · exact ⟨[true, false], _, _, putcn2 N N N F x v, by rw [ha, hb], rfl⟩
    · have := (ok_off hb hx).2.2
      refine ⟨[true, true, true], _, _, putc2 N N N F x v, ?_, putC_eq F (off x) hv 2 (by omega)⟩
      rw [ha, hb, bndC_t 1 0 (by simp at this; omega)]
  · cases hb : okS N x 4
    · exact ⟨[true, false], _, _, putcn4 N N N F x v, by rw [ha, hb], rfl⟩
    · have := (ok_off hb hx).2.2
      refine ⟨[true, true, true], _, _, putc4 N N N F x v, ?_, putC_eq F (off x) hv 4 (by omega)⟩
      rw [ha, hb, bndC_t 3 0 (by simp at this; omega)]
  · cases hb : okS N x 8
    · exact ⟨[true, false], _, _, putcn8 N N N F x v, by rw [ha, hb], rfl⟩
    · have := (ok_off hb hx).2.2
      refine ⟨[true, true, true], _, _, putc8 N N N F x v, ?_, putC_eq F (off x) hv 8 (by omega)⟩
      rw [ha, hb, bndC_t 7 0 (by simp at this; omega)]
noncomputable def cxg : Cx DC := cxm_p1.sum 40 (gPut 63)
theorem cxg_ok : Ok Try.prog cxg := cxm_p1_ok.sum (by kernel_rfl) fun args h t r ht hp => by
  refine put_ok cxm2_ok cxn_ok (fun L C N F x n v ha hq => ⟨[true], _, putrN L C N F x n v, by rw [ha, hq]; rfl⟩) (fun N F x n v hm hx hv hn => ?_) ht hp
  have ha := askP_m hm hx hn
  rcases num_of hn with rfl | rfl | rfl | rfl
  · cases hb : okS N x 1
    · exact ⟨[true, true], _, _, putrn1 N N N F x v, by rw [ha, hb]; rfl, rfl⟩
    · have := (ok_off hb hx).2.2
      refine ⟨[true, false, true], _, _, putr1 N N N F x v, ?_, putR_eq hm.le hb hx 1 0 F v hv (by omega)⟩
      rw [ha, hb, bndR_t hm.le hb hx 0 0 (by omega) (by simp at this; omega)]
      rfl
  · cases hb : okS N x 2
    · exact ⟨[true, true], _, _, putrn2 N N N F x v, by rw [ha, hb]; rfl, rfl⟩
    · have := (ok_off hb hx).2.2
      refine ⟨[true, false, true], _, _, putr2 N N N F x v, ?_, putR_eq hm.le hb hx 2 0 F v hv (by omega)⟩
      rw [ha, hb, bndR_t hm.le hb hx 1 0 (by omega) (by simp at this; omega)]
      rfl
  · cases hb : okS N x 4
    · exact ⟨[true, true], _, _, putrn4 N N N F x v, by rw [ha, hb]; rfl, rfl⟩
    · have := (ok_off hb hx).2.2
      refine ⟨[true, false, true], _, _, putr4 N N N F x v, ?_, putR_eq hm.le hb hx 4 0 F v hv (by omega)⟩
      rw [ha, hb, bndR_t hm.le hb hx 3 0 (by omega) (by simp at this; omega)]
      rfl
  · cases hb : okS N x 8
    · exact ⟨[true, true], _, _, putrn8 N N N F x v, by rw [ha, hb]; rfl, rfl⟩
    · have := (ok_off hb hx).2.2
      refine ⟨[true, false, true], _, _, putr8 N N N F x v, ?_, putR_eq hm.le hb hx 8 0 F v hv (by omega)⟩
      rw [ha, hb, bndR_t hm.le hb hx 7 0 (by omega) (by simp at this; omega)]
      rfl
end Go.Proofs.Ytngcbpcfgolifaa.Ev
