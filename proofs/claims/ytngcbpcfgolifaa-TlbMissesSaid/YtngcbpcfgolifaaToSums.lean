/- The real address of the code and of the reference, as the same terms. Conditions: none. -/
import Derived.Test.YtngcbpcfgolifaaWalkSums
namespace Go.Proofs.Ytngcbpcfgolifaa.Ev
open Go.RowKit
set_option linter.unusedVariables false
set_option linter.unusedSimpArgs false

theorem outW_ind {α : Type} {F : Nat → Int} {N : Nat} {satp st pr k va : Int} (Q : α → Prop) {a b c d e f : α} (ha : Q a) (hb : Q b) (hc : Q c) (hd : Q d) (he : Q e) (hf : Q f) : Q (outW F N satp st pr k va a b c d e f) := by
  unfold outW outP
  cases np satp
  case true => exact ha
  cases !(canS va)
  case true => exact hb
  cases !(k2 N (root satp) va)
  case true => exact hc
  cases leafS (en2 F N (root satp) va)
  case true => cases bad (en2 F N (root satp) va) 2 st pr k; exact hd; exact hb
  cases !(tabS (en2 F N (root satp) va))
  case true => exact hb
  cases !(k1 F N (root satp) va)
  case true => exact hc
  cases leafS (en1 F N (root satp) va)
  case true => cases bad (en1 F N (root satp) va) 1 st pr k; exact he; exact hb
  cases !(tabS (en1 F N (root satp) va))
  case true => exact hb
  cases !(k0 F N (root satp) va)
  case true => exact hc
  cases leafS (en0 F N (root satp) va)
  case true => cases bad (en0 F N (root satp) va) 0 st pr k; exact hf; exact hb
  exact hb
theorem inU0 : inU 0 := ⟨Int.le_refl _, by decide⟩
theorem pteW_inU {F : Nat → Int} {N : Nat} {satp st pr k va : Int} (hm : MemOk N F) : inU (pteW F N satp st pr k va) :=
  outW_ind inU inU0 inU0 inU0 (get_inU hm (adr_inU _ _ _)) (get_inU hm (adr_inU _ _ _)) (get_inU hm (adr_inU _ _ _))
theorem outW_np {α : Type} {F : Nat → Int} {N : Nat} {satp st pr k va : Int} {a b c d e f : α} (h : np satp = true) : outW F N satp st pr k va a b c d e f = a := by
  unfold outW outP
  rw [h]
  rfl
def toW (F : Nat → Int) (N : Nat) (satp st pr k va : Int) : Int := cond (isW F N satp st pr k va) 0 (cond (np satp) va (atS (pteW F N satp st pr k va) va (lvW F N satp st pr k va)))
set_option maxRecDepth 100000 in
theorem to1 (L C N : Nat) (F : Nat → Int) (st c1 c2 c3 c4 c5 c6 c7 c8 satp c10 c11 pr k va : Int) : seeM (hsM 156 L C N F) (call Try.prog cxw 380 48 [.ptr 0 (.lit 0), .agg [.int .u64 (.sym st), .int .u64 (.sym c1), .int .u64 (.sym c2), .int .u64 (.sym c3), .int .u64 (.sym c4), .int .u64 (.sym c5), .int .u64 (.sym c6), .int .u64 (.sym c7), .int .u64 (.sym c8), .int .u64 (.sym satp), .int .u64 (.sym c10), .int .u64 (.sym c11)], .int .i64 (.sym pr), .int .i64 (.sym k), .int .u64 (.sym va)] (hsM 156 L C N F)) [true] =
    some ([askW L C N F satp st va], .val (.tuple [.int .u64 (.sym (toW F N satp st pr k va)), .agg [.bool (.sym (cond (isW F N satp st pr k va) (isW F N satp st pr k va) (cond (np satp) (isW F N satp st pr k va) (isW F N satp st pr k va)))), .int .i64 (.sym (cond (isW F N satp st pr k va) (cauW F N satp st pr k va) (cond (np satp) (cauW F N satp st pr k va) (cauW F N satp st pr k va)))), .int .u64 (.sym (cond (isW F N satp st pr k va) (valW F N satp st pr k va) (cond (np satp) (valW F N satp st pr k va) (valW F N satp st pr k va))))]]), hsM 156 L C N F) := by kernel_rfl
set_option maxRecDepth 100000 in
theorem to2 (L C N : Nat) (F : Nat → Int) (st c1 c2 c3 c4 c5 c6 c7 c8 satp c10 c11 pr k va : Int) : seeM (hsM 63 L C N F) (call Try.prog cxw 380 49 [.ptr 0 (.lit 0), .agg [.int .u64 (.sym st), .int .u64 (.sym c1), .int .u64 (.sym c2), .int .u64 (.sym c3), .int .u64 (.sym c4), .int .u64 (.sym c5), .int .u64 (.sym c6), .int .u64 (.sym c7), .int .u64 (.sym c8), .int .u64 (.sym satp), .int .u64 (.sym c10), .int .u64 (.sym c11)], .int .i64 (.sym pr), .int .i64 (.sym k), .int .u64 (.sym va)] (hsM 63 L C N F)) [true] =
    some ([cond (np satp) true ((askW L C N F satp st va) && (cond (isW F N satp st pr k va) true (yes (inU (pteW F N satp st pr k va) ∧ inU va))))], .val (.tuple [.int .u64 (.sym (cond (np satp) va (cond (isW F N satp st pr k va) 0 (atS (pteW F N satp st pr k va) va (lvW F N satp st pr k va))))), .agg [.bool (.sym (cond (np satp) false (cond (isW F N satp st pr k va) (isW F N satp st pr k va) (isW F N satp st pr k va)))), .int .i64 (.sym (cond (np satp) 0 (cond (isW F N satp st pr k va) (cauW F N satp st pr k va) (cauW F N satp st pr k va)))), .int .u64 (.sym (cond (np satp) 0 (cond (isW F N satp st pr k va) (valW F N satp st pr k va) (valW F N satp st pr k va))))]]), hsM 63 L C N F) := by kernel_rfl
noncomputable def gTo (T0 : TypeId) (args : List (AV DC)) (h : List (AO DC)) : Option (T DC (AV DC × List (W DC))) := match args with
  | [.ptr b (.lit 0), .agg [.int .u64 st, .int .u64 c1, .int .u64 c2, .int .u64 c3, .int .u64 c4, .int .u64 c5, .int .u64 c6, .int .u64 c7, .int .u64 c8, .int .u64 satp, .int .u64 c10, .int .u64 c11], .int .i64 pr, .int .i64 k, .int .u64 va] => match h[b]? with
    | some (.cells t [.slice c (.lit 0) (.rc L 1 0) (.kn (.rc C 1 0))]) => if Nat.beq t T0 then (match h[c]? with
      | some (.arr 5 N [(.int .u8, F)]) => some (.br (askW L C N F satp.den st.den va.den) (.ret (.tuple [.int .u64 (.sym (toW F N satp.den st.den pr.den k.den va.den)), .agg [.bool (.sym (isW F N satp.den st.den pr.den k.den va.den)), .int .i64 (.sym (cauW F N satp.den st.den pr.den k.den va.den)), .int .u64 (.sym (valW F N satp.den st.den pr.den k.den va.den))]], [])) .fail)
      | _ => none) else none
    | _ => none
  | _ => none
theorem to_ok {X : Cx DC} (hX : Ok Try.prog X) {f : FuncId} {T0 : TypeId}
    (hf : ∀ (L C N : Nat) (F : Nat → Int) (st c1 c2 c3 c4 c5 c6 c7 c8 satp c10 c11 pr k va : Int), askW L C N F satp st va = true → ∃ (ds cs : List Bool) (a d : Int) (i : Bool) (e : Int), seeM (hsM T0 L C N F) (call Try.prog X 380 f [.ptr 0 (.lit 0), .agg [.int .u64 (.sym st), .int .u64 (.sym c1), .int .u64 (.sym c2), .int .u64 (.sym c3), .int .u64 (.sym c4), .int .u64 (.sym c5), .int .u64 (.sym c6), .int .u64 (.sym c7), .int .u64 (.sym c8), .int .u64 (.sym satp), .int .u64 (.sym c10), .int .u64 (.sym c11)], .int .i64 (.sym pr), .int .i64 (.sym k), .int .u64 (.sym va)] (hsM T0 L C N F)) ds = some (cs, .val (.tuple [.int .u64 (.sym a), .agg [.bool (.sym i), .int .i64 (.sym d), .int .u64 (.sym e)]]), hsM T0 L C N F) ∧ cs = ds ∧
      a = toW F N satp st pr k va ∧ i = isW F N satp st pr k va ∧ d = cauW F N satp st pr k va ∧ e = valW F N satp st pr k va)
    {args : List (AV DC)} {h : List (AO DC)} {t : T DC (AV DC × List (W DC))} {r : AV DC × List (W DC)} (ht : gTo T0 args h = some t) (hp : t.pick = some r) : FnOk Try.prog f args h r := by
  unfold gTo at ht
  split at ht
  · rename_i b st c1 c2 c3 c4 c5 c6 c7 c8 satp c10 c11 pr k va
    split at ht
    · rename_i t0 c L C hb
      split at ht
      · rename_i hT
        have := Nat.eq_of_beq_eq_true hT
        subst this
        split at ht
        · rename_i N F hc
          cases ht
          obtain ⟨h1, h2⟩ := T.ask hp
          have := T.ret_some h2
          subst this
          obtain ⟨ds, cs, a, d, i, e, e1, e2, r1, r4, r5, r6⟩ := hf L C N F st.den c1.den c2.den c3.den c4.den c5.den c6.den c7.den c8.den satp.den c10.den c11.den pr.den k.den va.den h1
          exact memF (F2 := F) hX e1 e2 hb hc ⟨⟨⟨rfl, rfl⟩, ⟨rfl, rfl⟩, ⟨rfl, rfl⟩, ⟨rfl, rfl⟩, ⟨rfl, rfl⟩, ⟨rfl, rfl⟩, ⟨rfl, rfl⟩, ⟨rfl, rfl⟩, ⟨rfl, rfl⟩, ⟨rfl, rfl⟩, ⟨rfl, rfl⟩, ⟨rfl, rfl⟩, trivial⟩, ⟨rfl, rfl⟩, ⟨rfl, rfl⟩, ⟨rfl, rfl⟩, trivial⟩ (fun hbc => ⟨⟨rfl, r1⟩, ⟨r4, ⟨rfl, r5⟩, ⟨rfl, r6⟩, trivial⟩, trivial⟩) (.inl ⟨rfl, fun _ _ => rfl⟩)
        · cases ht
      · cases ht
    · cases ht
  · cases ht
theorem same3 {α : Type} (i n : Bool) (x : α) : cond i x (cond n x x) = x := by cases i <;> cases n <;> rfl
noncomputable def cxt1 : Cx DC := cxw.sum 48 (gTo 156)
theorem cxt1_ok : Ok Try.prog cxt1 := cxw_ok.sum (by kernel_rfl) fun args h t r ht hp => to_ok cxw_ok (fun L C N F st c1 c2 c3 c4 c5 c6 c7 c8 satp c10 c11 pr k va ha => ⟨[true], _, _, _, _, _, to1 L C N F st c1 c2 c3 c4 c5 c6 c7 c8 satp c10 c11 pr k va, by rw [ha], rfl, same3 _ _ _, same3 _ _ _, same3 _ _ _⟩) ht hp
noncomputable def cxt : Cx DC := cxt1.sum 49 (gTo 63)
theorem cxt_ok : Ok Try.prog cxt := cxt1_ok.sum (by kernel_rfl) fun args h t r ht hp => to_ok cxw_ok (fun L C N F st c1 c2 c3 c4 c5 c6 c7 c8 satp c10 c11 pr k va ha => by
  obtain ⟨hm, h1, h2, h3⟩ := of_yes ha
  refine ⟨[true], _, _, _, _, _, to2 L C N F st c1 c2 c3 c4 c5 c6 c7 c8 satp c10 c11 pr k va, ?_, ?_, ?_, ?_, ?_⟩
  · obtain ⟨q1, q2, q3⟩ := hm
    subst q1 q2
    have hb := yes_of (⟨pteW_inU q3, h3⟩ : inU (pteW _ _ satp st pr k va) ∧ inU va)
    rw [ha, hb]
    cases np satp <;> cases isW F _ satp st pr k va <;> rfl
  · unfold toW
    cases hn : np satp
    · rfl
    · have : isW F N satp st pr k va = false := outW_np hn
      rw [this]
      rfl
  · cases hn : np satp
    · cases isW F N satp st pr k va <;> rfl
    · exact (outW_np hn : isW F N satp st pr k va = false).symm
  · cases hn : np satp
    · cases isW F N satp st pr k va <;> rfl
    · exact (outW_np hn : cauW F N satp st pr k va = 0).symm
  · cases hn : np satp
    · cases isW F N satp st pr k va <;> rfl
    · exact (outW_np hn : valW F N satp st pr k va = 0).symm) ht hp
end Go.Proofs.Ytngcbpcfgolifaa.Ev
