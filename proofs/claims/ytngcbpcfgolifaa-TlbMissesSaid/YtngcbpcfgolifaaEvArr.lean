/- A whole array as a slice. Conditions: none. -/
import Derived.Test.YtngcbpcfgolifaaEvTmpl
namespace Go.Proofs.Ytngcbpcfgolifaa.Ev
open Go.RowKit
set_option linter.unusedVariables false
set_option linter.unusedSimpArgs false

section
variable {D : Dom} (P : Program)
def arrX (o : Oper) (s : St D) : Option (T D (AV D × List (W D))) := match o.op with
  | .slice t x none none none => (match P.underlying t, evalA s.slots x with
    | some (.array n e), .ptr b off => (match sizeT P e with
      | some _ => some (.ret (.slice b off (.lit n) (.kn (.lit n)), []))
      | none => none)
    | _, _ => none)
  | _ => none
end

section
variable {P : Program} {ρ : List Rb} {w0 w : World} {own : List Nat} {s : St DC} {a : Act}
theorem arrX_sound {o : Oper} {t : T DC (AV DC × List (W DC))} {z : AV DC × List (W DC)} (ho : arrX P o s = some t) (h : t.pick = some z) (hS : RS ρ s.slots a) (H : WR w0 own ρ s.heap w) : Does P w0 own ρ s a w o z := by
  have hr := evalA_rel hS
  unfold arrX at ho
  split at ho
  · rename_i t0 x hop
    split at ho
    · rename_i n e b off hu hx
      split at ho
      · rename_i sz hs
        cases ho
        have := T.ret_some h
        subst this
        have hv := hr x
        rw [hx] at hv
        obtain ⟨r, h1, h2⟩ := hv
        refine does_value H (sem := Instr.sliceAt t0 (a.eval x) none none none) (by simp only [execOp, hop]; rfl) ⟨rfl, .slice (some (r.ad off.den)) n n, ?_, r, h1, some (r.ad off.den), n, rfl, rfl, rfl⟩
        rw [h2]
        simp [Instr.sliceAt, run_underlying hu, Instr.sureAddr, Instr.sliceBounds, run_sizeT hs, Addr.add]
      · cases ho
    · cases ho
  · cases ho
end
end Go.Proofs.Ytngcbpcfgolifaa.Ev
