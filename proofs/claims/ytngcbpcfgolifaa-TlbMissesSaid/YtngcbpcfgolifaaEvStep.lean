/- One operation (no call of a Go function): sound. -/
import Derived.Test.YtngcbpcfgolifaaEvEq
import Derived.Test.YtngcbpcfgolifaaEvMerge
namespace Go.Proofs.Ytngcbpcfgolifaa.Ev
open Go.RowKit
set_option linter.unusedVariables false
set_option linter.unusedSimpArgs false
section
variable {P : Program} {ρ : List Rb} {w0 w : World} {own : List Nat} {s : St DC} {a : Act}

theorem run_equalIn_nil {t e : TypeId} (h : P.underlying t = some (.pointer e)) (d : Nat) (p q : Option Addr) (hn : p = none ∨ q = none) : (Op.equalIn (d + 1) t (.pointer p) (.pointer q)).run P w = .ok (p.isNone && q.isNone) w := by
  rcases hn with rfl | rfl
  · cases q <;> simp [Op.equalIn, run_underlying h]
  · cases p <;> simp [Op.equalIn, run_underlying h]

theorem bytes_beq (p q : ByteArray) : (p.toList == q.toList) = decide (p = q) := by
  by_cases h : p = q
  · subst h; simp
  · have : ¬ p.toList = q.toList := fun e => h (by
      rw [ByteArray.toList_eq, ByteArray.toList_eq] at e
      cases p; cases q
      simp only [ByteArray.mk.injEq]
      exact Array.ext' e)
    simp [h, this]

theorem eqIn_ptr {t e : TypeId} (hu : P.underlying t = some (.pointer e)) (p q : Option Addr) (hn : p = none ∨ q = none) (d : Nat) : (Op.equalIn (d + 1) t (.pointer p) (.pointer q)).run P w = .ok (p.isNone && q.isNone) w :=
  run_equalIn_nil hu d p q hn
theorem eqIn_slice {t e : TypeId} (hu : P.underlying t = some (.slice e)) (p q : Option Addr) (n c m k : Nat) (hn : p = none ∨ q = none) (d : Nat) : (Op.equalIn (d + 1) t (.slice p n c) (.slice q m k)).run P w = .ok (p.isNone && q.isNone) w := by
  rcases hn with rfl | rfl
  · cases q <;> simp [Op.equalIn, run_underlying hu]
  · cases p <;> simp [Op.equalIn, run_underlying hu]
theorem eqIn_func1 {t : TypeId} {a b : Array TypeId} {c : Bool} (hu : P.underlying t = some (.func a b c)) (f : Fn) (x y : Array Value) (d : Nat) : (Op.equalIn (d + 1) t (.func f x y) .nilFunc).run P w = .ok false w := by
  simp [Op.equalIn, run_underlying hu]
theorem eqIn_func2 {t : TypeId} {a b : Array TypeId} {c : Bool} (hu : P.underlying t = some (.func a b c)) (f : Fn) (x y : Array Value) (d : Nat) : (Op.equalIn (d + 1) t .nilFunc (.func f x y)).run P w = .ok false w := by
  simp [Op.equalIn, run_underlying hu]
theorem eqIn_func3 {t : TypeId} {a b : Array TypeId} {c : Bool} (hu : P.underlying t = some (.func a b c)) (d : Nat) : (Op.equalIn (d + 1) t .nilFunc .nilFunc).run P w = .ok true w := by
  simp [Op.equalIn, run_underlying hu]

/-- Both are told by the test of equality, which says b. -/
def EqTold (P : Program) (w : World) (t : TypeId) (ox oy : Operand) (u v : Value) (b : Bool) : Prop :=
  (∀ d, (Op.equalIn (d + 1) t u v).run P w = .ok b w) ∧ binOp .eql t u v = (do pure (.bool (← Op.equal t u v)) : Sem Value) ∧ binOp .neq t u v = (do pure (.bool (!(← Op.equal t u v))) : Sem Value) ∧ ∀ op, eqGuard op t ox oy u v = pure ()

theorem EqTold.eql {t : TypeId} {ox oy : Operand} {u v : Value} {b : Bool} (h : EqTold P w t ox oy u v b) : (do eqGuard .eql t ox oy u v; binOp .eql t u v : Sem Value).run P w = .ok (.bool b) w := by
  rw [h.2.2.2, h.2.1]
  simp [Op.equal, Op.maxDepth, h.1 9999]
theorem EqTold.neq {t : TypeId} {ox oy : Operand} {u v : Value} {b : Bool} (h : EqTold P w t ox oy u v b) : (do eqGuard .neq t ox oy u v; binOp .neq t u v : Sem Value).run P w = .ok (.bool (!b)) w := by
  rw [h.2.2.2, h.2.2.1]
  simp [Op.equal, Op.maxDepth, h.1 9999]

theorem tell {op : BinOp} {t : TypeId} {z : AV DC} {ox oy : Operand} {u v : Value} {b : Bool} {p : TypeDesc → Bool} {X : T DC (AV DC)} (he : ∀ T, P.underlying t = some T → p T = true → EqTold P w t ox oy u v b)
    (hX : X.pick = some z → ∃ T, P.underlying t = some T ∧ p T = true ∧ ((op = .eql ∧ z = .bool (.lit b)) ∨ (op = .neq ∧ z = .bool (.lit (!b))))) (h : X.pick = some z) :
    ∃ r, (do eqGuard op t ox oy u v; binOp op t u v : Sem Value).run P w = .ok r w ∧ VRel ρ z r := by
  obtain ⟨T, h1, h2, h3⟩ := hX h
  rcases h3 with ⟨rfl, rfl⟩ | ⟨rfl, rfl⟩
  · exact ⟨_, (he T h1 h2).eql, rfl⟩
  · exact ⟨_, (he T h1 h2).neq, rfl⟩

def isPtrT : TypeDesc → Bool | .pointer _ => true | _ => false
def isSliceT : TypeDesc → Bool | .slice _ => true | _ => false
def isFuncT : TypeDesc → Bool | .func _ _ _ => true | _ => false

theorem told_ptr {t : TypeId} {ox oy : Operand} {p q : Option Addr} (hn : p = none ∨ q = none) (T : TypeDesc) (hu : P.underlying t = some T) (hT : isPtrT T = true) : EqTold P w t ox oy (.pointer p) (.pointer q) (p.isNone && q.isNone) := by
  cases T <;> simp only [isPtrT, Bool.false_eq_true] at hT
  exact ⟨eqIn_ptr hu p q hn, rfl, rfl, fun op => eqGuard_at_pointer ..⟩
theorem told_slice {t : TypeId} {ox oy : Operand} {p q : Option Addr} {n c m k : Nat} (hn : p = none ∨ q = none) (T : TypeDesc) (hu : P.underlying t = some T) (hT : isSliceT T = true) : EqTold P w t ox oy (.slice p n c) (.slice q m k) (p.isNone && q.isNone) := by
  cases T <;> simp only [isSliceT, Bool.false_eq_true] at hT
  exact ⟨eqIn_slice hu p q n c m k hn, rfl, rfl, fun op => eqGuard_at_slice ..⟩
theorem nilT {op : BinOp} {t : TypeId} {z : AV DC} {b : Bool} (h : (match op, P.underlying t with
    | .eql, some (.pointer _) => .ret (.bool (.lit b))
    | .neq, some (.pointer _) => .ret (.bool (.lit (!b)))
    | _, _ => .fail : T DC (AV DC)).pick = some z) : ∃ T, P.underlying t = some T ∧ isPtrT T = true ∧ ((op = .eql ∧ z = .bool (.lit b)) ∨ (op = .neq ∧ z = .bool (.lit (!b)))) := by
  split at h
  · rename_i e hu; exact ⟨_, hu, rfl, .inl ⟨rfl, (T.ret_some h).symm⟩⟩
  · rename_i e hu; exact ⟨_, hu, rfl, .inr ⟨rfl, (T.ret_some h).symm⟩⟩
  · cases h
theorem nilS {op : BinOp} {t : TypeId} {z : AV DC} {b : Bool} (h : (match op, P.underlying t with
    | .eql, some (.slice _) => .ret (.bool (.lit b))
    | .neq, some (.slice _) => .ret (.bool (.lit (!b)))
    | _, _ => .fail : T DC (AV DC)).pick = some z) : ∃ T, P.underlying t = some T ∧ isSliceT T = true ∧ ((op = .eql ∧ z = .bool (.lit b)) ∨ (op = .neq ∧ z = .bool (.lit (!b)))) := by
  split at h
  · rename_i e hu; exact ⟨_, hu, rfl, .inl ⟨rfl, (T.ret_some h).symm⟩⟩
  · rename_i e hu; exact ⟨_, hu, rfl, .inr ⟨rfl, (T.ret_some h).symm⟩⟩
  · cases h
theorem nilF {op : BinOp} {t : TypeId} {z : AV DC} {b : Bool} (h : (match op, P.underlying t with
    | .eql, some (.func _ _ _) => .ret (.bool (.lit b))
    | .neq, some (.func _ _ _) => .ret (.bool (.lit (!b)))
    | _, _ => .fail : T DC (AV DC)).pick = some z) : ∃ T, P.underlying t = some T ∧ isFuncT T = true ∧ ((op = .eql ∧ z = .bool (.lit b)) ∨ (op = .neq ∧ z = .bool (.lit (!b)))) := by
  split at h
  · rename_i e1 e2 e3 hu; exact ⟨_, hu, rfl, .inl ⟨rfl, (T.ret_some h).symm⟩⟩
  · rename_i e1 e2 e3 hu; exact ⟨_, hu, rfl, .inr ⟨rfl, (T.ret_some h).symm⟩⟩
  · cases h

theorem binA_sound {op : BinOp} {t : TypeId} {x y z : AV DC} {ox oy : Operand} {u v : Value} (h : (binA P op t x y).pick = some z) (hx : VRel ρ x u) (hy : VRel ρ y v) :
    ∃ r, (do eqGuard op t ox oy u v; binOp op t u v : Sem Value).run P w = .ok r w ∧ VRel ρ z r := by
  have eqs : ∀ {b : Bool}, (∀ d, (Op.equalIn (d + 1) t u v).run P w = .ok b w) → binOp .eql t u v = (do pure (.bool (← Op.equal t u v)) : Sem Value) → (binOp .eql t u v).run P w = .ok (.bool b) w := by
    intro b hb he
    rw [he]
    simp [Op.equal, Op.maxDepth, hb 9999]
  have neqs : ∀ {b : Bool}, (∀ d, (Op.equalIn (d + 1) t u v).run P w = .ok b w) → binOp .neq t u v = (do pure (.bool (!(← Op.equal t u v))) : Sem Value) → (binOp .neq t u v).run P w = .ok (.bool (!b)) w := by
    intro b hb he
    rw [he]
    simp [Op.equal, Op.maxDepth, hb 9999]
  cases x <;> cases y <;> first | (cases h; done) | skip
  case bool.bool p q =>
    cases hx; cases hy
    simp only [binA] at h
    have hd : P.underlying t = some .bool → ∀ d, (Op.equalIn (d + 1) t (.bool p.den) (.bool q.den)).run P w = .ok (p.den == q.den) w := fun hu d => run_equalIn_bool' w d t _ _ hu
    cases op <;> cases hu : P.underlying t <;> rw [hu] at h <;> (try simp only [] at h) <;> first | (cases h; done) | skip
    all_goals
      rename_i T
      cases T <;> simp only [] at h <;> first | (cases h; done) | skip
      have := T.ret_some h
      subst this
    · exact ⟨_, by simp only [eqGuard_at_bool, Sem.run_bind, Sem.run_pure, Result.andThen_ok]; exact eqs (hd hu) rfl, by rw [VRel, boolEq_den]; rfl⟩
    · exact ⟨_, by simp only [eqGuard_at_bool, Sem.run_bind, Sem.run_pure, Result.andThen_ok]; exact neqs (hd hu) rfl, by rw [VRel, boolEq_den]; rfl⟩
  case int.int k p k' q =>
    cases hx; cases hy
    have hr : ∀ hk : (op ≠ .shl → op ≠ .shr → k' = k), (intOp op k p q).pick = some z → ∃ r, (do eqGuard op t ox oy (.int k p.den) (.int k' q.den); binOp op t (.int k p.den) (.int k' q.den) : Sem Value).run P w = .ok r w ∧ VRel ρ z r := by
      intro hk hp
      obtain ⟨h1, h2, h3⟩ := intOp_run (ρ := ρ) hp
      refine ⟨_, ?_, h1⟩
      simp only [Sem.run_bind, eqGuard_int, Result.andThen_ok]
      exact bin_run hk h2 h3 w
    simp only [binA] at h
    cases op <;> simp only [] at h <;> first
      | exact hr (fun h => absurd rfl h) h
      | exact hr (fun _ h => absurd rfl h) h
      | (split at h
         · rename_i hk
           have hk' : k = k' := by simpa using hk
           exact hr (fun _ _ => hk'.symm) h
         · cases h)
  case str.str p q =>
    cases hx; cases hy
    simp only [binA] at h
    cases op <;> simp only [] at h <;> first | (cases h; done) | skip
    · have := T.ret_some h
      subst this
      refine ⟨.bool (decide (p = q)), ?_, rfl⟩
      simp only [eqGuard_at_string, Sem.run_bind, Sem.run_pure, Result.andThen_ok]
      simp [binOp, Op.stringOp, bytes_beq]
    · have := T.ret_some h
      subst this
      refine ⟨.bool (!decide (p = q)), ?_, rfl⟩
      simp only [eqGuard_at_string, Sem.run_bind, Sem.run_pure, Result.andThen_ok]
      simp [binOp, Op.stringOp, bne, bytes_beq]
  case agg.agg xs ys =>
    obtain ⟨us, rfl, hx⟩ := hx
    obtain ⟨vs, rfl, hy⟩ := hy
    simp only [binA] at h
    split at h
    · cases h
    · rename_i hm
      have hm' : P.eqGuardType P.depth t = false := by simpa using hm
      cases ha : isAggT P t with
      | none => rw [ha] at h; cases h
      | some g =>
        rw [ha] at h
        cases g with
        | false => cases h
        | true =>
          simp only [] at h
          cases he : eqA P 20 t xs ys with
          | none => rw [he] at h; cases h
          | some b =>
            rw [he] at h
            obtain ⟨g, hg, hrun, _⟩ := eqA_run (P := P) (w := w) 20 10000 (by omega) t xs ys b he _ _ hx hy
            rw [ha] at hg
            cases hg
            simp only [valOf, cond_true, Array.toArray_toList] at hrun
            cases op <;> simp only [] at h <;> first | (cases h; done) | skip
            · have := T.ret_some h
              subst this
              exact ⟨.bool b.den, by simp only [Sem.run_bind, run_eqGuard_agg w _ t ox oy us vs hm', Result.andThen_ok, run_eql_struct, hrun], rfl⟩
            · have := T.ret_some h
              subst this
              exact ⟨.bool (!b.den), by simp only [Sem.run_bind, run_eqGuard_agg w _ t ox oy us vs hm', Result.andThen_ok, run_neq_struct, hrun], by rw [VRel, notB_den]⟩
  case ptr.nilptr => obtain ⟨r1, _, rfl⟩ := hx; cases hy; exact tell (p := isPtrT) (b := false) (told_ptr (.inr rfl)) (fun h => nilT h) h
  case nilptr.ptr => obtain ⟨r1, _, rfl⟩ := hy; cases hx; exact tell (p := isPtrT) (b := false) (told_ptr (.inl rfl)) (fun h => nilT h) h
  case nilptr.nilptr => cases hx; cases hy; exact tell (p := isPtrT) (b := true) (told_ptr (.inl rfl)) (fun h => nilT h) h
  case slice.nilslice b off len cap =>
    obtain ⟨r1, _, p, c, rfl, hk⟩ := hx
    cases hy
    have hp : cap.ok r1 off.den len.den p c → (∃ q, p = some q) ∨ cap = .any ∨ cap = .zero := fun hk => by
      cases cap with
      | kn n => exact .inl ⟨_, hk.2⟩
      | un w => obtain ⟨_, a, e, _⟩ := hk; exact .inl ⟨_, e⟩
      | any => exact .inr (.inl rfl)
      | zero => exact .inr (.inr rfl)
      | ge w lo => exact .inl ⟨_, hk.2.2.1⟩
    rcases hp hk with ⟨q, rfl⟩ | rfl | rfl
    · cases cap <;> first | (cases h; done) | exact tell (p := isSliceT) (b := false) (told_slice (.inr rfl)) (fun h => nilS h) h
    · cases h
    · cases h
  case nilslice.slice b off len cap =>
    obtain ⟨r1, _, p, c, rfl, hk⟩ := hy
    cases hx
    have hp : cap.ok r1 off.den len.den p c → (∃ q, p = some q) ∨ cap = .any ∨ cap = .zero := fun hk => by
      cases cap with
      | kn n => exact .inl ⟨_, hk.2⟩
      | un w => obtain ⟨_, a, e, _⟩ := hk; exact .inl ⟨_, e⟩
      | any => exact .inr (.inl rfl)
      | zero => exact .inr (.inr rfl)
      | ge w lo => exact .inl ⟨_, hk.2.2.1⟩
    rcases hp hk with ⟨q, rfl⟩ | rfl | rfl
    · cases cap <;> first | (cases h; done) | exact tell (p := isSliceT) (b := false) (told_slice (.inl rfl)) (fun h => nilS h) h
    · cases h
    · cases h
  case nilslice.nilslice => cases hx; cases hy; exact tell (p := isSliceT) (b := true) (told_slice (.inl rfl)) (fun h => nilS h) h
  case func.nilfunc => obtain ⟨f1, c1, rfl, _⟩ := hx; cases hy; exact tell (p := isFuncT) (b := false) (fun T hu hT => by cases T <;> simp only [isFuncT, Bool.false_eq_true] at hT; exact ⟨eqIn_func1 hu _ _ _, rfl, rfl, fun op => eqGuard_at_func ..⟩) (fun h => nilF h) h
  case nilfunc.func => obtain ⟨f1, c1, rfl, _⟩ := hy; cases hx; exact tell (p := isFuncT) (b := false) (fun T hu hT => by cases T <;> simp only [isFuncT, Bool.false_eq_true] at hT; exact ⟨eqIn_func2 hu _ _ _, rfl, rfl, fun op => eqGuard_at_nilFunc ..⟩) (fun h => nilF h) h
  case nilfunc.nilfunc => cases hx; cases hy; exact tell (p := isFuncT) (b := true) (fun T hu hT => by cases T <;> simp only [isFuncT, Bool.false_eq_true] at hT; exact ⟨eqIn_func3 hu, rfl, rfl, fun op => eqGuard_at_nilFunc ..⟩) (fun h => nilF h) h

theorem unA_sound {op : UnOp} {x z : AV DC} {u : Value} (h : (unA op x).pick = some z) (hx : VRel ρ x u) : ∃ r, (Op.unary op u).run P w = .ok r w ∧ VRel ρ z r := by
  cases op <;> cases x <;> simp only [unA] at h <;> first | (cases h; done) | skip
  · rename_i k n
    cases n <;> simp only [] at h <;> (have := T.ret_some h; subst this; cases hx)
    · exact ⟨_, rfl, rfl⟩
    · exact ⟨_, rfl, rfl⟩
  · rename_i k n
    have e : (bif k.signed then (-1 : Int) else k.max) = if k.signed then -1 else k.max := by cases k.signed <;> rfl
    cases n <;> simp only [] at h <;> (have := T.ret_some h; subst this; cases hx)
    · exact ⟨_, rfl, by simp only [VRel, AI.den, litUna, litBin, e]⟩
    · exact ⟨_, rfl, by simp only [VRel, AI.den, litUna, litBin, e]⟩
  · have := T.ret_some h
    subst this
    cases hx
    exact ⟨_, by simp [Op.unary]; rfl, by rw [VRel, notB_den]⟩

theorem convA_sound {src dst : TypeId} {x z : AV DC} {u : Value} (h : (convA P src dst x).pick = some z) (hx : VRel ρ x u) : ∃ r, (convert src dst u).run P w = .ok r w ∧ VRel ρ z r := by
  unfold convA at h
  cases hs : P.underlying src with
  | none => rw [hs] at h; cases h
  | some S =>
    cases hd : P.underlying dst with
    | none => rw [hs, hd] at h; cases S <;> cases h
    | some D =>
      rw [hs, hd] at h
      cases x <;> cases S <;> cases D <;> (try simp only [] at h) <;> first | (cases h; done) | skip
      · rename_i k n k1 k2
        cases hx
        cases n <;> simp only [] at h <;> (have := T.ret_some h; subst this) <;> exact ⟨_, by simp [convert, run_underlying hs, run_underlying hd, Conv.intToInt]; rfl, rfl⟩
      · cases hx
        have := T.ret_some h
        subst this
        exact ⟨_, by simp [convert, run_underlying hs, run_underlying hd], rfl⟩

theorem plus_den (off : AN DC) (n : Nat) : (off.plus n).den = off.den + n := by
  cases off <;> simp [AN.plus, AN.den, Nat.add_assoc]

theorem fieldAddrA_sound {t : TypeId} {x z : AV DC} {i : Nat} {u : Value} (h : (fieldAddrA P t x i).pick = some z) (hx : VRel ρ x u) : ∃ r, (Instr.fieldAt t u i).run P w = .ok r w ∧ VRel ρ z r := by
  unfold fieldAddrA at h
  cases x <;> (try simp only [] at h) <;> first | (cases h; done) | skip
  rename_i b off
  cases hf : fieldOff P t i with
  | none => rw [hf] at h; cases h
  | some o =>
    rw [hf] at h
    have := T.ret_some h
    subst this
    obtain ⟨r, hr, rfl⟩ := hx
    unfold fieldOff at hf
    cases hu : P.underlying t with
    | none => rw [hu] at hf; cases hf
    | some T =>
      rw [hu] at hf
      cases T <;> simp only [] at hf <;> first | (cases hf; done) | skip
      rename_i fs
      cases hi : fs[i]? with
      | none => rw [hi] at hf; cases hf
      | some f =>
        rw [hi] at hf
        simp only [] at hf
        cases hs : sizeT P f.type with
        | none => rw [hs] at hf; cases hf
        | some n =>
          rw [hs] at hf
          cases n with
          | zero => cases hf
          | succ n =>
            simp only [Option.some.injEq] at hf
            subst hf
            refine ⟨.pointer (some (r.ad (off.den + f.offset))), ?_, r, hr, by rw [plus_den]⟩
            simp only [Instr.fieldAt, Sem.run_bind, run_underlying hu, Result.andThen_ok, hi, Instr.sureAddr, Sem.run_pure, fieldPlace, run_sizeT hs, Nat.add_one_ne_zero, if_false, Rb.ad_add]

theorem fieldA_sound {t : TypeId} {x z : AV DC} {i : Nat} {u : Value} (h : (fieldA P t x i).pick = some z) (hx : VRel ρ x u) : ∃ r, (Instr.field t u i).run P w = .ok r w ∧ VRel ρ z r := by
  unfold fieldA at h
  cases hu : P.underlying t with
  | none => rw [hu] at h; cases h
  | some T =>
    rw [hu] at h
    cases T <;> cases x <;> (try simp only [] at h) <;> first | (cases h; done) | skip
    rename_i fs cs
    obtain ⟨vs, rfl, hv⟩ := hx
    cases hi : fs[i]? with
    | none => rw [hi] at h; cases h
    | some f =>
      rw [hi] at h
      simp only [] at h
      cases hg : isAggT P f.type with
      | none => rw [hg] at h; cases h
      | some g =>
        cases g with
        | true =>
          cases hs : sizeT P f.type with
          | none => rw [hg, hs] at h; cases h
          | some n =>
            rw [hg, hs] at h
            have := T.ret_some h
            subst this
            refine ⟨.agg ((vs.toList.drop f.offset).take n).toArray, ?_, _, rfl, by simpa using (hv.drop f.offset).take n⟩
            have := run_part (P := P) hg hs vs.toList f.offset (fun e => by cases e) w
            simp only [Array.toArray_toList, valOf, cond_true] at this
            simp only [Instr.field, Sem.run_bind, run_underlying hu, Result.andThen_ok, hi, asAgg, Sem.run_pure, this]
        | false =>
          rw [hg] at h
          simp only [] at h
          cases hc : cs[f.offset]? with
          | none => rw [hc] at h; cases h
          | some y =>
            rw [hc] at h
            have := T.ret_some h
            subst this
            obtain ⟨v, hv1, hv2⟩ := hv.get hc
            refine ⟨v, ?_, hv2⟩
            have hv1' : vs[f.offset]? = some v := by simpa using hv1
            simp only [Instr.field, Sem.run_bind, run_underlying hu, Result.andThen_ok, hi, asAgg, Sem.run_pure, part, run_isAggT hg, Bool.false_eq_true, if_false, hv1']

end
end Go.Proofs.Ytngcbpcfgolifaa.Ev
