/- The statement 'TlbMisses': an address that was found by a walk is found without one again, as long as it is kept; a flush of it brings another walk. Conditions: none. -/
import Derived.Test.YtngcbpcfgolifaaTlbSums
import Derived.Test.YtngcbpcfgolifaaHead
namespace Go.Proofs.Ytngcbpcfgolifaa.TlbMisses
open Go.RowKit Go.WideShapes Go.ChangeShapes Go.ChangeAt Ev Tlb
set_option linter.unusedVariables false
set_option linter.unusedSimpArgs false

/-! ### What is told -/
def isEqU (o : Oper) : Bool := match o.op with
  | .binOp .eql t _ _ _ => Nat.beq t 23
  | _ => false
/-- A summary's truth as a literal one, asked. -/
def tellB (b : Bool) (t : T DC (AV DC × List (W DC))) : T DC (AV DC × List (W DC)) := t.bind fun r => match r.1 with
  | .bool (.sym q) => .br (bif b then q else !q) (.ret (.bool (.lit b), r.2)) .fail
  | _ => .ret r
def tellF (b : Bool) (t : T DC (AV DC × List (W DC))) : T DC (AV DC × List (W DC)) := t.bind fun r => match r.1 with
  | .tuple [x, .agg [.bool (.sym q), c, v]] => .br (bif b then q else !q) (.ret (.tuple [x, .agg [.bool (.lit b), c, v]], r.2)) .fail
  | _ => .ret r
theorem lit_of {b q : Bool} (h : (bif b then q else !q) = true) : q = b := by cases b <;> cases q <;> first | rfl | cases h
noncomputable def toldB (X : Cx DC) (f : FuncId) (b : Bool) : Cx DC := X.sum f fun args h => (X.sums f args h).map (tellB b)
noncomputable def toldF (X : Cx DC) (f : FuncId) (b : Bool) : Cx DC := X.sum f fun args h => (X.sums f args h).map (tellF b)
theorem toldB_ok {P : Program} {X : Cx DC} (hX : Ok P X) {f : FuncId} {b : Bool} (hb : (match P.funcs[f]? with | some fn => !fn.body.isNone | none => false) = true) : Ok P (toldB X f b) :=
  hX.sum hb fun args h t r ht hp => by
    obtain ⟨t0, h0, rfl⟩ := Option.map_eq_some_iff.1 ht
    obtain ⟨r0, h1, h2⟩ := T.bind_some hp
    have hf : FnOk P f args h r0 := hX.sums f args h t0 r0 h0 h1
    obtain ⟨v, l⟩ := r0
    simp only [] at h2
    split at h2
    · rename_i q
      rcases T.br_some h2 with ⟨h3, h4⟩ | ⟨_, h4⟩
      · have := T.ret_some h4
        subst this
        exact fn_val hf fun ρ u hu => by
          have e : u = .bool q := hu
          rw [e, lit_of h3]
          rfl
      · cases h4
    · have := T.ret_some h2
      subst this
      exact hf
theorem toldF_ok {P : Program} {X : Cx DC} (hX : Ok P X) {f : FuncId} {b : Bool} (hb : (match P.funcs[f]? with | some fn => !fn.body.isNone | none => false) = true) : Ok P (toldF X f b) :=
  hX.sum hb fun args h t r ht hp => by
    obtain ⟨t0, h0, rfl⟩ := Option.map_eq_some_iff.1 ht
    obtain ⟨r0, h1, h2⟩ := T.bind_some hp
    have hf : FnOk P f args h r0 := hX.sums f args h t0 r0 h0 h1
    obtain ⟨v, l⟩ := r0
    simp only [] at h2
    split at h2
    · rename_i x q c y
      rcases T.br_some h2 with ⟨h3, h4⟩ | ⟨_, h4⟩
      · have := T.ret_some h4
        subst this
        have e := lit_of h3
        subst e
        exact fn_val hf fun ρ u hu => hu
      · cases h4
    · have := T.ret_some h2
      subst this
      exact hf
noncomputable def cxP (b : Bool) : Cx DC := cxv.more (askX Try.prog isEqU b)
theorem cxP_ok (b : Bool) : Ok Try.prog (cxP b) := cxv_ok.ask _ _
noncomputable def cxQ (b : Bool) : Cx DC := toldB (cxP true) 92 b
theorem cxQ_ok (b : Bool) : Ok Try.prog (cxQ b) := toldB_ok (cxP_ok true) (by kernel_rfl)
noncomputable def cxR (b : Bool) : Cx DC := toldF (cxQ true) 46 b
theorem cxR_ok (b : Bool) : Ok Try.prog (cxR b) := toldF_ok (cxQ_ok true) (by kernel_rfl)

/-! ### The roads -/
def pgd (satp : Int) : Bool := litCmp .eql (litBin .shr .u64 satp 60) 8
def asd (satp : Int) : Int := litBin .and .u64 (litBin .shr .u64 satp 44) 65535
abbrev n1 : Nat := 1 - (Int.toNat 0)
def Fo (lv va asi : Int) (gl : Bool) : Bool := fOk n1 (k1 lv) (k1 (bI gl)) (k1 va) (k1 asi) va asi
def Fx (c lv va asi : Int) (gl : Bool) : Int := fX (k1 c) n1 (k1 lv) (k1 (bI gl)) (k1 va) (k1 asi) va asi
def CN (lv va asi : Int) (gl : Bool) : Nat := cn va 0 false true n1 (k1 lv) (k1 (bI gl)) (k1 va) (k1 asi)
def co (lv va asi : Int) (gl : Bool) (g : Int → Int) (F : Nat → Int) : Nat → Int := cols va 0 false true n1 (k1 lv) (k1 (bI gl)) (k1 va) (k1 asi) g F
def JJ (c : Nat) : Int := cond (litCmp .gtr 0 (litBin .sub .i64 (((c + 1 : Nat) : Nat) : Int) 8)) 0 (litBin .sub .i64 (((c + 1 : Nat) : Nat) : Int) 8)
def T10 (m : Bool) (c : Nat) (pt lv va asi : Int) (gl : Bool) (f : Bool) : Bool := cond (!f) true m
section
variable (pg : Int) (n : Nat) (A X : Nat → Int) (st satp pr k va : Int)
abbrev PT : Int := pteW (memB pg A X n) (szN pg) satp st pr k va
abbrev LV : Int := lvW (memB pg A X n) (szN pg) satp st pr k va
abbrev GL : Bool := glW (memB pg A X n) (szN pg) satp st pr k va
abbrev IS : Bool := isW (memB pg A X n) (szN pg) satp st pr k va
noncomputable abbrev aW : Bool := askW (szN pg) (szN pg) (szN pg) (memB pg A X n) satp st va
noncomputable def d10 : Bool := cond (!(fOk (CN (LV pg n A X st satp pr k va) va (asd satp) (GL pg n A X st satp pr k va)) (co (LV pg n A X st satp pr k va) va (asd satp) (GL pg n A X st satp pr k va) nid (k1 (LV pg n A X st satp pr k va))) (co (LV pg n A X st satp pr k va) va (asd satp) (GL pg n A X st satp pr k va) nb (k1 (bI (GL pg n A X st satp pr k va)))) (co (LV pg n A X st satp pr k va) va (asd satp) (GL pg n A X st satp pr k va) nid (k1 va)) (co (LV pg n A X st satp pr k va) va (asd satp) (GL pg n A X st satp pr k va) nid (k1 (asd satp))) va (asd satp))) true (!(mayS (fX (co (LV pg n A X st satp pr k va) va (asd satp) (GL pg n A X st satp pr k va) nid (k1 (PT pg n A X st satp pr k va))) (CN (LV pg n A X st satp pr k va) va (asd satp) (GL pg n A X st satp pr k va)) (co (LV pg n A X st satp pr k va) va (asd satp) (GL pg n A X st satp pr k va) nid (k1 (LV pg n A X st satp pr k va))) (co (LV pg n A X st satp pr k va) va (asd satp) (GL pg n A X st satp pr k va) nb (k1 (bI (GL pg n A X st satp pr k va)))) (co (LV pg n A X st satp pr k va) va (asd satp) (GL pg n A X st satp pr k va) nid (k1 va)) (co (LV pg n A X st satp pr k va) va (asd satp) (GL pg n A X st satp pr k va) nid (k1 (asd satp))) va (asd satp)) k pr st))
noncomputable def dts : List Bool := [askB pg n n X,
  ((pgd satp) && (canS va)) && ((aW pg n A X st satp va && (!(IS pg n A X st satp pr k va))) && (delQ 1 1 0)),
  (pgd satp) && (canS va),
  fndQ n1 n1 (k1 (LV pg n A X st satp pr k va)),
  cond (!(Fo (LV pg n A X st satp pr k va) va (asd satp) (GL pg n A X st satp pr k va))) true (!(mayS (Fx (PT pg n A X st satp pr k va) (LV pg n A X st satp pr k va) va (asd satp) (GL pg n A X st satp pr k va)) k pr st)),
  litCmp .neq (atS (PT pg n A X st satp pr k va) va (LV pg n A X st satp pr k va)) (atS (Fx (PT pg n A X st satp pr k va) (LV pg n A X st satp pr k va) va (asd satp) (GL pg n A X st satp pr k va)) va (Fx (LV pg n A X st satp pr k va) (LV pg n A X st satp pr k va) va (asd satp) (GL pg n A X st satp pr k va))),
  fndQ n1 n1 (k1 (LV pg n A X st satp pr k va)),
  (pgd satp) && (canS va),
  fndQ (CN (LV pg n A X st satp pr k va) va (asd satp) (GL pg n A X st satp pr k va)) (CN (LV pg n A X st satp pr k va) va (asd satp) (GL pg n A X st satp pr k va)) (co (LV pg n A X st satp pr k va) va (asd satp) (GL pg n A X st satp pr k va) nid (k1 (LV pg n A X st satp pr k va))),
  d10 pg n A X st satp pr k va,
  (aW pg n A X st satp va && (!(IS pg n A X st satp pr k va))) && (((decide ((CN (LV pg n A X st satp pr k va) va (asd satp) (GL pg n A X st satp pr k va)) ≤ (CN (LV pg n A X st satp pr k va) va (asd satp) (GL pg n A X st satp pr k va)))) && (decide ((CN (LV pg n A X st satp pr k va) va (asd satp) (GL pg n A X st satp pr k va)) < 1000000))) && (delQ ((CN (LV pg n A X st satp pr k va) va (asd satp) (GL pg n A X st satp pr k va)) + 1) ((CN (LV pg n A X st satp pr k va) va (asd satp) (GL pg n A X st satp pr k va)) + 1) (JJ (CN (LV pg n A X st satp pr k va) va (asd satp) (GL pg n A X st satp pr k va)))))]
def dv (c : Nat) : Bool := cond (litCmp .eql ((c : Nat) : Int) 0) (litCmp .eql ((((c + 1) - (Int.toNat (JJ c)) : Nat) : Nat) : Int) 1) false
end
section
variable (pg : Int) (n : Nat) (A X : Nat → Int) (kd : Int) (va : Int) (oas : Int) (lp : Int) (ll : Int) (lg : Bool) (all : Bool) (evr : Bool) (st : Int) (c1 : Int) (c2 : Int) (c3 : Int) (c4 : Int) (c5 : Int) (c6 : Int) (c7 : Int) (c8 : Int) (satp : Int) (c10 : Int) (c11 : Int) (pr : Int) (k : Int) (ad : Int) (x : Int)
abbrev ags : List (AV DC) := [.agg [.int .u8 (.sym pg), .slice 0 (.lit 0) (.rc n 1 0) .any], .agg [.int .u8 (.sym kd), .int .u64 (.sym va), .int .u64 (.sym oas), .int .u64 (.sym lp), .int .i64 (.sym ll), .bool (.sym lg), .bool (.sym all), .bool (.sym evr), .int .u64 (.sym st), .int .u64 (.sym c1), .int .u64 (.sym c2), .int .u64 (.sym c3), .int .u64 (.sym c4), .int .u64 (.sym c5), .int .u64 (.sym c6), .int .u64 (.sym c7), .int .u64 (.sym c8), .int .u64 (.sym satp), .int .u64 (.sym c10), .int .u64 (.sym c11), .int .i64 (.sym pr), .int .i64 (.sym k), .int .u32 (.sym ad), .int .u64 (.sym x)]]
abbrev hp0 : List (AO DC) := [.rows 0 n [(.int .u32, A), (.int .u64, X)]]
set_option maxRecDepth 100000 in
theorem roadA : ((call Try.prog (cxP false) 300 13 (ags pg n kd va oas lp ll lg all evr st c1 c2 c3 c4 c5 c6 c7 c8 satp c10 c11 pr k ad x) (hp0 n A X)).route [true]).map (fun p => (p.1, p.2.1)) = some ([(askB pg n n X) && ((!(pgd satp)) && (!(pgd satp)))], .val (.bool (.sym (!(litCmp .neq va va))))) := by kernel_rfl
set_option maxRecDepth 100000 in
theorem roadB : ((call Try.prog (cxQ false) 300 13 (ags pg n kd va oas lp ll lg all evr st c1 c2 c3 c4 c5 c6 c7 c8 satp c10 c11 pr k ad x) (hp0 n A X)).route [true]).map (fun p => (p.1, p.2.1)) = some ([(askB pg n n X) && (((pgd satp) && (!(canS va))) && ((pgd satp) && (!(canS va))))], .val (.bool (.sym (!(!((litCmp .eql (cauS k 12 15 13) (cauS k 12 15 13)) && (litCmp .eql va va))))))) := by kernel_rfl
set_option maxRecDepth 100000 in
theorem roadC : ((call Try.prog (cxR true) 300 13 (ags pg n kd va oas lp ll lg all evr st c1 c2 c3 c4 c5 c6 c7 c8 satp c10 c11 pr k ad x) (hp0 n A X)).route [true]).map (fun p => (p.1, p.2.1)) = some ([(askB pg n n X) && ((((pgd satp) && (canS va)) && (aW pg n A X st satp va && IS pg n A X st satp pr k va)) && (((pgd satp) && (canS va)) && (aW pg n A X st satp va && IS pg n A X st satp pr k va)))], .val (.bool (.sym (!(!((litCmp .eql (cauW (memB pg A X n) (szN pg) satp st pr k va) (cauW (memB pg A X n) (szN pg) satp st pr k va)) && (litCmp .eql (valW (memB pg A X n) (szN pg) satp st pr k va) (valW (memB pg A X n) (szN pg) satp st pr k va)))))))) := by kernel_rfl
set_option maxRecDepth 100000 in
theorem roadD : ((call Try.prog (cxR false) 300 13 (ags pg n kd va oas lp ll lg all evr st c1 c2 c3 c4 c5 c6 c7 c8 satp c10 c11 pr k ad x) (hp0 n A X)).route [true, true, true, true, false, false, true, true, true, true, true]).map (fun p => (p.1, p.2.1)) = some (dts pg n A X st satp pr k va, .val (.bool (.sym (dv (CN (LV pg n A X st satp pr k va) va (asd satp) (GL pg n A X st satp pr k va)))))) := by kernel_rfl
end

/-! ### The law -/
theorem fst_one {p : Nat → Bool} (h : p 0 = true) : fst 1 p = 0 := by
  show (if fst 0 p < 0 then fst 0 p else if p 0 = true then 0 else 1) = 0
  rw [if_neg (Nat.not_lt_zero _), if_pos h]
theorem xor_self' (va : Int) : litBin .xor .u64 va va = 0 := by
  show IntKind.u64.wrap (((BitVec.ofInt 64 va ^^^ BitVec.ofInt 64 va).toNat : Nat) : Int) = 0
  rw [BitVec.xor_self]
  rfl
theorem shr0 (k : Int) : litBin .shr .u64 0 k = 0 := by
  show (0 : Int).fdiv (2 ^ (min k.toNat IntKind.u64.bits)) = 0
  exact Int.zero_fdiv _
theorem cov0 (lv va asi : Int) (gl : Bool) : cov (k1 lv) (k1 (bI gl)) (k1 va) (k1 asi) va asi 0 = true := by
  unfold cov Tlb.k1
  rw [xor_self', shr0, bI_ne, show litCmp .eql asi asi = true by rw [eql_eq]; exact decide_eq_true rfl]
  cases gl <;> rfl
theorem dl0 (lv va asi : Int) (gl : Bool) : dl false true (k1 lv) (k1 (bI gl)) (k1 va) (k1 asi) va 0 0 = true := by
  unfold dl Tlb.k1
  rw [xor_self', shr0]
  rfl
theorem Fo_t (lv va asi : Int) (gl : Bool) : Fo lv va asi gl = true := by
  unfold Fo fOk
  show decide (fst 1 _ < 1) = true
  rw [fst_one (cov0 lv va asi gl)]
  rfl
theorem Fx_t (c lv va asi : Int) (gl : Bool) : Fx c lv va asi gl = c := by
  have h : fOk n1 (k1 lv) (k1 (bI gl)) (k1 va) (k1 asi) va asi = true := Fo_t lv va asi gl
  unfold Fx fX
  rw [h]
  rfl
theorem CN_t (lv va asi : Int) (gl : Bool) : CN lv va asi gl = 0 := by
  show (if pd false true (k1 lv) (k1 (bI gl)) (k1 va) (k1 asi) va 0 0 = true then _ else _) = 0
  rw [if_pos (dl0 lv va asi gl)]
  rfl
theorem okL_one {lv : Int} (h : 0 ≤ lv ∧ lv ≤ 2) : fndQ n1 n1 (k1 lv) = true := yes_of ⟨rfl, by show (1 : Nat) < 1000000; omega, fun _ _ => h⟩
theorem okL_zero (F : Nat → Int) : fndQ 0 0 F = true := yes_of ⟨rfl, by omega, fun i hi => absurd hi (Nat.not_lt_zero _)⟩
theorem lv_in (F : Nat → Int) (N : Nat) (satp st pr k va : Int) : 0 ≤ lvW F N satp st pr k va ∧ lvW F N satp st pr k va ≤ 2 := by
  unfold lvW outW outP
  cases np satp <;> simp only [cond_true, cond_false]
  · cases (!(canS va)) <;> simp only [cond_true, cond_false]
    · cases (!(k2 N (root satp) va)) <;> simp only [cond_true, cond_false]
      · cases leafS (en2 F N (root satp) va) <;> simp only [cond_true, cond_false]
        · cases (!(tabS (en2 F N (root satp) va))) <;> simp only [cond_true, cond_false]
          · cases (!(Ev.k1 F N (root satp) va)) <;> simp only [cond_true, cond_false]
            · cases leafS (en1 F N (root satp) va) <;> simp only [cond_true, cond_false]
              · cases (!(tabS (en1 F N (root satp) va))) <;> simp only [cond_true, cond_false]
                · cases (!(k0 F N (root satp) va)) <;> simp only [cond_true, cond_false]
                  · cases leafS (en0 F N (root satp) va) <;> simp only [cond_true, cond_false]
                    · omega
                    · cases bad (en0 F N (root satp) va) 0 st pr k <;> simp only [cond_true, cond_false] <;> omega
                  · omega
                · omega
              · cases bad (en1 F N (root satp) va) 1 st pr k <;> simp only [cond_true, cond_false] <;> omega
            · omega
          · omega
        · cases bad (en2 F N (root satp) va) 2 st pr k <;> simp only [cond_true, cond_false] <;> omega
      · omega
    · omega
  · omega
theorem bad_may {e lv st pr k : Int} (h : bad e lv st pr k = false) : mayS e k pr st = true := by
  unfold bad at h
  cases ha : aliS e lv <;> rw [ha] at h
  · cases h
  · simpa using h
theorem may_of {F : Nat → Int} {N : Nat} {satp st pr k va : Int} (hn : np satp = false) (hc : canS va = true) (hi : isW F N satp st pr k va = false) : mayS (pteW F N satp st pr k va) k pr st = true := by
  unfold isW outW outP at hi
  unfold pteW outW outP
  rw [hn, hc] at hi ⊢
  simp only [cond_false, Bool.not_true] at hi ⊢
  cases h1 : (!(k2 N (root satp) va)) <;> rw [h1] at hi <;> simp only [cond_true, cond_false] at hi ⊢
  · cases h2 : leafS (en2 F N (root satp) va) <;> rw [h2] at hi <;> simp only [cond_true, cond_false] at hi ⊢
    · cases h3 : (!(tabS (en2 F N (root satp) va))) <;> rw [h3] at hi <;> simp only [cond_true, cond_false] at hi ⊢
      · cases h4 : (!(Ev.k1 F N (root satp) va)) <;> rw [h4] at hi <;> simp only [cond_true, cond_false] at hi ⊢
        · cases h5 : leafS (en1 F N (root satp) va) <;> rw [h5] at hi <;> simp only [cond_true, cond_false] at hi ⊢
          · cases h6 : (!(tabS (en1 F N (root satp) va))) <;> rw [h6] at hi <;> simp only [cond_true, cond_false] at hi ⊢
            · cases h7 : (!(k0 F N (root satp) va)) <;> rw [h7] at hi <;> simp only [cond_true, cond_false] at hi ⊢
              · cases h8 : leafS (en0 F N (root satp) va) <;> rw [h8] at hi <;> simp only [cond_true, cond_false] at hi ⊢
                · cases hi
                · cases h9 : bad (en0 F N (root satp) va) 0 st pr k <;> rw [h9] at hi <;> simp only [cond_true, cond_false] at hi ⊢
                  · exact bad_may h9
                  · cases hi
              · cases hi
            · cases hi
          · cases h9 : bad (en1 F N (root satp) va) 1 st pr k <;> rw [h9] at hi <;> simp only [cond_true, cond_false] at hi ⊢
            · exact bad_may h9
            · cases hi
        · cases hi
      · cases hi
    · cases h9 : bad (en2 F N (root satp) va) 2 st pr k <;> rw [h9] at hi <;> simp only [cond_true, cond_false] at hi ⊢
      · exact bad_may h9
      · cases hi
  · cases hi
theorem wf8 {h : Int} (wh : (Lit.int .u8 h).wf = true) : 0 ≤ h ∧ h < 256 := by
  simp [Lit.wf, IntKind.min, IntKind.max, IntKind.signed, IntKind.bits] at wh
  omega
theorem eqs (x : Int) : litCmp .eql x x = true := by rw [eql_eq]; exact decide_eq_true rfl
theorem nes (x : Int) : litCmp .neq x x = false := by rw [neq_eq, decide_eq_true rfl]; rfl

theorem delz : delQ 1 1 0 = true := yes_of ⟨rfl, by omega, by omega, by omega⟩
theorem delJ : delQ (0 + 1) (0 + 1) (JJ 0) = true := by
  rw [show JJ 0 = 0 by decide +kernel]
  exact delz
theorem goes {pg : Int} {n : Nat} {A X : Nat → Int} {kd : Int} {va : Int} {oas : Int} {lp : Int} {ll : Int} {lg : Bool} {all : Bool} {evr : Bool} {st : Int} {c1 : Int} {c2 : Int} {c3 : Int} {c4 : Int} {c5 : Int} {c6 : Int} {c7 : Int} {c8 : Int} {satp : Int} {c10 : Int} {c11 : Int} {pr : Int} {k : Int} {ad : Int} {x : Int} (hpg : 0 ≤ pg ∧ pg < 256) (hX : ∀ j, j < n → inU (X j)) (hva : inU va) (hst : inU st) (hsatp : inU satp) :
    ∃ (C : Cx DC) (m : Nat) (b : AB DC) (l : List (W DC)), Ok Try.prog C ∧ (call Try.prog C m 13 (ags pg n kd va oas lp ll lg all evr st c1 c2 c3 c4 c5 c6 c7 c8 satp c10 c11 pr k ad x) (hp0 n A X)).pick = some (.val (.bool b), l) ∧ b.den = true := by
  have qB : askB pg n n X = true := yes_of ⟨rfl, hpg, hX⟩
  have qa : aW pg n A X st satp va = true := yes_of ⟨⟨rfl, rfl, memB_ok hpg⟩, hsatp, hst, hva⟩
  cases hp : pgd satp with
  | false =>
    obtain ⟨l, hl⟩ := road_at (roadA pg n A X kd va oas lp ll lg all evr st c1 c2 c3 c4 c5 c6 c7 c8 satp c10 c11 pr k ad x) (by rw [qB, hp]; rfl)
    exact ⟨_, 300, _, l, cxP_ok false, hl, by show (!(litCmp .neq va va)) = true; rw [nes]; rfl⟩
  | true =>
    have hn : np satp = false := by
      show (!(pgd satp)) = false
      rw [hp]
      rfl
    cases hc : canS va with
    | false =>
      obtain ⟨l, hl⟩ := road_at (roadB pg n A X kd va oas lp ll lg all evr st c1 c2 c3 c4 c5 c6 c7 c8 satp c10 c11 pr k ad x) (by rw [qB, hp, hc]; rfl)
      exact ⟨_, 300, _, l, cxQ_ok false, hl, by show (!(!((litCmp .eql (cauS k 12 15 13) (cauS k 12 15 13)) && (litCmp .eql va va)))) = true; rw [eqs, eqs]; rfl⟩
    | true =>
      cases hi : IS pg n A X st satp pr k va with
      | true =>
        obtain ⟨l, hl⟩ := road_at (roadC pg n A X kd va oas lp ll lg all evr st c1 c2 c3 c4 c5 c6 c7 c8 satp c10 c11 pr k ad x) (by rw [qB, hp, hc, qa, hi]; rfl)
        exact ⟨_, 300, _, l, cxR_ok true, hl, by show (!(!((litCmp .eql (cauW (memB pg A X n) (szN pg) satp st pr k va) (cauW (memB pg A X n) (szN pg) satp st pr k va)) && (litCmp .eql (valW (memB pg A X n) (szN pg) satp st pr k va) (valW (memB pg A X n) (szN pg) satp st pr k va))))) = true; rw [eqs, eqs]; rfl⟩
      | false =>
        have hm : mayS (PT pg n A X st satp pr k va) k pr st = true := may_of hn hc hi
        have hl := lv_in (memB pg A X n) (szN pg) satp st pr k va
        have hz := CN_t (LV pg n A X st satp pr k va) va (asd satp) (GL pg n A X st satp pr k va)
        have h10 : d10 pg n A X st satp pr k va = true := by
          unfold d10
          rw [hz]
          rfl
        have q : dts pg n A X st satp pr k va = [true, true, true, true, false, false, true, true, true, true, true] := by
          unfold dts
          rw [qB, hp, hc, qa, hi, okL_one hl, Fo_t, Fx_t, Fx_t, hm, nes, hz, okL_zero, h10, delz, delJ]
          rfl
        obtain ⟨l, hl⟩ := road_at (roadD pg n A X kd va oas lp ll lg all evr st c1 c2 c3 c4 c5 c6 c7 c8 satp c10 c11 pr k ad x) q
        exact ⟨_, 300, _, l, cxR_ok false, hl, by
          show dv (CN (LV pg n A X st satp pr k va) va (asd satp) (GL pg n A X st satp pr k va)) = true
          rw [hz]
          decide +kernel⟩

theorem run : ∀ xs h, Abs [.duo [.int .u8] [.int .u32, .int .u64], .plain (.agg [.int .u8, .int .u64, .int .u64, .int .u64, .int .i64, .bool, .bool, .bool, .int .u64, .int .u64, .int .u64, .int .u64, .int .u64, .int .u64, .int .u64, .int .u64, .int .u64, .int .u64, .int .u64, .int .u64, .int .i64, .int .i64, .int .u32, .int .u64])] 0 xs h → ∃ (C : Cx DC) (m : Nat) (b : AB DC) (l : List (W DC)), Ok Try.prog C ∧ (call Try.prog C m 13 xs h).pick = some (.val (.bool b), l) ∧ b.den = true := by
  rintro xs h ⟨cs, n, fs, as0, h0, rfl, rfl, ⟨_, _, rfl, ⟨pg, rfl, wpg⟩, rfl⟩, hrow, ⟨_, as1, rfl, ⟨_, rfl, ⟨_, _, rfl, ⟨kd, rfl, wkd⟩, ⟨_, _, rfl, ⟨va, rfl, wva⟩, ⟨_, _, rfl, ⟨oas, rfl, woas⟩, ⟨_, _, rfl, ⟨lp, rfl, wlp⟩, ⟨_, _, rfl, ⟨ll, rfl, wll⟩, ⟨_, _, rfl, ⟨lg, rfl⟩, ⟨_, _, rfl, ⟨all, rfl⟩, ⟨_, _, rfl, ⟨evr, rfl⟩, ⟨_, _, rfl, ⟨st, rfl, wst⟩, ⟨_, _, rfl, ⟨c1, rfl, wc1⟩, ⟨_, _, rfl, ⟨c2, rfl, wc2⟩, ⟨_, _, rfl, ⟨c3, rfl, wc3⟩, ⟨_, _, rfl, ⟨c4, rfl, wc4⟩, ⟨_, _, rfl, ⟨c5, rfl, wc5⟩, ⟨_, _, rfl, ⟨c6, rfl, wc6⟩, ⟨_, _, rfl, ⟨c7, rfl, wc7⟩, ⟨_, _, rfl, ⟨c8, rfl, wc8⟩, ⟨_, _, rfl, ⟨satp, rfl, wsatp⟩, ⟨_, _, rfl, ⟨c10, rfl, wc10⟩, ⟨_, _, rfl, ⟨c11, rfl, wc11⟩, ⟨_, _, rfl, ⟨pr, rfl, wpr⟩, ⟨_, _, rfl, ⟨k, rfl, wk⟩, ⟨_, _, rfl, ⟨ad, rfl, wad⟩, ⟨_, _, rfl, ⟨x, rfl, wx⟩, rfl⟩⟩⟩⟩⟩⟩⟩⟩⟩⟩⟩⟩⟩⟩⟩⟩⟩⟩⟩⟩⟩⟩⟩⟩⟩, rfl, rfl⟩⟩
  obtain ⟨hn, hlen, hF⟩ := hrow
  match fs, hlen with
  | [A, X], _ => exact goes (wf8 wpg) (fun j hj => inU_wf (hF 1 .u64 X rfl rfl j hj)) (inU_wf wva) (inU_wf wst) (inU_wf wsatp)

set_option maxRecDepth 100000 in
theorem lifted (os : Os) (started : os.Started) (H : Type) (enc : TypeId × Value → H) :
    ReturnsInHanded {} Try.checked os 13 .any (Rows.tlbMissesSpec.pre6 enc Try.prog Try.f13 Rows.tlbMissesRow.domain false) (Rows.tlbMissesSpec.post enc Try.prog Try.f13 false true false false) := by
  refine returnsInHanded_of_change (C := Try.checked) own started (by kernel_rfl) Try.func13
    (ChangeSpec.witness6 (enc := enc) (C := Try.checked) false ⟨#[], #[.agg #[.int .u8 0, .slice none 0 0], .agg #[.int .u8 0, .int .u64 0, .int .u64 0, .int .u64 0, .int .i64 0, .bool false, .bool false, .bool false, .int .u64 0, .int .u64 0, .int .u64 0, .int .u64 0, .int .u64 0, .int .u64 0, .int .u64 0, .int .u64 0, .int .u64 0, .int .u64 0, .int .u64 0, .int .u64 0, .int .i64 0, .int .i64 0, .int .u32 0, .int .u64 0]], []⟩ 8 (by kernel_rfl) (by kernel_rfl) (by kernel_rfl) (by kernel_rfl)) ?_
  intro W base args ds gs before hval hW _ _
  exact lifted_cases (P := Try.prog) (f := 13) (fn := Try.f13) (s := Rows.tlbMissesSpec) rfl
    (fun ds h => by
      match ds, h with
      | [d1, d2], _ => rfl)
    (by kernel_rfl) rfl (by kernel_rfl) (by kernel_rfl) (by kernel_rfl) run W base args ds gs before hval hW

theorem closed : joinedFacts Try.prog 13 Try.f13 Rows.tlbMissesSpec Rows.tlbMissesRow = true := by
  unfold joinedFacts
  rw [may_enter, lifts_final, make_cut]
  repeat' (with_reducible refine Bool.and_eq_true_iff.mpr ⟨?_, ?_⟩)
  all_goals kernel_rfl

theorem over : Rows.tlbMissesRow.holds Try.pinned (OpenSpec.ofChange Rows.tlbMissesSpec) :=
  OpenClaim.holds_of_wide 13 Try.f13 rfl rfl rfl rfl rfl rfl rfl ⟨rfl, rfl, rfl, rfl, rfl⟩ rfl rfl rfl rfl rfl (by kernel_rfl) Try.func13 closed
    (of_decide_eq_true (by kernel_rfl)) (by unfold Func.isWrapper; first | (rw [if_pos (by decide +kernel)]; kernel_rfl) | (rw [if_neg (by decide +kernel)]; exact ⟨rfl, rfl⟩))
    (fun os started H enc _ => lifted os started H enc)

/-- The statement. -/
theorem proved : Rows.TlbMissesSaid :=
  over
#print axioms proved
end Go.Proofs.Ytngcbpcfgolifaa.TlbMisses
