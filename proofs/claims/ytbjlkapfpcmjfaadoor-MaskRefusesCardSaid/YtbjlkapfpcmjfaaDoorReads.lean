/- Functions that read lists of numbers alone: Same, Of, the reference's Of, short. Conditions: none. -/
import Derived.Test.YtbjlkapfpcmjfaaDoorRefSum
namespace Go.Proofs.YtbjlkapfpcmjfaaDoor.Mask
open Go.RowKit Ev
set_option linter.unusedVariables false
set_option linter.unusedSimpArgs false

/-- What a call over some blocks that are only read comes to, it comes to over more. -/
theorem fn_read {P : Program} {f : FuncId} {args args' : List (AV DC)} {h hs : List (AO DC)} {v : AV DC} {l : List (W DC)} (τ : List Nat) (hf : FnOk P f args' hs (v, l)) (hv : scal v = true) (hargs : covL (at' τ) args args') (hheap : covH (at' τ) h τ hs) (hinj : injB τ hs = true)
    (hro : ∀ (j i : Nat) o, τ[j]? = some i → h[i]? = some o → o.mine = false) : FnOk P f args h (v, []) := by
  have hn : ∀ (i j : Nat), (List.replicate h.length (none : Option Nat))[i]? = some (some j) → False := fun i j e => by
    rw [List.getElem?_replicate] at e
    split at e <;> cases e
  refine frame τ (List.replicate h.length none) hf hargs hheap hinj ⟨by simp [St.apps], Nat.le_refl _, fun i e => ?_, fun i j _ e => (hn i j e).elim, fun i o hi e => ?_, fun i j o e => (hn i j e).elim, fun i i' j o o' e => (hn i j e).elim⟩ (covV_scal hv)
  · refine ⟨?_, rfl, fun j hj o ho => hro j i o hj ho⟩
    rw [List.getElem?_replicate] at e
    split at e
    · assumption
    · cases e
  · have : i < h.length := (List.getElem?_eq_some_iff.1 e).1
    omega
abbrev sl (b n : Nat) : AV DC := .slice b (.lit 0) (.rc n 1 0) .any
abbrev rw1 (n : Nat) (F : Nat → Int) : AO DC := .rows 0 n [(.int .i64, F)]
theorem natlt {i n : Nat} (h : i < n) : decide (0 ≤ (i : Int) ∧ (i : Int) < ((n : Nat) : Int)) = true := decide_eq_true ⟨by omega, by omega⟩
theorem toNatlt {i n : Nat} (h : i < n) : decide (Int.toNat (i : Int) < n) = true := decide_eq_true (by omega)
theorem step_i {i : Nat} (h : i < 1099511627776) : litBin .add .i64 (i : Int) 1 = ((i + 1 : Nat) : Int) := by
  rw [Ref.add_i64 (by omega)]
  rfl

/-! ### Same -/
namespace Eqs
def t : Tmpl := { slots := [.slice 0 0 .any, .slice 1 0 .any, .skip, .skip, .truth false, .int .i64] ++ sk 20, heap := [.rows 0 [.int .i64], .rows 0 [.int .i64]] }
def e (I : Int) (n : Nat) (F G : Nat → Int) : Env DC := ⟨[I], [], [n, n, n, n], [F, G]⟩
noncomputable def rd (s : St DC) : T DC (Ex DC × List (W DC)) := ev Tryd.prog cx 9 200 (.code (loopAt Tryd.prog 9 0)) s
def lst (s : St DC) : List Nat := [0, 1]
section
variable (I : Int) (n : Nat) (F G : Nat → Int)
set_option maxRecDepth 100000 in
theorem rx : (viewT t 2 lst (t.fill (e I n F G)) (rd (t.fill (e I n F G)))).route [false] = some ([litCmp .lss I ((n : Nat) : Int)], (.exit 0, some (e I n F G))) := by kernel_rfl
set_option maxRecDepth 100000 in
theorem rn : (viewT t 2 lst (t.fill (e I n F G)) (rd (t.fill (e I n F G)))).route [true, true, false] = some ([litCmp .lss I ((n : Nat) : Int), (decide (0 ≤ I ∧ I < ((n : Nat) : Int))) && ((decide ((Int.toNat I) < n)) && ((decide (0 ≤ I ∧ I < ((n : Nat) : Int))) && (decide ((Int.toNat I) < n)))), litCmp .neq (F (Int.toNat I)) (G (Int.toNat I))], (.normal, some (e (litBin .add .i64 I 1) n F G))) := by kernel_rfl
end
def Q (n : Nat) (F G : Nat → Int) : Prop := n < 1099511627776 ∧ ∀ i, i < n → F i = G i
noncomputable def ask (x : Env DC) : Bool := yes (∃ n F G, x = e 0 n F G ∧ Q n F G)
def res (x : Env DC) : Env DC := { x with i := [((x.n.getD 0 0 : Nat) : Int)] }
theorem blk (hw : Within Tryd.prog 9 (.block 0 (.loop (loopAt Tryd.prog 9 0)))) (s : St DC) (r : Ex DC × List (W DC)) (hr : (loopSumG (D := DC) t t 2 [0, 1] ask res .normal s).pick = some r) (w0 : World) (own : List Nat) (ρ : List Rb) (a : Act) (w : World) (H : SR w0 own ρ s a w) :
    (Go.Code.block 0 (.loop (loopAt Tryd.prog 9 0))).wp Tryd.prog (CodePost w0 own ρ s r) a w := by
  refine loopSumG_ok (n := 200) (x1 := .exit 0) (G := Nat) (S := fun x k => t.fill { x with i := [(k : Int)] }) (I := fun x k => ∃ n F G, x = e 0 n F G ∧ Q n F G ∧ k ≤ n) (m := fun x k => x.n.getD 0 0 - k) (g0 := fun _ => 0) cx_ok (.inl ⟨rfl, rfl⟩) (fun x hx => ?_) (fun x g _ => Nat.le_refl 2) (fun x k hx hI => ?_) hw s r hr w0 own ρ a w H
  · obtain ⟨n, F, G, rfl, h⟩ := of_yes hx
    exact ⟨⟨n, F, G, rfl, h, Nat.zero_le _⟩, rfl⟩
  · obtain ⟨n, F, G, rfl, ⟨hn, hq⟩, hk⟩ := hI
    by_cases hkn : k = n
    · subst hkn
      exact view_out (S := fun (j : Nat) => t.fill { e 0 k F G with i := [(j : Int)] }) (g := k) (route_at (rx (k : Int) k F G) (show [_] = [false] by rw [Ref.lss_nat, decide_eq_false (Nat.lt_irrefl _)])) (by simp) (by simp) rfl
    · have hlt : k < n := by omega
      have hr := route_at (rn (k : Int) n F G) (show [_, _, _] = [true, true, false] by
        rw [Ref.lss_nat, decide_eq_true hlt, natlt hlt, toNatlt hlt, Int.toNat_natCast, hq k hlt, neq_eq, decide_eq_true rfl]; rfl)
      rw [step_i (by omega)] at hr
      exact view_next (S := fun (k : Nat) => t.fill { e 0 n F G with i := [(k : Int)] }) (g := k) (g' := k + 1) hr rfl ⟨n, F, G, rfl, ⟨hn, hq⟩, hlt⟩ (by show n - (k + 1) < n - k; omega)
noncomputable def cxS : Cx DC := cx.block 9 0 (loopSumG t t 2 [0, 1] ask res .normal)
theorem cxS_ok : Ok Tryd.prog cxS := cx_ok.block (by kernel_rfl) blk
set_option maxRecDepth 100000 in
theorem fS (n : Nat) (F G : Nat → Int) : ((call Tryd.prog cxS 60 9 [sl 0 n, sl 1 n] [rw1 n F, rw1 n G]).route [false, true]).map (fun p => (p.1, p.2.1)) = some ([litCmp .neq ((n : Nat) : Int) ((n : Nat) : Int), ask (e 0 n F G)], .val (.bool (.lit true))) := by kernel_rfl
end Eqs
noncomputable def gSame (args : List (AV DC)) (h : List (AO DC)) : Option (T DC (AV DC × List (W DC))) := match args with
  | [.slice b (.lit 0) (.rc n 1 0) .any, .slice c (.lit 0) (.rc m 1 0) .any] => match h[b]?, h[c]? with
    | some (.rows _ n' [(.int .i64, F)]), some (.rows _ m' [(.int .i64, G)]) => some (.br (yes (n = m ∧ n = n' ∧ n = m' ∧ Eqs.Q n F G)) (.ret (.bool (.lit true), [])) .fail)
    | _, _ => none
  | _ => none
theorem gSame_ok {args : List (AV DC)} {h : List (AO DC)} {t : T DC (AV DC × List (W DC))} {r : AV DC × List (W DC)} (ht : gSame args h = some t) (hp : t.pick = some r) : FnOk Tryd.prog 9 args h r := by
  unfold gSame at ht
  split at ht
  · rename_i b n c m
    split at ht
    · rename_i t1 n' F t2 m' G hb hc
      cases ht
      rcases T.br_some hp with ⟨h1, h2⟩ | ⟨_, h2⟩
      · have := T.ret_some h2
        subst this
        obtain ⟨rfl, rfl, rfl, hq⟩ := of_yes h1
        have hq' : Eqs.ask (Eqs.e 0 n F G) = true := yes_of ⟨n, F, G, rfl, hq⟩
        obtain ⟨l, hl⟩ := road_at (Eqs.fS n F G) (show [_, _] = [false, true] by rw [hq', neq_eq, decide_eq_true rfl]; rfl)
        refine fn_read [b, c] (fn_ok Eqs.cxS_ok hl) rfl ?_ ?_ rfl ?_
        · exact ⟨⟨rfl, rfl, rfl, trivial⟩, ⟨rfl, rfl, rfl, trivial⟩, trivial⟩
        · simp only [covH, hb, hc]
          exact ⟨⟨trivial, rfl, covC_refl _ _⟩, ⟨trivial, rfl, covC_refl _ _⟩, trivial⟩
        · intro j i o hj ho
          match j, hj with
          | 0, hj =>
            have : b = i := by simpa using hj
            subst this
            rw [hb] at ho
            cases ho
            rfl
          | 1, hj =>
            have : c = i := by simpa using hj
            subst this
            rw [hc] at ho
            cases ho
            rfl
      · cases h2
    · cases ht
  · cases ht

/-! ### Of -/
def putBit (x v : Int) : Int := cond (cond (litCmp .geq v 0) (litCmp .lss v 64) false) (litBin .or .u64 x (litBin .shl .u64 1 v)) x
def ofI (F : Nat → Int) : Nat → Int
  | 0 => 0
  | k + 1 => putBit (ofI F k) (F k)
theorem guard_true (v : Int) : cond (cond (litCmp .geq v 0) (litCmp .lss v 64) false) (!(litCmp .lss v 0)) true = true := by
  rw [geq_eq, lss_eq, lss_eq]
  by_cases h : 0 ≤ v
  · rw [decide_eq_true h, cond_true, decide_eq_false (by omega : ¬ v < 0)]
    cases decide (v < 64) <;> rfl
  · rw [decide_eq_false h]
    rfl
theorem leq63 (v : Int) : litCmp .leq v 63 = litCmp .lss v 64 := by
  rw [leq_eq, lss_eq]
  congr 1
  apply propext
  omega
namespace Ofs
def t : Tmpl := { slots := [.slice 0 0 .any, .skip, .skip, .int .u64, .skip, .skip, .slice 0 0 .any, .int .i64, .int .i64] ++ sk 15, heap := [.rows 0 [.int .i64]] }
def e (X I : Int) (n m : Nat) (F : Nat → Int) : Env DC := ⟨[X, ((n : Nat) : Int), I], [], [n, n, m], [F]⟩
noncomputable def rd (s : St DC) : T DC (Ex DC × List (W DC)) := ev Tryd.prog cx 11 200 (.code (loopAt Tryd.prog 11 0)) s
def lst (s : St DC) : List Nat := [0]
section
variable (X I : Int) (n m : Nat) (F : Nat → Int)
set_option maxRecDepth 100000 in
theorem rx : (viewT t 1 lst (t.fill (e X I n m F)) (rd (t.fill (e X I n m F)))).route [false] = some ([litCmp .lss I ((n : Nat) : Int)], (.exit 0, some (e X I n m F))) := by kernel_rfl
set_option maxRecDepth 100000 in
theorem rn : (viewT t 1 lst (t.fill (e X I n m F)) (rd (t.fill (e X I n m F)))).route [true, true] = some ([litCmp .lss I ((n : Nat) : Int), ((decide (0 ≤ I ∧ I < ((n : Nat) : Int))) && (decide ((Int.toNat I) < m))) && (cond (cond (litCmp .geq (F (Int.toNat I)) 0) (litCmp .lss (F (Int.toNat I)) 64) false) (!(litCmp .lss (F (Int.toNat I)) 0)) true)], (.normal, some (e (putBit X (F (Int.toNat I))) (litBin .add .i64 I 1) n m F))) := by kernel_rfl
end
def Q (n m : Nat) : Prop := n < 1099511627776 ∧ n ≤ m
noncomputable def ask (x : Env DC) : Bool := yes (∃ n m F, x = e 0 0 n m F ∧ Q n m)
def res (x : Env DC) : Env DC := { x with i := [ofI (x.f.getD 0 (fun _ => 0)) (x.n.getD 0 0), ((x.n.getD 0 0 : Nat) : Int), ((x.n.getD 0 0 : Nat) : Int)] }
theorem blk (hw : Within Tryd.prog 11 (.block 0 (.loop (loopAt Tryd.prog 11 0)))) (s : St DC) (r : Ex DC × List (W DC)) (hr : (loopSumG (D := DC) t t 1 [0] ask res .normal s).pick = some r) (w0 : World) (own : List Nat) (ρ : List Rb) (a : Act) (w : World) (H : SR w0 own ρ s a w) :
    (Go.Code.block 0 (.loop (loopAt Tryd.prog 11 0))).wp Tryd.prog (CodePost w0 own ρ s r) a w := by
  refine loopSumG_ok (n := 200) (x1 := .exit 0) (G := Nat) (S := fun x k => t.fill { x with i := [ofI (x.f.getD 0 (fun _ => 0)) k, ((x.n.getD 0 0 : Nat) : Int), (k : Int)] }) (I := fun x k => ∃ n m F, x = e 0 0 n m F ∧ Q n m ∧ k ≤ n) (m := fun x k => x.n.getD 0 0 - k) (g0 := fun _ => 0) cx_ok (.inl ⟨rfl, rfl⟩) (fun x hx => ?_) (fun x g _ => Nat.le_refl 1) (fun x k hx hI => ?_) hw s r hr w0 own ρ a w H
  · obtain ⟨n, m, F, rfl, h⟩ := of_yes hx
    exact ⟨⟨n, m, F, rfl, h, Nat.zero_le _⟩, rfl⟩
  · obtain ⟨n, m, F, rfl, ⟨hn, hq⟩, hk⟩ := hI
    by_cases hkn : k = n
    · subst hkn
      exact view_out (S := fun (j : Nat) => t.fill (e (ofI F j) (j : Int) k m F)) (g := k) (route_at (rx (ofI F k) (k : Int) k m F) (show [_] = [false] by rw [Ref.lss_nat, decide_eq_false (Nat.lt_irrefl _)])) (by simp) (by simp) rfl
    · have hlt : k < n := by omega
      have hr := route_at (rn (ofI F k) (k : Int) n m F) (show [_, _] = [true, true] by
        rw [Ref.lss_nat, decide_eq_true hlt, natlt hlt, toNatlt (show k < m by omega), guard_true]; rfl)
      rw [step_i (by omega), Int.toNat_natCast] at hr
      exact view_next (S := fun (k : Nat) => t.fill (e (ofI F k) (k : Int) n m F)) (g := k) (g' := k + 1) hr rfl ⟨n, m, F, rfl, ⟨hn, hq⟩, hlt⟩ (by show n - (k + 1) < n - k; omega)
noncomputable def cxO : Cx DC := cx.block 11 0 (loopSumG t t 1 [0] ask res .normal)
theorem cxO_ok : Ok Tryd.prog cxO := cx_ok.block (by kernel_rfl) blk
set_option maxRecDepth 100000 in
theorem fO (n m : Nat) (F : Nat → Int) : ((call Tryd.prog cxO 60 11 [sl 0 n] [rw1 m F]).route [true]).map (fun p => (p.1, p.2.1)) = some ([ask (e 0 0 n m F)], .val (.int .u64 (.sym (ofI F n)))) := by kernel_rfl
end Ofs
namespace Ofr
def t : Tmpl := { slots := [.slice 0 0 .any, .skip, .skip, .int .u64, .int .i64] ++ sk 26, heap := [.rows 0 [.int .i64]] }
def e (X I : Int) (n m : Nat) (F : Nat → Int) : Env DC := ⟨[X, I], [], [n, m], [F]⟩
noncomputable def rd (s : St DC) : T DC (Ex DC × List (W DC)) := ev Tryd.prog cx 13 200 (.code (loopAt Tryd.prog 13 0)) s
def lst (s : St DC) : List Nat := [0]
def tst (I : Int) (n m : Nat) (F : Nat → Int) : Bool := ((decide (0 ≤ I ∧ I < ((n : Nat) : Int))) && ((decide ((Int.toNat I) < m)) && (cond (litCmp .geq (F (Int.toNat I)) 0) ((decide (0 ≤ I ∧ I < ((n : Nat) : Int))) && (decide ((Int.toNat I) < m))) true))) && (cond (cond (litCmp .geq (F (Int.toNat I)) 0) (litCmp .leq (F (Int.toNat I)) 63) false) ((decide (0 ≤ I ∧ I < ((n : Nat) : Int))) && ((decide ((Int.toNat I) < m)) && (!(litCmp .lss (F (Int.toNat I)) 0)))) true)
def put (X v : Int) : Int := cond (cond (litCmp .geq v 0) (litCmp .leq v 63) false) (litBin .or .u64 X (litBin .shl .u64 1 v)) X
theorem put_eq (X v : Int) : put X v = putBit X v := by unfold put putBit; rw [leq63]
section
variable (X I : Int) (n m : Nat) (F : Nat → Int)
set_option maxRecDepth 100000 in
theorem rx : (viewT t 1 lst (t.fill (e X I n m F)) (rd (t.fill (e X I n m F)))).route [false] = some ([litCmp .lss I ((n : Nat) : Int)], (.exit 0, some (e X I n m F))) := by kernel_rfl
set_option maxRecDepth 100000 in
theorem rn : (viewT t 1 lst (t.fill (e X I n m F)) (rd (t.fill (e X I n m F)))).route [true, true] = some ([litCmp .lss I ((n : Nat) : Int), tst I n m F], (.normal, some (e (put X (F (Int.toNat I))) (litBin .add .i64 I 1) n m F))) := by kernel_rfl
end
noncomputable def ask (x : Env DC) : Bool := yes (∃ n m F, x = e 0 0 n m F ∧ Ofs.Q n m)
def res (x : Env DC) : Env DC := { x with i := [ofI (x.f.getD 0 (fun _ => 0)) (x.n.getD 0 0), ((x.n.getD 0 0 : Nat) : Int)] }
theorem blk (hw : Within Tryd.prog 13 (.block 0 (.loop (loopAt Tryd.prog 13 0)))) (s : St DC) (r : Ex DC × List (W DC)) (hr : (loopSumG (D := DC) t t 1 [0] ask res .normal s).pick = some r) (w0 : World) (own : List Nat) (ρ : List Rb) (a : Act) (w : World) (H : SR w0 own ρ s a w) :
    (Go.Code.block 0 (.loop (loopAt Tryd.prog 13 0))).wp Tryd.prog (CodePost w0 own ρ s r) a w := by
  refine loopSumG_ok (n := 200) (x1 := .exit 0) (G := Nat) (S := fun x k => t.fill { x with i := [ofI (x.f.getD 0 (fun _ => 0)) k, (k : Int)] }) (I := fun x k => ∃ n m F, x = e 0 0 n m F ∧ Ofs.Q n m ∧ k ≤ n) (m := fun x k => x.n.getD 0 0 - k) (g0 := fun _ => 0) cx_ok (.inl ⟨rfl, rfl⟩) (fun x hx => ?_) (fun x g _ => Nat.le_refl 1) (fun x k hx hI => ?_) hw s r hr w0 own ρ a w H
  · obtain ⟨n, m, F, rfl, h⟩ := of_yes hx
    exact ⟨⟨n, m, F, rfl, h, Nat.zero_le _⟩, rfl⟩
  · obtain ⟨n, m, F, rfl, ⟨hn, hq⟩, hk⟩ := hI
    by_cases hkn : k = n
    · subst hkn
      exact view_out (S := fun (j : Nat) => t.fill (e (ofI F j) (j : Int) k m F)) (g := k) (route_at (rx (ofI F k) (k : Int) k m F) (show [_] = [false] by rw [Ref.lss_nat, decide_eq_false (Nat.lt_irrefl _)])) (by simp) (by simp) rfl
    · have hlt : k < n := by omega
      have hr := route_at (rn (ofI F k) (k : Int) n m F) (show [_, _] = [true, true] by
        unfold tst
        have := guard_true (F (Int.toNat (k : Int)))
        rw [Ref.lss_nat, decide_eq_true hlt, natlt hlt, toNatlt (show k < m by omega), leq63]
        simp only [Bool.true_and, Bool.cond_self, this])
      rw [step_i (by omega), Int.toNat_natCast, put_eq] at hr
      exact view_next (S := fun (k : Nat) => t.fill (e (ofI F k) (k : Int) n m F)) (g := k) (g' := k + 1) hr rfl ⟨n, m, F, rfl, ⟨hn, hq⟩, hlt⟩ (by show n - (k + 1) < n - k; omega)
noncomputable def cxO : Cx DC := cx.block 13 0 (loopSumG t t 1 [0] ask res .normal)
theorem cxO_ok : Ok Tryd.prog cxO := cx_ok.block (by kernel_rfl) blk
set_option maxRecDepth 100000 in
theorem fO (n m : Nat) (F : Nat → Int) : ((call Tryd.prog cxO 60 13 [sl 0 n] [rw1 m F]).route [true]).map (fun p => (p.1, p.2.1)) = some ([ask (e 0 0 n m F)], .val (.int .u64 (.sym (ofI F n)))) := by kernel_rfl
end Ofr
noncomputable def gOf (args : List (AV DC)) (h : List (AO DC)) : Option (T DC (AV DC × List (W DC))) := match args with
  | [.slice b (.lit 0) (.rc n 1 0) .any] => match h[b]? with
    | some (.rows _ m [(.int .i64, F)]) => some (.br (yes (Ofs.Q n m)) (.ret (.int .u64 (.sym (ofI F n)), [])) .fail)
    | _ => none
  | _ => none
theorem gOf_of {f : FuncId} (Hf : ∀ n m F, Ofs.Q n m → ∃ l, FnOk Tryd.prog f [sl 0 n] [rw1 m F] (.int .u64 (.sym (ofI F n)), l)) {args : List (AV DC)} {h : List (AO DC)} {t : T DC (AV DC × List (W DC))} {r : AV DC × List (W DC)} (ht : gOf args h = some t) (hp : t.pick = some r) : FnOk Tryd.prog f args h r := by
  unfold gOf at ht
  split at ht
  · rename_i b n
    split at ht
    · rename_i t1 m F hb
      cases ht
      rcases T.br_some hp with ⟨h1, h2⟩ | ⟨_, h2⟩
      · have := T.ret_some h2
        subst this
        obtain ⟨l, hl⟩ := Hf n m F (of_yes h1)
        refine fn_read [b] hl rfl ?_ ?_ rfl ?_
        · exact ⟨⟨rfl, rfl, rfl, trivial⟩, trivial⟩
        · simp only [covH, hb]
          exact ⟨⟨trivial, rfl, covC_refl _ _⟩, trivial⟩
        · intro j i o hj ho
          match j, hj with
          | 0, hj =>
            have : b = i := by simpa using hj
            subst this
            rw [hb] at ho
            cases ho
            rfl
      · cases h2
    · cases ht
  · cases ht
theorem of_fn (n m : Nat) (F : Nat → Int) (hq : Ofs.Q n m) : ∃ l, FnOk Tryd.prog 11 [sl 0 n] [rw1 m F] (.int .u64 (.sym (ofI F n)), l) := by
  obtain ⟨l, hl⟩ := road_at (Ofs.fO n m F) (show [_] = [true] by rw [show Ofs.ask (Ofs.e 0 0 n m F) = true from yes_of ⟨n, m, F, rfl, hq⟩])
  exact ⟨l, fn_ok Ofs.cxO_ok hl⟩
theorem ofr_fn (n m : Nat) (F : Nat → Int) (hq : Ofs.Q n m) : ∃ l, FnOk Tryd.prog 13 [sl 0 n] [rw1 m F] (.int .u64 (.sym (ofI F n)), l) := by
  obtain ⟨l, hl⟩ := road_at (Ofr.fO n m F) (show [_] = [true] by rw [show Ofr.ask (Ofr.e 0 0 n m F) = true from yes_of ⟨n, m, F, rfl, hq⟩])
  exact ⟨l, fn_ok Ofr.cxO_ok hl⟩
theorem gOf_ok {args : List (AV DC)} {h : List (AO DC)} {t : T DC (AV DC × List (W DC))} {r : AV DC × List (W DC)} (ht : gOf args h = some t) (hp : t.pick = some r) : FnOk Tryd.prog 11 args h r := gOf_of of_fn ht hp
theorem gOfr_ok {args : List (AV DC)} {h : List (AO DC)} {t : T DC (AV DC × List (W DC))} {r : AV DC × List (W DC)} (ht : gOf args h = some t) (hp : t.pick = some r) : FnOk Tryd.prog 13 args h r := gOf_of ofr_fn ht hp

end Go.Proofs.YtbjlkapfpcmjfaaDoor.Mask
