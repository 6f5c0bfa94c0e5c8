/- Leaves that are kept: Delete, Find, Flush as summaries; what stands at the head of the layer's statements. Conditions: none. -/
import Derived.Test.YtngcbpcfgolifaaBoth12
import Derived.Test.YtngcbpcfgolifaaEvDel
import Derived.Test.YtngcbpcfgolifaaEvList
namespace Go.Proofs.Ytngcbpcfgolifaa.Tlb
open Go.RowKit Ev
set_option linter.unusedVariables false
set_option linter.unusedSimpArgs false

/-! ### The context -/
/-- A context with an atomic load besides. -/
def loads (X : Cx DC) (lf : Nat) : Cx DC := { X with ext := fun f => bif Nat.beq f lf then some .load64 else X.ext f }
theorem loads_ok {P : Program} {X : Cx DC} (hX : Ok P X) {lf : Nat} {l : Func} (hl : P.funcs[lf]? = some l) (hlb : l.body.isNone = true) (hln : Extern.findNext l = none) (hle : Extern.find l = some (Extern.Atomic.loadT (.int .u64))) : Ok P (loads X lf) := by
  refine ⟨hX.mixed, hX.names, ?_, ⟨?_, ?_⟩, hX.bodies, hX.sums, hX.blk, hX.opx⟩
  · intro f hf b n w hc
    simp only [loads] at hf
    cases h1 : Nat.beq f lf <;> rw [h1] at hf
    · exact hX.load f hf b n w hc
    · obtain rfl := Nat.eq_of_beq_eq_true h1
      exact run_call_load hl (hX.names _ _ hl) hlb hln .u64 hle hc
  · intro f hf
    simp only [loads] at hf
    cases h1 : Nat.beq f lf <;> rw [h1] at hf
    · exact hX.store.1 f hf
    · cases hf
  · intro f hf
    simp only [loads] at hf
    cases h1 : Nat.beq f lf <;> rw [h1] at hf
    · exact hX.store.2 f hf
    · cases hf
noncomputable def cxd : Cx DC := (((loads cxb61 122).adds 121).more (delX Try.prog)).tails [(3, 10, 18), (3, 16, 15), (5, 27, 8), (15, 18, 8), (15, 19, 8), (16, 9, 22), (19, 7, 15), (21, 32, 15), (22, 26, 15), (22, 27, 15), (48, 3, 2), (48, 5, 3), (48, 6, 8), (49, 6, 2), (49, 7, 8), (62, 11, 2), (70, 15, 2), (70, 17, 8), (71, 2, 7), (73, 13, 1152921504607371400), (25, 1, 2305843009213694464), (25, 2, 2305843009213693952), (84, 5, 6), (75, 9, 3), (76, 5, 7), (76, 7, 3), (77, 4, 3), (77, 7, 2), (77, 8, 6), (78, 6, 2), (78, 9, 3), (79, 4, 17), (79, 5, 13), (79, 7, 2), (79, 11, 3), (80, 6, 13), (80, 8, 3), (81, 5, 12), (81, 6, 3), (82, 6, 8), (83, 3, 2), (83, 6, 4), (83, 9, 2), (83, 11, 7), (115, 10, 2), (116, 3, 4), (117, 5, 2), (117, 10, 3), (117, 16, 2)]
theorem is122 : (Try.prog.funcs[122]?).isSome = true := by kernel_rfl
theorem is121 : (Try.prog.funcs[121]?).isSome = true := by kernel_rfl
theorem cxd_ok : Ok Try.prog cxd := (((loads_ok (lf := 122) (l := (Try.prog.funcs[122]?).get is122) cxb61_ok (Option.some_get is122).symm (by kernel_rfl) (by kernel_rfl) (by kernel_rfl)).adds (af := 121) (l := (Try.prog.funcs[121]?).get is121) (Option.some_get is121).symm (by kernel_rfl) (by kernel_rfl) (by kernel_rfl)).more fun _ _ _ _ ho hz _ _ _ _ _ hS H => delX_sound ho hz hS H).tails _

/-! ### One block -/
theorem memL {P : Program} {X : Cx DC} (hX : Ok P X) {n : Nat} {f : FuncId} {c : Nat} {o o0 o1 o2 : AO DC} {h : List (AO DC)} {v v' : AV DC} {args args' : List (AV DC)} {l' : List (W DC)} {ds cs : List Bool}
    (hr : (call P X n f args' [o0]).route ds = some (cs, .val v', l')) (hcs : cs = ds)
    (hb : h[c]? = some o) (ho : covO (at' [c]) o o0) (hm : o.mine = true) (h1 : (({ slots := [], heap := [o0] } : St DC).apps l').heap[0]? = some o1) (h2 : covO (idx [c]) o1 o2)
    (hargs : covL (at' [c]) args args') (hv : covV (idx [c]) v' v) : FnOk P f args h (v, [.obj c o2]) := by
  subst hcs
  have hp := route_pick _ _ _ hr
  have hcl : c < h.length := (List.getElem?_eq_some_iff.1 hb).1
  refine frame_old [c] (fn_ok hX (r := (v', l')) hp) hargs ⟨?_, trivial⟩ ?_ (by simp) (fun j i o' hj ho' => ?_) ?_ (fun i hi => ?_) (fun j i o' hj ho' => ?_) hv
  · rw [hb]
    exact ho
  · simp [injB, notIn]
  · match j, hj with
    | 0, hj => cases hj; rw [hb] at ho'; cases ho'; exact hm
    | _ + 1, hj => cases hj
  · simp [St.apps, St.app]
  · have : c ≠ i := fun e => hi (by simp [e])
    simp only [St.apps, St.app]
    rw [List.getElem?_set_ne this]
  · match j, hj with
    | 0, hj =>
      cases hj
      simp only [St.apps, St.app] at ho'
      rw [List.getElem?_set_self hcl] at ho'
      cases ho'
      exact ⟨_, h1, h2⟩
    | _ + 1, hj => cases hj

/-! ### Delete -/
abbrev c5 (F0 F1 F2 F3 F4 : Nat → Int) : List (CK × (Nat → Int)) := [(.int .u64, F0), (.int .i64, F1), (.bool, F2), (.int .u64, F3), (.int .u64, F4)]
abbrev lst (b n : Nat) : AV DC := .slice b (.lit 0) (.rc n 1 0) (.un 5)
def bl (F : Nat → Int) (j : Int) (n : Nat) : Nat → Int := fun i => if ((Int.toNat 0) - 0) ≤ i ∧ i < ((Int.toNat 0) - 0) + (n - (Int.toNat j)) then F ((Int.toNat j) + (i - ((Int.toNat 0) - 0))) else F i
def mm (n : Nat) (j : Int) : Nat := ((Int.toNat 0) - 0) + (n - (Int.toNat j))
def dT (n : Nat) (j : Int) : Bool := (decide (0 ≤ ((n : Nat) : Int) ∧ ((n : Nat) : Int) < (((n + 1) : Nat) : Int))) && ((decide (0 ≤ j ∧ j < ((((Int.toNat ((n : Nat) : Int)) + 1) : Nat) : Int))) && (decide ((0 : Int) ≤ 0 ∧ (0 : Int) < ((((Int.toNat j) + 1) : Nat) : Int))))
def dU (n : Nat) (j : Int) : Bool := (((decide ((0 : Int) ≤ 0 ∧ (0 : Int) < (((n + 1) : Nat) : Int))) && ((decide (0 ≤ (Int.toNat 0))) && (decide (0 < n)))) && (((decide (n ≤ n)) && ((decide (n ≤ n)) && (decide (0 ≤ j ∧ j < (((n + 1) : Nat) : Int))))) && (((decide ((mm n j) ≤ (n - 0))) && (decide ((mm n j) ≤ n))) && (decide (((Int.toNat j) + (n - (Int.toNat j))) ≤ n))))) && (((decide (0 ≤ ((n : Nat) : Int) ∧ ((n : Nat) : Int) < ((((n - 0) + 1) : Nat) : Int))) && ((decide (0 ≤ (((mm n j) : Nat) : Int) ∧ (((mm n j) : Nat) : Int) < ((((Int.toNat ((n : Nat) : Int)) + 1) : Nat) : Int))) && (decide ((Int.toNat (((mm n j) : Nat) : Int)) < (n - 0))))) && (decide (((Int.toNat (((mm n j) : Nat) : Int)) + ((Int.toNat ((n : Nat) : Int)) - (Int.toNat (((mm n j) : Nat) : Int)))) ≤ n)))
set_option maxRecDepth 100000 in
theorem del0 (n : Nat) (j : Int) (F0 F1 F2 F3 F4 : Nat → Int) : (call Try.prog cxd 200 84 [lst 0 n, .int .i64 (.lit 0), .int .i64 (.sym j)] [.arr 151 n (c5 F0 F1 F2 F3 F4)]).route [true, true] =
    some ([dT n j, litCmp .eql 0 j], (.val (lst 0 n), [])) := by kernel_rfl
set_option maxRecDepth 100000 in
theorem del1 (n : Nat) (j : Int) (F0 F1 F2 F3 F4 : Nat → Int) : (call Try.prog cxd 200 84 [lst 0 n, .int .i64 (.lit 0), .int .i64 (.sym j)] [.arr 151 n (c5 F0 F1 F2 F3 F4)]).route [true, false, true] =
    some ([dT n j, litCmp .eql 0 j, dU n j], (.val (.slice 0 (.lit 0) (.rc (mm n j) 1 0) (.ge 5 (n - 0 : Nat))), [.obj 0 (.arr 151 n (c5 (bl F0 j n) (bl F1 j n) (bl F2 j n) (bl F3 j n) (bl F4 j n))), .obj 0 (.arr 151 (Int.toNat (((mm n j) : Nat) : Int)) (c5 (bl F0 j n) (bl F1 j n) (bl F2 j n) (bl F3 j n) (bl F4 j n)))])) := by kernel_rfl
def shf (F : Nat → Int) (k : Nat) : Nat → Int := fun i => F (i + k)
noncomputable def delQ (n N : Nat) (j : Int) : Bool := yes (n = N ∧ 0 ≤ j ∧ j ≤ (n : Int) ∧ n < 1000000)
theorem mm_eq (n : Nat) (j : Int) : mm n j = n - j.toNat := by
  unfold mm
  show 0 - 0 + (n - j.toNat) = _
  omega
theorem bl_eq {F : Nat → Int} {j : Int} {n i : Nat} (h : i < n - j.toNat) : bl F j n i = shf F j.toNat i := by
  have e : bl F j n i = if 0 ≤ i ∧ i < 0 + (n - j.toNat) then F (j.toNat + (i - 0)) else F i := rfl
  rw [e, if_pos ⟨Nat.zero_le _, by omega⟩]
  show F _ = F _
  congr 1
  omega
theorem dT_t {n : Nat} {j : Int} (h0 : 0 ≤ j) (h1 : j ≤ (n : Int)) : dT n j = true := by
  unfold dT
  rw [Int.toNat_natCast, decide_eq_true (by omega), decide_eq_true (by omega), decide_eq_true (by omega)]
  rfl
theorem dU_t {n : Nat} {j : Int} (h0 : 0 < j) (h1 : j ≤ (n : Int)) : dU n j = true := by
  unfold dU
  rw [Int.toNat_natCast, Int.toNat_natCast, mm_eq]
  simp only [decide_eq_true (show (0 : Int) ≤ 0 ∧ (0 : Int) < (((n + 1) : Nat) : Int) by omega), decide_eq_true (Nat.zero_le _), decide_eq_true (show 0 < n by omega), decide_eq_true (Nat.le_refl n), decide_eq_true (show 0 ≤ j ∧ j < (((n + 1) : Nat) : Int) by omega), decide_eq_true (show n - j.toNat ≤ n - 0 by omega), decide_eq_true (show n - j.toNat ≤ n by omega), decide_eq_true (show j.toNat + (n - j.toNat) ≤ n by omega), decide_eq_true (show 0 ≤ ((n : Nat) : Int) ∧ ((n : Nat) : Int) < ((((n - 0) + 1) : Nat) : Int) by omega), decide_eq_true (show 0 ≤ (((n - j.toNat) : Nat) : Int) ∧ (((n - j.toNat) : Nat) : Int) < (((n + 1) : Nat) : Int) by omega), decide_eq_true (show n - j.toNat < n - 0 by omega), decide_eq_true (show n - j.toNat + (n - (n - j.toNat)) ≤ n by omega)]
  rfl
theorem del_ok {c n : Nat} {j : Int} {F0 F1 F2 F3 F4 : Nat → Int} {o : AO DC} {h : List (AO DC)} {x0 x1 x2 : AV DC} (hb : h[c]? = some o) (ho : covO (at' [c]) o (.arr 151 n (c5 F0 F1 F2 F3 F4))) (hm : o.mine = true)
    (h0 : 0 ≤ j) (h1 : j ≤ (n : Int)) (hargs : covL (at' [c]) [x0, x1, x2] [lst 0 n, .int .i64 (.lit 0), .int .i64 (.sym j)]) :
    FnOk Try.prog 84 [x0, x1, x2] h (lst c (n - j.toNat), [.obj c (.arr 151 (n - j.toNat : Nat) (c5 (shf F0 j.toNat) (shf F1 j.toNat) (shf F2 j.toNat) (shf F3 j.toNat) (shf F4 j.toNat)))]) := by
  by_cases hj : j = 0
  · subst hj
    refine memL cxd_ok (del0 n 0 F0 F1 F2 F3 F4) (by rw [dT_t h0 h1]; rfl) hb ho hm (o1 := .arr 151 n (c5 F0 F1 F2 F3 F4)) rfl ⟨rfl, rfl, ?_⟩ hargs ⟨by simp [idx], rfl, rfl, rfl⟩
    exact ⟨rfl, fun _ _ => rfl, rfl, fun _ _ => rfl, rfl, fun _ _ => rfl, rfl, fun _ _ => rfl, rfl, fun _ _ => rfl, trivial⟩
  · have hj0 : 0 < j := by omega
    have em : Int.toNat (((mm n j) : Nat) : Int) = n - j.toNat := by rw [Int.toNat_natCast, mm_eq]
    refine memL cxd_ok (del1 n j F0 F1 F2 F3 F4) (by rw [dT_t h0 h1, dU_t hj0 h1, eql_eq, decide_eq_false (fun e => hj e.symm)]) hb ho hm (o1 := .arr 151 (Int.toNat (((mm n j) : Nat) : Int)) (c5 (bl F0 j n) (bl F1 j n) (bl F2 j n) (bl F3 j n) (bl F4 j n))) rfl ⟨rfl, em, ?_⟩ hargs ⟨by simp [idx], rfl, ?_, rfl⟩
    · have hi : ∀ (F : Nat → Int) i, i < nN (Int.toNat (((mm n j) : Nat) : Int)) → bl F j n i = shf F j.toNat i := fun F i hi => bl_eq (by
        have hi' : i < Int.toNat (((mm n j) : Nat) : Int) := hi
        rwa [em] at hi')
      exact ⟨rfl, hi F0, rfl, hi F1, rfl, hi F2, rfl, hi F3, rfl, hi F4, trivial⟩
    · show (mm n j) * 1 + 0 = (n - j.toNat) * 1 + 0
      rw [mm_eq]
def k1 (a : Int) : Nat → Int := fun _ => a
def bI (b : Bool) : Int := cond b 1 0
noncomputable def gDel (args : List (AV DC)) (h : List (AO DC)) : Option (T DC (AV DC × List (W DC))) := match args with
  | [.slice c (.lit 0) len (.un 5), .int .i64 (.lit 0), .int .i64 j] => match h[c]?, len with
    | some (.arr 151 N [(.int .u64, F0), (.int .i64, F1), (.bool, F2), (.int .u64, F3), (.int .u64, F4)]), .rc n 1 0 => some (.br (delQ n N j.den) (.ret (lst c (n - j.den.toNat : Nat), [.obj c (.arr 151 (n - j.den.toNat : Nat) (c5 (shf F0 j.den.toNat) (shf F1 j.den.toNat) (shf F2 j.den.toNat) (shf F3 j.den.toNat) (shf F4 j.den.toNat)))])) .fail)
    | some (.cells 151 [.int .u64 a0, .int .i64 a1, .bool a2, .int .u64 a3, .int .u64 a4]), .lit 1 => some (.br (delQ 1 1 j.den) (.ret (lst c (1 - j.den.toNat : Nat), [.obj c (.arr 151 (1 - j.den.toNat : Nat) (c5 (k1 a0.den) (k1 a1.den) (k1 (bI a2.den)) (k1 a3.den) (k1 a4.den)))])) .fail)
    | _, _ => none
  | _ => none
theorem bI_ne (b : Bool) : litCmp .neq (bI b) 0 = b := by cases b <;> rfl
theorem gDel_ok {args : List (AV DC)} {h : List (AO DC)} {t : T DC (AV DC × List (W DC))} {r : AV DC × List (W DC)} (ht : gDel args h = some t) (hp : t.pick = some r) : FnOk Try.prog 84 args h r := by
  unfold gDel at ht
  split at ht
  · rename_i c len j
    split at ht
    · rename_i N F0 F1 F2 F3 F4 n hc
      cases ht
      rcases T.br_some hp with ⟨h1, h2⟩ | ⟨_, h2⟩
      · have := T.ret_some h2
        subst this
        obtain ⟨e1, q0, q1, q2⟩ := of_yes h1
        subst e1
        exact del_ok (j := j.den) hc ⟨rfl, rfl, ⟨rfl, fun _ _ => rfl, rfl, fun _ _ => rfl, rfl, fun _ _ => rfl, rfl, fun _ _ => rfl, rfl, fun _ _ => rfl, trivial⟩⟩ rfl q0 q1 ⟨⟨by simp [at'], rfl, rfl, rfl⟩, ⟨rfl, rfl⟩, ⟨rfl, rfl⟩, trivial⟩
      · cases h2
    · rename_i a0 a1 a2 a3 a4 hc
      cases ht
      rcases T.br_some hp with ⟨h1, h2⟩ | ⟨_, h2⟩
      · have := T.ret_some h2
        subst this
        obtain ⟨e1, q0, q1, q2⟩ := of_yes h1
        refine del_ok (n := 1) (j := j.den) (F0 := k1 a0.den) (F1 := k1 a1.den) (F2 := k1 (bI a2.den)) (F3 := k1 a3.den) (F4 := k1 a4.den) hc ⟨rfl, fun i c k g hi hg => ?_⟩ rfl q0 q1 ⟨⟨by simp [at'], rfl, rfl, rfl⟩, ⟨rfl, rfl⟩, ⟨rfl, rfl⟩, trivial⟩
        have hi0 : i = 0 := by
          have : i < 1 := hi
          omega
        subst hi0
        match c, hg with
        | 0, hg => cases hg; exact ⟨_, rfl, rfl, rfl⟩
        | 1, hg => cases hg; exact ⟨_, rfl, rfl, rfl⟩
        | 2, hg => cases hg; exact ⟨_, rfl, (bI_ne _).symm⟩
        | 3, hg => cases hg; exact ⟨_, rfl, rfl, rfl⟩
        | 4, hg => cases hg; exact ⟨_, rfl, rfl, rfl⟩
        | _ + 5, hg => cases hg
      · cases h2
    · cases ht
  · cases ht
noncomputable def cxl : Cx DC := cxd.sum 84 gDel
theorem cxl_ok : Ok Try.prog cxl := cxd_ok.sum (by kernel_rfl) fun args h t r ht hp => gDel_ok ht hp

/-! ### The first one -/
def fst : Nat → (Nat → Bool) → Nat
  | 0, _ => 0
  | n + 1, p => if fst n p < n then fst n p else if p n then n else n + 1
theorem fst_le : ∀ n p, fst n p ≤ n
  | 0, _ => Nat.le_refl 0
  | n + 1, p => by
    unfold fst
    have := fst_le n p
    split
    · omega
    · split <;> omega
theorem fst_lt : ∀ n p, fst n p < n → p (fst n p) = true
  | 0, _, h => absurd h (Nat.not_lt_zero _)
  | n + 1, p, h => by
    unfold fst at h ⊢
    split
    · rename_i h1; exact fst_lt n p h1
    · rename_i h1
      rw [if_neg h1] at h
      split
      · rename_i h2; exact h2
      · rename_i h2
        rw [if_neg h2] at h
        omega
theorem fst_no : ∀ n p j, j < fst n p → p j = false
  | 0, _, j, h => absurd h (Nat.not_lt_zero _)
  | n + 1, p, j, h => by
    unfold fst at h
    have hle := fst_le n p
    split at h
    · exact fst_no n p j h
    · rename_i h1
      have e : fst n p = n := by omega
      split at h
      · exact fst_no n p j (by omega)
      · rename_i h2
        by_cases hj : j < n
        · exact fst_no n p j (by omega)
        · have : j = n := by omega
          subst this
          simpa using h2

/-! ### The loop of IndexFunc -/
def sk (n : Nat) : List TV := List.replicate n .skip
def tI : Tmpl := { slots := [.slice 1 0 (.un 5), .clo 86 [2, 3]] ++ sk 2 ++ [.int .i64] ++ sk 2 ++ [.int .i64, .int .i64] ++ sk 10, heap := [.cells 149 [.int .i64, .slice 1 0 (.un 5), .int .u64], .arr 151 [.int .u64, .int .i64, .bool, .int .u64, .int .u64], .cells 23 [.int .u64], .cells 23 [.int .u64], .cells 29 [.num .u64 0, .num .i64 0, .truth false]] }
def e (R L I mo mi va asi : Int) (n : Nat) (F0 F1 F2 F3 F4 : Nat → Int) : Env DC := ⟨[R, L, I, mo, mi, va, asi], [], [n, n, n], [F0, F1, F2, F3, F4]⟩
noncomputable def rd (s : St DC) : T DC (Ex DC × List (W DC)) := ev Try.prog cxl 85 200 (.code (loopAt Try.prog 85 0)) s
def ls5 (s : St DC) : List Nat := List.range 5
def cov (F1 F2 F3 F4 : Nat → Int) (va asi : Int) (i : Nat) : Bool := cond (litCmp .eql (litBin .shr .u64 (litBin .xor .u64 (F3 i) va) (litBin .add .i64 12 (litBin .mul .i64 9 (F1 i)))) 0) (cond (litCmp .neq (F2 i) 0) true (litCmp .eql (F4 i) asi)) false
def bT (I : Int) (n : Nat) (F1 : Nat → Int) : Bool := (decide (0 ≤ I ∧ I < ((n : Nat) : Int))) && ((decide ((Int.toNat I) < n)) && (!(litCmp .lss (litBin .add .i64 12 (litBin .mul .i64 9 (F1 (Int.toNat I)))) 0)))
section
variable (R L I mo mi va asi : Int) (n : Nat) (F0 F1 F2 F3 F4 : Nat → Int)
set_option maxRecDepth 100000 in
theorem rx : (viewT tI 5 ls5 (tI.fill (e R L I mo mi va asi n F0 F1 F2 F3 F4)) (rd (tI.fill (e R L I mo mi va asi n F0 F1 F2 F3 F4)))).route [false] = some ([litCmp .lss I L], (.exit 0, some (e R L I mo mi va asi n F0 F1 F2 F3 F4))) := by kernel_rfl
set_option maxRecDepth 100000 in
theorem rn : (viewT tI 5 ls5 (tI.fill (e R L I mo mi va asi n F0 F1 F2 F3 F4)) (rd (tI.fill (e R L I mo mi va asi n F0 F1 F2 F3 F4)))).route [true, true, false] = some ([litCmp .lss I L, bT I n F1, cov F1 F2 F3 F4 va asi (Int.toNat I)], (.normal, some (e R L (litBin .add .i64 I 1) mo mi va asi n F0 F1 F2 F3 F4))) := by kernel_rfl
set_option maxRecDepth 100000 in
theorem rf : (viewT tI 5 ls5 (tI.fill (e R L I mo mi va asi n F0 F1 F2 F3 F4)) (rd (tI.fill (e R L I mo mi va asi n F0 F1 F2 F3 F4)))).route [true, true, true] = some ([litCmp .lss I L, bT I n F1, cov F1 F2 F3 F4 va asi (Int.toNat I)], (.ret, some (e I L I mo mi va asi n F0 F1 F2 F3 F4))) := by kernel_rfl
end
/-- Levels are those that there are. -/
def okL (n : Nat) (F1 : Nat → Int) : Prop := n < 1000000 ∧ ∀ i, i < n → 0 ≤ F1 i ∧ F1 i ≤ 2
theorem sh_ok {x : Int} (h : 0 ≤ x ∧ x ≤ 2) : litCmp .lss (litBin .add .i64 12 (litBin .mul .i64 9 x)) 0 = false := by
  have : x = 0 ∨ x = 1 ∨ x = 2 := by omega
  rcases this with rfl | rfl | rfl <;> decide +kernel
theorem bT_t {n k : Nat} {F1 : Nat → Int} (hk : k < n) (hl : okL n F1) : bT (k : Int) n F1 = true := by
  unfold bT
  rw [Int.toNat_natCast, sh_ok (hl.2 k hk), decide_eq_true (by omega), decide_eq_true hk]
  rfl
theorem lss_nat {k y : Nat} : litCmp .lss (k : Int) (y : Int) = decide (k < y) := by
  rw [lss_eq]
  congr 1
  apply propext
  omega
theorem step_i {i : Nat} (h : i < 1000000) : litBin .add .i64 (i : Int) 1 = ((i + 1 : Nat) : Int) := by
  rw [show litBin .add .i64 (i : Int) 1 = IntKind.i64.wrap ((i : Int) + 1) from rfl]
  simp [IntKind.wrap, IntKind.signed, IntKind.bits]
  omega
abbrev fs (n : Nat) (F1 F2 F3 F4 : Nat → Int) (va asi : Int) : Nat := fst n (cov F1 F2 F3 F4 va asi)
noncomputable def askN (v : Env DC) : Bool := yes (∃ mo mi va asi n F0 F1 F2 F3 F4, v = e 0 ((n : Nat) : Int) 0 mo mi va asi n F0 F1 F2 F3 F4 ∧ okL n F1 ∧ fs n F1 F2 F3 F4 va asi = n)
noncomputable def askS (v : Env DC) : Bool := yes (∃ mo mi va asi n F0 F1 F2 F3 F4, v = e 0 ((n : Nat) : Int) 0 mo mi va asi n F0 F1 F2 F3 F4 ∧ okL n F1 ∧ fs n F1 F2 F3 F4 va asi < n)
def z0 : Nat → Int := fun _ => 0
def kof (v : Env DC) : Nat := fs (v.n.getD 0 0) (v.f.getD 1 z0) (v.f.getD 2 z0) (v.f.getD 3 z0) (v.f.getD 4 z0) (v.i.getD 5 0) (v.i.getD 6 0)
def resN (v : Env DC) : Env DC := { v with i := [v.i.getD 0 0, v.i.getD 1 0, ((v.n.getD 0 0 : Nat) : Int), v.i.getD 3 0, v.i.getD 4 0, v.i.getD 5 0, v.i.getD 6 0] }
def resS (v : Env DC) : Env DC := { v with i := [((kof v : Nat) : Int), v.i.getD 1 0, ((kof v : Nat) : Int), v.i.getD 3 0, v.i.getD 4 0, v.i.getD 5 0, v.i.getD 6 0] }
section
variable {mo mi va asi : Int} {n k : Nat} {F0 F1 F2 F3 F4 : Nat → Int}
abbrev Sf (mo mi va asi : Int) (n : Nat) (F0 F1 F2 F3 F4 : Nat → Int) (j : Nat) : St DC := tI.fill (e 0 ((n : Nat) : Int) (j : Int) mo mi va asi n F0 F1 F2 F3 F4)
theorem one (hl : okL n F1) (hk : k < fs n F1 F2 F3 F4 va asi) {I : Nat → Prop} {m : Nat → Nat} {Out : Ex DC → St DC → Prop} (hI : I (k + 1)) (hm : m (k + 1) < m k) : RoundOk (Sf mo mi va asi n F0 F1 F2 F3 F4) I m 5 Out k (rd (Sf mo mi va asi n F0 F1 F2 F3 F4 k)) := by
  have hkn : k < n := Nat.lt_of_lt_of_le hk (fst_le _ _)
  have hr := route_at (rn 0 ((n : Nat) : Int) (k : Int) mo mi va asi n F0 F1 F2 F3 F4) (show [_, _, _] = [true, true, false] by rw [lss_nat, decide_eq_true hkn, bT_t hkn hl, Int.toNat_natCast, fst_no _ _ _ hk])
  rw [step_i (by have := hl.1; omega)] at hr
  exact view_next hr rfl hI hm
theorem blkN (hw : Within Try.prog 85 (.block 0 (.loop (loopAt Try.prog 85 0)))) (s : St DC) (r : Ex DC × List (W DC)) (hr : (loopSumG (D := DC) tI tI 5 (List.range 5) askN resN .normal s).pick = some r) (w0 : World) (own : List Nat) (ρ : List Rb) (a : Act) (w : World) (H : SR w0 own ρ s a w) :
    (Go.Code.block 0 (.loop (loopAt Try.prog 85 0))).wp Try.prog (CodePost w0 own ρ s r) a w := by
  refine loopSumG_ok (n := 200) (x1 := .exit 0) (G := Nat) (S := fun v k => tI.fill { v with i := [v.i.getD 0 0, v.i.getD 1 0, (k : Int), v.i.getD 3 0, v.i.getD 4 0, v.i.getD 5 0, v.i.getD 6 0] }) (I := fun v k => ∃ mo mi va asi n F0 F1 F2 F3 F4, v = e 0 ((n : Nat) : Int) 0 mo mi va asi n F0 F1 F2 F3 F4 ∧ okL n F1 ∧ fs n F1 F2 F3 F4 va asi = n ∧ k ≤ n) (m := fun v k => v.n.getD 0 0 - k) (g0 := fun _ => 0) cxl_ok (.inl ⟨rfl, rfl⟩) (fun v hv => ?_) (fun v g _ => Nat.le_refl 5) (fun v k hv hI => ?_) hw s r hr w0 own ρ a w H
  · obtain ⟨mo, mi, va, asi, n, F0, F1, F2, F3, F4, rfl, h1, h2⟩ := of_yes hv
    exact ⟨⟨mo, mi, va, asi, n, F0, F1, F2, F3, F4, rfl, h1, h2, Nat.zero_le _⟩, rfl⟩
  · obtain ⟨mo, mi, va, asi, n, F0, F1, F2, F3, F4, rfl, h1, h2, hk⟩ := hI
    by_cases hkn : k = n
    · subst hkn
      exact view_out (S := Sf mo mi va asi k F0 F1 F2 F3 F4) (g := k) (route_at (rx 0 ((k : Nat) : Int) (k : Int) mo mi va asi k F0 F1 F2 F3 F4) (show [_] = [false] by rw [lss_nat, decide_eq_false (Nat.lt_irrefl _)])) (by simp) (by simp) rfl
    · have hlt : k < n := by omega
      exact one (mo := mo) (mi := mi) (va := va) (asi := asi) (F0 := F0) h1 (by rw [h2]; exact hlt) ⟨mo, mi, va, asi, n, F0, F1, F2, F3, F4, rfl, h1, h2, hlt⟩ (by show n - (k + 1) < n - k; omega)
theorem blkS (hw : Within Try.prog 85 (.block 0 (.loop (loopAt Try.prog 85 0)))) (s : St DC) (r : Ex DC × List (W DC)) (hr : (loopSumG (D := DC) tI tI 5 (List.range 5) askS resS .ret s).pick = some r) (w0 : World) (own : List Nat) (ρ : List Rb) (a : Act) (w : World) (H : SR w0 own ρ s a w) :
    (Go.Code.block 0 (.loop (loopAt Try.prog 85 0))).wp Try.prog (CodePost w0 own ρ s r) a w := by
  refine loopSumG_ok (n := 200) (x1 := .ret) (G := Nat) (S := fun v k => tI.fill { v with i := [v.i.getD 0 0, v.i.getD 1 0, (k : Int), v.i.getD 3 0, v.i.getD 4 0, v.i.getD 5 0, v.i.getD 6 0] }) (I := fun v k => ∃ mo mi va asi n F0 F1 F2 F3 F4, v = e 0 ((n : Nat) : Int) 0 mo mi va asi n F0 F1 F2 F3 F4 ∧ okL n F1 ∧ fs n F1 F2 F3 F4 va asi < n ∧ k ≤ fs n F1 F2 F3 F4 va asi) (m := fun v k => v.n.getD 0 0 - k) (g0 := fun _ => 0) cxl_ok (.inr ⟨rfl, by simp, by simp, by simp⟩) (fun v hv => ?_) (fun v g _ => Nat.le_refl 5) (fun v k hv hI => ?_) hw s r hr w0 own ρ a w H
  · obtain ⟨mo, mi, va, asi, n, F0, F1, F2, F3, F4, rfl, h1, h2⟩ := of_yes hv
    exact ⟨⟨mo, mi, va, asi, n, F0, F1, F2, F3, F4, rfl, h1, h2, Nat.zero_le _⟩, rfl⟩
  · obtain ⟨mo, mi, va, asi, n, F0, F1, F2, F3, F4, rfl, h1, h2, hk⟩ := hI
    by_cases hkn : k = fs n F1 F2 F3 F4 va asi
    · have hlt : k < n := by rw [hkn]; exact h2
      have hc : cov F1 F2 F3 F4 va asi k = true := by rw [hkn]; exact fst_lt _ _ h2
      refine view_out (S := Sf mo mi va asi n F0 F1 F2 F3 F4) (g := k) (route_at (rf 0 ((n : Nat) : Int) (k : Int) mo mi va asi n F0 F1 F2 F3 F4) (show [_, _, _] = [true, true, true] by rw [lss_nat, decide_eq_true hlt, bT_t hlt h1, Int.toNat_natCast, hc])) (by simp) (by simp) ?_
      rw [hkn]
      rfl
    · have hlt : k < fs n F1 F2 F3 F4 va asi := by omega
      exact one (mo := mo) (mi := mi) (F0 := F0) h1 hlt ⟨mo, mi, va, asi, n, F0, F1, F2, F3, F4, rfl, h1, h2, hlt⟩ (by show n - (k + 1) < n - k; have := fst_le n (cov F1 F2 F3 F4 va asi); omega)
end
noncomputable def cxN : Cx DC := cxl.block 85 0 (loopSumG tI tI 5 (List.range 5) askN resN .normal)
theorem cxN_ok : Ok Try.prog cxN := cxl_ok.block (by kernel_rfl) blkN
noncomputable def cxS : Cx DC := cxl.block 85 0 (loopSumG tI tI 5 (List.range 5) askS resS .ret)
theorem cxS_ok : Ok Try.prog cxS := cxl_ok.block (by kernel_rfl) blkS

/-! ### Find -/
def tb (mo mi : Int) (n : Nat) (F0 F1 F2 F3 F4 : Nat → Int) : List (AO DC) := [.cells 149 [.int .i64 (.sym mo), lst 1 n, .int .u64 (.sym mi)], .arr 151 n (c5 F0 F1 F2 F3 F4)]
def see2 (h : List (AO DC)) (t : T DC (Ex DC × List (W DC))) (ds : List Bool) : Option (List Bool × Ex DC × List (AO DC)) := (t.route ds).map fun p => (p.1, p.2.1, (({ slots := [], heap := h } : St DC).apps p.2.2).heap.take 2)
section
variable (mo mi va asi : Int) (n : Nat) (F0 F1 F2 F3 F4 : Nat → Int)
noncomputable abbrev aN : Bool := askN (e 0 ((n : Nat) : Int) 0 mo mi va asi n F0 F1 F2 F3 F4)
noncomputable abbrev aS : Bool := askS (e 0 ((n : Nat) : Int) 0 mo mi va asi n F0 F1 F2 F3 F4)
set_option maxRecDepth 100000 in
theorem fN : see2 (tb mo mi n F0 F1 F2 F3 F4) (call Try.prog cxN 200 27 [.ptr 0 (.lit 0), .int .u64 (.sym va), .int .u64 (.sym asi)] (tb mo mi n F0 F1 F2 F3 F4)) [true] = some ([aN mo mi va asi n F0 F1 F2 F3 F4], .val (.tuple [.agg [.int .u64 (.lit 0), .int .i64 (.lit 0), .bool (.lit false)], .bool (.lit false)]), tb mo mi n F0 F1 F2 F3 F4) := by kernel_rfl
def bK (k n : Nat) : Bool := (decide (0 ≤ ((k : Nat) : Int) ∧ ((k : Nat) : Int) < ((n : Nat) : Int))) && (decide ((Int.toNat ((k : Nat) : Int)) < n))
set_option maxRecDepth 100000 in
theorem fS : see2 (tb mo mi n F0 F1 F2 F3 F4) (call Try.prog cxS 200 27 [.ptr 0 (.lit 0), .int .u64 (.sym va), .int .u64 (.sym asi)] (tb mo mi n F0 F1 F2 F3 F4)) [true, false, true] = some ([aS mo mi va asi n F0 F1 F2 F3 F4, litCmp .lss ((fs n F1 F2 F3 F4 va asi : Nat) : Int) 0, bK (fs n F1 F2 F3 F4 va asi) n], .val (.tuple [.agg [.int .u64 (.sym (F0 (Int.toNat ((fs n F1 F2 F3 F4 va asi : Nat) : Int)))), .int .i64 (.sym (F1 (Int.toNat ((fs n F1 F2 F3 F4 va asi : Nat) : Int)))), .bool (.sym (litCmp .neq (F2 (Int.toNat ((fs n F1 F2 F3 F4 va asi : Nat) : Int))) 0))], .bool (.lit true)]), tb mo mi n F0 F1 F2 F3 F4) := by kernel_rfl
end
theorem take2 {h : List (AO DC)} {a b : AO DC} (e : h.take 2 = [a, b]) : h[0]? = some a ∧ h[1]? = some b := by
  match h, e with
  | x :: y :: r, e =>
    simp only [List.take_succ_cons, List.take_zero, List.cons.injEq, and_true] at e
    exact ⟨by simp [e.1], by simp [e.2]⟩
  | [x], e => simp at e
  | [], e => simp at e
/-- What looks at leaves that are kept, and turns none. -/
theorem memT {X : Cx DC} (hX : Ok Try.prog X) {n : Nat} {f : FuncId} {t c : Nat} {mo mi : AI DC} {N : Nat} {F0 F1 F2 F3 F4 : Nat → Int} {h : List (AO DC)} {v v' : AV DC} {rest rest' : List (AV DC)} {ds cs : List Bool}
    (hr : see2 (tb mo.den mi.den N F0 F1 F2 F3 F4) (call Try.prog X n f (.ptr 0 (.lit 0) :: rest') (tb mo.den mi.den N F0 F1 F2 F3 F4)) ds = some (cs, .val v', tb mo.den mi.den N F0 F1 F2 F3 F4)) (hcs : cs = ds)
    (hb : h[t]? = some (.cells 149 [.int .i64 mo, lst c N, .int .u64 mi])) (hc : h[c]? = some (.arr 151 N (c5 F0 F1 F2 F3 F4)))
    (hrest : covL (at' [t, c]) rest rest') (hv : t ≠ c → covV (idx [t, c]) v' v) : FnOk Try.prog f (.ptr t (.lit 0) :: rest) h (v, []) := by
  subst hcs
  have hbc : t ≠ c := fun e => by subst e; rw [hb] at hc; cases hc
  have hbeq : Nat.beq t c = false := by
    cases hh : Nat.beq t c
    · rfl
    · exact absurd (Nat.eq_of_beq_eq_true hh) hbc
  unfold see2 at hr
  obtain ⟨⟨cs', z⟩, h1, h2⟩ := Option.map_eq_some_iff.1 hr
  simp only [Prod.mk.injEq] at h2
  obtain ⟨rfl, h3, h4⟩ := h2
  have hp := route_pick _ _ _ h1
  obtain ⟨z1, z2⟩ := z
  simp only at h3 h4 hp
  subst h3
  obtain ⟨q0, q1⟩ := take2 h4
  have i0 : idx [t, c] t = some 0 := by simp [idx]
  have i1 : idx [t, c] c = some 1 := by simp [idx, hbeq]
  refine frame_old [t, c] (fn_ok hX (r := (v', z2)) hp) ⟨⟨rfl, rfl⟩, hrest⟩ ⟨?_, ?_, trivial⟩ ?_ (by simp [hbc]) (fun j i o hj ho => ?_) rfl (fun i hi => rfl) (fun j i o hj ho => ?_) (hv hbc)
  · rw [hb]
    exact ⟨rfl, ⟨rfl, rfl⟩, ⟨rfl, rfl, rfl, rfl⟩, ⟨rfl, rfl⟩, trivial⟩
  · rw [hc]
    exact ⟨rfl, rfl, ⟨rfl, fun _ _ => rfl, rfl, fun _ _ => rfl, rfl, fun _ _ => rfl, rfl, fun _ _ => rfl, rfl, fun _ _ => rfl, trivial⟩⟩
  · simp [tb, injB, notIn, AO.live, AO.mine, hbeq]
  · match j, hj with
    | 0, hj => cases hj; rw [hb] at ho; cases ho; rfl
    | 1, hj => cases hj; rw [hc] at ho; cases ho; rfl
    | _ + 2, hj => cases hj
  · match j, hj with
    | 0, hj =>
      cases hj
      have ho' : h[t]? = some o := ho
      rw [hb] at ho'
      cases ho'
      exact ⟨_, q0, rfl, ⟨rfl, rfl⟩, ⟨i1, rfl, rfl, rfl⟩, ⟨rfl, rfl⟩, trivial⟩
    | 1, hj =>
      cases hj
      have ho' : h[c]? = some o := ho
      rw [hc] at ho'
      cases ho'
      exact ⟨_, q1, rfl, rfl, ⟨rfl, fun _ _ => rfl, rfl, fun _ _ => rfl, rfl, fun _ _ => rfl, rfl, fun _ _ => rfl, rfl, fun _ _ => rfl, trivial⟩⟩
    | _ + 2, hj => cases hj
def fOk (n : Nat) (F1 F2 F3 F4 : Nat → Int) (va asi : Int) : Bool := decide (fs n F1 F2 F3 F4 va asi < n)
def fX (F : Nat → Int) (n : Nat) (F1 F2 F3 F4 : Nat → Int) (va asi : Int) : Int := cond (fOk n F1 F2 F3 F4 va asi) (F (fs n F1 F2 F3 F4 va asi)) 0
def fG (n : Nat) (F1 F2 F3 F4 : Nat → Int) (va asi : Int) : Bool := cond (fOk n F1 F2 F3 F4 va asi) (litCmp .neq (F2 (fs n F1 F2 F3 F4 va asi)) 0) false
noncomputable def fndQ (n N : Nat) (F1 : Nat → Int) : Bool := yes (n = N ∧ okL n F1)
noncomputable def gFind (args : List (AV DC)) (h : List (AO DC)) : Option (T DC (AV DC × List (W DC))) := match args with
  | [.ptr t (.lit 0), .int .u64 va, .int .u64 asi] => match h[t]? with
    | some (.cells 149 [.int .i64 mo, .slice c (.lit 0) (.rc n 1 0) (.un 5), .int .u64 mi]) => match h[c]? with
      | some (.arr 151 N [(.int .u64, F0), (.int .i64, F1), (.bool, F2), (.int .u64, F3), (.int .u64, F4)]) => some (.br (fndQ n N F1) (.ret (.tuple [.agg [.int .u64 (.sym (fX F0 n F1 F2 F3 F4 va.den asi.den)), .int .i64 (.sym (fX F1 n F1 F2 F3 F4 va.den asi.den)), .bool (.sym (fG n F1 F2 F3 F4 va.den asi.den))], .bool (.sym (fOk n F1 F2 F3 F4 va.den asi.den))], [])) .fail)
      | _ => none
    | _ => none
  | _ => none
theorem gFind_ok {args : List (AV DC)} {h : List (AO DC)} {t : T DC (AV DC × List (W DC))} {r : AV DC × List (W DC)} (ht : gFind args h = some t) (hp : t.pick = some r) : FnOk Try.prog 27 args h r := by
  unfold gFind at ht
  split at ht
  · rename_i tp va asi
    split at ht
    · rename_i mo c n mi hb
      split at ht
      · rename_i N F0 F1 F2 F3 F4 hc
        cases ht
        rcases T.br_some hp with ⟨h1, h2⟩ | ⟨_, h2⟩
        · have := T.ret_some h2
          subst this
          obtain ⟨e1, hl⟩ := of_yes h1
          subst e1
          have hle := fst_le n (cov F1 F2 F3 F4 va.den asi.den)
          by_cases hk : fs n F1 F2 F3 F4 va.den asi.den < n
          · have ef : fOk n F1 F2 F3 F4 va.den asi.den = true := decide_eq_true hk
            have ea : aS mo.den mi.den va.den asi.den n F0 F1 F2 F3 F4 = true := yes_of ⟨_, _, _, _, _, _, _, _, _, _, rfl, hl, hk⟩
            have eb : bK (fs n F1 F2 F3 F4 va.den asi.den) n = true := by
              unfold bK
              rw [Int.toNat_natCast, decide_eq_true (by omega), decide_eq_true hk]
              rfl
            have ec : litCmp .lss ((fs n F1 F2 F3 F4 va.den asi.den : Nat) : Int) 0 = false := by
              rw [lss_eq]
              exact decide_eq_false (by omega)
            refine memT cxS_ok (fS mo.den mi.den va.den asi.den n F0 F1 F2 F3 F4) (by rw [ea, eb, ec]) hb hc ⟨⟨rfl, rfl⟩, ⟨rfl, rfl⟩, trivial⟩ (fun hbc => ?_)
            rw [Int.toNat_natCast]
            unfold fX fG
            rw [ef]
            exact ⟨⟨⟨rfl, rfl⟩, ⟨rfl, rfl⟩, rfl, trivial⟩, rfl, trivial⟩
          · have ef : fOk n F1 F2 F3 F4 va.den asi.den = false := decide_eq_false hk
            have ea : aN mo.den mi.den va.den asi.den n F0 F1 F2 F3 F4 = true := yes_of ⟨_, _, _, _, _, _, _, _, _, _, rfl, hl, Nat.le_antisymm hle (Nat.le_of_not_lt hk)⟩
            refine memT cxN_ok (fN mo.den mi.den va.den asi.den n F0 F1 F2 F3 F4) (by rw [ea]) hb hc ⟨⟨rfl, rfl⟩, ⟨rfl, rfl⟩, trivial⟩ (fun hbc => ?_)
            unfold fX fG
            rw [ef]
            exact ⟨⟨⟨rfl, rfl⟩, ⟨rfl, rfl⟩, rfl, trivial⟩, rfl, trivial⟩
        · cases h2
      · cases ht
    · cases ht
  · cases ht
noncomputable def cxf : Cx DC := cxl.sum 27 gFind
theorem cxf_ok : Ok Try.prog cxf := cxl_ok.sum (by kernel_rfl) fun args h t r ht hp => gFind_ok ht hp

def up (F : Nat → Int) (n : Nat) (v : Int) : Nat → Int := fun i => if i = n then v else F i
def sN : Nat := 1 - (Int.toNat 0)
def sJ : Int := cond (litCmp .gtr 0 (litBin .sub .i64 (((sN + 1 : Nat) : Nat) : Int) 1)) 0 (litBin .sub .i64 (((sN + 1 : Nat) : Nat) : Int) 1)
def sM : Nat := (sN + 1) - (Int.toNat sJ)
def ux (a b : Int) : Nat → Int := shf (up (k1 a) sN b) (Int.toNat sJ)
noncomputable def shT : Bool := (delQ 1 1 0) && ((((decide (sN ≤ sN)) && (decide (sN < 1000000))) && (delQ (sN + 1) (sN + 1) sJ)) && ((fndQ sM sM (ux 0 0)) && (fndQ sM sM (ux 0 0))))
def shV : Bool := cond (litCmp .eql ((sM : Nat) : Int) 1) (cond (!(fOk sM (ux 0 0) (ux (bI false) 0) (ux 4096 8192) (ux 0 0) 4096 0)) (fOk sM (ux 0 0) (ux (bI false) 0) (ux 4096 8192) (ux 0 0) 8200 0) false) false
set_option maxRecDepth 100000 in
theorem sh_road : ((call Try.prog cxf 200 23 [] []).route [true]).map (fun p => (p.1, p.2.1)) = some ([shT], .val (.bool (.sym shV))) := by kernel_rfl
theorem shV_true : shV = true := by decide +kernel
theorem shT_true : shT = true := by
  unfold shT
  have h1 : sN = 1 := rfl
  have h2 : sJ = 1 := by decide +kernel
  have h3 : sM = 1 := by decide +kernel
  have h4 : okL sM (ux 0 0) := ⟨by rw [h3]; omega, fun i hi => by
    rw [h3] at hi
    have : i = 0 := by omega
    subst this
    decide +kernel⟩
  rw [show delQ 1 1 0 = true from yes_of ⟨rfl, by omega, by omega, by omega⟩, show delQ (sN + 1) (sN + 1) sJ = true from yes_of ⟨rfl, by rw [h2]; omega, by rw [h1, h2]; omega, by rw [h1]; omega⟩, show fndQ sM sM (ux 0 0) = true from yes_of ⟨rfl, h4⟩]
  rfl
def gShown (args : List (AV DC)) (h : List (AO DC)) : Option (T DC (AV DC × List (W DC))) := match args with
  | [] => some (.ret (.bool (.lit true), []))
  | _ => none
theorem fn_val {P : Program} {f : FuncId} {args : List (AV DC)} {h : List (AO DC)} {v v' : AV DC} {l : List (W DC)} (hf : FnOk P f args h (v, l)) (hv : ∀ ρ u, VRel ρ v u → VRel ρ v' u) : FnOk P f args h (v', l) := by
  intro w0 own ρ w vals H hvs
  refine (hf w0 own ρ w vals H hvs).mono fun e w' hp => ?_
  obtain ⟨u, v1, ρ', e1, e2, e3, e4, e5⟩ := hp
  cases e1
  exact ⟨u, v', ρ', rfl, e2, e3, hv _ _ e4, e5⟩
theorem gShown_ok {args : List (AV DC)} {h : List (AO DC)} {t : T DC (AV DC × List (W DC))} {r : AV DC × List (W DC)} (ht : gShown args h = some t) (hp : t.pick = some r) : FnOk Try.prog 23 args h r := by
  unfold gShown at ht
  split at ht
  · cases ht
    have := T.ret_some hp
    subst this
    obtain ⟨l, hl⟩ := road_at sh_road (show [_] = [true] by rw [shT_true])
    refine fn_val (pure_ok cxf_ok hl rfl rfl) fun ρ u hu => ?_
    have hu' : u = .bool shV := hu
    rw [hu', shV_true]
    rfl
  · cases ht
noncomputable def cxt : Cx DC := cxf.sum 23 gShown
theorem cxt_ok : Ok Try.prog cxt := cxf_ok.sum (by kernel_rfl) fun args h t r ht hp => gShown_ok ht hp

/-! ### What is left -/
def cnt (p : Nat → Bool) : Nat → Nat
  | 0 => 0
  | j + 1 => if p j then cnt p j else cnt p j + 1
def cm (p : Nat → Bool) (g : Int → Int) (F : Nat → Int) : Nat → (Nat → Int)
  | 0 => F
  | j + 1 => if p j then cm p g F j else if cnt p j < j then up (cm p g F j) (cnt p j) (g (cm p g F j j)) else cm p g F j
def nb (x : Int) : Int := cond (litCmp .neq x 0) 1 0
def nid (x : Int) : Int := x
theorem cnt_le (p : Nat → Bool) : ∀ j, cnt p j ≤ j
  | 0 => Nat.le_refl 0
  | j + 1 => by
    have := cnt_le p j
    unfold cnt
    split <;> omega
theorem cm_hi (p : Nat → Bool) (g : Int → Int) (F : Nat → Int) : ∀ j i, j ≤ i → cm p g F j i = F i
  | 0, _, _ => rfl
  | j + 1, i, h => by
    have ih := cm_hi p g F j i (by omega)
    have hc := cnt_le p j
    unfold cm
    split
    · exact ih
    · split
      · unfold up
        rw [if_neg (by omega)]
        exact ih
      · exact ih
theorem no_del {p : Nat → Bool} (g : Int → Int) (F : Nat → Int) : ∀ j, (∀ i, i < j → p i = false) → cnt p j = j ∧ cm p g F j = F
  | 0, _ => ⟨rfl, rfl⟩
  | j + 1, h => by
    obtain ⟨h1, h2⟩ := no_del g F j fun i hi => h i (by omega)
    have hj := h j (by omega)
    constructor
    · unfold cnt
      rw [hj, h1]
      rfl
    · unfold cm
      rw [hj, h1, if_neg (by simp), if_neg (Nat.lt_irrefl _)]
      exact h2
theorem cnt_lt {p : Nat → Bool} {k : Nat} (hk : p k = true) : ∀ j, k < j → cnt p j < j
  | 0, h => absurd h (Nat.not_lt_zero _)
  | j + 1, h => by
    unfold cnt
    have := cnt_le p j
    by_cases hkj : k = j
    · subst hkj
      rw [if_pos hk]
      omega
    · have := cnt_lt hk j (by omega)
      split <;> omega

/-! ### The loops -/
def hF : List TO := [.cells 149 [.int .i64, .slice 1 0 (.un 5), .int .u64], .arr 151 [.int .u64, .int .i64, .bool, .int .u64, .int .u64], .cells 4 [.bool], .cells 23 [.int .u64], .cells 4 [.bool], .cells 23 [.int .u64]]
def tJ : Tmpl := { slots := [.slice 1 0 (.un 5), .clo 111 [2, 3, 4, 5]] ++ sk 2 ++ [.int .i64] ++ sk 2 ++ [.int .i64, .int .i64] ++ sk 10, heap := hF }
def tD : Tmpl := { slots := [.slice 1 0 (.un 5), .clo 111 [2, 3, 4, 5]] ++ sk 3 ++ [.int .i64, .int .i64] ++ sk 35, heap := hF }
def eJ (R L I mo mi va asi : Int) (al ev : Bool) (n : Nat) (F0 F1 F2 F3 F4 : Nat → Int) : Env DC := ⟨[R, L, I, mo, mi, va, asi], [al, ev], [n, n, n], [F0, F1, F2, F3, F4]⟩
def eD (I J mo mi va asi : Int) (al ev : Bool) (n : Nat) (F0 F1 F2 F3 F4 : Nat → Int) : Env DC := ⟨[I, J, mo, mi, va, asi], [al, ev], [n, n, n], [F0, F1, F2, F3, F4]⟩
noncomputable def rJ (s : St DC) : T DC (Ex DC × List (W DC)) := ev Try.prog cxt 85 200 (.code (loopAt Try.prog 85 0)) s
noncomputable def rD (s : St DC) : T DC (Ex DC × List (W DC)) := ev Try.prog cxt 110 200 (.code (loopAt Try.prog 110 0)) s
def ls6 (s : St DC) : List Nat := List.range 6
def dl (al ev : Bool) (F1 F2 F3 F4 : Nat → Int) (va asi : Int) (i : Nat) : Bool := cond al (cond ev true (cond (litCmp .eql (F4 i) asi) (!(litCmp .neq (F2 i) 0)) false)) (cond (litCmp .eql (litBin .shr .u64 (litBin .xor .u64 (F3 i) va) (litBin .add .i64 12 (litBin .mul .i64 9 (F1 i)))) 0) (cond ev true (cond (litCmp .eql (F4 i) asi) (!(litCmp .neq (F2 i) 0)) false)) false)
def lvT (al : Bool) (F1 : Nat → Int) (i : Nat) : Bool := cond al true (!(litCmp .lss (litBin .add .i64 12 (litBin .mul .i64 9 (F1 i))) 0))
def inT (I : Int) (n : Nat) : Bool := (decide (0 ≤ I ∧ I < ((n : Nat) : Int))) && (decide ((Int.toNat I) < n))
def bJ (al : Bool) (I : Int) (n : Nat) (F1 : Nat → Int) : Bool := (decide (0 ≤ I ∧ I < ((n : Nat) : Int))) && ((decide ((Int.toNat I) < n)) && (lvT al F1 (Int.toNat I)))
section
variable (R L I J mo mi va asi : Int) (al ev : Bool) (n : Nat) (F0 F1 F2 F3 F4 : Nat → Int)
set_option maxRecDepth 100000 in
theorem jx : (viewT tJ 6 ls6 (tJ.fill (eJ R L I mo mi va asi al ev n F0 F1 F2 F3 F4)) (rJ (tJ.fill (eJ R L I mo mi va asi al ev n F0 F1 F2 F3 F4)))).route [false] = some ([litCmp .lss I L], (.exit 0, some (eJ R L I mo mi va asi al ev n F0 F1 F2 F3 F4))) := by kernel_rfl
set_option maxRecDepth 100000 in
theorem jn : (viewT tJ 6 ls6 (tJ.fill (eJ R L I mo mi va asi al ev n F0 F1 F2 F3 F4)) (rJ (tJ.fill (eJ R L I mo mi va asi al ev n F0 F1 F2 F3 F4)))).route [true, true, false] = some ([litCmp .lss I L, bJ al I n F1, dl al ev F1 F2 F3 F4 va asi (Int.toNat I)], (.normal, some (eJ R L (litBin .add .i64 I 1) mo mi va asi al ev n F0 F1 F2 F3 F4))) := by kernel_rfl
set_option maxRecDepth 100000 in
theorem jf : (viewT tJ 6 ls6 (tJ.fill (eJ R L I mo mi va asi al ev n F0 F1 F2 F3 F4)) (rJ (tJ.fill (eJ R L I mo mi va asi al ev n F0 F1 F2 F3 F4)))).route [true, true, true] = some ([litCmp .lss I L, bJ al I n F1, dl al ev F1 F2 F3 F4 va asi (Int.toNat I)], (.ret, some (eJ I L I mo mi va asi al ev n F0 F1 F2 F3 F4))) := by kernel_rfl
set_option maxRecDepth 100000 in
theorem dx : (viewT tD 6 ls6 (tD.fill (eD I J mo mi va asi al ev n F0 F1 F2 F3 F4)) (rD (tD.fill (eD I J mo mi va asi al ev n F0 F1 F2 F3 F4)))).route [false] = some ([litCmp .lss J ((n : Nat) : Int)], (.exit 0, some (eD I J mo mi va asi al ev n F0 F1 F2 F3 F4))) := by kernel_rfl
set_option maxRecDepth 100000 in
theorem dd : (viewT tD 6 ls6 (tD.fill (eD I J mo mi va asi al ev n F0 F1 F2 F3 F4)) (rD (tD.fill (eD I J mo mi va asi al ev n F0 F1 F2 F3 F4)))).route [true, true, true, false] = some ([litCmp .lss J ((n : Nat) : Int), inT J n, lvT al F1 (Int.toNat J), !(dl al ev F1 F2 F3 F4 va asi (Int.toNat J))], (.normal, some (eD I (litBin .add .i64 J 1) mo mi va asi al ev n F0 F1 F2 F3 F4))) := by kernel_rfl
set_option maxRecDepth 100000 in
theorem dk : (viewT tD 6 ls6 (tD.fill (eD I J mo mi va asi al ev n F0 F1 F2 F3 F4)) (rD (tD.fill (eD I J mo mi va asi al ev n F0 F1 F2 F3 F4)))).route [true, true, true, true, true] = some ([litCmp .lss J ((n : Nat) : Int), inT J n, lvT al F1 (Int.toNat J), !(dl al ev F1 F2 F3 F4 va asi (Int.toNat J)), inT I n], (.normal, some (eD (litBin .add .i64 I 1) (litBin .add .i64 J 1) mo mi va asi al ev n (up F0 (Int.toNat I) (nid (F0 (Int.toNat J)))) (up F1 (Int.toNat I) (nid (F1 (Int.toNat J)))) (up F2 (Int.toNat I) (nb (F2 (Int.toNat J)))) (up F3 (Int.toNat I) (nid (F3 (Int.toNat J)))) (up F4 (Int.toNat I) (nid (F4 (Int.toNat J))))))) := by kernel_rfl
end
theorem lvT_t {al : Bool} {n k : Nat} {F1 : Nat → Int} (hk : k < n) (hl : okL n F1) : lvT al F1 k = true := by
  unfold lvT
  rw [sh_ok (hl.2 k hk)]
  cases al <;> rfl
theorem inT_t {n k : Nat} (hk : k < n) : inT (k : Int) n = true := by
  unfold inT
  rw [Int.toNat_natCast, decide_eq_true (by omega), decide_eq_true hk]
  rfl
theorem bJ_t {al : Bool} {n k : Nat} {F1 : Nat → Int} (hk : k < n) (hl : okL n F1) : bJ al (k : Int) n F1 = true := by
  unfold bJ
  rw [Int.toNat_natCast, lvT_t hk hl, decide_eq_true (by omega), decide_eq_true hk]
  rfl
abbrev fd (al ev : Bool) (n : Nat) (F1 F2 F3 F4 : Nat → Int) (va asi : Int) : Nat := fst n (dl al ev F1 F2 F3 F4 va asi)
noncomputable def askJN (v : Env DC) : Bool := yes (∃ mo mi va asi al ev n F0 F1 F2 F3 F4, v = eJ 0 ((n : Nat) : Int) 0 mo mi va asi al ev n F0 F1 F2 F3 F4 ∧ okL n F1 ∧ fd al ev n F1 F2 F3 F4 va asi = n)
noncomputable def askJS (v : Env DC) : Bool := yes (∃ mo mi va asi al ev n F0 F1 F2 F3 F4, v = eJ 0 ((n : Nat) : Int) 0 mo mi va asi al ev n F0 F1 F2 F3 F4 ∧ okL n F1 ∧ fd al ev n F1 F2 F3 F4 va asi < n)
def kofJ (v : Env DC) : Nat := fd (v.b.getD 0 false) (v.b.getD 1 false) (v.n.getD 0 0) (v.f.getD 1 z0) (v.f.getD 2 z0) (v.f.getD 3 z0) (v.f.getD 4 z0) (v.i.getD 5 0) (v.i.getD 6 0)
def resJS (v : Env DC) : Env DC := { v with i := [((kofJ v : Nat) : Int), v.i.getD 1 0, ((kofJ v : Nat) : Int), v.i.getD 3 0, v.i.getD 4 0, v.i.getD 5 0, v.i.getD 6 0] }
section
variable {mo mi va asi : Int} {al ev : Bool} {n k : Nat} {F0 F1 F2 F3 F4 : Nat → Int}
abbrev Sj (mo mi va asi : Int) (al ev : Bool) (n : Nat) (F0 F1 F2 F3 F4 : Nat → Int) (j : Nat) : St DC := tJ.fill (eJ 0 ((n : Nat) : Int) (j : Int) mo mi va asi al ev n F0 F1 F2 F3 F4)
theorem oneJ (hl : okL n F1) (hk : k < fd al ev n F1 F2 F3 F4 va asi) {I : Nat → Prop} {m : Nat → Nat} {Out : Ex DC → St DC → Prop} (hI : I (k + 1)) (hm : m (k + 1) < m k) : RoundOk (Sj mo mi va asi al ev n F0 F1 F2 F3 F4) I m 6 Out k (rJ (Sj mo mi va asi al ev n F0 F1 F2 F3 F4 k)) := by
  have hkn : k < n := Nat.lt_of_lt_of_le hk (fst_le _ _)
  have hr := route_at (jn 0 ((n : Nat) : Int) (k : Int) mo mi va asi al ev n F0 F1 F2 F3 F4) (show [_, _, _] = [true, true, false] by rw [lss_nat, decide_eq_true hkn, bJ_t hkn hl, Int.toNat_natCast, fst_no _ _ _ hk])
  rw [step_i (by have := hl.1; omega)] at hr
  exact view_next hr rfl hI hm
theorem blkJN (hw : Within Try.prog 85 (.block 0 (.loop (loopAt Try.prog 85 0)))) (s : St DC) (r : Ex DC × List (W DC)) (hr : (loopSumG (D := DC) tJ tJ 6 (List.range 6) askJN resN .normal s).pick = some r) (w0 : World) (own : List Nat) (ρ : List Rb) (a : Act) (w : World) (H : SR w0 own ρ s a w) :
    (Go.Code.block 0 (.loop (loopAt Try.prog 85 0))).wp Try.prog (CodePost w0 own ρ s r) a w := by
  refine loopSumG_ok (n := 200) (x1 := .exit 0) (G := Nat) (S := fun v k => tJ.fill { v with i := [v.i.getD 0 0, v.i.getD 1 0, (k : Int), v.i.getD 3 0, v.i.getD 4 0, v.i.getD 5 0, v.i.getD 6 0] }) (I := fun v k => ∃ mo mi va asi al ev n F0 F1 F2 F3 F4, v = eJ 0 ((n : Nat) : Int) 0 mo mi va asi al ev n F0 F1 F2 F3 F4 ∧ okL n F1 ∧ fd al ev n F1 F2 F3 F4 va asi = n ∧ k ≤ n) (m := fun v k => v.n.getD 0 0 - k) (g0 := fun _ => 0) cxt_ok (.inl ⟨rfl, rfl⟩) (fun v hv => ?_) (fun v g _ => Nat.le_refl 6) (fun v k hv hI => ?_) hw s r hr w0 own ρ a w H
  · obtain ⟨mo, mi, va, asi, al, ev, n, F0, F1, F2, F3, F4, rfl, h1, h2⟩ := of_yes hv
    exact ⟨⟨mo, mi, va, asi, al, ev, n, F0, F1, F2, F3, F4, rfl, h1, h2, Nat.zero_le _⟩, rfl⟩
  · obtain ⟨mo, mi, va, asi, al, ev, n, F0, F1, F2, F3, F4, rfl, h1, h2, hk⟩ := hI
    by_cases hkn : k = n
    · subst hkn
      exact view_out (S := Sj mo mi va asi al ev k F0 F1 F2 F3 F4) (g := k) (route_at (jx 0 ((k : Nat) : Int) (k : Int) mo mi va asi al ev k F0 F1 F2 F3 F4) (show [_] = [false] by rw [lss_nat, decide_eq_false (Nat.lt_irrefl _)])) (by simp) (by simp) rfl
    · have hlt : k < n := by omega
      exact oneJ (mo := mo) (mi := mi) (va := va) (asi := asi) (al := al) (ev := ev) (F0 := F0) h1 (by rw [h2]; exact hlt) ⟨mo, mi, va, asi, al, ev, n, F0, F1, F2, F3, F4, rfl, h1, h2, hlt⟩ (by show n - (k + 1) < n - k; omega)
theorem blkJS (hw : Within Try.prog 85 (.block 0 (.loop (loopAt Try.prog 85 0)))) (s : St DC) (r : Ex DC × List (W DC)) (hr : (loopSumG (D := DC) tJ tJ 6 (List.range 6) askJS resJS .ret s).pick = some r) (w0 : World) (own : List Nat) (ρ : List Rb) (a : Act) (w : World) (H : SR w0 own ρ s a w) :
    (Go.Code.block 0 (.loop (loopAt Try.prog 85 0))).wp Try.prog (CodePost w0 own ρ s r) a w := by
  refine loopSumG_ok (n := 200) (x1 := .ret) (G := Nat) (S := fun v k => tJ.fill { v with i := [v.i.getD 0 0, v.i.getD 1 0, (k : Int), v.i.getD 3 0, v.i.getD 4 0, v.i.getD 5 0, v.i.getD 6 0] }) (I := fun v k => ∃ mo mi va asi al ev n F0 F1 F2 F3 F4, v = eJ 0 ((n : Nat) : Int) 0 mo mi va asi al ev n F0 F1 F2 F3 F4 ∧ okL n F1 ∧ fd al ev n F1 F2 F3 F4 va asi < n ∧ k ≤ fd al ev n F1 F2 F3 F4 va asi) (m := fun v k => v.n.getD 0 0 - k) (g0 := fun _ => 0) cxt_ok (.inr ⟨rfl, by simp, by simp, by simp⟩) (fun v hv => ?_) (fun v g _ => Nat.le_refl 6) (fun v k hv hI => ?_) hw s r hr w0 own ρ a w H
  · obtain ⟨mo, mi, va, asi, al, ev, n, F0, F1, F2, F3, F4, rfl, h1, h2⟩ := of_yes hv
    exact ⟨⟨mo, mi, va, asi, al, ev, n, F0, F1, F2, F3, F4, rfl, h1, h2, Nat.zero_le _⟩, rfl⟩
  · obtain ⟨mo, mi, va, asi, al, ev, n, F0, F1, F2, F3, F4, rfl, h1, h2, hk⟩ := hI
    by_cases hkn : k = fd al ev n F1 F2 F3 F4 va asi
    · have hlt : k < n := by rw [hkn]; exact h2
      have hc : dl al ev F1 F2 F3 F4 va asi k = true := by rw [hkn]; exact fst_lt _ _ h2
      refine view_out (S := Sj mo mi va asi al ev n F0 F1 F2 F3 F4) (g := k) (route_at (jf 0 ((n : Nat) : Int) (k : Int) mo mi va asi al ev n F0 F1 F2 F3 F4) (show [_, _, _] = [true, true, true] by rw [lss_nat, decide_eq_true hlt, bJ_t hlt h1, Int.toNat_natCast, hc])) (by simp) (by simp) ?_
      rw [hkn]
      rfl
    · have hlt : k < fd al ev n F1 F2 F3 F4 va asi := by omega
      exact oneJ (mo := mo) (mi := mi) (va := va) (asi := asi) (al := al) (ev := ev) (F0 := F0) h1 hlt ⟨mo, mi, va, asi, al, ev, n, F0, F1, F2, F3, F4, rfl, h1, h2, hlt⟩ (by show n - (k + 1) < n - k; have := fst_le n (dl al ev F1 F2 F3 F4 va asi); omega)

/-! The second loop: what is left is moved to the left. -/
abbrev pd (al ev : Bool) (F1 F2 F3 F4 : Nat → Int) (va asi : Int) : Nat → Bool := dl al ev F1 F2 F3 F4 va asi
abbrev Sd (mo mi va asi : Int) (al ev : Bool) (n : Nat) (F0 F1 F2 F3 F4 : Nat → Int) (j : Nat) : St DC := tD.fill (eD ((cnt (pd al ev F1 F2 F3 F4 va asi) j : Nat) : Int) (j : Int) mo mi va asi al ev n (cm (pd al ev F1 F2 F3 F4 va asi) nid F0 j) (cm (pd al ev F1 F2 F3 F4 va asi) nid F1 j) (cm (pd al ev F1 F2 F3 F4 va asi) nb F2 j) (cm (pd al ev F1 F2 F3 F4 va asi) nid F3 j) (cm (pd al ev F1 F2 F3 F4 va asi) nid F4 j))
noncomputable def askD (v : Env DC) : Bool := yes (∃ mo mi va asi al ev n F0 F1 F2 F3 F4, v = eD ((fd al ev n F1 F2 F3 F4 va asi : Nat) : Int) (litBin .add .i64 ((fd al ev n F1 F2 F3 F4 va asi : Nat) : Int) 1) mo mi va asi al ev n F0 F1 F2 F3 F4 ∧ okL n F1 ∧ fd al ev n F1 F2 F3 F4 va asi < n)
def pv (v : Env DC) : Nat → Bool := pd (v.b.getD 0 false) (v.b.getD 1 false) (v.f.getD 1 z0) (v.f.getD 2 z0) (v.f.getD 3 z0) (v.f.getD 4 z0) (v.i.getD 4 0) (v.i.getD 5 0)
def stD (v : Env DC) (j : Nat) : Env DC := { v with i := [((cnt (pv v) j : Nat) : Int), (j : Int), v.i.getD 2 0, v.i.getD 3 0, v.i.getD 4 0, v.i.getD 5 0], f := [cm (pv v) nid (v.f.getD 0 z0) j, cm (pv v) nid (v.f.getD 1 z0) j, cm (pv v) nb (v.f.getD 2 z0) j, cm (pv v) nid (v.f.getD 3 z0) j, cm (pv v) nid (v.f.getD 4 z0) j] }
def resD (v : Env DC) : Env DC := stD v (v.n.getD 0 0)
theorem dl_hi (p : Nat → Bool) (j : Nat) : dl al ev (cm p nid F1 j) (cm p nb F2 j) (cm p nid F3 j) (cm p nid F4 j) va asi j = dl al ev F1 F2 F3 F4 va asi j := by
  unfold dl
  rw [cm_hi p nid F1 j j (Nat.le_refl _), cm_hi p nb F2 j j (Nat.le_refl _), cm_hi p nid F3 j j (Nat.le_refl _), cm_hi p nid F4 j j (Nat.le_refl _)]
theorem blkD (hw : Within Try.prog 110 (.block 0 (.loop (loopAt Try.prog 110 0)))) (s : St DC) (r : Ex DC × List (W DC)) (hr : (loopSumG (D := DC) tD tD 6 (List.range 6) askD resD .normal s).pick = some r) (w0 : World) (own : List Nat) (ρ : List Rb) (a : Act) (w : World) (H : SR w0 own ρ s a w) :
    (Go.Code.block 0 (.loop (loopAt Try.prog 110 0))).wp Try.prog (CodePost w0 own ρ s r) a w := by
  refine loopSumG_ok (n := 200) (x1 := .exit 0) (G := Nat) (S := fun v k => tD.fill (stD v k)) (I := fun v k => ∃ mo mi va asi al ev n F0 F1 F2 F3 F4, v = eD ((fd al ev n F1 F2 F3 F4 va asi : Nat) : Int) (litBin .add .i64 ((fd al ev n F1 F2 F3 F4 va asi : Nat) : Int) 1) mo mi va asi al ev n F0 F1 F2 F3 F4 ∧ okL n F1 ∧ fd al ev n F1 F2 F3 F4 va asi < k ∧ k ≤ n) (m := fun v k => v.n.getD 0 0 - k) (g0 := fun v => Int.toNat (v.i.getD 1 0)) cxt_ok (.inl ⟨rfl, rfl⟩) (fun v hv => ?_) (fun v g _ => Nat.le_refl 6) (fun v k hv hI => ?_) hw s r hr w0 own ρ a w H
  · obtain ⟨mo, mi, va, asi, al, ev, n, F0, F1, F2, F3, F4, rfl, h1, h2⟩ := of_yes hv
    have e1 : litBin .add .i64 ((fd al ev n F1 F2 F3 F4 va asi : Nat) : Int) 1 = ((fd al ev n F1 F2 F3 F4 va asi + 1 : Nat) : Int) := step_i (by have := h1.1; omega)
    have e2 : Int.toNat (litBin .add .i64 ((fd al ev n F1 F2 F3 F4 va asi : Nat) : Int) 1) = fd al ev n F1 F2 F3 F4 va asi + 1 := by rw [e1, Int.toNat_natCast]
    have hp : pd al ev F1 F2 F3 F4 va asi (fd al ev n F1 F2 F3 F4 va asi) = true := fst_lt _ _ h2
    have hno := fst_no n (dl al ev F1 F2 F3 F4 va asi)
    have hcm : ∀ g F, cm (pd al ev F1 F2 F3 F4 va asi) g F (fd al ev n F1 F2 F3 F4 va asi + 1) = F := fun g F => by
      show (if pd al ev F1 F2 F3 F4 va asi (fd al ev n F1 F2 F3 F4 va asi) = true then _ else _) = F
      rw [if_pos hp]
      exact (no_del g F _ hno).2
    have hct : cnt (pd al ev F1 F2 F3 F4 va asi) (fd al ev n F1 F2 F3 F4 va asi + 1) = fd al ev n F1 F2 F3 F4 va asi := by
      show (if pd al ev F1 F2 F3 F4 va asi (fd al ev n F1 F2 F3 F4 va asi) = true then _ else _) = _
      rw [if_pos hp]
      exact (no_del nid F0 _ hno).1
    refine ⟨⟨mo, mi, va, asi, al, ev, n, F0, F1, F2, F3, F4, rfl, h1, ?_, ?_⟩, ?_⟩
    · show _ < Int.toNat (litBin .add .i64 _ 1)
      rw [e2]
      omega
    · show Int.toNat (litBin .add .i64 _ 1) ≤ n
      rw [e2]
      exact h2
    · show tD.fill (stD (eD _ _ mo mi va asi al ev n F0 F1 F2 F3 F4) (Int.toNat (litBin .add .i64 _ 1))) = _
      rw [e2]
      show Sd mo mi va asi al ev n F0 F1 F2 F3 F4 (fd al ev n F1 F2 F3 F4 va asi + 1) = _
      unfold Sd
      rw [hct, hcm, hcm, hcm, hcm, hcm, e1]
  · obtain ⟨mo, mi, va, asi, al, ev, n, F0, F1, F2, F3, F4, rfl, h1, h2, hk⟩ := hI
    by_cases hkn : k = n
    · subst hkn
      exact view_out (S := Sd mo mi va asi al ev k F0 F1 F2 F3 F4) (g := k) (route_at (dx _ (k : Int) mo mi va asi al ev k _ _ _ _ _) (show [_] = [false] by rw [lss_nat, decide_eq_false (Nat.lt_irrefl _)])) (by simp) (by simp) rfl
    · have hlt : k < n := by omega
      have hlk : lvT al (cm (pd al ev F1 F2 F3 F4 va asi) nid F1 k) k = true := by
        unfold lvT
        rw [cm_hi _ nid F1 k k (Nat.le_refl _)]
        exact lvT_t hlt h1
      have hI' : ∃ mo' mi' va' asi' al' ev' n' F0' F1' F2' F3' F4', eD ((fd al ev n F1 F2 F3 F4 va asi : Nat) : Int) (litBin .add .i64 ((fd al ev n F1 F2 F3 F4 va asi : Nat) : Int) 1) mo mi va asi al ev n F0 F1 F2 F3 F4 = eD ((fd al' ev' n' F1' F2' F3' F4' va' asi' : Nat) : Int) (litBin .add .i64 ((fd al' ev' n' F1' F2' F3' F4' va' asi' : Nat) : Int) 1) mo' mi' va' asi' al' ev' n' F0' F1' F2' F3' F4' ∧ okL n' F1' ∧ fd al' ev' n' F1' F2' F3' F4' va' asi' < k + 1 ∧ k + 1 ≤ n' := ⟨mo, mi, va, asi, al, ev, n, F0, F1, F2, F3, F4, rfl, h1, by omega, hlt⟩
      have hp : pd al ev F1 F2 F3 F4 va asi (fd al ev n F1 F2 F3 F4 va asi) = true := fst_lt n (dl al ev F1 F2 F3 F4 va asi) (Nat.lt_of_lt_of_le h2 hk)
      have hcl : cnt (pd al ev F1 F2 F3 F4 va asi) k < k := cnt_lt hp k h2
      have h6 := h1.1
      cases hq : dl al ev F1 F2 F3 F4 va asi k with
      | true =>
        have hr := route_at (dd ((cnt (pd al ev F1 F2 F3 F4 va asi) k : Nat) : Int) (k : Int) mo mi va asi al ev n (cm (pd al ev F1 F2 F3 F4 va asi) nid F0 k) (cm (pd al ev F1 F2 F3 F4 va asi) nid F1 k) (cm (pd al ev F1 F2 F3 F4 va asi) nb F2 k) (cm (pd al ev F1 F2 F3 F4 va asi) nid F3 k) (cm (pd al ev F1 F2 F3 F4 va asi) nid F4 k)) (show [_, _, _, _] = [true, true, true, false] by rw [lss_nat, decide_eq_true hlt, inT_t hlt, Int.toNat_natCast, hlk, dl_hi, hq]; rfl)
        rw [step_i (by omega)] at hr
        refine view_next (S := Sd mo mi va asi al ev n F0 F1 F2 F3 F4) (g := k) (g' := k + 1) hr ?_ hI' (by show n - (k + 1) < n - k; omega)
        have ec : cnt (pd al ev F1 F2 F3 F4 va asi) (k + 1) = cnt (pd al ev F1 F2 F3 F4 va asi) k := if_pos hq
        have em : ∀ g F, cm (pd al ev F1 F2 F3 F4 va asi) g F (k + 1) = cm (pd al ev F1 F2 F3 F4 va asi) g F k := fun g F => if_pos hq
        unfold Sd
        rw [ec, em, em, em, em, em]
      | false =>
        have hcn : cnt (pd al ev F1 F2 F3 F4 va asi) k < n := by omega
        have hr := route_at (dk ((cnt (pd al ev F1 F2 F3 F4 va asi) k : Nat) : Int) (k : Int) mo mi va asi al ev n (cm (pd al ev F1 F2 F3 F4 va asi) nid F0 k) (cm (pd al ev F1 F2 F3 F4 va asi) nid F1 k) (cm (pd al ev F1 F2 F3 F4 va asi) nb F2 k) (cm (pd al ev F1 F2 F3 F4 va asi) nid F3 k) (cm (pd al ev F1 F2 F3 F4 va asi) nid F4 k)) (show [_, _, _, _, _] = [true, true, true, true, true] by rw [lss_nat, decide_eq_true hlt, inT_t hlt, Int.toNat_natCast, hlk, dl_hi, hq, inT_t hcn]; rfl)
        rw [step_i (by omega), step_i (by omega), Int.toNat_natCast, Int.toNat_natCast] at hr
        refine view_next (S := Sd mo mi va asi al ev n F0 F1 F2 F3 F4) (g := k) (g' := k + 1) hr ?_ hI' (by show n - (k + 1) < n - k; omega)
        have ec : cnt (pd al ev F1 F2 F3 F4 va asi) (k + 1) = cnt (pd al ev F1 F2 F3 F4 va asi) k + 1 := if_neg (by show ¬ dl al ev F1 F2 F3 F4 va asi k = true; rw [hq]; simp)
        have em : ∀ g F, cm (pd al ev F1 F2 F3 F4 va asi) g F (k + 1) = up (cm (pd al ev F1 F2 F3 F4 va asi) g F k) (cnt (pd al ev F1 F2 F3 F4 va asi) k) (g (cm (pd al ev F1 F2 F3 F4 va asi) g F k k)) := fun g F => (if_neg (by show ¬ dl al ev F1 F2 F3 F4 va asi k = true; rw [hq]; simp)).trans (if_pos hcl)
        unfold Sd
        rw [ec, em, em, em, em, em]
end
noncomputable def cxJN : Cx DC := cxt.block 85 0 (loopSumG tJ tJ 6 (List.range 6) askJN resN .normal)
theorem cxJN_ok : Ok Try.prog cxJN := cxt_ok.block (by kernel_rfl) blkJN
noncomputable def cxJS : Cx DC := (cxt.block 85 0 (loopSumG tJ tJ 6 (List.range 6) askJS resJS .ret)).block 110 0 (loopSumG tD tD 6 (List.range 6) askD resD .normal)
theorem cxJS_ok : Ok Try.prog cxJS := (cxt_ok.block (by kernel_rfl) blkJS).block (by kernel_rfl) blkD

/-! ### Flush -/
/-- What turns leaves that are kept. -/
theorem memW {X : Cx DC} (hX : Ok Try.prog X) {n : Nat} {f : FuncId} {t c : Nat} {mo mi : AI DC} {N : Nat} {F0 F1 F2 F3 F4 : Nat → Int} {h : List (AO DC)} {v v' : AV DC} {rest rest' : List (AV DC)} {ds cs : List Bool} {a0 a1 b0 b1 : AO DC}
    (hr : see2 (tb mo.den mi.den N F0 F1 F2 F3 F4) (call Try.prog X n f (.ptr 0 (.lit 0) :: rest') (tb mo.den mi.den N F0 F1 F2 F3 F4)) ds = some (cs, .val v', [a0, a1])) (hcs : cs = ds)
    (hb : h[t]? = some (.cells 149 [.int .i64 mo, lst c N, .int .u64 mi])) (hc : h[c]? = some (.arr 151 N (c5 F0 F1 F2 F3 F4)))
    (hrest : covL (at' [t, c]) rest rest') (h0 : t ≠ c → covO (idx [t, c]) a0 b0) (h1 : t ≠ c → covO (idx [t, c]) a1 b1) (hv : t ≠ c → covV (idx [t, c]) v' v) : FnOk Try.prog f (.ptr t (.lit 0) :: rest) h (v, [.obj t b0, .obj c b1]) := by
  subst hcs
  have hbc : t ≠ c := fun e => by subst e; rw [hb] at hc; cases hc
  have hbeq : Nat.beq t c = false := by
    cases hh : Nat.beq t c
    · rfl
    · exact absurd (Nat.eq_of_beq_eq_true hh) hbc
  unfold see2 at hr
  obtain ⟨⟨cs', z⟩, g1, g2⟩ := Option.map_eq_some_iff.1 hr
  simp only [Prod.mk.injEq] at g2
  obtain ⟨rfl, g3, g4⟩ := g2
  have hp := route_pick _ _ _ g1
  obtain ⟨z1, z2⟩ := z
  simp only at g3 g4 hp
  subst g3
  obtain ⟨q0, q1⟩ := take2 g4
  have htl : t < h.length := (List.getElem?_eq_some_iff.1 hb).1
  have hcl : c < h.length := (List.getElem?_eq_some_iff.1 hc).1
  refine frame_old [t, c] (fn_ok hX (r := (v', z2)) hp) ⟨⟨rfl, rfl⟩, hrest⟩ ⟨?_, ?_, trivial⟩ ?_ (by simp [hbc]) (fun j i o hj ho => ?_) ?_ (fun i hi => ?_) (fun j i o hj ho => ?_) (hv hbc)
  · rw [hb]
    exact ⟨rfl, ⟨rfl, rfl⟩, ⟨rfl, rfl, rfl, rfl⟩, ⟨rfl, rfl⟩, trivial⟩
  · rw [hc]
    exact ⟨rfl, rfl, ⟨rfl, fun _ _ => rfl, rfl, fun _ _ => rfl, rfl, fun _ _ => rfl, rfl, fun _ _ => rfl, rfl, fun _ _ => rfl, trivial⟩⟩
  · simp [tb, injB, notIn, AO.live, AO.mine, hbeq]
  · match j, hj with
    | 0, hj => cases hj; rw [hb] at ho; cases ho; rfl
    | 1, hj => cases hj; rw [hc] at ho; cases ho; rfl
    | _ + 2, hj => cases hj
  · simp [St.apps, St.app]
  · have e1 : t ≠ i := fun e => hi (by simp [e])
    have e2 : c ≠ i := fun e => hi (by simp [e])
    simp only [St.apps, St.app]
    rw [List.getElem?_set_ne e2, List.getElem?_set_ne e1]
  · match j, hj with
    | 0, hj =>
      cases hj
      simp only [St.apps, St.app] at ho
      rw [List.getElem?_set_ne (fun e => hbc e.symm), List.getElem?_set_self htl] at ho
      cases ho
      exact ⟨_, q0, h0 hbc⟩
    | 1, hj =>
      cases hj
      simp only [St.apps, St.app] at ho
      rw [List.getElem?_set_self (by simp; exact hcl)] at ho
      cases ho
      exact ⟨_, q1, h1 hbc⟩
    | _ + 2, hj => cases hj
section
variable (mo mi va asi : Int) (al ev : Bool) (n : Nat) (F0 F1 F2 F3 F4 : Nat → Int)
abbrev cn : Nat := cnt (pd al ev F1 F2 F3 F4 va asi) n
abbrev cols (g : Int → Int) (F : Nat → Int) : Nat → Int := cm (pd al ev F1 F2 F3 F4 va asi) g F n
noncomputable abbrev aJN : Bool := askJN (eJ 0 ((n : Nat) : Int) 0 mo mi va asi al ev n F0 F1 F2 F3 F4)
noncomputable abbrev aJS : Bool := askJS (eJ 0 ((n : Nat) : Int) 0 mo mi va asi al ev n F0 F1 F2 F3 F4)
noncomputable abbrev aD : Bool := askD (eD ((fd al ev n F1 F2 F3 F4 va asi : Nat) : Int) (litBin .add .i64 ((fd al ev n F1 F2 F3 F4 va asi : Nat) : Int) 1) mo mi va asi al ev n F0 F1 F2 F3 F4)
def cT (n c : Nat) : Bool := ((((decide (n ≤ n)) && ((decide (n ≤ n)) && (decide (0 ≤ ((c : Nat) : Int) ∧ ((c : Nat) : Int) < (((n + 1) : Nat) : Int))))) && (decide (((Int.toNat ((c : Nat) : Int)) + (n - (Int.toNat ((c : Nat) : Int)))) ≤ n))) && ((decide (0 ≤ ((c : Nat) : Int) ∧ ((c : Nat) : Int) < (((n + 1) : Nat) : Int))) && ((decide (0 ≤ (Int.toNat ((c : Nat) : Int)))) && (decide (0 < n)))))
set_option maxRecDepth 100000 in
theorem fJN : see2 (tb mo mi n F0 F1 F2 F3 F4) (call Try.prog cxJN 200 64 [.ptr 0 (.lit 0), .bool (.sym al), .int .u64 (.sym va), .bool (.sym ev), .int .u64 (.sym asi)] (tb mo mi n F0 F1 F2 F3 F4)) [true] = some ([aJN mo mi va asi al ev n F0 F1 F2 F3 F4], .val (.tuple []), tb mo mi n F0 F1 F2 F3 F4) := by kernel_rfl
set_option maxRecDepth 100000 in
theorem fJS : see2 (tb mo mi n F0 F1 F2 F3 F4) (call Try.prog cxJS 200 64 [.ptr 0 (.lit 0), .bool (.sym al), .int .u64 (.sym va), .bool (.sym ev), .int .u64 (.sym asi)] (tb mo mi n F0 F1 F2 F3 F4)) [true, false, true] = some ([aJS mo mi va asi al ev n F0 F1 F2 F3 F4, litCmp .eql ((fd al ev n F1 F2 F3 F4 va asi : Nat) : Int) (-1), (aD mo mi va asi al ev n F0 F1 F2 F3 F4) && (cT n (cn va asi al ev n F1 F2 F3 F4))], .val (.tuple []), [.cells 149 [.int .i64 (.sym mo), .slice 1 (.lit 0) (.rc ((Int.toNat ((cn va asi al ev n F1 F2 F3 F4 : Nat) : Int)) - 0) 1 0) (.ge 5 (n - 0 : Nat)), .int .u64 (.sym mi)], .arr 151 (Int.toNat ((cn va asi al ev n F1 F2 F3 F4 : Nat) : Int)) (c5 (cols va asi al ev n F1 F2 F3 F4 nid F0) (cols va asi al ev n F1 F2 F3 F4 nid F1) (cols va asi al ev n F1 F2 F3 F4 nb F2) (cols va asi al ev n F1 F2 F3 F4 nid F3) (cols va asi al ev n F1 F2 F3 F4 nid F4))]) := by kernel_rfl
end
theorem cT_t {n c : Nat} (h : c ≤ n) (h0 : 0 < n) : cT n c = true := by
  unfold cT
  rw [Int.toNat_natCast]
  simp only [decide_eq_true (Nat.le_refl n), decide_eq_true (show 0 ≤ ((c : Nat) : Int) ∧ ((c : Nat) : Int) < (((n + 1) : Nat) : Int) by omega), decide_eq_true (show c + (n - c) ≤ n by omega), decide_eq_true (Nat.zero_le c), decide_eq_true h0]
  rfl
noncomputable def gFlush (args : List (AV DC)) (h : List (AO DC)) : Option (T DC (AV DC × List (W DC))) := match args with
  | [.ptr t (.lit 0), .bool al, .int .u64 va, .bool ev, .int .u64 asi] => match h[t]? with
    | some (.cells 149 [.int .i64 mo, .slice c (.lit 0) (.rc n 1 0) (.un 5), .int .u64 mi]) => match h[c]? with
      | some (.arr 151 N [(.int .u64, F0), (.int .i64, F1), (.bool, F2), (.int .u64, F3), (.int .u64, F4)]) => some (.br (fndQ n N F1) (.ret (.tuple [], [.obj t (.cells 149 [.int .i64 mo, lst c (cn va.den asi.den al.den ev.den n F1 F2 F3 F4), .int .u64 mi]), .obj c (.arr 151 (cn va.den asi.den al.den ev.den n F1 F2 F3 F4 : Nat) (c5 (cols va.den asi.den al.den ev.den n F1 F2 F3 F4 nid F0) (cols va.den asi.den al.den ev.den n F1 F2 F3 F4 nid F1) (cols va.den asi.den al.den ev.den n F1 F2 F3 F4 nb F2) (cols va.den asi.den al.den ev.den n F1 F2 F3 F4 nid F3) (cols va.den asi.den al.den ev.den n F1 F2 F3 F4 nid F4)))])) .fail)
      | _ => none
    | _ => none
  | _ => none
theorem gFlush_ok {args : List (AV DC)} {h : List (AO DC)} {t : T DC (AV DC × List (W DC))} {r : AV DC × List (W DC)} (ht : gFlush args h = some t) (hp : t.pick = some r) : FnOk Try.prog 64 args h r := by
  unfold gFlush at ht
  split at ht
  · rename_i tp al va ev asi
    split at ht
    · rename_i mo c n mi hb
      split at ht
      · rename_i N F0 F1 F2 F3 F4 hc
        cases ht
        rcases T.br_some hp with ⟨h1, h2⟩ | ⟨_, h2⟩
        · have := T.ret_some h2
          subst this
          obtain ⟨e1, hl⟩ := of_yes h1
          subst e1
          have hle := fst_le n (dl al.den ev.den F1 F2 F3 F4 va.den asi.den)
          have i0 : tp ≠ c → idx [tp, c] c = some 1 := fun hbc => by
            have hbeq : Nat.beq tp c = false := by
              cases hh : Nat.beq tp c
              · rfl
              · exact absurd (Nat.eq_of_beq_eq_true hh) hbc
            simp [idx, hbeq]
          by_cases hk : fd al.den ev.den n F1 F2 F3 F4 va.den asi.den < n
          · have ea : aJS mo.den mi.den va.den asi.den al.den ev.den n F0 F1 F2 F3 F4 = true := yes_of ⟨_, _, _, _, _, _, _, _, _, _, _, _, rfl, hl, hk⟩
            have ed : aD mo.den mi.den va.den asi.den al.den ev.den n F0 F1 F2 F3 F4 = true := yes_of ⟨_, _, _, _, _, _, _, _, _, _, _, _, rfl, hl, hk⟩
            have ec : litCmp .eql ((fd al.den ev.den n F1 F2 F3 F4 va.den asi.den : Nat) : Int) (-1) = false := by
              rw [eql_eq]
              exact decide_eq_false (by omega)
            have et := cT_t (cnt_le (pd al.den ev.den F1 F2 F3 F4 va.den asi.den) n) (by omega)
            refine memW cxJS_ok (fJS mo.den mi.den va.den asi.den al.den ev.den n F0 F1 F2 F3 F4) (by rw [ea, ec, ed, et]; rfl) hb hc ⟨rfl, ⟨rfl, rfl⟩, rfl, ⟨rfl, rfl⟩, trivial⟩ (fun hbc => ?_) (fun hbc => ?_) (fun hbc => trivial)
            · refine ⟨rfl, ⟨rfl, rfl⟩, ⟨i0 hbc, rfl, ?_, rfl⟩, ⟨rfl, rfl⟩, trivial⟩
              show (Int.toNat ((cn va.den asi.den al.den ev.den n F1 F2 F3 F4 : Nat) : Int) - 0) * 1 + 0 = (cn va.den asi.den al.den ev.den n F1 F2 F3 F4) * 1 + 0
              rw [Int.toNat_natCast, Nat.sub_zero]
            · exact ⟨rfl, Int.toNat_natCast _, ⟨rfl, fun _ _ => rfl, rfl, fun _ _ => rfl, rfl, fun _ _ => rfl, rfl, fun _ _ => rfl, rfl, fun _ _ => rfl, trivial⟩⟩
          · have hfd : fd al.den ev.den n F1 F2 F3 F4 va.den asi.den = n := Nat.le_antisymm hle (Nat.le_of_not_lt hk)
            have ea : aJN mo.den mi.den va.den asi.den al.den ev.den n F0 F1 F2 F3 F4 = true := yes_of ⟨_, _, _, _, _, _, _, _, _, _, _, _, rfl, hl, hfd⟩
            have hno : ∀ i, i < n → pd al.den ev.den F1 F2 F3 F4 va.den asi.den i = false := fun i hi => fst_no n (dl al.den ev.den F1 F2 F3 F4 va.den asi.den) i (Nat.lt_of_lt_of_le hi (Nat.le_of_eq hfd.symm))
            have ecn : cn va.den asi.den al.den ev.den n F1 F2 F3 F4 = n := (no_del nid F0 n hno).1
            have ecm : ∀ g F, cols va.den asi.den al.den ev.den n F1 F2 F3 F4 g F = F := fun g F => (no_del g F n hno).2
            rw [ecn, ecm, ecm, ecm, ecm, ecm]
            exact memW cxJN_ok (fJN mo.den mi.den va.den asi.den al.den ev.den n F0 F1 F2 F3 F4) (by rw [ea]) hb hc ⟨rfl, ⟨rfl, rfl⟩, rfl, ⟨rfl, rfl⟩, trivial⟩ (fun hbc => ⟨rfl, ⟨rfl, rfl⟩, ⟨i0 hbc, rfl, rfl, rfl⟩, ⟨rfl, rfl⟩, trivial⟩) (fun hbc => ⟨rfl, rfl, ⟨rfl, fun _ _ => rfl, rfl, fun _ _ => rfl, rfl, fun _ _ => rfl, rfl, fun _ _ => rfl, rfl, fun _ _ => rfl, trivial⟩⟩) (fun hbc => trivial)
        · cases h2
      · cases ht
    · cases ht
  · cases ht
noncomputable def cxv : Cx DC := cxt.sum 64 gFlush
theorem cxv_ok : Ok Try.prog cxv := cxt_ok.sum (by kernel_rfl) fun args h t r ht hp => gFlush_ok ht hp
end Go.Proofs.Ytngcbpcfgolifaa.Tlb
