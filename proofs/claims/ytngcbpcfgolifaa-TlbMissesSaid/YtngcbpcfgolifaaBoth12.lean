/- Memory, two times, with numbers in it, as a statement's own function makes it. Conditions: none. -/
import Derived.Test.YtngcbpcfgolifaaToSums
namespace Go.Proofs.Ytngcbpcfgolifaa.Ev
open Go.RowKit
set_option linter.unusedVariables false
set_option linter.unusedSimpArgs false

/-- Where a number stands. -/
def atE (a : Int) : Int := litBin .add .u64 2147483648 (IntKind.wrap .u64 (litBin .and .u32 a 65528))
/-- Memory behind so many numbers. -/
def memL (F A X : Nat → Int) (N : Nat) : Nat → Nat → Int
  | 0 => F
  | q + 1 => putF (memL F A X N q) N (atE (A q)) 8 (X q)
theorem memL_ok {F A X : Nat → Int} {N : Nat} (h : MemOk N F) : ∀ q, MemOk N (memL F A X N q)
  | 0 => h
  | q + 1 => (memL_ok h q).put _ _ _
def pgs (pg : Int) : Int := litBin .add .i64 1 (IntKind.wrap .i64 (litBin .and .u8 pg 15))
def szN (pg : Int) : Nat := Int.toNat (litBin .mul .i64 (pgs pg) 4096)
theorem pgs_in {pg : Int} (h : 0 ≤ pg ∧ pg < 256) : 1 ≤ pgs pg ∧ pgs pg ≤ 16 := by
  have : ∀ n : Fin 256, 1 ≤ pgs ((n.val : Nat) : Int) ∧ pgs ((n.val : Nat) : Int) ≤ 16 := by decide +kernel
  have h2 := this ⟨pg.toNat, by omega⟩
  have e : ((pg.toNat : Nat) : Int) = pg := by omega
  simp only [e] at h2
  exact h2
theorem szI {pg : Int} (h : 0 ≤ pg ∧ pg < 256) : litBin .mul .i64 (pgs pg) 4096 = pgs pg * 4096 := by
  obtain ⟨h1, h2⟩ := pgs_in h
  show IntKind.i64.wrap (pgs pg * 4096) = _
  rw [wrapi]
  omega
theorem szN_eq {pg : Int} (h : 0 ≤ pg ∧ pg < 256) : (szN pg : Int) = pgs pg * 4096 ∧ szN pg ≤ 65536 := by
  obtain ⟨h1, h2⟩ := pgs_in h
  unfold szN
  rw [szI h]
  omega
def pgT (pg : Int) : Bool := cond (litCmp .lss (pgs pg) 1) true (litCmp .gtr (pgs pg) 16)
def pgU (pg : Int) : Bool := decide (0 ≤ litBin .mul .i64 (pgs pg) 4096 ∧ litBin .mul .i64 (pgs pg) 4096 < ((16777216 : Nat) : Int))
theorem pgT_f {pg : Int} (h : 0 ≤ pg ∧ pg < 256) : pgT pg = false ∧ pgU pg = true := by
  obtain ⟨h1, h2⟩ := pgs_in h
  unfold pgT pgU
  rw [lss_eq, gtr_eq, szI h, decide_eq_false (by omega : ¬ pgs pg < 1), decide_eq_false (by omega : ¬ 16 < pgs pg), decide_eq_true (by omega)]
  exact ⟨rfl, rfl⟩
def tMem (T : TypeId) (b : Nat) : TO := .cells T [.slice b 0 .hole]
def seeD (k : Nat) (h : List (AO DC)) (t : T DC (Ex DC × List (W DC))) (ds : List Bool) : Option (List Bool × Ex DC × List (AO DC)) := (t.route ds).map fun p => (p.1, p.2.1, (({ slots := [], heap := h } : St DC).apps p.2.2).heap.drop k)
def twoM (b : Nat) (N : Nat) (G : Nat → Int) : List (AO DC) := [.arr 5 N [(.int .u8, G)], .cells 156 [.slice b (.lit 0) (.rc N 1 0) (.kn (.rc N 1 0))], .arr 5 N [(.int .u8, G)], .cells 63 [.slice (b + 2) (.lit 0) (.rc N 1 0) (.kn (.rc N 1 0))]]
def newL (l : List (AO DC)) : List (W DC) := l.map W.new
theorem newL_apps : ∀ (l : List (AO DC)) (s : St DC), (s.apps (newL l)).heap = s.heap ++ l
  | [], s => by simp [newL, St.apps]
  | o :: l, s => by
    have := newL_apps l (s.app (.new o))
    simp only [newL] at this
    simp only [newL, List.map_cons, St.apps]
    rw [this]
    simp [St.app]

/-- A function that reads rows alone, and makes memory two times: what it makes besides is dropped. -/
theorem twoF {P : Program} {X : Cx DC} (hX : Ok P X) {n : Nat} {f : FuncId} {b k n' : Nat} {ty ty' : TypeId} {fs : List (CK × (Nat → Int))} {h : List (AO DC)} {N : Nat} {G : Nat → Int} {args args' : List (AV DC)} {ds cs : List Bool}
    (hr : seeD k [.rows ty' n' fs] (call P X n f args' [.rows ty' n' fs]) ds = some (cs, .val (.tuple [.ptr (k + 1) (.lit 0), .ptr (k + 3) (.lit 0)]), twoM k N G)) (hcs : cs = ds)
    (hb : h[b]? = some (.rows ty n' fs)) (hargs : covL (at' [b]) args args') : FnOk P f args h (.tuple [.ptr (h.length + 1) (.lit 0), .ptr (h.length + 3) (.lit 0)], newL (twoM h.length N G)) := by
  subst hcs
  unfold seeD at hr
  obtain ⟨⟨cs', z⟩, h1, h2⟩ := Option.map_eq_some_iff.1 hr
  simp only [Prod.mk.injEq] at h2
  obtain ⟨rfl, h3, h4⟩ := h2
  have hp := route_pick _ _ _ h1
  obtain ⟨z1, z2⟩ := z
  simp only at h3 h4 hp
  subst h3
  generalize hH : (({ slots := [], heap := [.rows ty' n' fs] } : St DC).apps z2).heap = H at h4
  have g : ∀ j, H[k + j]? = (twoM k N G)[j]? := fun j => by rw [← h4, List.getElem?_drop]
  have hlen : (({ slots := [], heap := h } : St DC).apps (newL (twoM h.length N G))).heap = h ++ twoM h.length N G := newL_apps _ _
  have hup : ∀ j, j < 4 → up (List.replicate h.length none ++ [some k, some (k + 1), some (k + 2), some (k + 3)]) (h.length + j) = some (k + j) := by
    intro j hj
    unfold up
    rw [List.getElem?_append_right (by simp)]
    simp only [List.length_replicate, Nat.add_sub_cancel_left]
    match j, hj with
    | 0, _ => rfl
    | 1, _ => rfl
    | 2, _ => rfl
    | 3, _ => rfl
  have hnone : ∀ i j, (List.replicate h.length (none : Option Nat) ++ [some k, some (k + 1), some (k + 2), some (k + 3)])[i]? = some (some j) → ∃ q, q < 4 ∧ i = h.length + q ∧ j = k + q := by
    intro i j e
    by_cases hi : i < h.length
    · rw [List.getElem?_append_left (by simpa using hi), List.getElem?_replicate] at e
      split at e <;> simp at e
    · rw [List.getElem?_append_right (by simpa using hi)] at e
      simp only [List.length_replicate] at e
      obtain ⟨q, hq⟩ : ∃ q, i - h.length = q := ⟨_, rfl⟩
      rw [hq] at e
      match q, e with
      | 0, e => exact ⟨0, by omega, by omega, by simp at e; omega⟩
      | 1, e => exact ⟨1, by omega, by omega, by simp at e; omega⟩
      | 2, e => exact ⟨2, by omega, by omega, by simp at e; omega⟩
      | 3, e => exact ⟨3, by omega, by omega, by simp at e; omega⟩
      | _ + 4, e => simp at e
  have hold : ∀ i, (List.replicate h.length (none : Option Nat) ++ [some k, some (k + 1), some (k + 2), some (k + 3)])[i]? = some none → i < h.length := by
    intro i e
    by_cases hi : i < h.length
    · exact hi
    · rw [List.getElem?_append_right (by simpa using hi)] at e
      simp only [List.length_replicate] at e
      obtain ⟨q, hq⟩ : ∃ q, i - h.length = q := ⟨_, rfl⟩
      rw [hq] at e
      match q, e with
      | 0, e => simp at e
      | 1, e => simp at e
      | 2, e => simp at e
      | 3, e => simp at e
      | _ + 4, e => simp at e
  have hnew : ∀ q, q < 4 → (h ++ twoM h.length N G)[h.length + q]? = (twoM h.length N G)[q]? := fun q hq => by
    rw [List.getElem?_append_right (by omega), Nat.add_sub_cancel_left]
  refine frame [b] (List.replicate h.length none ++ [some k, some (k + 1), some (k + 2), some (k + 3)]) (fn_ok hX (r := (_, z2)) hp) hargs ⟨?_, trivial⟩ ?_ ?_ ?_
  · rw [hb]
    exact ⟨trivial, rfl, covC_refl _ _⟩
  · rfl
  · rw [hlen, hH]
    refine ⟨by simp [twoM], by simp, fun i e => ?_, fun i j hi e => ?_, fun i o hi e hreal => ?_, fun i j o e ho hreal => ?_, fun i i' j o o' e e' ho ho' hm hr => ?_⟩
    · have hi := hold i e
      refine ⟨hi, List.getElem?_append_left hi, fun j hj o ho => ?_⟩
      match j, hj with
      | 0, hj =>
        cases hj
        rw [hb] at ho
        cases ho
        rfl
      | _ + 1, hj => cases hj
    · obtain ⟨q, h5, h6, h7⟩ := hnone i j e
      omega
    · rw [List.getElem?_append_right hi] at e
      obtain ⟨q, hq⟩ : ∃ q, i - h.length = q := ⟨_, rfl⟩
      rw [hq] at e
      match q, e with
      | 0, e => cases e; rfl
      | 1, e => cases e; rfl
      | 2, e => cases e; rfl
      | 3, e => cases e; rfl
      | _ + 4, e => simp [twoM] at e
    · obtain ⟨q, h5, h6, h7⟩ := hnone i j e
      subst h6 h7
      rw [hnew q h5] at ho
      refine ⟨(twoM k N G)[q]'(by simpa [twoM] using h5), by rw [g q]; exact List.getElem?_eq_getElem _, ?_⟩
      match q, h5, ho with
      | 0, _, ho => cases ho; exact ⟨rfl, rfl, covC_refl _ _⟩
      | 1, _, ho => cases ho; exact ⟨rfl, ⟨hup 0 (by omega), rfl, rfl, rfl⟩, trivial⟩
      | 2, _, ho => cases ho; exact ⟨rfl, rfl, covC_refl _ _⟩
      | 3, _, ho => cases ho; exact ⟨rfl, ⟨hup 2 (by omega), rfl, rfl, rfl⟩, trivial⟩
    · obtain ⟨q, h5, h6, h7⟩ := hnone i j e
      obtain ⟨q', h5', h6', h7'⟩ := hnone i' j e'
      omega
  · exact ⟨⟨hup 1 (by omega), rfl⟩, ⟨hup 3 (by omega), rfl⟩, trivial⟩

namespace Both61
def sl (i : TV) : List TV := [.skip, .ptr 1 0, .skip, .skip, .skip, .ptr 3 0, .skip, .ptr 5 0, .skip, i] ++ List.replicate 60 .skip
def hp : List TO := [.rows 0 [.int .u32, .int .u64], .cells 96 [.int .u8, .slice 0 0 .any], .arr 5 [.int .u8], tMem 156 2, .arr 5 [.int .u8], tMem 63 4]
def tm : Tmpl := { slots := sl (.int .i64), heap := hp }
def tm' : Tmpl := { slots := sl .skip, heap := hp }
def g0 (i : Int) (n' : Nat) : Bool := cond (litCmp .lss i ((n' : Nat) : Int)) (litCmp .lss i 64) false
def b0 (i : Int) (n' : Nat) : Bool := decide (0 ≤ i ∧ i < ((n' : Nat) : Int))
def b1 (i : Int) (n : Nat) : Bool := decide ((Int.toNat i) < n)
noncomputable def g1 (i pg : Int) (n n' N L C N2 L2 C2 : Nat) (A X F G : Nat → Int) : Bool := ((b0 i n') && (b1 i n)) && (((b0 i n') && ((b1 i n) && (askM L C N F (atE (A (Int.toNat i))) 8 && yes (inU (X (Int.toNat i)))))) && ((b0 i n') && ((b1 i n) && (askM L2 C2 N2 G (atE (A (Int.toNat i))) 8 && yes (inU (X (Int.toNat i)))))))
set_option maxRecDepth 100000 in
theorem goes (i pg : Int) (n n' N L C N2 L2 C2 : Nat) (A X F G : Nat → Int) : (viewT tm 6 (fun _ => [0, 1, 2, 3, 4, 5]) (tm.fill ⟨[i, pg], [], [n, n', N, L, C, N2, L2, C2], [A, X, F, G]⟩) (ev Try.prog cxt 61 400 (.code (loopAt Try.prog 61 0)) (tm.fill ⟨[i, pg], [], [n, n', N, L, C, N2, L2, C2], [A, X, F, G]⟩))).route [true, true] =
    some ([g0 i n', g1 i pg n n' N L C N2 L2 C2 A X F G], (.normal, some ⟨[litBin .add .i64 i 1, pg], [], [n, n', N, L, C, N2, L2, C2], [A, X, putF F N (atE (A (Int.toNat i))) 8 (X (Int.toNat i)), putF G N2 (atE (A (Int.toNat i))) 8 (X (Int.toNat i))]⟩)) := by kernel_rfl
set_option maxRecDepth 100000 in
theorem ends (i pg : Int) (n n' N L C N2 L2 C2 : Nat) (A X F G : Nat → Int) : (viewT tm 6 (fun _ => [0, 1, 2, 3, 4, 5]) (tm.fill ⟨[i, pg], [], [n, n', N, L, C, N2, L2, C2], [A, X, F, G]⟩) (ev Try.prog cxt 61 400 (.code (loopAt Try.prog 61 0)) (tm.fill ⟨[i, pg], [], [n, n', N, L, C, N2, L2, C2], [A, X, F, G]⟩))).route [false] =
    some ([g0 i n'], (.exit 0, some ⟨[i, pg], [], [n, n', N, L, C, N2, L2, C2], [A, X, F, G]⟩)) := by kernel_rfl
def I (e0 e : Env DC) : Prop := ∃ (pg : Int) (n N q : Nat) (A X F : Nat → Int), e0 = ⟨[0, pg], [], [n, n, N, N, N, N, N, N], [A, X, F, F]⟩ ∧ e = ⟨[(q : Int), pg], [], [n, n, N, N, N, N, N, N], [A, X, memL F A X N q, memL F A X N q]⟩ ∧ MemOk N F ∧ (∀ j, j < n → inU (X j)) ∧ q ≤ n ∧ q ≤ 64
def Fn (e0 e : Env DC) : Prop := ∃ (pg : Int) (n N q : Nat) (A X F : Nat → Int), e0 = ⟨[0, pg], [], [n, n, N, N, N, N, N, N], [A, X, F, F]⟩ ∧ e = ⟨[(q : Int), pg], [], [n, n, N, N, N, N, N, N], [A, X, memL F A X N (min n 64), memL F A X N (min n 64)]⟩
def res (e : Env DC) : Env DC := ⟨[e.i.getD 1 0], [], e.n, [e.f.getD 0 (fun _ => 0), e.f.getD 1 (fun _ => 0), memL (e.f.getD 2 (fun _ => 0)) (e.f.getD 0 (fun _ => 0)) (e.f.getD 1 (fun _ => 0)) (e.n.getD 2 0) (min (e.n.getD 0 0) 64), memL (e.f.getD 2 (fun _ => 0)) (e.f.getD 0 (fun _ => 0)) (e.f.getD 1 (fun _ => 0)) (e.n.getD 2 0) (min (e.n.getD 0 0) 64)]⟩
noncomputable def ask (e : Env DC) : Bool := yes (I e e)
noncomputable def X : Cx DC := cxt.block 61 0 (loopSumF (D := DC) tm tm' 6 [0, 1, 2, 3, 4, 5] ask res)
theorem round (e0 e : Env DC) (h : I e0 e) : RoundT (I e0) (fun e => (65 - (e.i.getD 0 0)).toNat) (Fn e0) 0 e (viewT tm 6 (fun _ => [0, 1, 2, 3, 4, 5]) (tm.fill e) (ev Try.prog cxt 61 400 (.code (loopAt Try.prog 61 0)) (tm.fill e))) := by
  obtain ⟨pg, n, N, q, A, X, F, rfl, rfl, hm, hX, hq, hq2⟩ := h
  by_cases hlt : q < n ∧ q < 64
  · have hadd : litBin .add .i64 (q : Int) 1 = ((q + 1 : Nat) : Int) := by rw [addi]; omega
    have h0 : g0 (q : Int) n = true := by
      unfold g0
      rw [lss_eq, lss_eq, decide_eq_true (by omega), decide_eq_true (by omega)]
      rfl
    have e0 : b0 (q : Int) n = true := decide_eq_true (by omega)
    have e1 : b1 (q : Int) n = true := decide_eq_true (by omega)
    refine ⟨_, _, route_at (goes (q : Int) pg n n N N N N N N A X (memL F A X N q) (memL F A X N q)) ?_, .inl ⟨rfl, _, rfl, ⟨pg, n, N, q + 1, A, X, F, rfl, ?_, hm, hX, by omega, by omega⟩, ?_⟩⟩
    · have hx : yes (inU (X (Int.toNat (q : Int)))) = true := yes_of (hX q (by omega))
      unfold g1
      rw [h0, e0, e1, askM_of (memL_ok (A := A) (X := X) hm q) (show inU (atE (A (Int.toNat (q : Int)))) from inU.add _ _) inI8, hx]
      rfl
    · rw [hadd]
      rfl
    · simp only [List.getD_cons_succ, List.getD_cons_zero]
      rw [hadd]
      omega
  · refine ⟨_, _, route_at (ends (q : Int) pg n n N N N N N N A X (memL F A X N q) (memL F A X N q)) ?_, .inr ⟨rfl, _, rfl, pg, n, N, q, A, X, F, rfl, ?_⟩⟩
    · unfold g0
      rw [lss_eq, lss_eq]
      by_cases h1 : q < n
      · rw [decide_eq_true (by omega), decide_eq_false (by omega : ¬ (q : Int) < 64)]
        rfl
      · rw [decide_eq_false (by omega)]
        rfl
    · rw [show min n 64 = q by omega]
theorem X_ok : Ok Try.prog X := by
  refine cxt_ok.block (by kernel_rfl) fun hw s r hr => loopSumF_ok (I := I) (m := fun _ e => (65 - (e.i.getD 0 0)).toNat) (Fin := Fn) cxt_ok (fun e he => of_yes he) round ?_ hw s r hr
  rintro e0 e1 ⟨pg, n, N, q, A, X, F, rfl, rfl⟩
  kernel_rfl
set_option maxRecDepth 100000 in
theorem both (pg : Int) (n n' : Nat) (A Y : Nat → Int) : seeD 2 [.rows 0 n [(.int .u32, A), (.int .u64, Y)]] (call Try.prog X 400 61 [.agg [.int .u8 (.sym pg), .slice 0 (.lit 0) (.rc n' 1 0) .any]] [.rows 0 n [(.int .u32, A), (.int .u64, Y)]]) [true] =
    some ([(!(pgT pg)) && (pgU pg && ((!(pgT pg)) && (pgU pg && ask ⟨[0, pg], [], [n, n', szN pg, szN pg, szN pg, szN pg, szN pg, szN pg], [A, Y, fun _ => 0, fun _ => 0]⟩)))], .val (.tuple [.ptr 3 (.lit 0), .ptr 5 (.lit 0)]), twoM 2 (szN pg) (memL (fun _ => 0) A Y (szN pg) (min n 64))) := by kernel_rfl
end Both61
/-- What 'both' makes, of pages and numbers. -/
def memB (pg : Int) (A X : Nat → Int) (n : Nat) : Nat → Int := memL (fun _ => 0) A X (szN pg) (min n 64)
theorem memB_ok {pg : Int} {A X : Nat → Int} {n : Nat} (h : 0 ≤ pg ∧ pg < 256) : MemOk (szN pg) (memB pg A X n) := memL_ok (MemOk.zero (szN_eq h).2) _
noncomputable def askB (pg : Int) (n n' : Nat) (X : Nat → Int) : Bool := yes (n' = n ∧ (0 ≤ pg ∧ pg < 256) ∧ ∀ j, j < n → inU (X j))
noncomputable def gBoth (args : List (AV DC)) (h : List (AO DC)) : Option (T DC (AV DC × List (W DC))) := match args with
  | [.agg [.int .u8 pg, .slice b (.lit 0) (.rc n' 1 0) .any]] => match h[b]? with
    | some (.rows _ n [(.int .u32, A), (.int .u64, X)]) => some (.br (askB pg.den n n' X) (.ret (.tuple [.ptr (h.length + 1) (.lit 0), .ptr (h.length + 3) (.lit 0)], newL (twoM h.length (szN pg.den) (memB pg.den A X n)))) .fail)
    | _ => none
  | _ => none
noncomputable def cxb61 : Cx DC := cxt.sum 61 gBoth
theorem cxb61_ok : Ok Try.prog cxb61 := cxt_ok.sum (by kernel_rfl) fun args h t r ht hp => by
  unfold gBoth at ht
  split at ht
  · rename_i pg b n'
    split at ht
    · rename_i ty n A X hb
      cases ht
      obtain ⟨h1, h2⟩ := T.ask hp
      have := T.ret_some h2
      subst this
      obtain ⟨e, hpg, hX⟩ := of_yes h1
      subst e
      have ha : Both61.ask ⟨[0, pg.den], [], [n', n', szN pg.den, szN pg.den, szN pg.den, szN pg.den, szN pg.den, szN pg.den], [A, X, fun _ => 0, fun _ => 0]⟩ = true :=
        yes_of ⟨pg.den, n', szN pg.den, 0, A, X, fun _ => 0, rfl, rfl, MemOk.zero (szN_eq hpg).2, hX, by omega, by omega⟩
      exact twoF Both61.X_ok (Both61.both pg.den n' n' A X) (by rw [(pgT_f hpg).1, (pgT_f hpg).2, ha]; rfl) hb ⟨⟨⟨rfl, rfl⟩, ⟨rfl, rfl, rfl, trivial⟩, trivial⟩, trivial⟩
    · cases ht
  · cases ht
end Go.Proofs.Ytngcbpcfgolifaa.Ev
