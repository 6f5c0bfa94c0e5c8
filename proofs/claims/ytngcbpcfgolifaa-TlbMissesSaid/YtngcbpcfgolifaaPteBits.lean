/- What the code and the reference tell of entries: the terms, and that they are the same. Conditions: none. -/
import Derived.Test.YtngcbpcfgolifaaMemGet
namespace Go.Proofs.Ytngcbpcfgolifaa.Ev
open Go.RowKit
set_option linter.unusedVariables false
set_option linter.unusedSimpArgs false

def kno (lv : Int) : Bool := cond (litCmp .geq lv 0) (litCmp .leq lv 2) false
theorem kno_cases {lv : Int} (h : kno lv = true) : lv = 0 ∨ lv = 1 ∨ lv = 2 := by
  unfold kno at h
  rw [geq_eq, leq_eq] at h
  by_cases h0 : 0 ≤ lv
  · rw [decide_eq_true h0, cond_true] at h
    have := of_decide_eq_true h
    omega
  · rw [decide_eq_false h0] at h
    cases h
def canS (va : Int) : Bool := (cond (litCmp .eql (litBin .shr .i64 (IntKind.wrap .i64 va) 38) 0) true (litCmp .eql (litBin .shr .i64 (IntKind.wrap .i64 va) 38) (-1)))
def canR (va : Int) : Bool := (cond (litCmp .eql (litBin .shr .u64 va 38) 0) true (litCmp .eql (litBin .shr .u64 va 38) 67108863))
def vpnS (va lv : Int) : Int := (cond (!(kno lv)) 0 (litBin .and .u64 (litBin .shr .u64 va (litBin .add .i64 12 (litBin .mul .i64 9 lv))) 511))
def vpnR (va lv : Int) : Int := (cond (!(kno lv)) 0 (litBin .rem .u64 (litBin .shr .u64 va (litBin .add .i64 12 (litBin .mul .i64 9 lv))) 512))
def vpnG (lv : Int) : Bool := (cond (!(kno lv)) true (!(litCmp .lss (litBin .add .i64 12 (litBin .mul .i64 9 lv)) 0)))
def leafS (e : Int) : Bool := (cond (cond (litCmp .neq (litBin .and .u64 e 1) 0) (cond (litCmp .neq (litBin .and .u64 e 6) 4) (litCmp .eql (litBin .shr .u64 e 54) 0) false) false) (litCmp .neq (litBin .and .u64 e 10) 0) false)
def leafR (e : Int) : Bool := (cond (cond (litCmp .eql (litBin .and .u64 (litBin .shr .u64 e 0) 1) 1) (cond (!(litCmp .eql (litBin .and .u64 (litBin .shr .u64 e 2) 1) 1)) (litCmp .eql (litBin .shr .u64 e 54) 0) (cond (litCmp .eql (litBin .and .u64 (litBin .shr .u64 e 1) 1) 1) (litCmp .eql (litBin .shr .u64 e 54) 0) false)) false) (cond (litCmp .eql (litBin .and .u64 (litBin .shr .u64 e 1) 1) 1) true (litCmp .eql (litBin .and .u64 (litBin .shr .u64 e 3) 1) 1)) false)
def tabS (e : Int) : Bool := (cond (cond (litCmp .neq (litBin .and .u64 e 1) 0) (cond (litCmp .neq (litBin .and .u64 e 6) 4) (litCmp .eql (litBin .shr .u64 e 54) 0) false) false) (litCmp .eql (litBin .and .u64 e 222) 0) false)
def tabR (e : Int) : Bool := (cond (cond (litCmp .eql (litBin .and .u64 (litBin .shr .u64 e 0) 1) 1) (cond (!(litCmp .eql (litBin .and .u64 (litBin .shr .u64 e 2) 1) 1)) (litCmp .eql (litBin .shr .u64 e 54) 0) (cond (litCmp .eql (litBin .and .u64 (litBin .shr .u64 e 1) 1) 1) (litCmp .eql (litBin .shr .u64 e 54) 0) false)) false) (cond (!(litCmp .eql (litBin .and .u64 (litBin .shr .u64 e 1) 1) 1)) (cond (!(litCmp .eql (litBin .and .u64 (litBin .shr .u64 e 2) 1) 1)) (cond (!(litCmp .eql (litBin .and .u64 (litBin .shr .u64 e 3) 1) 1)) (cond (!(litCmp .eql (litBin .and .u64 (litBin .shr .u64 e 4) 1) 1)) (cond (!(litCmp .eql (litBin .and .u64 (litBin .shr .u64 e 6) 1) 1)) (!(litCmp .eql (litBin .and .u64 (litBin .shr .u64 e 7) 1) 1)) false) false) false) false) false) false)
def pagS (e : Int) : Int := (litBin .and .u64 (litBin .shr .u64 e 10) 17592186044415)
def pagR (e : Int) : Int := (litBin .rem .u64 (litBin .shr .u64 e 10) 17592186044416)
def aliS (e lv : Int) : Bool := (cond (kno lv) (litCmp .eql (litBin .and .u64 (pagS e) (litBin .sub .u64 (litBin .shl .u64 1 (litBin .mul .i64 9 lv)) 1)) 0) false)
def aliG (lv : Int) : Bool := (cond (kno lv) (!(litCmp .lss (litBin .mul .i64 9 lv) 0)) true)
def aliR (e lv : Int) : Bool := (cond (kno lv) (litCmp .eql (litBin .rem .u64 (pagR e) (litBin .shl .u64 1 (litBin .mul .i64 9 lv))) 0) false)
def aliH (lv : Int) : Bool := (cond (kno lv) ((!(litCmp .lss (litBin .mul .i64 9 lv) 0)) && (!(litCmp .eql (litBin .shl .u64 1 (litBin .mul .i64 9 lv)) 0))) true)
def atS (e va lv : Int) : Int := (cond (!(kno lv)) (litBin .shl .u64 (pagS e) 12) (litBin .or .u64 (litBin .andNot .u64 (litBin .shl .u64 (pagS e) 12) (litBin .sub .u64 (litBin .shl .u64 1 (litBin .add .i64 12 (litBin .mul .i64 9 lv))) 1)) (litBin .and .u64 va (litBin .sub .u64 (litBin .shl .u64 1 (litBin .add .i64 12 (litBin .mul .i64 9 lv))) 1))))
def atR (e va lv : Int) : Int := (cond (!(kno lv)) (litBin .mul .u64 (pagR e) 4096) (litBin .add .u64 (litBin .mul .u64 (litBin .quo .u64 (litBin .mul .u64 (pagR e) 4096) (litBin .shl .u64 4096 (litBin .mul .i64 9 lv))) (litBin .shl .u64 4096 (litBin .mul .i64 9 lv))) (litBin .rem .u64 va (litBin .shl .u64 4096 (litBin .mul .i64 9 lv)))))
def atH (lv : Int) : Bool := (cond (!(kno lv)) true ((!(litCmp .lss (litBin .mul .i64 9 lv) 0)) && ((!(litCmp .eql (litBin .shl .u64 4096 (litBin .mul .i64 9 lv)) 0)) && (!(litCmp .eql (litBin .shl .u64 4096 (litBin .mul .i64 9 lv)) 0)))))
def cauS (k a b c : Int) : Int := (cond (litCmp .eql k 0) a (cond (litCmp .eql k 2) b c))
def cauR (k a b c : Int) : Int := (cond (litCmp .eql k 2) b (cond (litCmp .eql k 0) a c))
theorem cau_eq (k a b c : Int) : cauR k a b c = cauS k a b c := by
  unfold cauS cauR
  rw [eql_eq, eql_eq]
  by_cases h : k = 0
  · subst h; rfl
  · rw [decide_eq_false h]; rfl

def mayS (e k pr st : Int) : Bool := (cond (leafS e) (cond (cond (litCmp .eql pr 0) (cond (litCmp .eql (litBin .and .u64 e 16) 16) true (cond (litCmp .eql pr 1) (cond (!(litCmp .eql (litBin .and .u64 e 16) 16)) true (cond (litCmp .neq (litBin .and .u64 st 262144) 0) (litCmp .neq k 0) false)) false)) (cond (litCmp .eql pr 1) (cond (!(litCmp .eql (litBin .and .u64 e 16) 16)) true (cond (litCmp .neq (litBin .and .u64 st 262144) 0) (litCmp .neq k 0) false)) false)) (cond (cond (litCmp .eql k 0) (litCmp .eql (litBin .and .u64 e 8) 8) (cond (litCmp .eql k 1) (cond (litCmp .eql (litBin .and .u64 e 2) 2) true (cond (litCmp .neq (litBin .and .u64 st 524288) 0) (litCmp .eql (litBin .and .u64 e 8) 8) false)) (cond (litCmp .eql k 2) (litCmp .eql (litBin .and .u64 e 132) 132) false))) (litCmp .eql (litBin .and .u64 e 64) 64) false) false) false)

def mayR (e k pr st : Int) : Bool := (cond (cond (!(cond (cond (litCmp .eql (litBin .and .u64 (litBin .shr .u64 e 0) 1) 1) (cond (!(litCmp .eql (litBin .and .u64 (litBin .shr .u64 e 2) 1) 1)) (litCmp .eql (litBin .shr .u64 e 54) 0) (cond (litCmp .eql (litBin .and .u64 (litBin .shr .u64 e 1) 1) 1) (litCmp .eql (litBin .shr .u64 e 54) 0) false)) false) (cond (litCmp .eql (litBin .and .u64 (litBin .shr .u64 e 1) 1) 1) true (litCmp .eql (litBin .and .u64 (litBin .shr .u64 e 3) 1) 1)) false)) true (!(litCmp .eql (litBin .and .u64 (litBin .shr .u64 e 6) 1) 1))) false (cond (litCmp .eql pr 0) (cond (cond (litCmp .eql k 0) (litCmp .eql (litBin .and .u64 (litBin .shr .u64 e 3) 1) 1) (cond (litCmp .eql k 1) (cond (litCmp .eql (litBin .and .u64 (litBin .shr .u64 e 1) 1) 1) true (cond (litCmp .eql (litBin .and .u64 (litBin .shr .u64 st 19) 1) 1) (litCmp .eql (litBin .and .u64 (litBin .shr .u64 e 3) 1) 1) false)) (cond (litCmp .eql k 2) (cond (litCmp .eql (litBin .and .u64 (litBin .shr .u64 e 2) 1) 1) (litCmp .eql (litBin .and .u64 (litBin .shr .u64 e 7) 1) 1) false) false))) (litCmp .eql (litBin .and .u64 (litBin .shr .u64 e 4) 1) 1) false) (cond (cond (litCmp .eql k 0) (litCmp .eql (litBin .and .u64 (litBin .shr .u64 e 3) 1) 1) (cond (litCmp .eql k 1) (cond (litCmp .eql (litBin .and .u64 (litBin .shr .u64 e 1) 1) 1) true (cond (litCmp .eql (litBin .and .u64 (litBin .shr .u64 st 19) 1) 1) (litCmp .eql (litBin .and .u64 (litBin .shr .u64 e 3) 1) 1) false)) (cond (litCmp .eql k 2) (cond (litCmp .eql (litBin .and .u64 (litBin .shr .u64 e 2) 1) 1) (litCmp .eql (litBin .and .u64 (litBin .shr .u64 e 7) 1) 1) false) false))) (cond (litCmp .eql pr 1) (cond (!(litCmp .eql (litBin .and .u64 (litBin .shr .u64 e 4) 1) 1)) true (cond (litCmp .neq k 0) (litCmp .eql (litBin .and .u64 (litBin .shr .u64 st 18) 1) 1) false)) false) false)))

theorem bitR {x : Int} (hx : inU x) (i : Nat) (hi : i ≤ 64) : litCmp .eql (litBin .and .u64 (litBin .shr .u64 x (i : Int)) 1) 1 = bit x i := by
  refine (mask_eq (hx.shr i hi) 1 1 [(0, true)] (by decide +kernel)).trans ?_
  simp only [List.all_cons, List.all_nil, Bool.and_true]
  rw [bit_shr hx i hi, Nat.add_zero]
  cases bit x i <;> rfl
theorem bitR0 {x : Int} (hx : inU x) : litCmp .eql (litBin .and .u64 (litBin .shr .u64 x 0) 1) 1 = bit x 0 := bitR hx 0 (by decide)

theorem bitR1 {x : Int} (hx : inU x) : litCmp .eql (litBin .and .u64 (litBin .shr .u64 x 1) 1) 1 = bit x 1 := bitR hx 1 (by decide)
theorem bitR2 {x : Int} (hx : inU x) : litCmp .eql (litBin .and .u64 (litBin .shr .u64 x 2) 1) 1 = bit x 2 := bitR hx 2 (by decide)
theorem bitR3 {x : Int} (hx : inU x) : litCmp .eql (litBin .and .u64 (litBin .shr .u64 x 3) 1) 1 = bit x 3 := bitR hx 3 (by decide)
theorem bitR4 {x : Int} (hx : inU x) : litCmp .eql (litBin .and .u64 (litBin .shr .u64 x 4) 1) 1 = bit x 4 := bitR hx 4 (by decide)
theorem bitR6 {x : Int} (hx : inU x) : litCmp .eql (litBin .and .u64 (litBin .shr .u64 x 6) 1) 1 = bit x 6 := bitR hx 6 (by decide)
theorem bitR7 {x : Int} (hx : inU x) : litCmp .eql (litBin .and .u64 (litBin .shr .u64 x 7) 1) 1 = bit x 7 := bitR hx 7 (by decide)
theorem bitR18 {x : Int} (hx : inU x) : litCmp .eql (litBin .and .u64 (litBin .shr .u64 x 18) 1) 1 = bit x 18 := bitR hx 18 (by decide)
theorem bitR19 {x : Int} (hx : inU x) : litCmp .eql (litBin .and .u64 (litBin .shr .u64 x 19) 1) 1 = bit x 19 := bitR hx 19 (by decide)
theorem mk1 {x : Int} (hx : inU x) : litCmp .neq (litBin .and .u64 x 1) 0 = !(([(0, false)] : List (Nat × Bool)).all fun p => bit x p.1 == p.2) := mask_neq hx 1 0 [(0, false)] (by decide +kernel)
theorem mk6 {x : Int} (hx : inU x) : litCmp .neq (litBin .and .u64 x 6) 4 = !(([(1, false), (2, true)] : List (Nat × Bool)).all fun p => bit x p.1 == p.2) := mask_neq hx 6 4 [(1, false), (2, true)] (by decide +kernel)
theorem mk10 {x : Int} (hx : inU x) : litCmp .neq (litBin .and .u64 x 10) 0 = !(([(1, false), (3, false)] : List (Nat × Bool)).all fun p => bit x p.1 == p.2) := mask_neq hx 10 0 [(1, false), (3, false)] (by decide +kernel)
theorem mk222 {x : Int} (hx : inU x) : litCmp .eql (litBin .and .u64 x 222) 0 = (([(1, false), (2, false), (3, false), (4, false), (6, false), (7, false)] : List (Nat × Bool)).all fun p => bit x p.1 == p.2) := mask_eq hx 222 0 [(1, false), (2, false), (3, false), (4, false), (6, false), (7, false)] (by decide +kernel)
theorem mk16 {x : Int} (hx : inU x) : litCmp .eql (litBin .and .u64 x 16) 16 = (([(4, true)] : List (Nat × Bool)).all fun p => bit x p.1 == p.2) := mask_eq hx 16 16 [(4, true)] (by decide +kernel)
theorem mk8 {x : Int} (hx : inU x) : litCmp .eql (litBin .and .u64 x 8) 8 = (([(3, true)] : List (Nat × Bool)).all fun p => bit x p.1 == p.2) := mask_eq hx 8 8 [(3, true)] (by decide +kernel)
theorem mk2 {x : Int} (hx : inU x) : litCmp .eql (litBin .and .u64 x 2) 2 = (([(1, true)] : List (Nat × Bool)).all fun p => bit x p.1 == p.2) := mask_eq hx 2 2 [(1, true)] (by decide +kernel)
theorem mk132 {x : Int} (hx : inU x) : litCmp .eql (litBin .and .u64 x 132) 132 = (([(2, true), (7, true)] : List (Nat × Bool)).all fun p => bit x p.1 == p.2) := mask_eq hx 132 132 [(2, true), (7, true)] (by decide +kernel)
theorem mk64 {x : Int} (hx : inU x) : litCmp .eql (litBin .and .u64 x 64) 64 = (([(6, true)] : List (Nat × Bool)).all fun p => bit x p.1 == p.2) := mask_eq hx 64 64 [(6, true)] (by decide +kernel)
theorem mk262144 {x : Int} (hx : inU x) : litCmp .neq (litBin .and .u64 x 262144) 0 = !(([(18, false)] : List (Nat × Bool)).all fun p => bit x p.1 == p.2) := mask_neq hx 262144 0 [(18, false)] (by decide +kernel)
theorem mk524288 {x : Int} (hx : inU x) : litCmp .neq (litBin .and .u64 x 524288) 0 = !(([(19, false)] : List (Nat × Bool)).all fun p => bit x p.1 == p.2) := mask_neq hx 524288 0 [(19, false)] (by decide +kernel)

theorem leaf_eq {e : Int} (he : inU e) : leafR e = leafS e := by
  unfold leafR leafS
  rw [bitR0 he, bitR1 he, bitR2 he, bitR3 he, mk1 he, mk6 he, mk10 he]
  simp only [List.all_cons, List.all_nil, Bool.and_true]
  generalize bit e 0 = b0
  generalize bit e 1 = b1
  generalize bit e 2 = b2
  generalize bit e 3 = b3
  generalize litCmp .eql (litBin .shr .u64 e 54) 0 = z
  revert b0 b1 b2 b3 z
  decide +kernel
theorem tab_eq {e : Int} (he : inU e) : tabR e = tabS e := by
  unfold tabR tabS
  rw [bitR0 he, bitR1 he, bitR2 he, bitR3 he, bitR4 he, bitR6 he, bitR7 he, mk1 he, mk6 he, mk222 he]
  simp only [List.all_cons, List.all_nil, Bool.and_true]
  generalize bit e 0 = b0
  generalize bit e 1 = b1
  generalize bit e 2 = b2
  generalize bit e 3 = b3
  generalize bit e 4 = b4
  generalize bit e 6 = b6
  generalize bit e 7 = b7
  generalize litCmp .eql (litBin .shr .u64 e 54) 0 = z
  revert b0 b1 b2 b3 b4 b6 b7 z
  decide +kernel
theorem may_eq {e k pr st : Int} (he : inU e) (hs : inU st) : mayR e k pr st = mayS e k pr st := by
  unfold mayR mayS leafS
  rw [bitR0 he, bitR1 he, bitR2 he, bitR3 he, bitR4 he, bitR6 he, bitR7 he, bitR18 hs, bitR19 hs, mk1 he, mk6 he, mk10 he, mk16 he, mk8 he, mk2 he, mk132 he, mk64 he, mk262144 hs, mk524288 hs]
  simp only [List.all_cons, List.all_nil, Bool.and_true]
  generalize bit e 0 = b0
  generalize bit e 1 = b1
  generalize bit e 2 = b2
  generalize bit e 3 = b3
  generalize bit e 4 = b4
  generalize bit e 6 = b6
  generalize bit e 7 = b7
  generalize bit st 18 = s8
  generalize bit st 19 = s9
  generalize litCmp .eql (litBin .shr .u64 e 54) 0 = z
  rw [neq_eq, eql_eq, eql_eq, eql_eq, eql_eq, eql_eq]
  by_cases h0 : k = 0
  · subst h0
    by_cases p0 : pr = 0
    · subst p0
      revert b0 b1 b2 b3 b4 b6 b7 s8 s9 z
      decide +kernel
    · rw [decide_eq_false p0]
      generalize decide (pr = 1) = p1
      revert b0 b1 b2 b3 b4 b6 b7 s8 s9 z p1
      decide +kernel
  · rw [decide_eq_false h0]
    by_cases h1 : k = 1
    · subst h1
      by_cases p0 : pr = 0
      · subst p0
        revert b0 b1 b2 b3 b4 b6 b7 s8 s9 z
        decide +kernel
      · rw [decide_eq_false p0]
        generalize decide (pr = 1) = p1
        revert b0 b1 b2 b3 b4 b6 b7 s8 s9 z p1
        decide +kernel
    · rw [decide_eq_false h1]
      generalize decide (k = 2) = k2
      by_cases p0 : pr = 0
      · subst p0
        revert b0 b1 b2 b3 b4 b6 b7 s8 s9 z k2
        decide +kernel
      · rw [decide_eq_false p0]
        generalize decide (pr = 1) = p1
        revert b0 b1 b2 b3 b4 b6 b7 s8 s9 z p1 k2
        decide +kernel

theorem shr_ediv (x : Int) (k : Nat) (hk : k ≤ 64) : litBin .shr .u64 x (k : Int) = x / 2 ^ k := by
  show Int.fdiv x (2 ^ (min ((k : Int).toNat) 64)) = _
  rw [Int.toNat_natCast, Nat.min_eq_left hk, Int.fdiv_eq_ediv_of_nonneg _ (Int.le_of_lt (Int.pow_pos (by decide)))]
theorem and_low {x : Int} (hx : inU x) (k : Nat) (hk : k ≤ 64) : litBin .and .u64 x (((2 ^ k - 1 : Nat) : Nat) : Int) = x % (2 ^ k : Nat) := by
  obtain ⟨n, rfl, hn⟩ := hx.nat
  have h64 : 2 ^ k ≤ 2 ^ 64 := Nat.pow_le_pow_right (by decide) hk
  have h65 : (2 : Nat) ^ 64 = 18446744073709551616 := by decide
  have hp : 0 < 2 ^ k := Nat.two_pow_pos k
  rw [and_nat hn (by omega), Nat.and_two_pow_sub_one_eq_mod]
  omega
theorem inU.div {x : Int} (h : inU x) (k : Nat) : inU (x / 2 ^ k) := by
  have hp : (0 : Int) < 2 ^ k := Int.pow_pos (by decide)
  refine ⟨Int.ediv_nonneg h.1 (Int.le_of_lt hp), Int.lt_of_le_of_lt (Int.ediv_le_self _ h.1) h.2⟩
theorem rem_emod {x : Int} (hx : inU x) (m : Int) : litBin .rem .u64 x m = x % m := by
  show x.tmod m = _
  rw [Int.tmod_eq_emod_of_nonneg hx.1]
theorem can_eq {va : Int} (h : inU va) : canR va = canS va := by
  unfold canR canS
  have e1 : litBin .shr .u64 va 38 = va / 274877906944 := shr_ediv va 38 (by decide)
  have e2 : litBin .shr .i64 (IntKind.wrap .i64 va) 38 = (IntKind.wrap .i64 va) / 274877906944 := by
    show Int.fdiv _ (2 ^ (min ((38 : Int).toNat) 64)) = _
    rw [Int.fdiv_eq_ediv_of_nonneg _ (by decide)]
    rfl
  rw [e1, e2, eql_eq, eql_eq, eql_eq, eql_eq, wrapi]
  unfold inU at h
  by_cases h0 : va / 274877906944 = 0
  · rw [decide_eq_true h0, (decide_eq_true (by omega) : decide (((va + 9223372036854775808) % 18446744073709551616 - 9223372036854775808) / 274877906944 = 0) = true)]; rfl
  · rw [decide_eq_false h0, (decide_eq_false (by omega) : decide (((va + 9223372036854775808) % 18446744073709551616 - 9223372036854775808) / 274877906944 = 0) = false)]
    exact decide_eq_decide.2 (by omega)
theorem pag_val {e : Int} (h : inU e) : pagS e = e / 1024 % 17592186044416 := by
  unfold pagS
  have e1 : litBin .shr .u64 e 10 = e / 1024 := shr_ediv e 10 (by decide)
  rw [e1]
  have := and_low (h.div 10) 44 (by decide)
  exact this
theorem pag_eq {e : Int} (h : inU e) : pagR e = pagS e := by
  rw [pag_val h]
  unfold pagR
  have e1 : litBin .shr .u64 e 10 = e / 1024 := shr_ediv e 10 (by decide)
  rw [e1]
  exact rem_emod (h.div 10) _
theorem pag_inU {e : Int} (h : inU e) : inU (pagS e) := by
  rw [pag_val h]
  unfold inU
  omega
theorem vpnG_t (lv : Int) : vpnG lv = true := by
  unfold vpnG
  cases h : kno lv
  · rfl
  · rcases kno_cases h with rfl | rfl | rfl <;> rfl
theorem aliG_t (lv : Int) : aliG lv = true := by
  unfold aliG
  cases h : kno lv
  · rfl
  · rcases kno_cases h with rfl | rfl | rfl <;> rfl
theorem aliH_t (lv : Int) : aliH lv = true := by
  unfold aliH
  cases h : kno lv
  · rfl
  · rcases kno_cases h with rfl | rfl | rfl <;> decide +kernel
theorem atH_t (lv : Int) : atH lv = true := by
  unfold atH
  cases h : kno lv
  · rfl
  · rcases kno_cases h with rfl | rfl | rfl <;> decide +kernel
theorem vpn_eq {va lv : Int} (h : inU va) : vpnR va lv = vpnS va lv := by
  unfold vpnR vpnS
  cases hk : kno lv
  · rfl
  · show litBin .rem .u64 _ 512 = litBin .and .u64 _ 511
    rcases kno_cases hk with rfl | rfl | rfl
    · have e1 : litBin .shr .u64 va (litBin .add .i64 12 (litBin .mul .i64 9 0)) = va / 2 ^ 12 := shr_ediv va 12 (by decide)
      rw [e1, rem_emod (h.div 12)]
      exact (and_low (h.div 12) 9 (by decide)).symm
    · have e1 : litBin .shr .u64 va (litBin .add .i64 12 (litBin .mul .i64 9 1)) = va / 2 ^ 21 := shr_ediv va 21 (by decide)
      rw [e1, rem_emod (h.div 21)]
      exact (and_low (h.div 21) 9 (by decide)).symm
    · have e1 : litBin .shr .u64 va (litBin .add .i64 12 (litBin .mul .i64 9 2)) = va / 2 ^ 30 := shr_ediv va 30 (by decide)
      rw [e1, rem_emod (h.div 30)]
      exact (and_low (h.div 30) 9 (by decide)).symm
theorem ali_eq {e lv : Int} (h : inU e) : aliR e lv = aliS e lv := by
  unfold aliR aliS
  rw [pag_eq h]
  have hp := pag_inU h
  generalize pagS e = p at *
  cases hk : kno lv
  · rfl
  · rcases kno_cases hk with rfl | rfl | rfl
    · have e1 := and_low hp 0 (by decide)
      have e2 : litBin .rem .u64 p (litBin .shl .u64 1 (litBin .mul .i64 9 0)) = p % 1 := rem_emod hp 1
      have e3 : litBin .and .u64 p (litBin .sub .u64 (litBin .shl .u64 1 (litBin .mul .i64 9 0)) 1) = p % 1 := e1
      rw [e2, e3]
    · have e1 := and_low hp 9 (by decide)
      have e2 : litBin .rem .u64 p (litBin .shl .u64 1 (litBin .mul .i64 9 1)) = p % 512 := rem_emod hp 512
      have e3 : litBin .and .u64 p (litBin .sub .u64 (litBin .shl .u64 1 (litBin .mul .i64 9 1)) 1) = p % 512 := e1
      rw [e2, e3]
    · have e1 := and_low hp 18 (by decide)
      have e2 : litBin .rem .u64 p (litBin .shl .u64 1 (litBin .mul .i64 9 2)) = p % 262144 := rem_emod hp 262144
      have e3 : litBin .and .u64 p (litBin .sub .u64 (litBin .shl .u64 1 (litBin .mul .i64 9 2)) 1) = p % 262144 := e1
      rw [e2, e3]
/-- High bits of one number and low ones of another. -/
theorem hi_lo {p va : Int} {k : Nat} (hk : 12 ≤ k) (hk2 : k ≤ 64) (hp : 0 ≤ p ∧ p < 17592186044416) (hv : inU va) : litBin .or .u64 (litBin .andNot .u64 (litBin .shl .u64 p 12) (((2 ^ k - 1 : Nat) : Nat) : Int)) (litBin .and .u64 va (((2 ^ k - 1 : Nat) : Nat) : Int)) = p * 4096 / (2 ^ k : Nat) * (2 ^ k : Nat) + va % (2 ^ k : Nat) := by
  obtain ⟨n, hn⟩ := Int.eq_ofNat_of_zero_le hp.1
  obtain ⟨v, rfl, hv2⟩ := hv.nat
  subst hn
  have h64 : 2 ^ k ≤ 2 ^ 64 := Nat.pow_le_pow_right (by decide) hk2
  have h65 : (2 : Nat) ^ 64 = 18446744073709551616 := by decide
  have hp0 : 0 < 2 ^ k := Nat.two_pow_pos k
  have e1 : litBin .shl .u64 (n : Int) 12 = ((n * 4096 : Nat) : Int) := by
    show IntKind.u64.wrap ((n : Int) * 2 ^ (min ((12 : Int).toNat) 64)) = _
    have : ((n : Int) * 2 ^ (min ((12 : Int).toNat) 64)) = ((n * 4096 : Nat) : Int) := by
      rw [Int.natCast_mul]; rfl
    rw [this, wrap_nat (by omega)]
  have hx : inU ((n * 4096 : Nat) : Int) := inU_nat (by omega)
  have hm : inU (((2 ^ k - 1 : Nat) : Nat) : Int) := inU_nat (by omega)
  have e2 : litBin .andNot .u64 ((n * 4096 : Nat) : Int) (((2 ^ k - 1 : Nat) : Nat) : Int) = (((n * 4096) / 2 ^ k * 2 ^ k : Nat) : Int) := by
    have hle : (n * 4096) / 2 ^ k * 2 ^ k ≤ n * 4096 := Nat.div_mul_le_self _ _
    refine eq_of_bits (inU.andNot _ _) (inU_nat (by omega)) fun i => ?_
    rw [bit_andNot hx hm, bit_nat, bit_nat, bit_nat, Nat.testBit_two_pow_sub_one]
    have : (n * 4096) / 2 ^ k * 2 ^ k = ((n * 4096) >>> k) <<< k := by rw [Nat.shiftLeft_eq, Nat.shiftRight_eq_div_pow]
    rw [this, Nat.testBit_shiftLeft, Nat.testBit_shiftRight]
    by_cases hi : i < k
    · simp [hi]
      intro h; omega
    · have : k + (i - k) = i := by omega
      simp [hi, this]
      intro h; omega
  rw [e1, e2, and_low hv k hk2]
  have hmod : (v : Int) % (2 ^ k : Nat) = ((v % 2 ^ k : Nat) : Int) := (Int.natCast_emod _ _).symm
  rw [hmod, or_nat (by have : (n * 4096) / 2 ^ k * 2 ^ k ≤ n * 4096 := Nat.div_mul_le_self _ _; omega) (by have := Nat.mod_lt v hp0; omega)]
  have h5 := Nat.shiftLeft_add_eq_or_of_lt (Nat.mod_lt v hp0) ((n * 4096) / 2 ^ k)
  rw [Nat.shiftLeft_eq] at h5
  rw [← h5, Int.natCast_add, Int.natCast_mul, Int.natCast_ediv, Int.natCast_mul]
  rfl
def sz (lv : Int) : Int := cond (decide (lv = 0)) 4096 (cond (decide (lv = 1)) 2097152 1073741824)
theorem at_val {e va lv : Int} (h : inU e) (hv : inU va) (hk : kno lv = true) : atS e va lv = pagS e * 4096 / sz lv * sz lv + va % sz lv := by
  have hp : 0 ≤ pagS e ∧ pagS e < 17592186044416 := by rw [pag_val h]; omega
  unfold atS
  rw [hk]
  generalize pagS e = p at *
  rcases kno_cases hk with rfl | rfl | rfl
  · exact hi_lo (k := 12) (by decide) (by decide) hp hv
  · exact hi_lo (k := 21) (by decide) (by decide) hp hv
  · exact hi_lo (k := 30) (by decide) (by decide) hp hv
theorem at_eq {e va lv : Int} (h : inU e) (hv : inU va) : atR e va lv = atS e va lv := by
  have hp : 0 ≤ pagS e ∧ pagS e < 17592186044416 := by rw [pag_val h]; omega
  cases hk : kno lv
  · unfold atR atS
    rw [pag_eq h, hk]
    show litBin .mul .u64 (pagS e) 4096 = IntKind.u64.wrap ((pagS e) * 2 ^ (min ((12 : Int).toNat) 64))
    rfl
  · rw [at_val h hv hk]
    unfold atR
    rw [pag_eq h, hk]
    generalize pagS e = p at *
    have key : ∀ m : Int, 0 < m → m ≤ 1073741824 → litBin .add .u64 (litBin .mul .u64 (litBin .quo .u64 (litBin .mul .u64 p 4096) m) m) (litBin .rem .u64 va m) = p * 4096 / m * m + va % m := by
      intro m h0 h1
      have e1 : litBin .mul .u64 p 4096 = p * 4096 := by rw [mulu]; omega
      have e2 : litBin .quo .u64 (p * 4096) m = p * 4096 / m := by
        show IntKind.u64.wrap ((p * 4096).tdiv m) = _
        rw [Int.tdiv_eq_ediv_of_nonneg (by omega), Ev.wrap64]
        have a1 : 0 ≤ p * 4096 / m := Int.ediv_nonneg (by omega) (by omega)
        have a2 : p * 4096 / m ≤ p * 4096 := Int.ediv_le_self _ (by omega)
        omega
      have a3 : p * 4096 / m * m ≤ p * 4096 := Int.ediv_mul_le _ (by omega)
      have a4 : 0 ≤ p * 4096 / m * m := Int.mul_nonneg (Int.ediv_nonneg (by omega) (by omega)) (by omega)
      have a5 := Int.emod_nonneg va (show m ≠ 0 by omega)
      have a6 := Int.emod_lt_of_pos va h0
      rw [e1, e2, rem_emod hv, mulu, add_eq]
      omega
    rcases kno_cases hk with rfl | rfl | rfl
    · exact key 4096 (by decide) (by decide)
    · exact key 2097152 (by decide) (by decide)
    · exact key 1073741824 (by decide) (by decide)
theorem at_inU {e va lv : Int} : inU (atS e va lv) := by
  unfold atS
  cases kno lv
  · exact inU.shl _ _
  · exact inU.or _ _
end Go.Proofs.Ytngcbpcfgolifaa.Ev
