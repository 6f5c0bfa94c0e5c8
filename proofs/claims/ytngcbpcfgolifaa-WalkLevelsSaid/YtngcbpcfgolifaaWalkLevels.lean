/- The statement 'WalkLevels': a table of one entry each, down to a level, leads to the page that stands there, and that to a level that is not there, or without a flag that is asked for, is a page fault. Conditions: none. -/
import Derived.Test.YtngcbpcfgolifaaLevelBits
import Derived.Test.YtngcbpcfgolifaaHead
namespace Go.Proofs.Ytngcbpcfgolifaa.WalkLevels
open Go.RowKit Go.WideShapes Go.ChangeShapes Go.ChangeAt Ev
set_option linter.unusedVariables false
set_option linter.unusedSimpArgs false

def lvE (x : Int) : Int := litBin .rem .i64 (IntKind.wrap .i64 x) 3
def prE (x : Int) : Int := litBin .rem .i64 (IntKind.wrap .i64 x) 2
def vaE (va : Int) : Int := litBin .rem .u64 va 274877906944
def atL (v lv : Int) : Int := litBin .add .u64 (litBin .mul .u64 (litBin .add .u64 524288 (IntKind.wrap .u64 (litBin .sub .i64 2 lv))) 4096) (litBin .mul .u64 8 (vpnS v lv))
def NN : Nat := Int.toNat 16384
def F0 : Nat → Int := fun _ => 0
def sat0 : Int := 9223372036855300096
theorem lv_cases {x : Int} (h : 0 ≤ x ∧ x < 256) : lvE x = 0 ∨ lvE x = 1 ∨ lvE x = 2 := by
  have : ∀ n : Fin 256, lvE ((n.val : Nat) : Int) = 0 ∨ lvE ((n.val : Nat) : Int) = 1 ∨ lvE ((n.val : Nat) : Int) = 2 := by decide +kernel
  have h2 := this ⟨x.toNat, by omega⟩
  have e : ((x.toNat : Nat) : Int) = x := by omega
  simp only [e] at h2
  exact h2
theorem NN_eq : NN = 16384 := rfl
theorem mem0 : MemOk NN F0 := MemOk.zero (by decide)
theorem va_val {va : Int} (h : inU va) : 0 ≤ vaE va ∧ vaE va < 274877906944 ∧ inU (vaE va) ∧ canS (vaE va) = true := by
  have e : vaE va = va % 274877906944 := rem_emod h _
  have h1 : 0 ≤ vaE va ∧ vaE va < 274877906944 := by rw [e]; omega
  have h2 : inU (vaE va) := by unfold inU; omega
  refine ⟨h1.1, h1.2, h2, ?_⟩
  rw [← can_eq h2]
  unfold canR
  have e1 : litBin .shr .u64 (vaE va) 38 = vaE va / 274877906944 := shr_ediv _ 38 (by decide)
  rw [e1, eql_eq, decide_eq_true (by omega)]
  rfl
theorem np0 : np sat0 = false := by decide +kernel
theorem root0 : root sat0 = 524288 := by decide +kernel
theorem atL2 (v : Int) : atL v 2 = adr 524288 v 2 := rfl
theorem atL1 (v : Int) : atL v 1 = adr 524289 v 1 := rfl
theorem atL0 (v : Int) : atL v 0 = adr 524290 v 0 := rfl
theorem ok_adr {p v lv : Int} (hp : 524288 ≤ p ∧ p ≤ 524290) (hv : inU v) : okS NN (adr p v lv) 8 = true := by
  rw [adr_val (by omega) hv]
  have h := vpn_bd (lv := lv) hv
  have hn := NN_eq
  refine decide_eq_true ?_
  omega
theorem far {p q v l m : Int} (hp : 524288 ≤ p ∧ p ≤ 524290) (hq : 524288 ≤ q ∧ q ≤ 524290) (hpq : p ≠ q) (hv : inU v) : adr p v l + 8 ≤ adr q v m ∨ adr q v m + 8 ≤ adr p v l := by
  rw [adr_val (by omega) hv, adr_val (by omega) hv]
  have h := vpn_bd (lv := l) hv
  have h' := vpn_bd (lv := m) hv
  omega
theorem t1 : inU 536871937 ∧ leafS 536871937 = false ∧ tabS 536871937 = true ∧ pagS 536871937 = 524289 := ⟨by unfold inU; omega, by decide +kernel, by decide +kernel, by decide +kernel⟩
theorem t2 : inU 536872961 ∧ leafS 536872961 = false ∧ tabS 536872961 = true ∧ pagS 536872961 = 524290 := ⟨by unfold inU; omega, by decide +kernel, by decide +kernel, by decide +kernel⟩
theorem leaf0 : leafS 0 = false := by decide +kernel

/-! ### Where a walk ends, by its entries -/
section
variable {α : Type} {M : Nat → Int} {v e pr k : Int} {a b c d e' f : α}
theorem out2A (hc : canS v = true) (hk : k2 NN 524288 v = true) (he : en2 M NN 524288 v = e) (hm : mayS e k pr 0 = true) (ha : aliS e 2 = true) : outW M NN sat0 0 pr k v a b c d e' f = d := by
  unfold outW outP
  rw [np0, root0, hc, hk, he, may_leaf hm]
  unfold bad
  rw [ha, hm]
  rfl
theorem out2C (hc : canS v = true) (hk : k2 NN 524288 v = true) (he : en2 M NN 524288 v = e) (hm : mayS e k pr 0 = false) (ht : tabS e = false) : outW M NN sat0 0 pr k v a b c d e' f = b := by
  unfold outW outP
  rw [np0, root0, hc, hk, he, ht]
  unfold bad
  rw [hm]
  cases leafS e <;> cases aliS e 2 <;> rfl
theorem out1A {x : Int} (hc : canS v = true) (hk : k2 NN 524288 v = true) (hx : en2 M NN 524288 v = x) (xl : leafS x = false) (xt : tabS x = true) (hk1 : k1 M NN 524288 v = true) (he : en1 M NN 524288 v = e) (hm : mayS e k pr 0 = true) (ha : aliS e 1 = true) :
    outW M NN sat0 0 pr k v a b c d e' f = e' := by
  unfold outW outP
  rw [np0, root0, hc, hk, hx, xl, xt, hk1, he, may_leaf hm]
  unfold bad
  rw [ha, hm]
  rfl
theorem out1C {x : Int} (hc : canS v = true) (hk : k2 NN 524288 v = true) (hx : en2 M NN 524288 v = x) (xl : leafS x = false) (xt : tabS x = true) (hk1 : k1 M NN 524288 v = true) (he : en1 M NN 524288 v = e) (hm : mayS e k pr 0 = false) (ht : tabS e = false) :
    outW M NN sat0 0 pr k v a b c d e' f = b := by
  unfold outW outP
  rw [np0, root0, hc, hk, hx, xl, xt, hk1, he, ht]
  unfold bad
  rw [hm]
  cases leafS e <;> cases aliS e 1 <;> rfl
theorem out0A {x y : Int} (hc : canS v = true) (hk : k2 NN 524288 v = true) (hx : en2 M NN 524288 v = x) (xl : leafS x = false) (xt : tabS x = true) (hk1 : k1 M NN 524288 v = true) (hy : en1 M NN 524288 v = y) (yl : leafS y = false) (yt : tabS y = true)
    (hk0 : k0 M NN 524288 v = true) (he : en0 M NN 524288 v = e) (hm : mayS e k pr 0 = true) (ha : aliS e 0 = true) : outW M NN sat0 0 pr k v a b c d e' f = f := by
  unfold outW outP
  rw [np0, root0, hc, hk, hx, xl, xt, hk1, hy, yl, yt, hk0, he, may_leaf hm]
  unfold bad
  rw [ha, hm]
  rfl
theorem out0C {x y : Int} (hc : canS v = true) (hk : k2 NN 524288 v = true) (hx : en2 M NN 524288 v = x) (xl : leafS x = false) (xt : tabS x = true) (hk1 : k1 M NN 524288 v = true) (hy : en1 M NN 524288 v = y) (yl : leafS y = false) (yt : tabS y = true)
    (hk0 : k0 M NN 524288 v = true) (he : en0 M NN 524288 v = e) (hm : mayS e k pr 0 = false) : outW M NN sat0 0 pr k v a b c d e' f = b := by
  unfold outW outP
  rw [np0, root0, hc, hk, hx, xl, xt, hk1, hy, yl, yt, hk0, he]
  unfold bad
  rw [hm]
  cases leafS e <;> cases aliS e 0 <;> rfl
theorem noleaf (h2 : leafS (en2 M NN 524288 v) = false) (h1 : leafS (en1 M NN 524288 v) = false) (h0 : leafS (en0 M NN 524288 v) = false) : isW M NN sat0 0 pr k v = true := by
  unfold isW outW outP
  rw [np0, root0, h2, h1, h0]
  cases canS v <;> cases k2 NN 524288 v <;> cases tabS (en2 M NN 524288 v) <;> cases k1 M NN 524288 v <;> cases tabS (en1 M NN 524288 v) <;> cases k0 M NN 524288 v <;> rfl
end
/-- The ends that a statement speaks of. -/
def endA (M : Nat → Int) (P K v PG lv : Int) : Bool := (cond (!(isW M NN sat0 0 P K v)) (litCmp .eql (toW M NN sat0 0 P K v) (litBin .add .u64 (litBin .mul .u64 PG 4096) (litBin .rem .u64 v (litBin .shl .u64 4096 (litBin .mul .i64 9 lv))))) false)
def endC (M : Nat → Int) (P K v : Int) : Bool := (((isW M NN sat0 0 P K v) == true) && ((litCmp .eql (cauW M NN sat0 0 P K v) (cauS K 12 15 13)) && (litCmp .eql (valW M NN sat0 0 P K v) v)))
theorem endA_of {M : Nat → Int} {P K v PG lv e : Int} (hi : isW M NN sat0 0 P K v = false) (hp : pteW M NN sat0 0 P K v = e) (hl : lvW M NN sat0 0 P K v = lv) (he : inU e) (hv : inU v) (hk : kno lv = true) (hpg : 0 ≤ PG ∧ PG < 17592186044416) (hpe : pagS e = PG) (hal : PG % (sz lv / 4096) = 0) : endA M P K v PG lv = true := by
  have hs : litBin .shl .u64 4096 (litBin .mul .i64 9 lv) = sz lv := by rcases kno_cases hk with rfl | rfl | rfl <;> rfl
  have hz : 0 < sz lv ∧ sz lv ≤ 1073741824 := by
    unfold sz
    cases decide (lv = 0) <;> cases decide (lv = 1) <;> decide
  have h0 : 0 ≤ v % sz lv := Int.emod_nonneg _ (by omega)
  have h1 : v % sz lv < sz lv := Int.emod_lt_of_pos _ hz.1
  unfold endA toW
  rw [hi, np0, hp, hl, hs, rem_emod hv, addu, mulu]
  show litCmp .eql (atS e v lv) _ = true
  rw [at_ali he hv hk (by rw [hpe]; exact hal), hpe, eql_eq]
  exact decide_eq_true (by omega)
theorem endC_of {M : Nat → Int} {P K v : Int} (hi : isW M NN sat0 0 P K v = true) (hc : cauW M NN sat0 0 P K v = cauS K 12 15 13) (hvl : valW M NN sat0 0 P K v = v) : endC M P K v = true := by
  unfold endC
  rw [hi, hc, hvl, eql_self, eql_self]
  rfl
/-! ### The three memories -/
def M2 (v e : Int) : Nat → Int := putF F0 NN (adr 524288 v 2) 8 e
def M1 (v e : Int) : Nat → Int := putF (putF F0 NN (adr 524288 v 2) 8 536871937) NN (adr 524289 v 1) 8 e
def M0 (v e : Int) : Nat → Int := putF (putF (putF F0 NN (adr 524288 v 2) 8 536871937) NN (adr 524289 v 1) 8 536872961) NN (adr 524290 v 0) 8 e
theorem k2_t {v : Int} (hv : inU v) : k2 NN 524288 v = true := by
  unfold k2
  rw [num8, ok_adr (by omega) hv]
  rfl
theorem m2_2 {v e : Int} (hv : inU v) (he : inU e) : en2 (M2 v e) NN 524288 v = e := get_same (ok_adr (by omega) hv) he
theorem m1_2 {v e : Int} (hv : inU v) (he : inU e) : en2 (M1 v e) NN 524288 v = 536871937 := (get_other (adr_inU _ _ _) (adr_inU _ _ _) (far (by omega) (by omega) (by omega) hv)).trans (get_same (ok_adr (by omega) hv) t1.1)
theorem m1_1 {v e : Int} (hv : inU v) (he : inU e) : en1 (M1 v e) NN 524288 v = e := by
  unfold en1
  rw [m1_2 hv he, t1.2.2.2]
  exact get_same (ok_adr (by omega) hv) he
theorem m1_k {v e : Int} (hv : inU v) (he : inU e) : k1 (M1 v e) NN 524288 v = true := by
  unfold k1
  rw [m1_2 hv he, t1.2.2.2, num8, ok_adr (by omega) hv]
  rfl
theorem m0_2 {v e : Int} (hv : inU v) (he : inU e) : en2 (M0 v e) NN 524288 v = 536871937 :=
  ((get_other (adr_inU _ _ _) (adr_inU _ _ _) (far (by omega) (by omega) (by omega) hv)).trans (get_other (adr_inU _ _ _) (adr_inU _ _ _) (far (by omega) (by omega) (by omega) hv))).trans (get_same (ok_adr (by omega) hv) t1.1)
theorem m0_1 {v e : Int} (hv : inU v) (he : inU e) : en1 (M0 v e) NN 524288 v = 536872961 := by
  unfold en1
  rw [m0_2 hv he, t1.2.2.2]
  exact (get_other (adr_inU _ _ _) (adr_inU _ _ _) (far (by omega) (by omega) (by omega) hv)).trans (get_same (ok_adr (by omega) hv) t2.1)
theorem m0_k1 {v e : Int} (hv : inU v) (he : inU e) : k1 (M0 v e) NN 524288 v = true := by
  unfold k1
  rw [m0_2 hv he, t1.2.2.2, num8, ok_adr (by omega) hv]
  rfl
theorem m0_0 {v e : Int} (hv : inU v) (he : inU e) : en0 (M0 v e) NN 524288 v = e := by
  unfold en0
  rw [m0_1 hv he, t2.2.2.2]
  exact get_same (ok_adr (by omega) hv) he
theorem m0_k {v e : Int} (hv : inU v) (he : inU e) : k0 (M0 v e) NN 524288 v = true := by
  unfold k0
  rw [m0_1 hv he, t2.2.2.2, num8, ok_adr (by omega) hv]
  rfl
theorem m2_any {v e : Int} (hv : inU v) (he : inU e) (y : Int) (hy : inU y) (hy8 : y % 8 = 0) : getS (M2 v e) NN y 8 = e ∨ getS (M2 v e) NN y 8 = 0 :=
  (get_cases he (adr_inU _ _ _) hy (adr_8 _ _ _) hy8).imp id fun h => h.trans (get_zero NN y)
theorem m1_any {v e : Int} (hv : inU v) (he : inU e) (y : Int) (hy : inU y) (hy8 : y % 8 = 0) : getS (M1 v e) NN y 8 = e ∨ getS (M1 v e) NN y 8 = 536871937 ∨ getS (M1 v e) NN y 8 = 0 :=
  (get_cases he (adr_inU _ _ _) hy (adr_8 _ _ _) hy8).imp id fun h => (get_cases t1.1 (adr_inU _ _ _) hy (adr_8 _ _ _) hy8).imp (fun g => h.trans g) fun g => (h.trans g).trans (get_zero NN y)
theorem noleaf2 {v e : Int} (hv : inU v) (he : inU e) {P K : Int} (hl : leafS e = false) : isW (M2 v e) NN sat0 0 P K v = true := by
  have any : ∀ y, inU y → y % 8 = 0 → leafS (getS (M2 v e) NN y 8) = false := fun y h h8 => by
    rcases m2_any hv he y h h8 with h | h <;> rw [h]
    · exact hl
    · exact leaf0
  exact noleaf (any _ (adr_inU _ _ _) (adr_8 _ _ _)) (any _ (adr_inU _ _ _) (adr_8 _ _ _)) (any _ (adr_inU _ _ _) (adr_8 _ _ _))
theorem noleaf1 {v e : Int} (hv : inU v) (he : inU e) {P K : Int} (hl : leafS e = false) : isW (M1 v e) NN sat0 0 P K v = true := by
  have any : ∀ y, inU y → y % 8 = 0 → leafS (getS (M1 v e) NN y 8) = false := fun y h h8 => by
    rcases m1_any hv he y h h8 with h | h | h <;> rw [h]
    · exact hl
    · exact t1.2.1
    · exact leaf0
  exact noleaf (any _ (adr_inU _ _ _) (adr_8 _ _ _)) (any _ (adr_inU _ _ _) (adr_8 _ _ _)) (any _ (adr_inU _ _ _) (adr_8 _ _ _))

set_option maxRecDepth 100000 in
theorem road2A (va page fl le ki pr : Int) : ((call Try.prog cxl 56 11 [.int .u64 (.sym va), .int .u64 (.sym page), .agg [.int .u8 (.sym fl), .int .u8 (.sym le), .int .u8 (.sym ki), .int .u8 (.sym pr)]] []).route [true, false, true, true, true, true, true, true]).map (fun p => (p.1, p.2.1)) = some ([(decide (0 ≤ 16384 ∧ 16384 < ((16777216 : Nat) : Int))), (litCmp .gtr 2 (lvE le)), ((!(litCmp .lss (litBin .mul .i64 9 (lvE le)) 0)) && (!(litCmp .lss (litBin .mul .i64 9 (lvE le)) 0))), (askM NN NN NN F0 (atL (vaE va) (lvE le)) 8 && yes (inU (lfS (pgS page (lvE le)) fl))), (askW NN NN NN (putF F0 NN (atL (vaE va) (lvE le)) 8 (lfS (pgS page (lvE le)) fl)) sat0 0 (vaE va)), (yes (inU (lfS (pgS page (lvE le)) fl) ∧ inU 0)), (mayS (lfS (pgS page (lvE le)) fl) (lvE ki) (prE pr) 0), ((!(litCmp .lss (litBin .mul .i64 9 (lvE le)) 0)) && (cond (!(isW (putF F0 NN (atL (vaE va) (lvE le)) 8 (lfS (pgS page (lvE le)) fl)) NN sat0 0 (prE pr) (lvE ki) (vaE va))) (!(litCmp .eql (litBin .shl .u64 4096 (litBin .mul .i64 9 (lvE le))) 0)) true))], .val (.bool (.sym (endA (putF F0 NN (atL (vaE va) (lvE le)) 8 (lfS (pgS page (lvE le)) fl)) (prE pr) (lvE ki) (vaE va) (pgS page (lvE le)) (lvE le))))) := by kernel_rfl
set_option maxRecDepth 100000 in
theorem road2B (va page fl le ki pr : Int) : ((call Try.prog cxl 56 11 [.int .u64 (.sym va), .int .u64 (.sym page), .agg [.int .u8 (.sym fl), .int .u8 (.sym le), .int .u8 (.sym ki), .int .u8 (.sym pr)]] []).route [true, false, true, true, true, true, false, true, true]).map (fun p => (p.1, p.2.1)) = some ([(decide (0 ≤ 16384 ∧ 16384 < ((16777216 : Nat) : Int))), (litCmp .gtr 2 (lvE le)), ((!(litCmp .lss (litBin .mul .i64 9 (lvE le)) 0)) && (!(litCmp .lss (litBin .mul .i64 9 (lvE le)) 0))), (askM NN NN NN F0 (atL (vaE va) (lvE le)) 8 && yes (inU (lfS (pgS page (lvE le)) fl))), (askW NN NN NN (putF F0 NN (atL (vaE va) (lvE le)) 8 (lfS (pgS page (lvE le)) fl)) sat0 0 (vaE va)), (yes (inU (lfS (pgS page (lvE le)) fl) ∧ inU 0)), (mayS (lfS (pgS page (lvE le)) fl) (lvE ki) (prE pr) 0), (yes (inU (lfS (pgS page (lvE le)) fl))), (cond (tabS (lfS (pgS page (lvE le)) fl)) (litCmp .gtr (lvE le) 0) false)], .val (.bool (.sym (isW (putF F0 NN (atL (vaE va) (lvE le)) 8 (lfS (pgS page (lvE le)) fl)) NN sat0 0 (prE pr) (lvE ki) (vaE va))))) := by kernel_rfl
set_option maxRecDepth 100000 in
theorem road2C (va page fl le ki pr : Int) : ((call Try.prog cxl 56 11 [.int .u64 (.sym va), .int .u64 (.sym page), .agg [.int .u8 (.sym fl), .int .u8 (.sym le), .int .u8 (.sym ki), .int .u8 (.sym pr)]] []).route [true, false, true, true, true, true, false, true, false]).map (fun p => (p.1, p.2.1)) = some ([(decide (0 ≤ 16384 ∧ 16384 < ((16777216 : Nat) : Int))), (litCmp .gtr 2 (lvE le)), ((!(litCmp .lss (litBin .mul .i64 9 (lvE le)) 0)) && (!(litCmp .lss (litBin .mul .i64 9 (lvE le)) 0))), (askM NN NN NN F0 (atL (vaE va) (lvE le)) 8 && yes (inU (lfS (pgS page (lvE le)) fl))), (askW NN NN NN (putF F0 NN (atL (vaE va) (lvE le)) 8 (lfS (pgS page (lvE le)) fl)) sat0 0 (vaE va)), (yes (inU (lfS (pgS page (lvE le)) fl) ∧ inU 0)), (mayS (lfS (pgS page (lvE le)) fl) (lvE ki) (prE pr) 0), (yes (inU (lfS (pgS page (lvE le)) fl))), (cond (tabS (lfS (pgS page (lvE le)) fl)) (litCmp .gtr (lvE le) 0) false)], .val (.bool (.sym (endC (putF F0 NN (atL (vaE va) (lvE le)) 8 (lfS (pgS page (lvE le)) fl)) (prE pr) (lvE ki) (vaE va))))) := by kernel_rfl
set_option maxRecDepth 100000 in
theorem road1A (va page fl le ki pr : Int) : ((call Try.prog cxl 56 11 [.int .u64 (.sym va), .int .u64 (.sym page), .agg [.int .u8 (.sym fl), .int .u8 (.sym le), .int .u8 (.sym ki), .int .u8 (.sym pr)]] []).route [true, true, true, false, true, true, true, true, true, true]).map (fun p => (p.1, p.2.1)) = some ([(decide (0 ≤ 16384 ∧ 16384 < ((16777216 : Nat) : Int))), (litCmp .gtr 2 (lvE le)), (askM NN NN NN F0 (adr 524288 (vaE va) 2) 8 && yes (inU 536871937)), (litCmp .gtr 1 (lvE le)), ((!(litCmp .lss (litBin .mul .i64 9 (lvE le)) 0)) && (!(litCmp .lss (litBin .mul .i64 9 (lvE le)) 0))), (askM NN NN NN (putF F0 NN (adr 524288 (vaE va) 2) 8 536871937) (atL (vaE va) (lvE le)) 8 && yes (inU (lfS (pgS page (lvE le)) fl))), (askW NN NN NN (putF (putF F0 NN (adr 524288 (vaE va) 2) 8 536871937) NN (atL (vaE va) (lvE le)) 8 (lfS (pgS page (lvE le)) fl)) sat0 0 (vaE va)), (yes (inU (lfS (pgS page (lvE le)) fl) ∧ inU 0)), (mayS (lfS (pgS page (lvE le)) fl) (lvE ki) (prE pr) 0), ((!(litCmp .lss (litBin .mul .i64 9 (lvE le)) 0)) && (cond (!(isW (putF (putF F0 NN (adr 524288 (vaE va) 2) 8 536871937) NN (atL (vaE va) (lvE le)) 8 (lfS (pgS page (lvE le)) fl)) NN sat0 0 (prE pr) (lvE ki) (vaE va))) (!(litCmp .eql (litBin .shl .u64 4096 (litBin .mul .i64 9 (lvE le))) 0)) true))], .val (.bool (.sym (endA (putF (putF F0 NN (adr 524288 (vaE va) 2) 8 536871937) NN (atL (vaE va) (lvE le)) 8 (lfS (pgS page (lvE le)) fl)) (prE pr) (lvE ki) (vaE va) (pgS page (lvE le)) (lvE le))))) := by kernel_rfl
set_option maxRecDepth 100000 in
theorem road1B (va page fl le ki pr : Int) : ((call Try.prog cxl 56 11 [.int .u64 (.sym va), .int .u64 (.sym page), .agg [.int .u8 (.sym fl), .int .u8 (.sym le), .int .u8 (.sym ki), .int .u8 (.sym pr)]] []).route [true, true, true, false, true, true, true, true, false, true, true]).map (fun p => (p.1, p.2.1)) = some ([(decide (0 ≤ 16384 ∧ 16384 < ((16777216 : Nat) : Int))), (litCmp .gtr 2 (lvE le)), (askM NN NN NN F0 (adr 524288 (vaE va) 2) 8 && yes (inU 536871937)), (litCmp .gtr 1 (lvE le)), ((!(litCmp .lss (litBin .mul .i64 9 (lvE le)) 0)) && (!(litCmp .lss (litBin .mul .i64 9 (lvE le)) 0))), (askM NN NN NN (putF F0 NN (adr 524288 (vaE va) 2) 8 536871937) (atL (vaE va) (lvE le)) 8 && yes (inU (lfS (pgS page (lvE le)) fl))), (askW NN NN NN (putF (putF F0 NN (adr 524288 (vaE va) 2) 8 536871937) NN (atL (vaE va) (lvE le)) 8 (lfS (pgS page (lvE le)) fl)) sat0 0 (vaE va)), (yes (inU (lfS (pgS page (lvE le)) fl) ∧ inU 0)), (mayS (lfS (pgS page (lvE le)) fl) (lvE ki) (prE pr) 0), (yes (inU (lfS (pgS page (lvE le)) fl))), (cond (tabS (lfS (pgS page (lvE le)) fl)) (litCmp .gtr (lvE le) 0) false)], .val (.bool (.sym (isW (putF (putF F0 NN (adr 524288 (vaE va) 2) 8 536871937) NN (atL (vaE va) (lvE le)) 8 (lfS (pgS page (lvE le)) fl)) NN sat0 0 (prE pr) (lvE ki) (vaE va))))) := by kernel_rfl
set_option maxRecDepth 100000 in
theorem road1C (va page fl le ki pr : Int) : ((call Try.prog cxl 56 11 [.int .u64 (.sym va), .int .u64 (.sym page), .agg [.int .u8 (.sym fl), .int .u8 (.sym le), .int .u8 (.sym ki), .int .u8 (.sym pr)]] []).route [true, true, true, false, true, true, true, true, false, true, false]).map (fun p => (p.1, p.2.1)) = some ([(decide (0 ≤ 16384 ∧ 16384 < ((16777216 : Nat) : Int))), (litCmp .gtr 2 (lvE le)), (askM NN NN NN F0 (adr 524288 (vaE va) 2) 8 && yes (inU 536871937)), (litCmp .gtr 1 (lvE le)), ((!(litCmp .lss (litBin .mul .i64 9 (lvE le)) 0)) && (!(litCmp .lss (litBin .mul .i64 9 (lvE le)) 0))), (askM NN NN NN (putF F0 NN (adr 524288 (vaE va) 2) 8 536871937) (atL (vaE va) (lvE le)) 8 && yes (inU (lfS (pgS page (lvE le)) fl))), (askW NN NN NN (putF (putF F0 NN (adr 524288 (vaE va) 2) 8 536871937) NN (atL (vaE va) (lvE le)) 8 (lfS (pgS page (lvE le)) fl)) sat0 0 (vaE va)), (yes (inU (lfS (pgS page (lvE le)) fl) ∧ inU 0)), (mayS (lfS (pgS page (lvE le)) fl) (lvE ki) (prE pr) 0), (yes (inU (lfS (pgS page (lvE le)) fl))), (cond (tabS (lfS (pgS page (lvE le)) fl)) (litCmp .gtr (lvE le) 0) false)], .val (.bool (.sym (endC (putF (putF F0 NN (adr 524288 (vaE va) 2) 8 536871937) NN (atL (vaE va) (lvE le)) 8 (lfS (pgS page (lvE le)) fl)) (prE pr) (lvE ki) (vaE va))))) := by kernel_rfl
set_option maxRecDepth 100000 in
theorem road0A (va page fl le ki pr : Int) : ((call Try.prog cxl 56 11 [.int .u64 (.sym va), .int .u64 (.sym page), .agg [.int .u8 (.sym fl), .int .u8 (.sym le), .int .u8 (.sym ki), .int .u8 (.sym pr)]] []).route [true, true, true, true, true, false, true, true, true, true, true, true]).map (fun p => (p.1, p.2.1)) = some ([(decide (0 ≤ 16384 ∧ 16384 < ((16777216 : Nat) : Int))), (litCmp .gtr 2 (lvE le)), (askM NN NN NN F0 (adr 524288 (vaE va) 2) 8 && yes (inU 536871937)), (litCmp .gtr 1 (lvE le)), (askM NN NN NN (putF F0 NN (adr 524288 (vaE va) 2) 8 536871937) (adr 524289 (vaE va) 1) 8 && yes (inU 536872961)), (litCmp .gtr 0 (lvE le)), ((!(litCmp .lss (litBin .mul .i64 9 (lvE le)) 0)) && (!(litCmp .lss (litBin .mul .i64 9 (lvE le)) 0))), (askM NN NN NN (putF (putF F0 NN (adr 524288 (vaE va) 2) 8 536871937) NN (adr 524289 (vaE va) 1) 8 536872961) (atL (vaE va) (lvE le)) 8 && yes (inU (lfS (pgS page (lvE le)) fl))), (askW NN NN NN (putF (putF (putF F0 NN (adr 524288 (vaE va) 2) 8 536871937) NN (adr 524289 (vaE va) 1) 8 536872961) NN (atL (vaE va) (lvE le)) 8 (lfS (pgS page (lvE le)) fl)) sat0 0 (vaE va)), (yes (inU (lfS (pgS page (lvE le)) fl) ∧ inU 0)), (mayS (lfS (pgS page (lvE le)) fl) (lvE ki) (prE pr) 0), ((!(litCmp .lss (litBin .mul .i64 9 (lvE le)) 0)) && (cond (!(isW (putF (putF (putF F0 NN (adr 524288 (vaE va) 2) 8 536871937) NN (adr 524289 (vaE va) 1) 8 536872961) NN (atL (vaE va) (lvE le)) 8 (lfS (pgS page (lvE le)) fl)) NN sat0 0 (prE pr) (lvE ki) (vaE va))) (!(litCmp .eql (litBin .shl .u64 4096 (litBin .mul .i64 9 (lvE le))) 0)) true))], .val (.bool (.sym (endA (putF (putF (putF F0 NN (adr 524288 (vaE va) 2) 8 536871937) NN (adr 524289 (vaE va) 1) 8 536872961) NN (atL (vaE va) (lvE le)) 8 (lfS (pgS page (lvE le)) fl)) (prE pr) (lvE ki) (vaE va) (pgS page (lvE le)) (lvE le))))) := by kernel_rfl
set_option maxRecDepth 100000 in
theorem road0C (va page fl le ki pr : Int) : ((call Try.prog cxl 56 11 [.int .u64 (.sym va), .int .u64 (.sym page), .agg [.int .u8 (.sym fl), .int .u8 (.sym le), .int .u8 (.sym ki), .int .u8 (.sym pr)]] []).route [true, true, true, true, true, false, true, true, true, true, false, true, false]).map (fun p => (p.1, p.2.1)) = some ([(decide (0 ≤ 16384 ∧ 16384 < ((16777216 : Nat) : Int))), (litCmp .gtr 2 (lvE le)), (askM NN NN NN F0 (adr 524288 (vaE va) 2) 8 && yes (inU 536871937)), (litCmp .gtr 1 (lvE le)), (askM NN NN NN (putF F0 NN (adr 524288 (vaE va) 2) 8 536871937) (adr 524289 (vaE va) 1) 8 && yes (inU 536872961)), (litCmp .gtr 0 (lvE le)), ((!(litCmp .lss (litBin .mul .i64 9 (lvE le)) 0)) && (!(litCmp .lss (litBin .mul .i64 9 (lvE le)) 0))), (askM NN NN NN (putF (putF F0 NN (adr 524288 (vaE va) 2) 8 536871937) NN (adr 524289 (vaE va) 1) 8 536872961) (atL (vaE va) (lvE le)) 8 && yes (inU (lfS (pgS page (lvE le)) fl))), (askW NN NN NN (putF (putF (putF F0 NN (adr 524288 (vaE va) 2) 8 536871937) NN (adr 524289 (vaE va) 1) 8 536872961) NN (atL (vaE va) (lvE le)) 8 (lfS (pgS page (lvE le)) fl)) sat0 0 (vaE va)), (yes (inU (lfS (pgS page (lvE le)) fl) ∧ inU 0)), (mayS (lfS (pgS page (lvE le)) fl) (lvE ki) (prE pr) 0), (yes (inU (lfS (pgS page (lvE le)) fl))), (cond (tabS (lfS (pgS page (lvE le)) fl)) (litCmp .gtr (lvE le) 0) false)], .val (.bool (.sym (endC (putF (putF (putF F0 NN (adr 524288 (vaE va) 2) 8 536871937) NN (adr 524289 (vaE va) 1) 8 536872961) NN (atL (vaE va) (lvE le)) 8 (lfS (pgS page (lvE le)) fl)) (prE pr) (lvE ki) (vaE va))))) := by kernel_rfl
theorem law {va page fl le ki pr : Int} (wva : inU va) (wpage : inU page) (wle : 0 ≤ le ∧ le < 256) : ∃ (ds cs : List Bool) (v : Bool), ((call Try.prog cxl 56 11 [.int .u64 (.sym va), .int .u64 (.sym page), .agg [.int .u8 (.sym fl), .int .u8 (.sym le), .int .u8 (.sym ki), .int .u8 (.sym pr)]] []).route ds).map (fun p => (p.1, p.2.1)) = some (cs, .val (.bool (.sym v))) ∧ cs = ds ∧ v = true := by
  obtain ⟨hv0, hv1, hv, hc⟩ := va_val wva
  have dN : decide ((0 : Int) ≤ 16384 ∧ (16384 : Int) < ((16777216 : Nat) : Int)) = true := by decide
  have q0 : yes (inU (lfS (pgS page (lvE le)) fl) ∧ inU 0) = true := yes_of ⟨lf_inU _ _, by unfold inU; omega⟩
  have q1 : yes (inU (lfS (pgS page (lvE le)) fl)) = true := yes_of (lf_inU _ _)
  have q2 : yes (inU 536871937) = true := yes_of t1.1
  have q3 : yes (inU 536872961) = true := yes_of t2.1
  have hsat : inU sat0 := by unfold inU sat0; omega
  have hst : inU 0 := by unfold inU; omega
  have hat : inU (atL (vaE va) (lvE le)) := inU.add _ _
  have aW : ∀ G : Nat → Int, MemOk NN G → askW NN NN NN G sat0 0 (vaE va) = true := fun G h => askW_of h hsat hst hv
  have aM : ∀ (G : Nat → Int) (x : Int), MemOk NN G → inU x → askM NN NN NN G x 8 = true := fun G x h hx => askM_of h hx inI8
  rcases lv_cases wle with hl | hl | hl
  · have hp := pg_val (page := page) (lv := 0) wpage rfl
    have hpe : pagS (lfS (pgS page 0) fl) = pgS page 0 := lf_page ⟨hp.1, hp.2.1⟩
    have hei : inU (lfS (pgS page 0) fl) := lf_inU _ _
    have hal : aliS (lfS (pgS page 0) fl) 0 = true := by rw [ali_dec hei rfl, hpe]; exact decide_eq_true hp.2.2
    have g0 : litCmp .gtr 2 (lvE le) = true := by rw [hl]; rfl
    have g1 : litCmp .gtr 1 (lvE le) = true := by rw [hl]; rfl
    have g2 : litCmp .gtr 0 (lvE le) = false := by rw [hl]; rfl
    have g3 : litCmp .gtr (lvE le) 0 = false := by rw [hl]; rfl
    have s0 : litCmp .lss (litBin .mul .i64 9 (lvE le)) 0 = false := by rw [hl]; rfl
    have s1 : litCmp .eql (litBin .shl .u64 4096 (litBin .mul .i64 9 (lvE le))) 0 = false := by rw [hl]; rfl
    have eM : (putF (putF (putF F0 NN (adr 524288 (vaE va) 2) 8 536871937) NN (adr 524289 (vaE va) 1) 8 536872961) NN (atL (vaE va) (lvE le)) 8 (lfS (pgS page (lvE le)) fl)) = M0 (vaE va) (lfS (pgS page 0) fl) := by rw [hl, atL0]; rfl
    have hM : MemOk NN (M0 (vaE va) (lfS (pgS page 0) fl)) := ((mem0.put _ _ _).put _ _ _).put _ _ _
    cases hm : mayS (lfS (pgS page (lvE le)) fl) (lvE ki) (prE pr) 0
    · refine ⟨_, _, _, road0C va page fl le ki pr, ?_, ?_⟩
      · (simp only [ g0, g1, g2, g3, s0, s1, hm, q0, q1, q2, q3, eM, aW _ hM, aM _ _ mem0 hat, aM _ _ mem0 (adr_inU _ _ _), aM _ _ (mem0.put _ _ _) hat, aM _ _ (mem0.put _ _ _) (adr_inU _ _ _), aM _ _ ((mem0.put _ _ _).put _ _ _) hat, Bool.not_false, Bool.and_self, Bool.and_true, Bool.true_and, cond_true, cond_false, Bool.cond_self]; rfl)
      · rw [eM]
        rw [hl] at hm
        exact endC_of (out0C hc (k2_t hv) (m0_2 hv hei) t1.2.1 t1.2.2.1 (m0_k1 hv hei) (m0_1 hv hei) t2.2.1 t2.2.2.1 (m0_k hv hei) (m0_0 hv hei) hm) (out0C hc (k2_t hv) (m0_2 hv hei) t1.2.1 t1.2.2.1 (m0_k1 hv hei) (m0_1 hv hei) t2.2.1 t2.2.2.1 (m0_k hv hei) (m0_0 hv hei) hm) (out0C hc (k2_t hv) (m0_2 hv hei) t1.2.1 t1.2.2.1 (m0_k1 hv hei) (m0_1 hv hei) t2.2.1 t2.2.2.1 (m0_k hv hei) (m0_0 hv hei) hm)
    · refine ⟨_, _, _, road0A va page fl le ki pr, ?_, ?_⟩
      · (simp only [ g0, g1, g2, g3, s0, s1, hm, q0, q1, q2, q3, eM, aW _ hM, aM _ _ mem0 hat, aM _ _ mem0 (adr_inU _ _ _), aM _ _ (mem0.put _ _ _) hat, aM _ _ (mem0.put _ _ _) (adr_inU _ _ _), aM _ _ ((mem0.put _ _ _).put _ _ _) hat, Bool.not_false, Bool.and_self, Bool.and_true, Bool.true_and, cond_true, cond_false, Bool.cond_self]; rfl)
      · rw [eM]
        rw [hl] at hm ⊢
        exact endA_of (out0A hc (k2_t hv) (m0_2 hv hei) t1.2.1 t1.2.2.1 (m0_k1 hv hei) (m0_1 hv hei) t2.2.1 t2.2.2.1 (m0_k hv hei) (m0_0 hv hei) hm hal) ((out0A hc (k2_t hv) (m0_2 hv hei) t1.2.1 t1.2.2.1 (m0_k1 hv hei) (m0_1 hv hei) t2.2.1 t2.2.2.1 (m0_k hv hei) (m0_0 hv hei) hm hal).trans (by rw [root0]; exact m0_0 hv hei)) (out0A hc (k2_t hv) (m0_2 hv hei) t1.2.1 t1.2.2.1 (m0_k1 hv hei) (m0_1 hv hei) t2.2.1 t2.2.2.1 (m0_k hv hei) (m0_0 hv hei) hm hal) hei hv rfl ⟨hp.1, hp.2.1⟩ hpe hp.2.2
  · have hp := pg_val (page := page) (lv := 1) wpage rfl
    have hpe : pagS (lfS (pgS page 1) fl) = pgS page 1 := lf_page ⟨hp.1, hp.2.1⟩
    have hei : inU (lfS (pgS page 1) fl) := lf_inU _ _
    have hal : aliS (lfS (pgS page 1) fl) 1 = true := by rw [ali_dec hei rfl, hpe]; exact decide_eq_true hp.2.2
    have g0 : litCmp .gtr 2 (lvE le) = true := by rw [hl]; rfl
    have g1 : litCmp .gtr 1 (lvE le) = false := by rw [hl]; rfl
    have g2 : litCmp .gtr 0 (lvE le) = false := by rw [hl]; rfl
    have g3 : litCmp .gtr (lvE le) 0 = true := by rw [hl]; rfl
    have s0 : litCmp .lss (litBin .mul .i64 9 (lvE le)) 0 = false := by rw [hl]; rfl
    have s1 : litCmp .eql (litBin .shl .u64 4096 (litBin .mul .i64 9 (lvE le))) 0 = false := by rw [hl]; rfl
    have eM : (putF (putF F0 NN (adr 524288 (vaE va) 2) 8 536871937) NN (atL (vaE va) (lvE le)) 8 (lfS (pgS page (lvE le)) fl)) = M1 (vaE va) (lfS (pgS page 1) fl) := by rw [hl, atL1]; rfl
    have hM : MemOk NN (M1 (vaE va) (lfS (pgS page 1) fl)) := (mem0.put _ _ _).put _ _ _
    cases hm : mayS (lfS (pgS page (lvE le)) fl) (lvE ki) (prE pr) 0
    · cases ht : tabS (lfS (pgS page (lvE le)) fl)
      · refine ⟨_, _, _, road1C va page fl le ki pr, ?_, ?_⟩
        · (simp only [ g0, g1, g2, g3, s0, s1, hm, ht, q0, q1, q2, q3, eM, aW _ hM, aM _ _ mem0 hat, aM _ _ mem0 (adr_inU _ _ _), aM _ _ (mem0.put _ _ _) hat, aM _ _ (mem0.put _ _ _) (adr_inU _ _ _), aM _ _ ((mem0.put _ _ _).put _ _ _) hat, Bool.not_false, Bool.and_self, Bool.and_true, Bool.true_and, cond_true, cond_false, Bool.cond_self]; rfl)
        · rw [eM]
          rw [hl] at hm
          exact endC_of (out1C hc (k2_t hv) (m1_2 hv hei) t1.2.1 t1.2.2.1 (m1_k hv hei) (m1_1 hv hei) hm (by rw [← hl]; exact ht)) (out1C hc (k2_t hv) (m1_2 hv hei) t1.2.1 t1.2.2.1 (m1_k hv hei) (m1_1 hv hei) hm (by rw [← hl]; exact ht)) (out1C hc (k2_t hv) (m1_2 hv hei) t1.2.1 t1.2.2.1 (m1_k hv hei) (m1_1 hv hei) hm (by rw [← hl]; exact ht))
      · refine ⟨_, _, _, road1B va page fl le ki pr, ?_, ?_⟩
        · (simp only [ g0, g1, g2, g3, s0, s1, hm, ht, q0, q1, q2, q3, eM, aW _ hM, aM _ _ mem0 hat, aM _ _ mem0 (adr_inU _ _ _), aM _ _ (mem0.put _ _ _) hat, aM _ _ (mem0.put _ _ _) (adr_inU _ _ _), aM _ _ ((mem0.put _ _ _).put _ _ _) hat, Bool.not_false, Bool.and_self, Bool.and_true, Bool.true_and, cond_true, cond_false, Bool.cond_self]; rfl)
        · rw [eM]
          exact noleaf1 hv hei (tab_noleaf hei (by rw [← hl]; exact ht))
    · refine ⟨_, _, _, road1A va page fl le ki pr, ?_, ?_⟩
      · (simp only [ g0, g1, g2, g3, s0, s1, hm, q0, q1, q2, q3, eM, aW _ hM, aM _ _ mem0 hat, aM _ _ mem0 (adr_inU _ _ _), aM _ _ (mem0.put _ _ _) hat, aM _ _ (mem0.put _ _ _) (adr_inU _ _ _), aM _ _ ((mem0.put _ _ _).put _ _ _) hat, Bool.not_false, Bool.and_self, Bool.and_true, Bool.true_and, cond_true, cond_false, Bool.cond_self]; rfl)
      · rw [eM]
        rw [hl] at hm ⊢
        exact endA_of (out1A hc (k2_t hv) (m1_2 hv hei) t1.2.1 t1.2.2.1 (m1_k hv hei) (m1_1 hv hei) hm hal) ((out1A hc (k2_t hv) (m1_2 hv hei) t1.2.1 t1.2.2.1 (m1_k hv hei) (m1_1 hv hei) hm hal).trans (by rw [root0]; exact m1_1 hv hei)) (out1A hc (k2_t hv) (m1_2 hv hei) t1.2.1 t1.2.2.1 (m1_k hv hei) (m1_1 hv hei) hm hal) hei hv rfl ⟨hp.1, hp.2.1⟩ hpe hp.2.2
  · have hp := pg_val (page := page) (lv := 2) wpage rfl
    have hpe : pagS (lfS (pgS page 2) fl) = pgS page 2 := lf_page ⟨hp.1, hp.2.1⟩
    have hei : inU (lfS (pgS page 2) fl) := lf_inU _ _
    have hal : aliS (lfS (pgS page 2) fl) 2 = true := by rw [ali_dec hei rfl, hpe]; exact decide_eq_true hp.2.2
    have g0 : litCmp .gtr 2 (lvE le) = false := by rw [hl]; rfl
    have g1 : litCmp .gtr 1 (lvE le) = false := by rw [hl]; rfl
    have g2 : litCmp .gtr 0 (lvE le) = false := by rw [hl]; rfl
    have g3 : litCmp .gtr (lvE le) 0 = true := by rw [hl]; rfl
    have s0 : litCmp .lss (litBin .mul .i64 9 (lvE le)) 0 = false := by rw [hl]; rfl
    have s1 : litCmp .eql (litBin .shl .u64 4096 (litBin .mul .i64 9 (lvE le))) 0 = false := by rw [hl]; rfl
    have eM : (putF F0 NN (atL (vaE va) (lvE le)) 8 (lfS (pgS page (lvE le)) fl)) = M2 (vaE va) (lfS (pgS page 2) fl) := by rw [hl, atL2]; rfl
    have hM : MemOk NN (M2 (vaE va) (lfS (pgS page 2) fl)) := mem0.put _ _ _
    cases hm : mayS (lfS (pgS page (lvE le)) fl) (lvE ki) (prE pr) 0
    · cases ht : tabS (lfS (pgS page (lvE le)) fl)
      · refine ⟨_, _, _, road2C va page fl le ki pr, ?_, ?_⟩
        · (simp only [ g0, g1, g2, g3, s0, s1, hm, ht, q0, q1, q2, q3, eM, aW _ hM, aM _ _ mem0 hat, aM _ _ mem0 (adr_inU _ _ _), aM _ _ (mem0.put _ _ _) hat, aM _ _ (mem0.put _ _ _) (adr_inU _ _ _), aM _ _ ((mem0.put _ _ _).put _ _ _) hat, Bool.not_false, Bool.and_self, Bool.and_true, Bool.true_and, cond_true, cond_false, Bool.cond_self]; rfl)
        · rw [eM]
          rw [hl] at hm
          exact endC_of (out2C hc (k2_t hv) (m2_2 hv hei) hm (by rw [← hl]; exact ht)) (out2C hc (k2_t hv) (m2_2 hv hei) hm (by rw [← hl]; exact ht)) (out2C hc (k2_t hv) (m2_2 hv hei) hm (by rw [← hl]; exact ht))
      · refine ⟨_, _, _, road2B va page fl le ki pr, ?_, ?_⟩
        · (simp only [ g0, g1, g2, g3, s0, s1, hm, ht, q0, q1, q2, q3, eM, aW _ hM, aM _ _ mem0 hat, aM _ _ mem0 (adr_inU _ _ _), aM _ _ (mem0.put _ _ _) hat, aM _ _ (mem0.put _ _ _) (adr_inU _ _ _), aM _ _ ((mem0.put _ _ _).put _ _ _) hat, Bool.not_false, Bool.and_self, Bool.and_true, Bool.true_and, cond_true, cond_false, Bool.cond_self]; rfl)
        · rw [eM]
          exact noleaf2 hv hei (tab_noleaf hei (by rw [← hl]; exact ht))
    · refine ⟨_, _, _, road2A va page fl le ki pr, ?_, ?_⟩
      · (simp only [ g0, g1, g2, g3, s0, s1, hm, q0, q1, q2, q3, eM, aW _ hM, aM _ _ mem0 hat, aM _ _ mem0 (adr_inU _ _ _), aM _ _ (mem0.put _ _ _) hat, aM _ _ (mem0.put _ _ _) (adr_inU _ _ _), aM _ _ ((mem0.put _ _ _).put _ _ _) hat, Bool.not_false, Bool.and_self, Bool.and_true, Bool.true_and, cond_true, cond_false, Bool.cond_self]; rfl)
      · rw [eM]
        rw [hl] at hm ⊢
        exact endA_of (out2A hc (k2_t hv) (m2_2 hv hei) hm hal) ((out2A hc (k2_t hv) (m2_2 hv hei) hm hal).trans (by rw [root0]; exact m2_2 hv hei)) (out2A hc (k2_t hv) (m2_2 hv hei) hm hal) hei hv rfl ⟨hp.1, hp.2.1⟩ hpe hp.2.2

theorem run : ∀ xs h, Abs [.plain (.one (.int .u64)), .plain (.one (.int .u64)), .plain (.agg [.int .u8, .int .u8, .int .u8, .int .u8])] 0 xs h → ∃ b l, (call Try.prog cxl 56 11 xs h).pick = some (.val (.bool b), l) ∧ b.den = true := by
  rintro xs h ⟨_, as0, rfl, ⟨va, rfl, wva⟩, ⟨_, as1, rfl, ⟨page, rfl, wpage⟩, ⟨_, as2, rfl, ⟨_, rfl, ⟨_, _, rfl, ⟨fl, rfl, wfl⟩, ⟨_, _, rfl, ⟨le, rfl, wle⟩, ⟨_, _, rfl, ⟨ki, rfl, wki⟩, ⟨_, _, rfl, ⟨pr, rfl, wpr⟩, rfl⟩⟩⟩⟩⟩, rfl, rfl⟩⟩⟩
  obtain ⟨ds, cs, v, hr, hcs, hv⟩ := law (va := va) (page := page) (fl := fl) (le := le) (ki := ki) (pr := pr) (inU_wf wva) (inU_wf wpage) (wf8 wle)
  exact (road_at hr hcs).elim fun l hl => ⟨.sym _, l, hl, hv⟩

set_option maxRecDepth 100000 in
theorem lifted (os : Os) (started : os.Started) (H : Type) (enc : TypeId × Value → H) :
    ReturnsInHanded {} Try.checked os 11 .any (Rows.walkLevelsSpec.pre6 enc Try.prog Try.f11 Rows.walkLevelsRow.domain false) (Rows.walkLevelsSpec.post enc Try.prog Try.f11 false true false false) := by
  refine returnsInHanded_of_change (C := Try.checked) own started (by kernel_rfl) Try.func11
    (ChangeSpec.witness6 (enc := enc) (C := Try.checked) false ⟨#[], #[.int .u64 0, .int .u64 0, .agg #[.int .u8 0, .int .u8 0, .int .u8 0, .int .u8 0]], []⟩ 8 (by kernel_rfl) (by kernel_rfl) (by kernel_rfl) (by kernel_rfl)) ?_
  intro W base args ds gs before hval hW _ _
  exact lifted_rows (P := Try.prog) (f := 11) (fn := Try.f11) (s := Rows.walkLevelsSpec) cxl_ok (n := 56) rfl
    (fun ds h => by
      match ds, h with
      | [d1, d2, d3], _ => rfl)
    (by kernel_rfl) rfl (by kernel_rfl) (by kernel_rfl) (by kernel_rfl) run W base args ds gs before hval hW
theorem closed : joinedFacts Try.prog 11 Try.f11 Rows.walkLevelsSpec Rows.walkLevelsRow = true := by
  unfold joinedFacts
  rw [may_enter, lifts_final, make_cut]
  repeat' (with_reducible refine Bool.and_eq_true_iff.mpr ⟨?_, ?_⟩)
  all_goals kernel_rfl

theorem over : Rows.walkLevelsRow.holds Try.pinned (OpenSpec.ofChange Rows.walkLevelsSpec) :=
  OpenClaim.holds_of_wide 11 Try.f11 rfl rfl rfl rfl rfl rfl rfl ⟨rfl, rfl, rfl, rfl, rfl⟩ rfl rfl rfl rfl rfl (by kernel_rfl) Try.func11 closed
    (of_decide_eq_true (by kernel_rfl)) (by unfold Func.isWrapper; first | (rw [if_pos (by decide +kernel)]; kernel_rfl) | (rw [if_neg (by decide +kernel)]; exact ⟨rfl, rfl⟩))
    (fun os started H enc _ => lifted os started H enc)

/-- The statement. -/
theorem proved : Rows.WalkLevelsSaid :=
  over
#print axioms proved
end Go.Proofs.Ytngcbpcfgolifaa.WalkLevels
