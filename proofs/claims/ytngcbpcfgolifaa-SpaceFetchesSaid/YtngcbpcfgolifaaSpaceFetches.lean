/- The statement 'SpaceFetches': a fetch is of two bytes, or of four where the first two say so; and that its fault is a fetch's, of its address, or the one two behind. Conditions: none. -/
import Derived.Test.YtngcbpcfgolifaaBoth13
import Derived.Test.YtngcbpcfgolifaaHead
namespace Go.Proofs.Ytngcbpcfgolifaa.SpaceFetches
open Go.RowKit Go.WideShapes Go.ChangeShapes Go.ChangeAt Ev
set_option linter.unusedVariables false
set_option linter.unusedSimpArgs false

def vbE (va : Int) : Int := litBin .add .u64 va 2
def aT (F : Nat → Int) (N : Nat) (satp st pr v : Int) : Int := (cond (isW F N satp st pr 0 v) 0 (cond (!(okS N (toW F N satp st pr 0 v) 2)) 0 (toW F N satp st pr 0 v)))
def aF (F : Nat → Int) (N : Nat) (satp st pr v : Int) : Bool := (cond (isW F N satp st pr 0 v) (isW F N satp st pr 0 v) (cond (!(okS N (toW F N satp st pr 0 v) 2)) true (isW F N satp st pr 0 v)))
def aC (F : Nat → Int) (N : Nat) (satp st pr v : Int) : Int := (cond (isW F N satp st pr 0 v) (cauW F N satp st pr 0 v) (cond (!(okS N (toW F N satp st pr 0 v) 2)) (cauS 0 1 7 5) (cauW F N satp st pr 0 v)))
def aV (F : Nat → Int) (N : Nat) (satp st pr v : Int) : Int := (cond (isW F N satp st pr 0 v) (valW F N satp st pr 0 v) (cond (!(okS N (toW F N satp st pr 0 v) 2)) v (valW F N satp st pr 0 v)))
noncomputable def aQ (F : Nat → Int) (N : Nat) (satp st pr v : Int) : Bool := ((askW N N N F satp st v) && (cond (isW F N satp st pr 0 v) true (askP N N (toW F N satp st pr 0 v) 2)))
noncomputable def aM (F : Nat → Int) (N : Nat) (satp st pr v : Int) : Bool := (askM N N N F (aT F N satp st pr v) 2)
def aG (F : Nat → Int) (N : Nat) (satp st pr v : Int) : Int := (getS F N (aT F N satp st pr v) 2)
theorem toW_inU {F : Nat → Int} {N : Nat} {satp st pr k va : Int} (hm : MemOk N F) (hv : inU va) : inU (toW F N satp st pr k va) := by
  unfold toW
  cases isW F N satp st pr k va
  · cases np satp
    · have he : inU (pteW F N satp st pr k va) := pteW_inU hm
      have hk : kno (lvW F N satp st pr k va) = true := outW_ind (fun v => kno v = true) rfl rfl rfl rfl rfl rfl
      show inU (atS (pteW F N satp st pr k va) va (lvW F N satp st pr k va))
      rw [at_val he hv hk]
      have hp : 0 ≤ pagS (pteW F N satp st pr k va) ∧ pagS (pteW F N satp st pr k va) < 17592186044416 := by rw [pag_val he]; omega
      generalize pagS (pteW F N satp st pr k va) = p at hp
      rcases kno_cases hk with h | h | h <;> rw [h]
      · show inU (p * 4096 / 4096 * 4096 + va % 4096)
        unfold inU at *
        omega
      · show inU (p * 4096 / 2097152 * 2097152 + va % 2097152)
        unfold inU at *
        omega
      · show inU (p * 4096 / 1073741824 * 1073741824 + va % 1073741824)
        unfold inU at *
        omega
    · exact hv
  · exact inU0
theorem is_val {F : Nat → Int} {N : Nat} {satp st pr k va : Int} (h : isW F N satp st pr k va = true) : valW F N satp st pr k va = va := by
  revert h
  unfold isW valW outW outP
  generalize bad (en2 F N (root satp) va) 2 st pr k = q2
  generalize bad (en1 F N (root satp) va) 1 st pr k = q1
  generalize bad (en0 F N (root satp) va) 0 st pr k = q0
  generalize leafS (en2 F N (root satp) va) = l2
  generalize leafS (en1 F N (root satp) va) = l1
  generalize leafS (en0 F N (root satp) va) = l0
  generalize tabS (en2 F N (root satp) va) = t2
  generalize tabS (en1 F N (root satp) va) = t1
  generalize k2 N (root satp) va = a2
  generalize k1 F N (root satp) va = a1
  generalize k0 F N (root satp) va = a0
  generalize canS va = cn
  generalize np satp = n
  intro h
  cases n
  · cases cn
    · rfl
    · cases a2
      · rfl
      · cases l2
        · cases t2
          · rfl
          · cases a1
            · rfl
            · cases l1
              · cases t1
                · rfl
                · cases a0
                  · rfl
                  · cases l0
                    · rfl
                    · cases q0
                      · cases h
                      · rfl
              · cases q1
                · cases h
                · rfl
        · cases q2
          · cases h
          · rfl
  · cases h
theorem inI2 : inI 2 := by unfold inI; omega
section
variable {F : Nat → Int} {N : Nat} {satp st pr v : Int}
theorem aQ_t (hm : MemOk N F) (h1 : inU satp) (h2 : inU st) (hv : inU v) : aQ F N satp st pr v = true := by
  unfold aQ
  rw [askW_of hm h1 h2 hv]
  cases isW F N satp st pr 0 v
  · exact yes_of ⟨rfl, hm.le, toW_inU hm hv, inI2⟩
  · rfl
theorem aM_t (hm : MemOk N F) (hv : inU v) : aM F N satp st pr v = true := by
  unfold aM
  refine askM_of hm ?_ inI2
  unfold aT
  have := toW_inU (satp := satp) (st := st) (pr := pr) (k := 0) hm hv
  cases isW F N satp st pr 0 v
  · cases okS N (toW F N satp st pr 0 v) 2
    · exact inU0
    · exact this
  · exact inU0
theorem aG_bd (hm : MemOk N F) (hv : inU v) : 0 ≤ aG F N satp st pr v ∧ aG F N satp st pr v < 65536 := by
  have hx : inU (aT F N satp st pr v) := by
    unfold aT
    have := toW_inU (satp := satp) (st := st) (pr := pr) (k := 0) hm hv
    cases isW F N satp st pr 0 v
    · cases okS N (toW F N satp st pr 0 v) 2
      · exact inU0
      · exact this
    · exact inU0
  unfold aG getS
  cases h : (num 2 && okS N (aT F N satp st pr v) 2)
  · show (0 : Int) ≤ 0 ∧ (0 : Int) < 65536
    omega
  · rw [Bool.and_eq_true] at h
    exact le_bd hm.byte 2 _ (ok_off h.2 hx).2.2
theorem aG_0 (hN : N ≤ 65536) (h : aF F N satp st pr v = true) : aG F N satp st pr v = 0 := by
  have h0 : aT F N satp st pr v = 0 := by
    revert h
    unfold aF aT
    cases isW F N satp st pr 0 v <;> cases okS N (toW F N satp st pr 0 v) 2 <;> intro h <;> first | rfl | cases h
  have h1 : okS N 0 2 = false := by
    unfold okS
    exact decide_eq_false (by omega)
  unfold aG getS
  rw [h0, h1, Bool.and_false]
  rfl
theorem aV_t (h : aF F N satp st pr v = true) : aV F N satp st pr v = v := by
  have hi : isW F N satp st pr 0 v = true → _ := is_val
  revert h
  unfold aF aV
  cases h1 : isW F N satp st pr 0 v
  · cases okS N (toW F N satp st pr 0 v) 2 <;> intro h <;> first | rfl | cases h
  · intro _
    exact hi h1
end
theorem ofInt32 (n : Nat) : BitVec.ofInt IntKind.u32.bits (n : Int) = BitVec.ofNat 32 n := by
  apply BitVec.eq_of_toNat_eq
  simp [IntKind.bits]
theorem w32 (x : Int) : IntKind.u32.wrap x = x % 4294967296 := by simp [IntKind.wrap, IntKind.signed, IntKind.bits]
theorem and32 {x y : Nat} (hx : x < 4294967296) (hy : y < 4294967296) : litBin .and .u32 (x : Int) (y : Int) = ((x &&& y : Nat) : Int) := by
  have h : (BitVec.ofInt IntKind.u32.bits (x : Int) &&& BitVec.ofInt IntKind.u32.bits (y : Int)).toNat = x &&& y := by
    rw [ofInt32, ofInt32]
    show (BitVec.ofNat 32 x &&& BitVec.ofNat 32 y).toNat = _
    simp only [BitVec.toNat_and, BitVec.toNat_ofNat]
    rw [Nat.mod_eq_of_lt hx, Nat.mod_eq_of_lt hy]
  have hb : x &&& y < 4294967296 := Nat.lt_of_le_of_lt Nat.and_le_left hx
  show IntKind.u32.wrap _ = _
  rw [h, w32]
  omega
theorem or32 {x y : Nat} (hx : x < 4294967296) (hy : y < 4294967296) : litBin .or .u32 (x : Int) (y : Int) = ((x ||| y : Nat) : Int) := by
  have h : (BitVec.ofInt IntKind.u32.bits (x : Int) ||| BitVec.ofInt IntKind.u32.bits (y : Int)).toNat = x ||| y := by
    rw [ofInt32, ofInt32]
    show (BitVec.ofNat 32 x ||| BitVec.ofNat 32 y).toNat = _
    simp only [BitVec.toNat_or, BitVec.toNat_ofNat]
    rw [Nat.mod_eq_of_lt hx, Nat.mod_eq_of_lt hy]
  have hb : x ||| y < 2 ^ 32 := Nat.or_lt_two_pow hx hy
  show IntKind.u32.wrap _ = _
  rw [h, w32]
  omega
theorem low_same {x : Int} (h : 0 ≤ x ∧ x < 65536) : litBin .and .u32 (IntKind.wrap .u32 x) 3 = litBin .and .u64 x 3 := by
  obtain ⟨n, rfl⟩ : ∃ n : Nat, x = (n : Int) := ⟨x.toNat, by omega⟩
  have e : IntKind.wrap .u32 (n : Int) = (n : Int) := by rw [w32]; omega
  rw [e]
  have h1 : litBin .and .u32 (n : Int) ((3 : Nat) : Int) = ((n &&& 3 : Nat) : Int) := and32 (by omega) (by omega)
  have h2 : litBin .and .u64 (n : Int) ((3 : Nat) : Int) = ((n &&& 3 : Nat) : Int) := and_nat (by omega) (by omega)
  exact h1.trans h2.symm
theorem low_wrap {x : Int} (h : 0 ≤ x ∧ x < 65536) : IntKind.wrap .u64 (IntKind.wrap .u32 x) = x := by rw [w32, Ev.wrap64]; omega
theorem low_zero : IntKind.wrap .u32 0 = 0 := by decide
theorem whole {x y : Int} (hx : 0 ≤ x ∧ x < 65536) (hy : 0 ≤ y ∧ y < 65536) : IntKind.wrap .u64 (litBin .or .u32 (litBin .shl .u32 (IntKind.wrap .u32 y) 16) (IntKind.wrap .u32 x)) = litBin .add .u64 (litBin .shl .u64 y 16) x := by
  obtain ⟨n, rfl⟩ : ∃ n : Nat, x = (n : Int) := ⟨x.toNat, by omega⟩
  obtain ⟨m, rfl⟩ : ∃ m : Nat, y = (m : Int) := ⟨y.toNat, by omega⟩
  have e1 : IntKind.wrap .u32 (n : Int) = (n : Int) := by rw [w32]; omega
  have e2 : IntKind.wrap .u32 (m : Int) = (m : Int) := by rw [w32]; omega
  have e3 : litBin .shl .u32 (m : Int) 16 = ((m * 65536 : Nat) : Int) := by
    show IntKind.u32.wrap ((m : Int) * 65536) = _
    rw [w32]
    omega
  have e4 : litBin .shl .u64 (m : Int) 16 = ((m * 65536 : Nat) : Int) := by
    show IntKind.u64.wrap ((m : Int) * 65536) = _
    rw [Ev.wrap64]
    omega
  have e5 : m * 65536 ||| n = m * 65536 + n := by
    have := Nat.shiftLeft_add_eq_or_of_lt (a := m) (b := n) (i := 16) (by omega)
    rw [Nat.shiftLeft_eq] at this
    exact this.symm
  have e6 : litBin .add .u64 ((m * 65536 : Nat) : Int) (n : Int) = ((m * 65536 : Nat) : Int) + n := by
    show IntKind.u64.wrap _ = _
    rw [Ev.wrap64]
    omega
  rw [e1, e2, e3, e4, e6, or32 (by omega) (by omega), e5, Ev.wrap64]
  omega

noncomputable def v0 (pg : Int) (n : Nat) (A X : Nat → Int) (kind st c1 c2 c3 c4 c5 c6 c7 c8 satp c10 c11 pr how va x nn : Int) : Bool := (cond (((cond (cond (aF (memB pg A X n) (szN pg) satp st pr va) true (litCmp .neq (litBin .and .u32 (IntKind.wrap .u32 (aG (memB pg A X n) (szN pg) satp st pr va)) 3) 3)) (aF (memB pg A X n) (szN pg) satp st pr va) (cond (aF (memB pg A X n) (szN pg) satp st pr (vbE va)) (aF (memB pg A X n) (szN pg) satp st pr (vbE va)) (aF (memB pg A X n) (szN pg) satp st pr (vbE va)))) == (aF (memB pg A X n) (szN pg) satp st pr va)) && ((litCmp .eql (cond (cond (aF (memB pg A X n) (szN pg) satp st pr va) true (litCmp .neq (litBin .and .u32 (IntKind.wrap .u32 (aG (memB pg A X n) (szN pg) satp st pr va)) 3) 3)) (aC (memB pg A X n) (szN pg) satp st pr va) (cond (aF (memB pg A X n) (szN pg) satp st pr (vbE va)) (aC (memB pg A X n) (szN pg) satp st pr (vbE va)) (aC (memB pg A X n) (szN pg) satp st pr (vbE va)))) (aC (memB pg A X n) (szN pg) satp st pr va)) && (litCmp .eql (cond (cond (aF (memB pg A X n) (szN pg) satp st pr va) true (litCmp .neq (litBin .and .u32 (IntKind.wrap .u32 (aG (memB pg A X n) (szN pg) satp st pr va)) 3) 3)) (aV (memB pg A X n) (szN pg) satp st pr va) (cond (aF (memB pg A X n) (szN pg) satp st pr (vbE va)) (aV (memB pg A X n) (szN pg) satp st pr (vbE va)) (aV (memB pg A X n) (szN pg) satp st pr (vbE va)))) (aV (memB pg A X n) (szN pg) satp st pr va)))) (litCmp .eql (cond (cond (aF (memB pg A X n) (szN pg) satp st pr va) true (litCmp .neq (litBin .and .u32 (IntKind.wrap .u32 (aG (memB pg A X n) (szN pg) satp st pr va)) 3) 3)) (IntKind.wrap .u32 (aG (memB pg A X n) (szN pg) satp st pr va)) (cond (aF (memB pg A X n) (szN pg) satp st pr (vbE va)) 0 (litBin .or .u32 (litBin .shl .u32 (IntKind.wrap .u32 (aG (memB pg A X n) (szN pg) satp st pr (vbE va))) 16) (IntKind.wrap .u32 (aG (memB pg A X n) (szN pg) satp st pr va))))) 0) false)
set_option maxRecDepth 100000 in
theorem road0 (pg : Int) (n : Nat) (A X : Nat → Int) (kind st c1 c2 c3 c4 c5 c6 c7 c8 satp c10 c11 pr how va x nn : Int) : ((call Try.prog Both73.X 400 20 [.agg [.int .u8 (.sym pg), .slice 0 (.lit 0) (.rc n 1 0) .any], .agg [.int .u8 (.sym kind), .int .u64 (.sym st), .int .u64 (.sym c1), .int .u64 (.sym c2), .int .u64 (.sym c3), .int .u64 (.sym c4), .int .u64 (.sym c5), .int .u64 (.sym c6), .int .u64 (.sym c7), .int .u64 (.sym c8), .int .u64 (.sym satp), .int .u64 (.sym c10), .int .u64 (.sym c11), .int .i64 (.sym pr), .int .i64 (.sym how), .int .u64 (.sym va), .int .u64 (.sym x), .int .u8 (.sym nn)]] [.rows 0 n [(.int .u32, A), (.int .u64, X)]]).route [true, true, true, true]).map (fun p => (p.1, p.2.1)) = some ([((!(cond (litCmp .lss (pgs pg) 1) true (litCmp .gtr (pgs pg) 16))) && ((decide (0 ≤ (litBin .mul .i64 (pgs pg) 4096) ∧ (litBin .mul .i64 (pgs pg) 4096) < ((16777216 : Nat) : Int))) && ((!(cond (litCmp .lss (pgs pg) 1) true (litCmp .gtr (pgs pg) 16))) && ((decide (0 ≤ (litBin .mul .i64 (pgs pg) 4096) ∧ (litBin .mul .i64 (pgs pg) 4096) < ((16777216 : Nat) : Int))) && (Both73.ask ⟨[0, pg, kind, st, c1, c2, c3, c4, c5, c6, c7, c8, satp, c10, c11, pr, how, va, x, nn, pg], [], [n, n, n, (szN pg), (szN pg), (szN pg), (szN pg), (szN pg), (szN pg)], [A, X, (fun _ => 0), (fun _ => 0)]⟩))))), (((aQ (memB pg A X n) (szN pg) satp st pr va) && (aM (memB pg A X n) (szN pg) satp st pr va)) && (cond (cond (aF (memB pg A X n) (szN pg) satp st pr va) true (litCmp .neq (litBin .and .u32 (IntKind.wrap .u32 (aG (memB pg A X n) (szN pg) satp st pr va)) 3) 3)) true ((aQ (memB pg A X n) (szN pg) satp st pr (vbE va)) && (aM (memB pg A X n) (szN pg) satp st pr (vbE va))))), (aQ (memB pg A X n) (szN pg) satp st pr va), (aF (memB pg A X n) (szN pg) satp st pr va)], .val (.bool (.sym (v0 pg n A X kind st c1 c2 c3 c4 c5 c6 c7 c8 satp c10 c11 pr how va x nn)))) := by kernel_rfl
noncomputable def v1 (pg : Int) (n : Nat) (A X : Nat → Int) (kind st c1 c2 c3 c4 c5 c6 c7 c8 satp c10 c11 pr how va x nn : Int) : Bool := (cond (!(cond (cond (aF (memB pg A X n) (szN pg) satp st pr va) true (litCmp .neq (litBin .and .u32 (IntKind.wrap .u32 (aG (memB pg A X n) (szN pg) satp st pr va)) 3) 3)) (aF (memB pg A X n) (szN pg) satp st pr va) (cond (aF (memB pg A X n) (szN pg) satp st pr (vbE va)) (aF (memB pg A X n) (szN pg) satp st pr (vbE va)) (aF (memB pg A X n) (szN pg) satp st pr (vbE va))))) (litCmp .eql (IntKind.wrap .u64 (cond (cond (aF (memB pg A X n) (szN pg) satp st pr va) true (litCmp .neq (litBin .and .u32 (IntKind.wrap .u32 (aG (memB pg A X n) (szN pg) satp st pr va)) 3) 3)) (IntKind.wrap .u32 (aG (memB pg A X n) (szN pg) satp st pr va)) (cond (aF (memB pg A X n) (szN pg) satp st pr (vbE va)) 0 (litBin .or .u32 (litBin .shl .u32 (IntKind.wrap .u32 (aG (memB pg A X n) (szN pg) satp st pr (vbE va))) 16) (IntKind.wrap .u32 (aG (memB pg A X n) (szN pg) satp st pr va)))))) (aG (memB pg A X n) (szN pg) satp st pr va)) false)
set_option maxRecDepth 100000 in
theorem road1 (pg : Int) (n : Nat) (A X : Nat → Int) (kind st c1 c2 c3 c4 c5 c6 c7 c8 satp c10 c11 pr how va x nn : Int) : ((call Try.prog Both73.X 400 20 [.agg [.int .u8 (.sym pg), .slice 0 (.lit 0) (.rc n 1 0) .any], .agg [.int .u8 (.sym kind), .int .u64 (.sym st), .int .u64 (.sym c1), .int .u64 (.sym c2), .int .u64 (.sym c3), .int .u64 (.sym c4), .int .u64 (.sym c5), .int .u64 (.sym c6), .int .u64 (.sym c7), .int .u64 (.sym c8), .int .u64 (.sym satp), .int .u64 (.sym c10), .int .u64 (.sym c11), .int .i64 (.sym pr), .int .i64 (.sym how), .int .u64 (.sym va), .int .u64 (.sym x), .int .u8 (.sym nn)]] [.rows 0 n [(.int .u32, A), (.int .u64, X)]]).route [true, true, true, false, true, true]).map (fun p => (p.1, p.2.1)) = some ([((!(cond (litCmp .lss (pgs pg) 1) true (litCmp .gtr (pgs pg) 16))) && ((decide (0 ≤ (litBin .mul .i64 (pgs pg) 4096) ∧ (litBin .mul .i64 (pgs pg) 4096) < ((16777216 : Nat) : Int))) && ((!(cond (litCmp .lss (pgs pg) 1) true (litCmp .gtr (pgs pg) 16))) && ((decide (0 ≤ (litBin .mul .i64 (pgs pg) 4096) ∧ (litBin .mul .i64 (pgs pg) 4096) < ((16777216 : Nat) : Int))) && (Both73.ask ⟨[0, pg, kind, st, c1, c2, c3, c4, c5, c6, c7, c8, satp, c10, c11, pr, how, va, x, nn, pg], [], [n, n, n, (szN pg), (szN pg), (szN pg), (szN pg), (szN pg), (szN pg)], [A, X, (fun _ => 0), (fun _ => 0)]⟩))))), (((aQ (memB pg A X n) (szN pg) satp st pr va) && (aM (memB pg A X n) (szN pg) satp st pr va)) && (cond (cond (aF (memB pg A X n) (szN pg) satp st pr va) true (litCmp .neq (litBin .and .u32 (IntKind.wrap .u32 (aG (memB pg A X n) (szN pg) satp st pr va)) 3) 3)) true ((aQ (memB pg A X n) (szN pg) satp st pr (vbE va)) && (aM (memB pg A X n) (szN pg) satp st pr (vbE va))))), (aQ (memB pg A X n) (szN pg) satp st pr va), (aF (memB pg A X n) (szN pg) satp st pr va), (aM (memB pg A X n) (szN pg) satp st pr va), (litCmp .neq (litBin .and .u64 (aG (memB pg A X n) (szN pg) satp st pr va) 3) 3)], .val (.bool (.sym (v1 pg n A X kind st c1 c2 c3 c4 c5 c6 c7 c8 satp c10 c11 pr how va x nn)))) := by kernel_rfl
noncomputable def v2 (pg : Int) (n : Nat) (A X : Nat → Int) (kind st c1 c2 c3 c4 c5 c6 c7 c8 satp c10 c11 pr how va x nn : Int) : Bool := (cond (((cond (cond (aF (memB pg A X n) (szN pg) satp st pr va) true (litCmp .neq (litBin .and .u32 (IntKind.wrap .u32 (aG (memB pg A X n) (szN pg) satp st pr va)) 3) 3)) (aF (memB pg A X n) (szN pg) satp st pr va) (cond (aF (memB pg A X n) (szN pg) satp st pr (vbE va)) (aF (memB pg A X n) (szN pg) satp st pr (vbE va)) (aF (memB pg A X n) (szN pg) satp st pr (vbE va)))) == (aF (memB pg A X n) (szN pg) satp st pr (vbE va))) && ((litCmp .eql (cond (cond (aF (memB pg A X n) (szN pg) satp st pr va) true (litCmp .neq (litBin .and .u32 (IntKind.wrap .u32 (aG (memB pg A X n) (szN pg) satp st pr va)) 3) 3)) (aC (memB pg A X n) (szN pg) satp st pr va) (cond (aF (memB pg A X n) (szN pg) satp st pr (vbE va)) (aC (memB pg A X n) (szN pg) satp st pr (vbE va)) (aC (memB pg A X n) (szN pg) satp st pr (vbE va)))) (aC (memB pg A X n) (szN pg) satp st pr (vbE va))) && (litCmp .eql (cond (cond (aF (memB pg A X n) (szN pg) satp st pr va) true (litCmp .neq (litBin .and .u32 (IntKind.wrap .u32 (aG (memB pg A X n) (szN pg) satp st pr va)) 3) 3)) (aV (memB pg A X n) (szN pg) satp st pr va) (cond (aF (memB pg A X n) (szN pg) satp st pr (vbE va)) (aV (memB pg A X n) (szN pg) satp st pr (vbE va)) (aV (memB pg A X n) (szN pg) satp st pr (vbE va)))) (aV (memB pg A X n) (szN pg) satp st pr (vbE va))))) (cond (litCmp .eql (cond (cond (aF (memB pg A X n) (szN pg) satp st pr va) true (litCmp .neq (litBin .and .u32 (IntKind.wrap .u32 (aG (memB pg A X n) (szN pg) satp st pr va)) 3) 3)) (IntKind.wrap .u32 (aG (memB pg A X n) (szN pg) satp st pr va)) (cond (aF (memB pg A X n) (szN pg) satp st pr (vbE va)) 0 (litBin .or .u32 (litBin .shl .u32 (IntKind.wrap .u32 (aG (memB pg A X n) (szN pg) satp st pr (vbE va))) 16) (IntKind.wrap .u32 (aG (memB pg A X n) (szN pg) satp st pr va))))) 0) (litCmp .eql (cond (cond (aF (memB pg A X n) (szN pg) satp st pr va) true (litCmp .neq (litBin .and .u32 (IntKind.wrap .u32 (aG (memB pg A X n) (szN pg) satp st pr va)) 3) 3)) (aV (memB pg A X n) (szN pg) satp st pr va) (cond (aF (memB pg A X n) (szN pg) satp st pr (vbE va)) (aV (memB pg A X n) (szN pg) satp st pr (vbE va)) (aV (memB pg A X n) (szN pg) satp st pr (vbE va)))) (vbE va)) false) false)
set_option maxRecDepth 100000 in
theorem road2 (pg : Int) (n : Nat) (A X : Nat → Int) (kind st c1 c2 c3 c4 c5 c6 c7 c8 satp c10 c11 pr how va x nn : Int) : ((call Try.prog Both73.X 400 20 [.agg [.int .u8 (.sym pg), .slice 0 (.lit 0) (.rc n 1 0) .any], .agg [.int .u8 (.sym kind), .int .u64 (.sym st), .int .u64 (.sym c1), .int .u64 (.sym c2), .int .u64 (.sym c3), .int .u64 (.sym c4), .int .u64 (.sym c5), .int .u64 (.sym c6), .int .u64 (.sym c7), .int .u64 (.sym c8), .int .u64 (.sym satp), .int .u64 (.sym c10), .int .u64 (.sym c11), .int .i64 (.sym pr), .int .i64 (.sym how), .int .u64 (.sym va), .int .u64 (.sym x), .int .u8 (.sym nn)]] [.rows 0 n [(.int .u32, A), (.int .u64, X)]]).route [true, true, true, false, true, false, true, true]).map (fun p => (p.1, p.2.1)) = some ([((!(cond (litCmp .lss (pgs pg) 1) true (litCmp .gtr (pgs pg) 16))) && ((decide (0 ≤ (litBin .mul .i64 (pgs pg) 4096) ∧ (litBin .mul .i64 (pgs pg) 4096) < ((16777216 : Nat) : Int))) && ((!(cond (litCmp .lss (pgs pg) 1) true (litCmp .gtr (pgs pg) 16))) && ((decide (0 ≤ (litBin .mul .i64 (pgs pg) 4096) ∧ (litBin .mul .i64 (pgs pg) 4096) < ((16777216 : Nat) : Int))) && (Both73.ask ⟨[0, pg, kind, st, c1, c2, c3, c4, c5, c6, c7, c8, satp, c10, c11, pr, how, va, x, nn, pg], [], [n, n, n, (szN pg), (szN pg), (szN pg), (szN pg), (szN pg), (szN pg)], [A, X, (fun _ => 0), (fun _ => 0)]⟩))))), (((aQ (memB pg A X n) (szN pg) satp st pr va) && (aM (memB pg A X n) (szN pg) satp st pr va)) && (cond (cond (aF (memB pg A X n) (szN pg) satp st pr va) true (litCmp .neq (litBin .and .u32 (IntKind.wrap .u32 (aG (memB pg A X n) (szN pg) satp st pr va)) 3) 3)) true ((aQ (memB pg A X n) (szN pg) satp st pr (vbE va)) && (aM (memB pg A X n) (szN pg) satp st pr (vbE va))))), (aQ (memB pg A X n) (szN pg) satp st pr va), (aF (memB pg A X n) (szN pg) satp st pr va), (aM (memB pg A X n) (szN pg) satp st pr va), (litCmp .neq (litBin .and .u64 (aG (memB pg A X n) (szN pg) satp st pr va) 3) 3), (aQ (memB pg A X n) (szN pg) satp st pr (vbE va)), (aF (memB pg A X n) (szN pg) satp st pr (vbE va))], .val (.bool (.sym (v2 pg n A X kind st c1 c2 c3 c4 c5 c6 c7 c8 satp c10 c11 pr how va x nn)))) := by kernel_rfl
noncomputable def v3 (pg : Int) (n : Nat) (A X : Nat → Int) (kind st c1 c2 c3 c4 c5 c6 c7 c8 satp c10 c11 pr how va x nn : Int) : Bool := (cond (!(cond (cond (aF (memB pg A X n) (szN pg) satp st pr va) true (litCmp .neq (litBin .and .u32 (IntKind.wrap .u32 (aG (memB pg A X n) (szN pg) satp st pr va)) 3) 3)) (aF (memB pg A X n) (szN pg) satp st pr va) (cond (aF (memB pg A X n) (szN pg) satp st pr (vbE va)) (aF (memB pg A X n) (szN pg) satp st pr (vbE va)) (aF (memB pg A X n) (szN pg) satp st pr (vbE va))))) (litCmp .eql (IntKind.wrap .u64 (cond (cond (aF (memB pg A X n) (szN pg) satp st pr va) true (litCmp .neq (litBin .and .u32 (IntKind.wrap .u32 (aG (memB pg A X n) (szN pg) satp st pr va)) 3) 3)) (IntKind.wrap .u32 (aG (memB pg A X n) (szN pg) satp st pr va)) (cond (aF (memB pg A X n) (szN pg) satp st pr (vbE va)) 0 (litBin .or .u32 (litBin .shl .u32 (IntKind.wrap .u32 (aG (memB pg A X n) (szN pg) satp st pr (vbE va))) 16) (IntKind.wrap .u32 (aG (memB pg A X n) (szN pg) satp st pr va)))))) (litBin .add .u64 (litBin .shl .u64 (aG (memB pg A X n) (szN pg) satp st pr (vbE va)) 16) (aG (memB pg A X n) (szN pg) satp st pr va))) false)
set_option maxRecDepth 100000 in
theorem road3 (pg : Int) (n : Nat) (A X : Nat → Int) (kind st c1 c2 c3 c4 c5 c6 c7 c8 satp c10 c11 pr how va x nn : Int) : ((call Try.prog Both73.X 400 20 [.agg [.int .u8 (.sym pg), .slice 0 (.lit 0) (.rc n 1 0) .any], .agg [.int .u8 (.sym kind), .int .u64 (.sym st), .int .u64 (.sym c1), .int .u64 (.sym c2), .int .u64 (.sym c3), .int .u64 (.sym c4), .int .u64 (.sym c5), .int .u64 (.sym c6), .int .u64 (.sym c7), .int .u64 (.sym c8), .int .u64 (.sym satp), .int .u64 (.sym c10), .int .u64 (.sym c11), .int .i64 (.sym pr), .int .i64 (.sym how), .int .u64 (.sym va), .int .u64 (.sym x), .int .u8 (.sym nn)]] [.rows 0 n [(.int .u32, A), (.int .u64, X)]]).route [true, true, true, false, true, false, true, false, true]).map (fun p => (p.1, p.2.1)) = some ([((!(cond (litCmp .lss (pgs pg) 1) true (litCmp .gtr (pgs pg) 16))) && ((decide (0 ≤ (litBin .mul .i64 (pgs pg) 4096) ∧ (litBin .mul .i64 (pgs pg) 4096) < ((16777216 : Nat) : Int))) && ((!(cond (litCmp .lss (pgs pg) 1) true (litCmp .gtr (pgs pg) 16))) && ((decide (0 ≤ (litBin .mul .i64 (pgs pg) 4096) ∧ (litBin .mul .i64 (pgs pg) 4096) < ((16777216 : Nat) : Int))) && (Both73.ask ⟨[0, pg, kind, st, c1, c2, c3, c4, c5, c6, c7, c8, satp, c10, c11, pr, how, va, x, nn, pg], [], [n, n, n, (szN pg), (szN pg), (szN pg), (szN pg), (szN pg), (szN pg)], [A, X, (fun _ => 0), (fun _ => 0)]⟩))))), (((aQ (memB pg A X n) (szN pg) satp st pr va) && (aM (memB pg A X n) (szN pg) satp st pr va)) && (cond (cond (aF (memB pg A X n) (szN pg) satp st pr va) true (litCmp .neq (litBin .and .u32 (IntKind.wrap .u32 (aG (memB pg A X n) (szN pg) satp st pr va)) 3) 3)) true ((aQ (memB pg A X n) (szN pg) satp st pr (vbE va)) && (aM (memB pg A X n) (szN pg) satp st pr (vbE va))))), (aQ (memB pg A X n) (szN pg) satp st pr va), (aF (memB pg A X n) (szN pg) satp st pr va), (aM (memB pg A X n) (szN pg) satp st pr va), (litCmp .neq (litBin .and .u64 (aG (memB pg A X n) (szN pg) satp st pr va) 3) 3), (aQ (memB pg A X n) (szN pg) satp st pr (vbE va)), (aF (memB pg A X n) (szN pg) satp st pr (vbE va)), (aM (memB pg A X n) (szN pg) satp st pr (vbE va))], .val (.bool (.sym (v3 pg n A X kind st c1 c2 c3 c4 c5 c6 c7 c8 satp c10 c11 pr how va x nn)))) := by kernel_rfl
theorem law {pg : Int} {n : Nat} {A X : Nat → Int} {kind st c1 c2 c3 c4 c5 c6 c7 c8 satp c10 c11 pr how va x nn : Int} (hpg : 0 ≤ pg ∧ pg < 256) (hX : ∀ j, j < n → inU (X j)) (hst : inU st) (hsatp : inU satp) (hva : inU va) :
    ∃ (ds cs : List Bool) (v : Bool), ((call Try.prog Both73.X 400 20 [.agg [.int .u8 (.sym pg), .slice 0 (.lit 0) (.rc n 1 0) .any], .agg [.int .u8 (.sym kind), .int .u64 (.sym st), .int .u64 (.sym c1), .int .u64 (.sym c2), .int .u64 (.sym c3), .int .u64 (.sym c4), .int .u64 (.sym c5), .int .u64 (.sym c6), .int .u64 (.sym c7), .int .u64 (.sym c8), .int .u64 (.sym satp), .int .u64 (.sym c10), .int .u64 (.sym c11), .int .i64 (.sym pr), .int .i64 (.sym how), .int .u64 (.sym va), .int .u64 (.sym x), .int .u8 (.sym nn)]] [.rows 0 n [(.int .u32, A), (.int .u64, X)]]).route ds).map (fun p => (p.1, p.2.1)) = some (cs, .val (.bool (.sym v))) ∧ cs = ds ∧ v = true := by
  have hm : MemOk (szN pg) (memB pg A X n) := memB_ok hpg
  have hvb : inU (vbE va) := inU.add _ _
  have pT : (!(cond (litCmp .lss (pgs pg) 1) true (litCmp .gtr (pgs pg) 16))) = true := by
    have := (pgT_f hpg).1
    unfold pgT at this
    rw [this]
    rfl
  have pU : decide (0 ≤ (litBin .mul .i64 (pgs pg) 4096) ∧ (litBin .mul .i64 (pgs pg) 4096) < ((16777216 : Nat) : Int)) = true := (pgT_f hpg).2
  have hask : Both73.ask ⟨[0, pg, kind, st, c1, c2, c3, c4, c5, c6, c7, c8, satp, c10, c11, pr, how, va, x, nn, pg], [], [n, n, n, szN pg, szN pg, szN pg, szN pg, szN pg, szN pg], [A, X, (fun _ => 0), (fun _ => 0)]⟩ = true :=
    yes_of ⟨pg, kind, st, c1, c2, c3, c4, c5, c6, c7, c8, satp, c10, c11, pr, how, va, x, nn, n, szN pg, 0, A, X, fun _ => 0, rfl, rfl, MemOk.zero (szN_eq hpg).2, hX, by omega, by omega⟩
  have qa : aQ (memB pg A X n) (szN pg) satp st pr va = true := aQ_t hm hsatp hst hva
  have qb : aQ (memB pg A X n) (szN pg) satp st pr (vbE va) = true := aQ_t hm hsatp hst hvb
  have ma : aM (memB pg A X n) (szN pg) satp st pr va = true := aM_t hm hva
  have mb : aM (memB pg A X n) (szN pg) satp st pr (vbE va) = true := aM_t hm hvb
  have ga : 0 ≤ aG (memB pg A X n) (szN pg) satp st pr va ∧ aG (memB pg A X n) (szN pg) satp st pr va < 65536 := aG_bd hm hva
  have gb : 0 ≤ aG (memB pg A X n) (szN pg) satp st pr (vbE va) ∧ aG (memB pg A X n) (szN pg) satp st pr (vbE va) < 65536 := aG_bd hm hvb
  have za : aF (memB pg A X n) (szN pg) satp st pr va = true → _ := aG_0 hm.le
  have vb : aF (memB pg A X n) (szN pg) satp st pr (vbE va) = true → _ := aV_t
  have hlow := low_same ga
  cases fa : aF (memB pg A X n) (szN pg) satp st pr va
  · cases hl : litCmp .neq (litBin .and .u64 (aG (memB pg A X n) (szN pg) satp st pr va) 3) 3
    · cases fb : aF (memB pg A X n) (szN pg) satp st pr (vbE va)
      · refine ⟨_, _, _, road3 pg n A X kind st c1 c2 c3 c4 c5 c6 c7 c8 satp c10 c11 pr how va x nn, ?_, ?_⟩
        · simp only [pT, pU, hask, qa, qb, ma, mb, fa, fb, hl, Bool.and_self, Bool.cond_self, cond_true, cond_false]
          try rfl
        · unfold v3
          rw [hlow, hl, fa, fb]
          simp only [cond_true, cond_false, Bool.not_false]
          rw [whole ga gb]
          exact eql_self _
      · refine ⟨_, _, _, road2 pg n A X kind st c1 c2 c3 c4 c5 c6 c7 c8 satp c10 c11 pr how va x nn, ?_, ?_⟩
        · simp only [pT, pU, hask, qa, qb, ma, mb, fa, fb, hl, Bool.and_self, Bool.cond_self, cond_true, cond_false]
          try rfl
        · unfold v2
          rw [hlow, hl, fa, fb, vb fb]
          simp only [cond_true, cond_false, Bool.not_false, eql_self, beq_self_eq_true, Bool.and_self]
          try exact eql_self _
    · refine ⟨_, _, _, road1 pg n A X kind st c1 c2 c3 c4 c5 c6 c7 c8 satp c10 c11 pr how va x nn, ?_, ?_⟩
      · simp only [pT, pU, hask, qa, qb, ma, mb, fa, hl, Bool.and_self, Bool.cond_self, cond_true, cond_false]
        try rfl
      · unfold v1
        rw [hlow, hl, fa]
        simp only [cond_true, cond_false, Bool.not_false]
        rw [low_wrap ga]
        exact eql_self _
  · refine ⟨_, _, _, road0 pg n A X kind st c1 c2 c3 c4 c5 c6 c7 c8 satp c10 c11 pr how va x nn, ?_, ?_⟩
    · simp only [pT, pU, hask, qa, qb, ma, mb, fa, Bool.and_self, Bool.cond_self, cond_true, cond_false]
      try rfl
    · unfold v0
      rw [fa, za fa, low_zero]
      simp only [cond_true, cond_false, eql_self, beq_self_eq_true, Bool.and_self]
      try exact eql_self _

theorem run : ∀ xs h, Abs [.duo [.int .u8] [.int .u32, .int .u64], .plain (.agg [.int .u8, .int .u64, .int .u64, .int .u64, .int .u64, .int .u64, .int .u64, .int .u64, .int .u64, .int .u64, .int .u64, .int .u64, .int .u64, .int .i64, .int .i64, .int .u64, .int .u64, .int .u8])] 0 xs h → ∃ b l, (call Try.prog Both73.X 400 20 xs h).pick = some (.val (.bool b), l) ∧ b.den = true := by
  rintro xs h ⟨cs, n, fs, as0, h0, rfl, rfl, ⟨_, _, rfl, ⟨pg, rfl, wpg⟩, rfl⟩, hrow, ⟨_, as1, rfl, ⟨_, rfl, ⟨_, _, rfl, ⟨kind, rfl, wkind⟩, ⟨_, _, rfl, ⟨st, rfl, wst⟩, ⟨_, _, rfl, ⟨c1, rfl, wc1⟩, ⟨_, _, rfl, ⟨c2, rfl, wc2⟩, ⟨_, _, rfl, ⟨c3, rfl, wc3⟩, ⟨_, _, rfl, ⟨c4, rfl, wc4⟩, ⟨_, _, rfl, ⟨c5, rfl, wc5⟩, ⟨_, _, rfl, ⟨c6, rfl, wc6⟩, ⟨_, _, rfl, ⟨c7, rfl, wc7⟩, ⟨_, _, rfl, ⟨c8, rfl, wc8⟩, ⟨_, _, rfl, ⟨satp, rfl, wsatp⟩, ⟨_, _, rfl, ⟨c10, rfl, wc10⟩, ⟨_, _, rfl, ⟨c11, rfl, wc11⟩, ⟨_, _, rfl, ⟨pr, rfl, wpr⟩, ⟨_, _, rfl, ⟨how, rfl, whow⟩, ⟨_, _, rfl, ⟨va, rfl, wva⟩, ⟨_, _, rfl, ⟨x, rfl, wx⟩, ⟨_, _, rfl, ⟨nn, rfl, wnn⟩, rfl⟩⟩⟩⟩⟩⟩⟩⟩⟩⟩⟩⟩⟩⟩⟩⟩⟩⟩⟩, rfl, rfl⟩⟩
  obtain ⟨hn, hlen, hF⟩ := hrow
  match fs, hlen with
  | [A, X], _ =>
    obtain ⟨ds, cs, v, hr, hcs, hv⟩ := law (n := n) (A := A) (X := X) (kind := kind) (st := st) (c1 := c1) (c2 := c2) (c3 := c3) (c4 := c4) (c5 := c5) (c6 := c6) (c7 := c7) (c8 := c8) (satp := satp) (c10 := c10) (c11 := c11) (pr := pr) (how := how) (va := va) (x := x) (nn := nn) (wf8 wpg) (fun j hj => inU_wf (hF 1 .u64 X rfl rfl j hj)) (inU_wf wst) (inU_wf wsatp) (inU_wf wva)
    exact (road_at hr hcs).elim fun l hl => ⟨.sym _, l, hl, hv⟩

set_option maxRecDepth 100000 in
theorem lifted (os : Os) (started : os.Started) (H : Type) (enc : TypeId × Value → H) :
    ReturnsInHanded {} Try.checked os 20 .any (Rows.spaceFetchesSpec.pre6 enc Try.prog Try.f20 Rows.spaceFetchesRow.domain false) (Rows.spaceFetchesSpec.post enc Try.prog Try.f20 false true false false) := by
  refine returnsInHanded_of_change (C := Try.checked) own started (by kernel_rfl) Try.func20
    (ChangeSpec.witness6 (enc := enc) (C := Try.checked) false ⟨#[], #[.agg #[.int .u8 0, .slice none 0 0], .agg #[.int .u8 0, .int .u64 0, .int .u64 0, .int .u64 0, .int .u64 0, .int .u64 0, .int .u64 0, .int .u64 0, .int .u64 0, .int .u64 0, .int .u64 0, .int .u64 0, .int .u64 0, .int .i64 0, .int .i64 0, .int .u64 0, .int .u64 0, .int .u8 0]], []⟩ 8 (by kernel_rfl) (by kernel_rfl) (by kernel_rfl) (by kernel_rfl)) ?_
  intro W base args ds gs before hval hW _ _
  exact lifted_rows (P := Try.prog) (f := 20) (fn := Try.f20) (s := Rows.spaceFetchesSpec) Both73.X_ok (n := 400) rfl
    (fun ds h => by
      match ds, h with
      | [d1, d2], _ => rfl)
    (by kernel_rfl) rfl (by kernel_rfl) (by kernel_rfl) (by kernel_rfl) run W base args ds gs before hval hW
theorem closed : joinedFacts Try.prog 20 Try.f20 Rows.spaceFetchesSpec Rows.spaceFetchesRow = true := by
  unfold joinedFacts
  rw [may_enter, lifts_final, make_cut]
  repeat' (with_reducible refine Bool.and_eq_true_iff.mpr ⟨?_, ?_⟩)
  all_goals kernel_rfl

theorem over : Rows.spaceFetchesRow.holds Try.pinned (OpenSpec.ofChange Rows.spaceFetchesSpec) :=
  OpenClaim.holds_of_wide 20 Try.f20 rfl rfl rfl rfl rfl rfl rfl ⟨rfl, rfl, rfl, rfl, rfl⟩ rfl rfl rfl rfl rfl (by kernel_rfl) Try.func20 closed
    (of_decide_eq_true (by kernel_rfl)) (by unfold Func.isWrapper; first | (rw [if_pos (by decide +kernel)]; kernel_rfl) | (rw [if_neg (by decide +kernel)]; exact ⟨rfl, rfl⟩))
    (fun os started H enc _ => lifted os started H enc)

/-- The statement. -/
theorem proved : Rows.SpaceFetchesSaid :=
  over
#print axioms proved
end Go.Proofs.Ytngcbpcfgolifaa.SpaceFetches
