/- The statement 'WalkMay': where there is no fault the entry lets what is done, and the address is within its page; that a fault is of the kind and address that were asked for; that without a table there is none; and that nothing is written. Conditions: none. -/
import Derived.Test.YtngcbpcfgolifaaStrs
import Derived.Test.YtngcbpcfgolifaaHead
namespace Go.Proofs.Ytngcbpcfgolifaa.WalkMay
open Go.RowKit Go.WideShapes Go.ChangeShapes Go.ChangeAt Ev
set_option linter.unusedVariables false
set_option linter.unusedSimpArgs false

noncomputable def test0 (pg : Int) (n : Nat) (A X : Nat → Int) (st : Int) (c1 : Int) (c2 : Int) (c3 : Int) (c4 : Int) (c5 : Int) (c6 : Int) (c7 : Int) (c8 : Int) (satp : Int) (c10 : Int) (c11 : Int) (pr : Int) (k : Int) (va : Int) : Bool := ((askB pg n n X) && ((askW (szN pg) (szN pg) (szN pg) (memB pg A X n) satp st va) && ((askW (szN pg) (szN pg) (szN pg) (memB pg A X n) satp st va) && ((askP (szN pg) (szN pg) 2147483648 (((szN pg) : Nat) : Int)) && (cond (okS (szN pg) 2147483648 (((szN pg) : Nat) : Int)) (((decide (((off 2147483648) + (Int.toNat (((szN pg) : Nat) : Int))) ≤ (szN pg))) && (decide ((Int.toNat (((szN pg) : Nat) : Int)) < 16777216))) && (((decide ((0 + (Int.toNat (((szN pg) : Nat) : Int))) ≤ (Int.toNat (((szN pg) : Nat) : Int)))) && (decide ((0 + (szN pg)) ≤ (szN pg)))) && (cond (cond (!((decide ((Int.toNat (((szN pg) : Nat) : Int)) = (szN pg))) && (eqF (byteF (blitF (fun _ => 0) 0 (memB pg A X n) (off 2147483648) (Int.toNat (((szN pg) : Nat) : Int)))) 0 (byteF (memB pg A X n)) 0 (Int.toNat (((szN pg) : Nat) : Int))))) true (!(((isW (memB pg A X n) (szN pg) satp st pr k va) == (isW (memB pg A X n) (szN pg) satp st pr k va)) && ((litCmp .eql (cauW (memB pg A X n) (szN pg) satp st pr k va) (cauW (memB pg A X n) (szN pg) satp st pr k va)) && (litCmp .eql (valW (memB pg A X n) (szN pg) satp st pr k va) (valW (memB pg A X n) (szN pg) satp st pr k va)))))) true (cond (isW (memB pg A X n) (szN pg) satp st pr k va) true (cond (!(litCmp .eql (litBin .shr .u64 satp 60) 8)) true ((yes (inU (pteW (memB pg A X n) (szN pg) satp st pr k va) ∧ inU st)) && ((!(litCmp .lss (litBin .mul .i64 9 (lvW (memB pg A X n) (szN pg) satp st pr k va)) 0)) && (cond (mayS (pteW (memB pg A X n) (szN pg) satp st pr k va) k pr st) (cond (litCmp .geq (lvW (memB pg A X n) (szN pg) satp st pr k va) 0) (cond (litCmp .leq (lvW (memB pg A X n) (szN pg) satp st pr k va) 2) ((!(litCmp .eql (litBin .shl .u64 4096 (litBin .mul .i64 9 (lvW (memB pg A X n) (szN pg) satp st pr k va))) 0)) && ((!(litCmp .eql (litBin .shl .u64 4096 (litBin .mul .i64 9 (lvW (memB pg A X n) (szN pg) satp st pr k va))) 0)) && (cond (litCmp .eql (litBin .rem .u64 (toW (memB pg A X n) (szN pg) satp st pr k va) (litBin .shl .u64 4096 (litBin .mul .i64 9 (lvW (memB pg A X n) (szN pg) satp st pr k va)))) (litBin .rem .u64 va (litBin .shl .u64 4096 (litBin .mul .i64 9 (lvW (memB pg A X n) (szN pg) satp st pr k va))))) ((yes (inU (pteW (memB pg A X n) (szN pg) satp st pr k va))) && (cond (litCmp .geq (litBin .quo .u64 (toW (memB pg A X n) (szN pg) satp st pr k va) 4096) (pagS (pteW (memB pg A X n) (szN pg) satp st pr k va))) (yes (inU (pteW (memB pg A X n) (szN pg) satp st pr k va))) true)) true))) true) true) true)))))))) true)))))
noncomputable def val (pg : Int) (n : Nat) (A X : Nat → Int) (st : Int) (c1 : Int) (c2 : Int) (c3 : Int) (c4 : Int) (c5 : Int) (c6 : Int) (c7 : Int) (c8 : Int) (satp : Int) (c10 : Int) (c11 : Int) (pr : Int) (k : Int) (va : Int) : Bool := (cond (okS (szN pg) 2147483648 (((szN pg) : Nat) : Int)) (cond (cond (!((decide ((Int.toNat (((szN pg) : Nat) : Int)) = (szN pg))) && (eqF (byteF (blitF (fun _ => 0) 0 (memB pg A X n) (off 2147483648) (Int.toNat (((szN pg) : Nat) : Int)))) 0 (byteF (memB pg A X n)) 0 (Int.toNat (((szN pg) : Nat) : Int))))) true (!(((isW (memB pg A X n) (szN pg) satp st pr k va) == (isW (memB pg A X n) (szN pg) satp st pr k va)) && ((litCmp .eql (cauW (memB pg A X n) (szN pg) satp st pr k va) (cauW (memB pg A X n) (szN pg) satp st pr k va)) && (litCmp .eql (valW (memB pg A X n) (szN pg) satp st pr k va) (valW (memB pg A X n) (szN pg) satp st pr k va)))))) false (cond (isW (memB pg A X n) (szN pg) satp st pr k va) (cond (litCmp .eql (litBin .shr .u64 satp 60) 8) (cond (litCmp .eql (toW (memB pg A X n) (szN pg) satp st pr k va) 0) (cond (((isW (memB pg A X n) (szN pg) satp st pr k va) == true) && ((litCmp .eql (cauW (memB pg A X n) (szN pg) satp st pr k va) (cauS k 12 15 13)) && (litCmp .eql (valW (memB pg A X n) (szN pg) satp st pr k va) va))) true (((isW (memB pg A X n) (szN pg) satp st pr k va) == true) && ((litCmp .eql (cauW (memB pg A X n) (szN pg) satp st pr k va) (cauS k 1 7 5)) && (litCmp .eql (valW (memB pg A X n) (szN pg) satp st pr k va) va)))) false) false) (cond (!(litCmp .eql (litBin .shr .u64 satp 60) 8)) (cond (litCmp .eql (toW (memB pg A X n) (szN pg) satp st pr k va) va) (litCmp .eql (pteW (memB pg A X n) (szN pg) satp st pr k va) 0) false) (cond (mayS (pteW (memB pg A X n) (szN pg) satp st pr k va) k pr st) (cond (litCmp .geq (lvW (memB pg A X n) (szN pg) satp st pr k va) 0) (cond (litCmp .leq (lvW (memB pg A X n) (szN pg) satp st pr k va) 2) (cond (litCmp .eql (litBin .rem .u64 (toW (memB pg A X n) (szN pg) satp st pr k va) (litBin .shl .u64 4096 (litBin .mul .i64 9 (lvW (memB pg A X n) (szN pg) satp st pr k va)))) (litBin .rem .u64 va (litBin .shl .u64 4096 (litBin .mul .i64 9 (lvW (memB pg A X n) (szN pg) satp st pr k va))))) (cond (litCmp .geq (litBin .quo .u64 (toW (memB pg A X n) (szN pg) satp st pr k va) 4096) (pagS (pteW (memB pg A X n) (szN pg) satp st pr k va))) (litCmp .lss (litBin .sub .u64 (toW (memB pg A X n) (szN pg) satp st pr k va) (litBin .mul .u64 (pagS (pteW (memB pg A X n) (szN pg) satp st pr k va)) 4096)) (litBin .shl .u64 4096 (litBin .mul .i64 9 (lvW (memB pg A X n) (szN pg) satp st pr k va)))) false) false) false) false) false)))) false)
set_option maxRecDepth 100000 in
theorem road (pg : Int) (n : Nat) (A X : Nat → Int) (st : Int) (c1 : Int) (c2 : Int) (c3 : Int) (c4 : Int) (c5 : Int) (c6 : Int) (c7 : Int) (c8 : Int) (satp : Int) (c10 : Int) (c11 : Int) (pr : Int) (k : Int) (va : Int) : ((call Try.prog cxl 400 12 [.agg [.int .u8 (.sym pg), .slice 0 (.lit 0) (.rc n 1 0) .any], .agg [.int .u64 (.sym st), .int .u64 (.sym c1), .int .u64 (.sym c2), .int .u64 (.sym c3), .int .u64 (.sym c4), .int .u64 (.sym c5), .int .u64 (.sym c6), .int .u64 (.sym c7), .int .u64 (.sym c8), .int .u64 (.sym satp), .int .u64 (.sym c10), .int .u64 (.sym c11), .int .i64 (.sym pr), .int .i64 (.sym k), .int .u64 (.sym va)]] [.rows 0 n [(.int .u32, A), (.int .u64, X)]]).route [true]).map (fun p => (p.1, p.2.1)) = some ([test0 pg n A X st c1 c2 c3 c4 c5 c6 c7 c8 satp c10 c11 pr k va], .val (.bool (.sym (val pg n A X st c1 c2 c3 c4 c5 c6 c7 c8 satp c10 c11 pr k va)))) := by kernel_rfl
theorem cau_ind {F : Nat → Int} {N : Nat} {satp st pr k va : Int} (h : isW F N satp st pr k va = true) : cauW F N satp st pr k va = cauS k 12 15 13 ∨ cauW F N satp st pr k va = cauS k 1 7 5 := by
  revert h
  unfold isW cauW outW outP
  generalize bad (en2 F N (root satp) va) 2 st pr k = q2
  generalize bad (en1 F N (root satp) va) 1 st pr k = q1
  generalize bad (en0 F N (root satp) va) 0 st pr k = q0
  generalize leafS (en2 F N (root satp) va) = l2
  generalize leafS (en1 F N (root satp) va) = l1
  generalize leafS (en0 F N (root satp) va) = l0
  generalize tabS (en2 F N (root satp) va) = t2
  generalize tabS (en1 F N (root satp) va) = t1
  generalize k2 N (root satp) va = a2
  generalize k1 F N (root satp) va = a1
  generalize k0 F N (root satp) va = a0
  generalize canS va = cn
  generalize np satp = n
  generalize cauS k 12 15 13 = x
  generalize cauS k 1 7 5 = y
  intro h
  cases n
  · cases cn
    · exact .inl rfl
    · cases a2
      · exact .inr rfl
      · cases l2
        · cases t2
          · exact .inl rfl
          · cases a1
            · exact .inr rfl
            · cases l1
              · cases t1
                · exact .inl rfl
                · cases a0
                  · exact .inr rfl
                  · cases l0
                    · exact .inl rfl
                    · cases q0
                      · cases h
                      · exact .inl rfl
              · cases q1
                · cases h
                · exact .inl rfl
        · cases q2
          · cases h
          · exact .inl rfl
  · cases h
theorem is_val {F : Nat → Int} {N : Nat} {satp st pr k va : Int} (h : isW F N satp st pr k va = true) : valW F N satp st pr k va = va := by
  revert h
  unfold isW valW outW outP
  generalize bad (en2 F N (root satp) va) 2 st pr k = q2
  generalize bad (en1 F N (root satp) va) 1 st pr k = q1
  generalize bad (en0 F N (root satp) va) 0 st pr k = q0
  generalize leafS (en2 F N (root satp) va) = l2
  generalize leafS (en1 F N (root satp) va) = l1
  generalize leafS (en0 F N (root satp) va) = l0
  generalize tabS (en2 F N (root satp) va) = t2
  generalize tabS (en1 F N (root satp) va) = t1
  generalize k2 N (root satp) va = a2
  generalize k1 F N (root satp) va = a1
  generalize k0 F N (root satp) va = a0
  generalize canS va = cn
  generalize np satp = n
  intro h
  cases n
  · cases cn
    · rfl
    · cases a2
      · rfl
      · cases l2
        · cases t2
          · rfl
          · cases a1
            · rfl
            · cases l1
              · cases t1
                · rfl
                · cases a0
                  · rfl
                  · cases l0
                    · rfl
                    · cases q0
                      · cases h
                      · rfl
              · cases q1
                · cases h
                · rfl
        · cases q2
          · cases h
          · rfl
  · cases h
theorem lv_kno {F : Nat → Int} {N : Nat} {satp st pr k va : Int} : kno (lvW F N satp st pr k va) = true :=
  outW_ind (fun v => kno v = true) rfl rfl rfl rfl rfl rfl
theorem subu (x y : Int) : litBin .sub .u64 x y = (x - y) % 18446744073709551616 := wrap64 _
theorem addu (x y : Int) : litBin .add .u64 x y = (x + y) % 18446744073709551616 := wrap64 _
theorem out_leaf {F : Nat → Int} {N : Nat} {satp st pr k va : Int} (hn : np satp = false) (h : isW F N satp st pr k va = false) :
    (pteW F N satp st pr k va = en2 F N (root satp) va ∧ lvW F N satp st pr k va = 2 ∧ bad (en2 F N (root satp) va) 2 st pr k = false) ∨
    (pteW F N satp st pr k va = en1 F N (root satp) va ∧ lvW F N satp st pr k va = 1 ∧ bad (en1 F N (root satp) va) 1 st pr k = false) ∨
    (pteW F N satp st pr k va = en0 F N (root satp) va ∧ lvW F N satp st pr k va = 0 ∧ bad (en0 F N (root satp) va) 0 st pr k = false) := by
  revert h
  unfold isW pteW lvW outW outP
  rw [hn]
  generalize bad (en2 F N (root satp) va) 2 st pr k = q2
  generalize bad (en1 F N (root satp) va) 1 st pr k = q1
  generalize bad (en0 F N (root satp) va) 0 st pr k = q0
  generalize leafS (en2 F N (root satp) va) = l2
  generalize leafS (en1 F N (root satp) va) = l1
  generalize leafS (en0 F N (root satp) va) = l0
  generalize tabS (en2 F N (root satp) va) = t2
  generalize tabS (en1 F N (root satp) va) = t1
  generalize k2 N (root satp) va = a2
  generalize k1 F N (root satp) va = a1
  generalize k0 F N (root satp) va = a0
  generalize canS va = cn
  intro h
  cases cn
  · cases h
  · cases a2
    · cases h
    · cases l2
      · cases t2
        · cases h
        · cases a1
          · cases h
          · cases l1
            · cases t1
              · cases h
              · cases a0
                · cases h
                · cases l0
                  · cases h
                  · cases q0
                    · exact .inr (.inr ⟨rfl, rfl, rfl⟩)
                    · cases h
            · cases q1
              · exact .inr (.inl ⟨rfl, rfl, rfl⟩)
              · cases h
      · cases q2
        · exact .inl ⟨rfl, rfl, rfl⟩
        · cases h
theorem ali_low {e lv : Int} (he : inU e) (hk : kno lv = true) (ha : aliS e lv = true) : pagS e % (sz lv / 4096) = 0 := by
  have hp := pag_inU he
  unfold aliS at ha
  rw [hk, cond_true, eql_eq] at ha
  have ha := of_decide_eq_true ha
  rcases kno_cases hk with rfl | rfl | rfl
  · show pagS e % 1 = 0
    omega
  · have h1 : litBin .and .u64 (pagS e) 511 = pagS e % 512 := and_low hp 9 (by decide)
    have h2 : litBin .and .u64 (pagS e) 511 = 0 := ha
    show pagS e % 512 = 0
    rw [← h1, h2]
  · have h1 : litBin .and .u64 (pagS e) 262143 = pagS e % 262144 := and_low hp 18 (by decide)
    have h2 : litBin .and .u64 (pagS e) 262143 = 0 := ha
    show pagS e % 262144 = 0
    rw [← h1, h2]
theorem ali_at {e va lv : Int} (he : inU e) (hv : inU va) (hk : kno lv = true) (ha : aliS e lv = true) : atS e va lv = pagS e * 4096 + va % sz lv := by
  have h := ali_low he hk ha
  rw [at_val he hv hk]
  generalize pagS e = p at *
  rcases kno_cases hk with rfl | rfl | rfl
  · have h' : p % 1 = 0 := h
    show p * 4096 / 4096 * 4096 + va % 4096 = p * 4096 + va % 4096
    omega
  · have h' : p % 512 = 0 := h
    show p * 4096 / 2097152 * 2097152 + va % 2097152 = p * 4096 + va % 2097152
    omega
  · have h' : p % 262144 = 0 := h
    show p * 4096 / 1073741824 * 1073741824 + va % 1073741824 = p * 4096 + va % 1073741824
    omega
theorem bad_parts {e lv st pr k : Int} (h : bad e lv st pr k = false) : aliS e lv = true ∧ mayS e k pr st = true := by
  revert h
  unfold bad
  generalize aliS e lv = x
  generalize mayS e k pr st = y
  cases x <;> cases y <;> intro h <;> first | exact ⟨rfl, rfl⟩ | cases h
theorem shl_sz {lv : Int} (hk : kno lv = true) : litBin .shl .u64 4096 (litBin .mul .i64 9 lv) = sz lv := by
  rcases kno_cases hk with rfl | rfl | rfl <;> rfl
theorem sz_pos (lv : Int) : 0 < sz lv ∧ sz lv ≤ 1073741824 := by
  unfold sz
  cases decide (lv = 0) <;> cases decide (lv = 1) <;> decide
theorem leaf_val {F : Nat → Int} {N : Nat} {satp st pr k va : Int} (hm : MemOk N F) (hv : inU va) (hn : np satp = false) (h : isW F N satp st pr k va = false) :
    mayS (pteW F N satp st pr k va) k pr st = true ∧ toW F N satp st pr k va = pagS (pteW F N satp st pr k va) * 4096 + va % sz (lvW F N satp st pr k va) := by
  have hb : bad (pteW F N satp st pr k va) (lvW F N satp st pr k va) st pr k = false := by
    rcases out_leaf hn h with ⟨e1, e2, e3⟩ | ⟨e1, e2, e3⟩ | ⟨e1, e2, e3⟩ <;> rw [e1, e2] <;> exact e3
  obtain ⟨h1, h2⟩ := bad_parts hb
  refine ⟨h2, ?_⟩
  unfold toW
  rw [h, hn]
  exact ali_at (pteW_inU hm) hv lv_kno h1
theorem leaf_end {p va lv at' : Int} (hp : 0 ≤ p ∧ p < 17592186044416) (hv : inU va) (hk : kno lv = true) (h : at' = p * 4096 + va % sz lv) (hal : p % (sz lv / 4096) = 0) :
    litCmp .eql (litBin .rem .u64 at' (sz lv)) (litBin .rem .u64 va (sz lv)) = true ∧ litCmp .geq (litBin .quo .u64 at' 4096) p = true ∧ litCmp .lss (litBin .sub .u64 at' (litBin .mul .u64 p 4096)) (sz lv) = true := by
  have hz := sz_pos lv
  have h0 : 0 ≤ va % sz lv := Int.emod_nonneg _ (by omega)
  have h1 : va % sz lv < sz lv := Int.emod_lt_of_pos _ hz.1
  have hat : inU at' := by rw [h]; unfold inU; omega
  have e1 : litBin .quo .u64 at' 4096 = at' / 4096 := by
    show IntKind.u64.wrap (at'.tdiv 4096) = _
    rw [Int.tdiv_eq_ediv_of_nonneg hat.1, Ev.wrap64]
    unfold inU at hat
    omega
  rw [rem_emod hat, rem_emod hv, e1, eql_eq, geq_eq, lss_eq, subu, mulu]
  refine ⟨decide_eq_true ?_, decide_eq_true ?_, decide_eq_true ?_⟩
  · rw [h]
    rcases kno_cases hk with rfl | rfl | rfl
    · show (p * 4096 + va % 4096) % 4096 = va % 4096
      omega
    · have hal' : p % 512 = 0 := hal
      show (p * 4096 + va % 2097152) % 2097152 = va % 2097152
      omega
    · have hal' : p % 262144 = 0 := hal
      show (p * 4096 + va % 1073741824) % 1073741824 = va % 1073741824
      omega
  · omega
  · omega
theorem szN_bound {pg : Int} (hpg : 0 ≤ pg ∧ pg < 256) : 4096 ≤ szN pg ∧ szN pg ≤ 65536 := by
  obtain ⟨h1, h2⟩ := szN_eq hpg
  obtain ⟨h3, h4⟩ := pgs_in hpg
  omega

theorem law {pg : Int} {n : Nat} {A X : Nat → Int} {st : Int} {c1 : Int} {c2 : Int} {c3 : Int} {c4 : Int} {c5 : Int} {c6 : Int} {c7 : Int} {c8 : Int} {satp : Int} {c10 : Int} {c11 : Int} {pr : Int} {k : Int} {va : Int} (hpg : 0 ≤ pg ∧ pg < 256) (hA : ∀ j, j < n → 0 ≤ A j ∧ A j < 4294967296) (hX : ∀ j, j < n → inU (X j)) (wst : (Lit.int .u64 st).wf = true) (wc1 : (Lit.int .u64 c1).wf = true) (wc2 : (Lit.int .u64 c2).wf = true) (wc3 : (Lit.int .u64 c3).wf = true) (wc4 : (Lit.int .u64 c4).wf = true) (wc5 : (Lit.int .u64 c5).wf = true) (wc6 : (Lit.int .u64 c6).wf = true) (wc7 : (Lit.int .u64 c7).wf = true) (wc8 : (Lit.int .u64 c8).wf = true) (wsatp : (Lit.int .u64 satp).wf = true) (wc10 : (Lit.int .u64 c10).wf = true) (wc11 : (Lit.int .u64 c11).wf = true) (wpr : (Lit.int .i64 pr).wf = true) (wk : (Lit.int .i64 k).wf = true) (wva : (Lit.int .u64 va).wf = true) :
    test0 pg n A X st c1 c2 c3 c4 c5 c6 c7 c8 satp c10 c11 pr k va = true ∧ val pg n A X st c1 c2 c3 c4 c5 c6 c7 c8 satp c10 c11 pr k va = true := by
  have hm : MemOk (szN pg) (memB pg A X n) := memB_ok hpg
  have hv := inU_wf wva
  have hs := inU_wf wst
  obtain ⟨hN1, hN2⟩ := szN_bound hpg
  have hB : askB pg n n X = true := askB_of hpg hX
  have hW := askW_of (st := st) (satp := satp) (va := va) hm (inU_wf wsatp) hs hv
  have hfin : isW (memB pg A X n) (szN pg) satp st pr k va = false → np satp = false → _ := fun h1 h2 => leaf_val hm hv h2 h1
  have hpte : inU (pteW (memB pg A X n) (szN pg) satp st pr k va) := pteW_inU hm
  have hlv : kno (lvW (memB pg A X n) (szN pg) satp st pr k va) = true := lv_kno
  have hnp1 : np satp = true → isW (memB pg A X n) (szN pg) satp st pr k va = false := fun h => outW_np h
  have hnp2 : np satp = true → pteW (memB pg A X n) (szN pg) satp st pr k va = 0 := fun h => outW_np h
  have hnp3 : np satp = true → toW (memB pg A X n) (szN pg) satp st pr k va = va := fun h => by unfold toW; rw [hnp1 h, h]; rfl
  have his1 : isW (memB pg A X n) (szN pg) satp st pr k va = true → toW (memB pg A X n) (szN pg) satp st pr k va = 0 := fun h => by unfold toW; rw [h]; rfl
  have hal : isW (memB pg A X n) (szN pg) satp st pr k va = false → np satp = false → pagS (pteW (memB pg A X n) (szN pg) satp st pr k va) % (sz (lvW (memB pg A X n) (szN pg) satp st pr k va) / 4096) = 0 := fun h1 h2 => by
    have hb : bad (pteW (memB pg A X n) (szN pg) satp st pr k va) (lvW (memB pg A X n) (szN pg) satp st pr k va) st pr k = false := by
      rcases out_leaf h2 h1 with ⟨e1, e2, e3⟩ | ⟨e1, e2, e3⟩ | ⟨e1, e2, e3⟩ <;> rw [e1, e2] <;> exact e3
    exact ali_low hpte hlv (bad_parts hb).1
  have hcau : isW (memB pg A X n) (szN pg) satp st pr k va = true → _ := cau_ind
  have hval : isW (memB pg A X n) (szN pg) satp st pr k va = true → _ := is_val
  have hsame := same_bytes (memB pg A X n) (szN pg)
  have hpage := pag_inU hpte
  have hpage2 : 0 ≤ pagS (pteW (memB pg A X n) (szN pg) satp st pr k va) ∧ pagS (pteW (memB pg A X n) (szN pg) satp st pr k va) < 17592186044416 := by rw [pag_val hpte]; omega
  have hnpe : litCmp .eql (litBin .shr .u64 satp 60) 8 = !(np satp) := by unfold np; rw [Bool.not_not]
  have y1 : yes (inU (pteW (memB pg A X n) (szN pg) satp st pr k va) ∧ inU st) = true := yes_of ⟨hpte, hs⟩
  have y2 : yes (inU (pteW (memB pg A X n) (szN pg) satp st pr k va)) = true := yes_of hpte
  unfold test0 val
  generalize memB pg A X n = F at *
  generalize szN pg = N at *
  generalize isW F N satp st pr k va = i at *
  generalize pteW F N satp st pr k va = e at *
  generalize lvW F N satp st pr k va = lv at *
  generalize toW F N satp st pr k va = to at *
  generalize cauW F N satp st pr k va = cu at *
  generalize valW F N satp st pr k va = vl at *
  generalize mayS e k pr st = my at *
  have hi8 : inI ((N : Nat) : Int) := by unfold inI; omega
  have p1 : askP N N 2147483648 ((N : Nat) : Int) = true := yes_of ⟨rfl, hN2, by unfold inU; omega, hi8⟩
  have p2 : okS N 2147483648 ((N : Nat) : Int) = true := decide_eq_true (by omega)
  have p3 : off 2147483648 = 0 := by decide +kernel
  have d3 : decide (N ≤ N) = true := decide_eq_true (Nat.le_refl _)
  have d4 : decide (N < 16777216) = true := decide_eq_true (by omega)
  have d5 : decide (N = N) = true := decide_eq_true rfl
  have hz := sz_pos lv
  have s0 := shl_sz hlv
  have s1 : litCmp .eql (sz lv) 0 = false := by rw [eql_eq]; exact decide_eq_false (by omega)
  have s2 : litCmp .lss (litBin .mul .i64 9 lv) 0 = false := by rcases kno_cases hlv with rfl | rfl | rfl <;> rfl
  have s3 : litCmp .geq lv 0 = true := by rcases kno_cases hlv with rfl | rfl | rfl <;> rfl
  have s4 : litCmp .leq lv 2 = true := by rcases kno_cases hlv with rfl | rfl | rfl <;> rfl
  refine ⟨?_, ?_⟩
  · simp only [Int.toNat_natCast, Nat.zero_add, p1, p2, p3, d3, d4, d5, hB, hW, hsame, y1, y2, s0, s1, s2, s3, s4, cond_true, cond_false, Bool.and_true, Bool.true_and, Bool.not_true, Bool.not_false, beq_self_eq_true, eql_self, Bool.cond_self]
    done
  · simp only [Int.toNat_natCast, Nat.zero_add, p2, p3, d5, hsame, s0, s3, s4, cond_true, cond_false, Bool.and_true, Bool.true_and, Bool.not_true, Bool.not_false, beq_self_eq_true, eql_self]
    rw [hnpe]
    cases i
    · rw [cond_false]
      cases hn : np satp
      · obtain ⟨h1, h2⟩ := hfin rfl hn
        obtain ⟨h3, h4, h5⟩ := leaf_end hpage2 hv hlv h2 (hal rfl hn)
        rw [h1, h3, h4, h5]
        rfl
      · rw [hnp3 hn, hnp2 hn, eql_self, eql_self]
        rfl
    · have hn : np satp = false := by
        cases h : np satp
        · rfl
        · exact absurd (hnp1 h) (by decide)
      rw [hn, his1 rfl, hval rfl, eql_self, eql_self]
      rcases hcau rfl with rfl | rfl <;> rw [eql_self] <;> simp

theorem run : ∀ xs h, Abs [.duo [.int .u8] [.int .u32, .int .u64], .plain (.agg [.int .u64, .int .u64, .int .u64, .int .u64, .int .u64, .int .u64, .int .u64, .int .u64, .int .u64, .int .u64, .int .u64, .int .u64, .int .i64, .int .i64, .int .u64])] 0 xs h → ∃ b l, (call Try.prog cxl 400 12 xs h).pick = some (.val (.bool b), l) ∧ b.den = true := by
  rintro xs h ⟨cs, n, fs, as0, h0, rfl, rfl, ⟨_, _, rfl, ⟨pg, rfl, wpg⟩, rfl⟩, hrow, ⟨_, as1, rfl, ⟨_, rfl, ⟨_, _, rfl, ⟨st, rfl, wst⟩, ⟨_, _, rfl, ⟨c1, rfl, wc1⟩, ⟨_, _, rfl, ⟨c2, rfl, wc2⟩, ⟨_, _, rfl, ⟨c3, rfl, wc3⟩, ⟨_, _, rfl, ⟨c4, rfl, wc4⟩, ⟨_, _, rfl, ⟨c5, rfl, wc5⟩, ⟨_, _, rfl, ⟨c6, rfl, wc6⟩, ⟨_, _, rfl, ⟨c7, rfl, wc7⟩, ⟨_, _, rfl, ⟨c8, rfl, wc8⟩, ⟨_, _, rfl, ⟨satp, rfl, wsatp⟩, ⟨_, _, rfl, ⟨c10, rfl, wc10⟩, ⟨_, _, rfl, ⟨c11, rfl, wc11⟩, ⟨_, _, rfl, ⟨pr, rfl, wpr⟩, ⟨_, _, rfl, ⟨k, rfl, wk⟩, ⟨_, _, rfl, ⟨va, rfl, wva⟩, rfl⟩⟩⟩⟩⟩⟩⟩⟩⟩⟩⟩⟩⟩⟩⟩⟩, rfl, rfl⟩⟩
  obtain ⟨hn, hlen, hF⟩ := hrow
  match fs, hlen with
  | [A, X], _ =>
    obtain ⟨t0, hv⟩ := law (n := n) (A := A) (X := X) (wf8 wpg) (fun j hj => wf32 (hF 0 .u32 A rfl rfl j hj)) (fun j hj => inU_wf (hF 1 .u64 X rfl rfl j hj)) wst wc1 wc2 wc3 wc4 wc5 wc6 wc7 wc8 wsatp wc10 wc11 wpr wk wva
    refine (road_at (road pg n A X st c1 c2 c3 c4 c5 c6 c7 c8 satp c10 c11 pr k va) ?_).elim fun l hl => ⟨.sym _, l, hl, hv⟩
    rw [t0]

set_option maxRecDepth 100000 in
theorem lifted (os : Os) (started : os.Started) (H : Type) (enc : TypeId × Value → H) :
    ReturnsInHanded {} Try.checked os 12 .any (Rows.walkMaySpec.pre6 enc Try.prog Try.f12 Rows.walkMayRow.domain false) (Rows.walkMaySpec.post enc Try.prog Try.f12 false true false false) := by
  refine returnsInHanded_of_change (C := Try.checked) own started (by kernel_rfl) Try.func12
    (ChangeSpec.witness6 (enc := enc) (C := Try.checked) false ⟨#[], #[.agg #[.int .u8 0, .slice none 0 0], .agg #[.int .u64 0, .int .u64 0, .int .u64 0, .int .u64 0, .int .u64 0, .int .u64 0, .int .u64 0, .int .u64 0, .int .u64 0, .int .u64 0, .int .u64 0, .int .u64 0, .int .i64 0, .int .i64 0, .int .u64 0]], []⟩ 8 (by kernel_rfl) (by kernel_rfl) (by kernel_rfl) (by kernel_rfl)) ?_
  intro W base args ds gs before hval hW _ _
  exact lifted_rows (P := Try.prog) (f := 12) (fn := Try.f12) (s := Rows.walkMaySpec) cxl_ok (n := 400) rfl
    (fun ds h => by
      match ds, h with
      | [d1, d2], _ => rfl)
    (by kernel_rfl) rfl (by kernel_rfl) (by kernel_rfl) (by kernel_rfl) run W base args ds gs before hval hW

theorem closed : joinedFacts Try.prog 12 Try.f12 Rows.walkMaySpec Rows.walkMayRow = true := by
  unfold joinedFacts
  rw [may_enter, lifts_final, make_cut]
  repeat' (with_reducible refine Bool.and_eq_true_iff.mpr ⟨?_, ?_⟩)
  all_goals kernel_rfl

theorem over : Rows.walkMayRow.holds Try.pinned (OpenSpec.ofChange Rows.walkMaySpec) :=
  OpenClaim.holds_of_wide 12 Try.f12 rfl rfl rfl rfl rfl rfl rfl ⟨rfl, rfl, rfl, rfl, rfl⟩ rfl rfl rfl rfl rfl (by kernel_rfl) Try.func12 closed
    (of_decide_eq_true (by kernel_rfl)) (by unfold Func.isWrapper; first | (rw [if_pos (by decide +kernel)]; kernel_rfl) | (rw [if_neg (by decide +kernel)]; exact ⟨rfl, rfl⟩))
    (fun os started H enc _ => lifted os started H enc)

/-- The statement. -/
theorem proved : Rows.WalkMaySaid :=
  over
#print axioms proved
end Go.Proofs.Ytngcbpcfgolifaa.WalkMay
