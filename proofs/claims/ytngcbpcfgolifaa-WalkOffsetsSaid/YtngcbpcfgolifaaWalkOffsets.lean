/- The statement 'WalkOffsets': two addresses of one page lead to one page, at the same distance, or fault both. Conditions: none. -/
import Derived.Test.YtngcbpcfgolifaaShown
import Derived.Test.YtngcbpcfgolifaaHead
namespace Go.Proofs.Ytngcbpcfgolifaa.WalkOffsets
open Go.RowKit Go.WideShapes Go.ChangeShapes Go.ChangeAt Ev
set_option linter.unusedVariables false
set_option linter.unusedSimpArgs false

noncomputable def test0 (pg : Int) (n : Nat) (A X : Nat → Int) (st : Int) (c1 : Int) (c2 : Int) (c3 : Int) (c4 : Int) (c5 : Int) (c6 : Int) (c7 : Int) (c8 : Int) (satp : Int) (c10 : Int) (c11 : Int) (pr : Int) (k : Int) (va : Int) (wi : Int) : Bool := ((askB pg n n X) && ((askW (szN pg) (szN pg) (szN pg) (memB pg A X n) satp st va) && (askW (szN pg) (szN pg) (szN pg) (memB pg A X n) satp st (litBin .add .u64 (litBin .andNot .u64 va 4095) (litBin .rem .u64 (IntKind.wrap .u64 wi) 4096)))))
noncomputable def val (pg : Int) (n : Nat) (A X : Nat → Int) (st : Int) (c1 : Int) (c2 : Int) (c3 : Int) (c4 : Int) (c5 : Int) (c6 : Int) (c7 : Int) (c8 : Int) (satp : Int) (c10 : Int) (c11 : Int) (pr : Int) (k : Int) (va : Int) (wi : Int) : Bool := (cond (cond (!((isW (memB pg A X n) (szN pg) satp st pr k va) == (isW (memB pg A X n) (szN pg) satp st pr k (litBin .add .u64 (litBin .andNot .u64 va 4095) (litBin .rem .u64 (IntKind.wrap .u64 wi) 4096))))) true (litCmp .neq (cauW (memB pg A X n) (szN pg) satp st pr k va) (cauW (memB pg A X n) (szN pg) satp st pr k (litBin .add .u64 (litBin .andNot .u64 va 4095) (litBin .rem .u64 (IntKind.wrap .u64 wi) 4096))))) false (cond (isW (memB pg A X n) (szN pg) satp st pr k va) (cond (!(isW (memB pg A X n) (szN pg) satp st pr k va)) true (cond (litCmp .eql (valW (memB pg A X n) (szN pg) satp st pr k va) va) (litCmp .eql (valW (memB pg A X n) (szN pg) satp st pr k (litBin .add .u64 (litBin .andNot .u64 va 4095) (litBin .rem .u64 (IntKind.wrap .u64 wi) 4096))) (litBin .add .u64 (litBin .andNot .u64 va 4095) (litBin .rem .u64 (IntKind.wrap .u64 wi) 4096))) false)) (cond (litCmp .eql (litBin .sub .u64 (toW (memB pg A X n) (szN pg) satp st pr k va) va) (litBin .sub .u64 (toW (memB pg A X n) (szN pg) satp st pr k (litBin .add .u64 (litBin .andNot .u64 va 4095) (litBin .rem .u64 (IntKind.wrap .u64 wi) 4096))) (litBin .add .u64 (litBin .andNot .u64 va 4095) (litBin .rem .u64 (IntKind.wrap .u64 wi) 4096)))) (cond (!(isW (memB pg A X n) (szN pg) satp st pr k va)) true (cond (litCmp .eql (valW (memB pg A X n) (szN pg) satp st pr k va) va) (litCmp .eql (valW (memB pg A X n) (szN pg) satp st pr k (litBin .add .u64 (litBin .andNot .u64 va 4095) (litBin .rem .u64 (IntKind.wrap .u64 wi) 4096))) (litBin .add .u64 (litBin .andNot .u64 va 4095) (litBin .rem .u64 (IntKind.wrap .u64 wi) 4096))) false)) false)))
set_option maxRecDepth 100000 in
theorem road (pg : Int) (n : Nat) (A X : Nat → Int) (st : Int) (c1 : Int) (c2 : Int) (c3 : Int) (c4 : Int) (c5 : Int) (c6 : Int) (c7 : Int) (c8 : Int) (satp : Int) (c10 : Int) (c11 : Int) (pr : Int) (k : Int) (va : Int) (wi : Int) : ((call Try.prog cxl 400 10 [.agg [.int .u8 (.sym pg), .slice 0 (.lit 0) (.rc n 1 0) .any], .agg [.int .u64 (.sym st), .int .u64 (.sym c1), .int .u64 (.sym c2), .int .u64 (.sym c3), .int .u64 (.sym c4), .int .u64 (.sym c5), .int .u64 (.sym c6), .int .u64 (.sym c7), .int .u64 (.sym c8), .int .u64 (.sym satp), .int .u64 (.sym c10), .int .u64 (.sym c11), .int .i64 (.sym pr), .int .i64 (.sym k), .int .u64 (.sym va)], .int .u16 (.sym wi)] [.rows 0 n [(.int .u32, A), (.int .u64, X)]]).route [true]).map (fun p => (p.1, p.2.1)) = some ([test0 pg n A X st c1 c2 c3 c4 c5 c6 c7 c8 satp c10 c11 pr k va wi], .val (.bool (.sym (val pg n A X st c1 c2 c3 c4 c5 c6 c7 c8 satp c10 c11 pr k va wi)))) := by kernel_rfl
theorem subu (x y : Int) : litBin .sub .u64 x y = (x - y) % 18446744073709551616 := wrap64 _
theorem addu (x y : Int) : litBin .add .u64 x y = (x + y) % 18446744073709551616 := wrap64 _
theorem shr_same {x y : Int} (hx : inU x) (hy : inU y) (h : y / 4096 = x / 4096) : litBin .shr .u64 y 12 = litBin .shr .u64 x 12 ∧ litBin .shr .u64 y 21 = litBin .shr .u64 x 21 ∧ litBin .shr .u64 y 30 = litBin .shr .u64 x 30 ∧ litBin .shr .u64 y 38 = litBin .shr .u64 x 38 := by
  have a1 : ∀ z : Int, litBin .shr .u64 z 12 = z / 4096 := fun z => shr_ediv z 12 (by decide)
  have a2 : ∀ z : Int, litBin .shr .u64 z 21 = z / 2097152 := fun z => shr_ediv z 21 (by decide)
  have a3 : ∀ z : Int, litBin .shr .u64 z 30 = z / 1073741824 := fun z => shr_ediv z 30 (by decide)
  have a4 : ∀ z : Int, litBin .shr .u64 z 38 = z / 274877906944 := fun z => shr_ediv z 38 (by decide)
  rw [a1, a1, a2, a2, a3, a3, a4, a4]
  omega
theorem vpn_same {x y lv : Int} (hx : inU x) (hy : inU y) (h : y / 4096 = x / 4096) : vpnS y lv = vpnS x lv := by
  obtain ⟨s1, s2, s3, _⟩ := shr_same hx hy h
  unfold vpnS
  cases hk : kno lv
  · rfl
  · rcases kno_cases hk with rfl | rfl | rfl
    · show litBin .and .u64 (litBin .shr .u64 y 12) 511 = litBin .and .u64 (litBin .shr .u64 x 12) 511
      rw [s1]
    · show litBin .and .u64 (litBin .shr .u64 y 21) 511 = litBin .and .u64 (litBin .shr .u64 x 21) 511
      rw [s2]
    · show litBin .and .u64 (litBin .shr .u64 y 30) 511 = litBin .and .u64 (litBin .shr .u64 x 30) 511
      rw [s3]
theorem can_same {x y : Int} (hx : inU x) (hy : inU y) (h : y / 4096 = x / 4096) : canS y = canS x := by
  rw [← can_eq hx, ← can_eq hy]
  unfold canR
  rw [(shr_same hx hy h).2.2.2]
theorem adr_same {x y p lv : Int} (hx : inU x) (hy : inU y) (h : y / 4096 = x / 4096) : adr p y lv = adr p x lv := by
  unfold adr
  rw [vpn_same hx hy h]
theorem out_same {α : Type} {F : Nat → Int} {N : Nat} {satp st pr k x y : Int} (hx : inU x) (hy : inU y) (h : y / 4096 = x / 4096) (g : α → α) (a b c d e f : α) (d' e' f' : α) (hd : d' = d) (he : e' = e) (hf : f' = f) :
    outW F N satp st pr k y a b c d' e' f' = outW F N satp st pr k x a b c d e f := by
  have q2 : en2 F N (root satp) y = en2 F N (root satp) x := by unfold en2; rw [adr_same hx hy h]
  have q1 : en1 F N (root satp) y = en1 F N (root satp) x := by unfold en1; rw [q2, adr_same hx hy h]
  have q0 : en0 F N (root satp) y = en0 F N (root satp) x := by unfold en0; rw [q1, adr_same hx hy h]
  have r2 : k2 N (root satp) y = k2 N (root satp) x := by unfold k2; rw [adr_same hx hy h]
  have r1 : k1 F N (root satp) y = k1 F N (root satp) x := by unfold k1; rw [q2, adr_same hx hy h]
  have r0 : k0 F N (root satp) y = k0 F N (root satp) x := by unfold k0; rw [q1, adr_same hx hy h]
  unfold outW outP
  rw [can_same hx hy h, q2, q1, q0, r2, r1, r0, hd, he, hf]
theorem is_val {F : Nat → Int} {N : Nat} {satp st pr k va : Int} (h : isW F N satp st pr k va = true) : valW F N satp st pr k va = va := by
  revert h
  unfold isW valW outW outP
  generalize bad (en2 F N (root satp) va) 2 st pr k = q2
  generalize bad (en1 F N (root satp) va) 1 st pr k = q1
  generalize bad (en0 F N (root satp) va) 0 st pr k = q0
  generalize leafS (en2 F N (root satp) va) = l2
  generalize leafS (en1 F N (root satp) va) = l1
  generalize leafS (en0 F N (root satp) va) = l0
  generalize tabS (en2 F N (root satp) va) = t2
  generalize tabS (en1 F N (root satp) va) = t1
  generalize k2 N (root satp) va = a2
  generalize k1 F N (root satp) va = a1
  generalize k0 F N (root satp) va = a0
  generalize canS va = cn
  generalize np satp = n
  intro h
  cases n
  · cases cn
    · rfl
    · cases a2
      · rfl
      · cases l2
        · cases t2
          · rfl
          · cases a1
            · rfl
            · cases l1
              · cases t1
                · rfl
                · cases a0
                  · rfl
                  · cases l0
                    · rfl
                    · cases q0
                      · cases h
                      · rfl
              · cases q1
                · cases h
                · rfl
        · cases q2
          · cases h
          · rfl
  · cases h
theorem lv_kno {F : Nat → Int} {N : Nat} {satp st pr k va : Int} : kno (lvW F N satp st pr k va) = true :=
  outW_ind (fun v => kno v = true) rfl rfl rfl rfl rfl rfl
theorem at_sub {e x y lv : Int} (he : inU e) (hx : inU x) (hy : inU y) (h : y / 4096 = x / 4096) (hk : kno lv = true) : litBin .sub .u64 (atS e y lv) y = litBin .sub .u64 (atS e x lv) x := by
  rw [at_val he hx hk, at_val he hy hk, subu, subu]
  generalize pagS e * 4096 = p
  rcases kno_cases hk with rfl | rfl | rfl
  · show (p / 4096 * 4096 + y % 4096 - y) % 18446744073709551616 = (p / 4096 * 4096 + x % 4096 - x) % 18446744073709551616
    congr 1
    omega
  · show (p / 2097152 * 2097152 + y % 2097152 - y) % 18446744073709551616 = (p / 2097152 * 2097152 + x % 2097152 - x) % 18446744073709551616
    congr 1
    omega
  · show (p / 1073741824 * 1073741824 + y % 1073741824 - y) % 18446744073709551616 = (p / 1073741824 * 1073741824 + x % 1073741824 - x) % 18446744073709551616
    congr 1
    omega
theorem page_of {va wi : Int} (hv : inU va) : (litBin .add .u64 (litBin .andNot .u64 va 4095) (litBin .rem .u64 (IntKind.wrap .u64 wi) 4096)) / 4096 = va / 4096 := by
  have hw : inU (IntKind.wrap .u64 wi) := inU_wrap wi
  have e1 : litBin .rem .u64 (IntKind.wrap .u64 wi) 4096 = IntKind.wrap .u64 wi % 4096 := rem_emod hw 4096
  have e2 : litBin .andNot .u64 va 4095 = va / 4096 * 4096 := by
    have h1 : litBin .and .u64 va 4095 = va % 4096 := and_low hv 12 (by decide)
    have i1 : inU 4095 := by unfold inU; omega
    have i2 : inU (va / 4096 * 4096) := by unfold inU at *; omega
    refine eq_of_bits (inU.andNot _ _) i2 fun i => ?_
    rw [bit_andNot hv i1]
    obtain ⟨n, rfl, hn⟩ := hv.nat
    rw [show ((n : Int) / 4096 * 4096) = ((n / 4096 * 4096 : Nat) : Int) by omega, bit_nat, bit_nat, show (4095 : Int) = ((2 ^ 12 - 1 : Nat) : Int) by rfl, bit_nat, Nat.testBit_two_pow_sub_one, show n / 4096 * 4096 = 2 ^ 12 * (n / 2 ^ 12) by omega, Nat.testBit_two_pow_mul, Nat.testBit_div_two_pow]
    by_cases hi : i < 12
    · rw [decide_eq_true hi, (decide_eq_false (by omega) : decide (12 ≤ i) = false)]
      simp
    · rw [decide_eq_false hi, (decide_eq_true (by omega) : decide (12 ≤ i) = true), show i - 12 + 12 = i by omega]
      simp
  rw [e1, e2, addu]
  generalize IntKind.wrap .u64 wi = t at *
  unfold inU at *
  omega

theorem law {pg : Int} {n : Nat} {A X : Nat → Int} {st : Int} {c1 : Int} {c2 : Int} {c3 : Int} {c4 : Int} {c5 : Int} {c6 : Int} {c7 : Int} {c8 : Int} {satp : Int} {c10 : Int} {c11 : Int} {pr : Int} {k : Int} {va : Int} {wi : Int} (hpg : 0 ≤ pg ∧ pg < 256) (hA : ∀ j, j < n → 0 ≤ A j ∧ A j < 4294967296) (hX : ∀ j, j < n → inU (X j)) (wst : (Lit.int .u64 st).wf = true) (wc1 : (Lit.int .u64 c1).wf = true) (wc2 : (Lit.int .u64 c2).wf = true) (wc3 : (Lit.int .u64 c3).wf = true) (wc4 : (Lit.int .u64 c4).wf = true) (wc5 : (Lit.int .u64 c5).wf = true) (wc6 : (Lit.int .u64 c6).wf = true) (wc7 : (Lit.int .u64 c7).wf = true) (wc8 : (Lit.int .u64 c8).wf = true) (wsatp : (Lit.int .u64 satp).wf = true) (wc10 : (Lit.int .u64 c10).wf = true) (wc11 : (Lit.int .u64 c11).wf = true) (wpr : (Lit.int .i64 pr).wf = true) (wk : (Lit.int .i64 k).wf = true) (wva : (Lit.int .u64 va).wf = true) (wwi : (Lit.int .u16 wi).wf = true) :
    test0 pg n A X st c1 c2 c3 c4 c5 c6 c7 c8 satp c10 c11 pr k va wi = true ∧ val pg n A X st c1 c2 c3 c4 c5 c6 c7 c8 satp c10 c11 pr k va wi = true := by
  have hm : MemOk (szN pg) (memB pg A X n) := memB_ok hpg
  have hv := inU_wf wva
  have hp : (litBin .add .u64 (litBin .andNot .u64 va 4095) (litBin .rem .u64 (IntKind.wrap .u64 wi) 4096)) / 4096 = va / 4096 := page_of hv
  have hy : inU (litBin .add .u64 (litBin .andNot .u64 va 4095) (litBin .rem .u64 (IntKind.wrap .u64 wi) 4096)) := inU.add _ _
  refine ⟨?_, ?_⟩
  · unfold test0
    rw [askB_of hpg hX, askW_of hm (inU_wf wsatp) (inU_wf wst) hv, askW_of hm (inU_wf wsatp) (inU_wf wst) hy]
    rfl
  · unfold val
    generalize (litBin .add .u64 (litBin .andNot .u64 va 4095) (litBin .rem .u64 (IntKind.wrap .u64 wi) 4096)) = y at *
    generalize memB pg A X n = F at *
    generalize szN pg = N at *
    have q2 : en2 F N (root satp) y = en2 F N (root satp) va := by unfold en2; rw [adr_same hv hy hp]
    have q1 : en1 F N (root satp) y = en1 F N (root satp) va := by unfold en1; rw [q2, adr_same hv hy hp]
    have q0 : en0 F N (root satp) y = en0 F N (root satp) va := by unfold en0; rw [q1, adr_same hv hy hp]
    have o1 : isW F N satp st pr k y = isW F N satp st pr k va := out_same hv hy hp id _ _ _ _ _ _ _ _ _ rfl rfl rfl
    have o2 : cauW F N satp st pr k y = cauW F N satp st pr k va := out_same hv hy hp id _ _ _ _ _ _ _ _ _ rfl rfl rfl
    have o3 : pteW F N satp st pr k y = pteW F N satp st pr k va := out_same hv hy hp id _ _ _ _ _ _ _ _ _ q2 q1 q0
    have o4 : lvW F N satp st pr k y = lvW F N satp st pr k va := out_same hv hy hp id _ _ _ _ _ _ _ _ _ rfl rfl rfl
    have v1 : isW F N satp st pr k va = true → _ := is_val
    have v2 : isW F N satp st pr k y = true → _ := is_val
    rw [o1] at v2
    have hto : isW F N satp st pr k va = false → litBin .sub .u64 (toW F N satp st pr k y) y = litBin .sub .u64 (toW F N satp st pr k va) va := by
      intro hi
      unfold toW
      rw [o1, hi, o3, o4]
      show litBin .sub .u64 (cond (np satp) y (atS (pteW F N satp st pr k va) y (lvW F N satp st pr k va))) y = litBin .sub .u64 (cond (np satp) va (atS (pteW F N satp st pr k va) va (lvW F N satp st pr k va))) va
      cases np satp
      · exact at_sub (pteW_inU hm) hv hy hp lv_kno
      · show litBin .sub .u64 y y = litBin .sub .u64 va va
        rw [subu, subu, Int.sub_self, Int.sub_self]
    rw [o1, o2]
    cases hi : isW F N satp st pr k va
    · rw [hto hi]
      simp [eql_self, neq_self]
    · rw [v1 hi, v2 hi]
      simp [eql_self, neq_self]

theorem run : ∀ xs h, Abs [.duo [.int .u8] [.int .u32, .int .u64], .plain (.agg [.int .u64, .int .u64, .int .u64, .int .u64, .int .u64, .int .u64, .int .u64, .int .u64, .int .u64, .int .u64, .int .u64, .int .u64, .int .i64, .int .i64, .int .u64]), .plain (.one (.int .u16))] 0 xs h → ∃ b l, (call Try.prog cxl 400 10 xs h).pick = some (.val (.bool b), l) ∧ b.den = true := by
  rintro xs h ⟨cs, n, fs, as0, h0, rfl, rfl, ⟨_, _, rfl, ⟨pg, rfl, wpg⟩, rfl⟩, hrow, ⟨_, as1, rfl, ⟨_, rfl, ⟨_, _, rfl, ⟨st, rfl, wst⟩, ⟨_, _, rfl, ⟨c1, rfl, wc1⟩, ⟨_, _, rfl, ⟨c2, rfl, wc2⟩, ⟨_, _, rfl, ⟨c3, rfl, wc3⟩, ⟨_, _, rfl, ⟨c4, rfl, wc4⟩, ⟨_, _, rfl, ⟨c5, rfl, wc5⟩, ⟨_, _, rfl, ⟨c6, rfl, wc6⟩, ⟨_, _, rfl, ⟨c7, rfl, wc7⟩, ⟨_, _, rfl, ⟨c8, rfl, wc8⟩, ⟨_, _, rfl, ⟨satp, rfl, wsatp⟩, ⟨_, _, rfl, ⟨c10, rfl, wc10⟩, ⟨_, _, rfl, ⟨c11, rfl, wc11⟩, ⟨_, _, rfl, ⟨pr, rfl, wpr⟩, ⟨_, _, rfl, ⟨k, rfl, wk⟩, ⟨_, _, rfl, ⟨va, rfl, wva⟩, rfl⟩⟩⟩⟩⟩⟩⟩⟩⟩⟩⟩⟩⟩⟩⟩⟩, ⟨_, as2, rfl, ⟨wi, rfl, wwi⟩, rfl, rfl⟩⟩⟩
  obtain ⟨hn, hlen, hF⟩ := hrow
  match fs, hlen with
  | [A, X], _ =>
    obtain ⟨t0, hv⟩ := law (n := n) (A := A) (X := X) (wf8 wpg) (fun j hj => wf32 (hF 0 .u32 A rfl rfl j hj)) (fun j hj => inU_wf (hF 1 .u64 X rfl rfl j hj)) wst wc1 wc2 wc3 wc4 wc5 wc6 wc7 wc8 wsatp wc10 wc11 wpr wk wva wwi
    refine (road_at (road pg n A X st c1 c2 c3 c4 c5 c6 c7 c8 satp c10 c11 pr k va wi) ?_).elim fun l hl => ⟨.sym _, l, hl, hv⟩
    rw [t0]

set_option maxRecDepth 100000 in
theorem lifted (os : Os) (started : os.Started) (H : Type) (enc : TypeId × Value → H) :
    ReturnsInHanded {} Try.checked os 10 .any (Rows.walkOffsetsSpec.pre6 enc Try.prog Try.f10 Rows.walkOffsetsRow.domain false) (Rows.walkOffsetsSpec.post enc Try.prog Try.f10 false true false false) := by
  refine returnsInHanded_of_change (C := Try.checked) own started (by kernel_rfl) Try.func10
    (ChangeSpec.witness6 (enc := enc) (C := Try.checked) false ⟨#[], #[.agg #[.int .u8 0, .slice none 0 0], .agg #[.int .u64 0, .int .u64 0, .int .u64 0, .int .u64 0, .int .u64 0, .int .u64 0, .int .u64 0, .int .u64 0, .int .u64 0, .int .u64 0, .int .u64 0, .int .u64 0, .int .i64 0, .int .i64 0, .int .u64 0], .int .u16 0], []⟩ 8 (by kernel_rfl) (by kernel_rfl) (by kernel_rfl) (by kernel_rfl)) ?_
  intro W base args ds gs before hval hW _ _
  exact lifted_rows (P := Try.prog) (f := 10) (fn := Try.f10) (s := Rows.walkOffsetsSpec) cxl_ok (n := 400) rfl
    (fun ds h => by
      match ds, h with
      | [d1, d2, d3], _ => rfl)
    (by kernel_rfl) rfl (by kernel_rfl) (by kernel_rfl) (by kernel_rfl) run W base args ds gs before hval hW

theorem closed : joinedFacts Try.prog 10 Try.f10 Rows.walkOffsetsSpec Rows.walkOffsetsRow = true := by
  unfold joinedFacts
  rw [may_enter, lifts_final, make_cut]
  repeat' (with_reducible refine Bool.and_eq_true_iff.mpr ⟨?_, ?_⟩)
  all_goals kernel_rfl

theorem over : Rows.walkOffsetsRow.holds Try.pinned (OpenSpec.ofChange Rows.walkOffsetsSpec) :=
  OpenClaim.holds_of_wide 10 Try.f10 rfl rfl rfl rfl rfl rfl rfl ⟨rfl, rfl, rfl, rfl, rfl⟩ rfl rfl rfl rfl rfl (by kernel_rfl) Try.func10 closed
    (of_decide_eq_true (by kernel_rfl)) (by unfold Func.isWrapper; first | (rw [if_pos (by decide +kernel)]; kernel_rfl) | (rw [if_neg (by decide +kernel)]; exact ⟨rfl, rfl⟩))
    (fun os started H enc _ => lifted os started H enc)

/-- The statement. -/
theorem proved : Rows.WalkOffsetsSaid :=
  over
#print axioms proved
end Go.Proofs.Ytngcbpcfgolifaa.WalkOffsets
