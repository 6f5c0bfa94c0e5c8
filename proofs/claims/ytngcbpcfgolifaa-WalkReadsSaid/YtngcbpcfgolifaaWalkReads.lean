/- The statement 'WalkReads': where a load faults no store is let by the same entry, but for a page fault of its own; that what a store may a load may, if no bit of Mxr is asked for; and that with Mxr and Sum more is let, to the same address. Conditions: none. -/
import Derived.Test.YtngcbpcfgolifaaShown
import Derived.Test.YtngcbpcfgolifaaHead
namespace Go.Proofs.Ytngcbpcfgolifaa.WalkReads
open Go.RowKit Go.WideShapes Go.ChangeShapes Go.ChangeAt Ev
set_option linter.unusedVariables false
set_option linter.unusedSimpArgs false

noncomputable def test0 (pg : Int) (n : Nat) (A X : Nat → Int) (st : Int) (c1 : Int) (c2 : Int) (c3 : Int) (c4 : Int) (c5 : Int) (c6 : Int) (c7 : Int) (c8 : Int) (satp : Int) (c10 : Int) (c11 : Int) (pr : Int) (k : Int) (va : Int) : Bool := ((askB pg n n X) && ((askW (szN pg) (szN pg) (szN pg) (memB pg A X n) satp st va) && ((askW (szN pg) (szN pg) (szN pg) (memB pg A X n) satp st va) && (askW (szN pg) (szN pg) (szN pg) (memB pg A X n) satp (litBin .or .u64 (litBin .or .u64 st 262144) 524288) va))))
noncomputable def val (pg : Int) (n : Nat) (A X : Nat → Int) (st : Int) (c1 : Int) (c2 : Int) (c3 : Int) (c4 : Int) (c5 : Int) (c6 : Int) (c7 : Int) (c8 : Int) (satp : Int) (c10 : Int) (c11 : Int) (pr : Int) (k : Int) (va : Int) : Bool := (cond (cond (!(isW (memB pg A X n) (szN pg) satp st pr 2 va)) (cond (isW (memB pg A X n) (szN pg) satp st pr 1 va) true (cond (litCmp .neq (toW (memB pg A X n) (szN pg) satp st pr 1 va) (toW (memB pg A X n) (szN pg) satp st pr 2 va)) true (cond (!(isW (memB pg A X n) (szN pg) satp st pr 1 va)) (cond (isW (memB pg A X n) (szN pg) satp (litBin .or .u64 (litBin .or .u64 st 262144) 524288) pr 1 va) true (litCmp .neq (toW (memB pg A X n) (szN pg) satp st pr 1 va) (toW (memB pg A X n) (szN pg) satp (litBin .or .u64 (litBin .or .u64 st 262144) 524288) pr 1 va))) false))) (cond (!(isW (memB pg A X n) (szN pg) satp st pr 1 va)) (cond (isW (memB pg A X n) (szN pg) satp (litBin .or .u64 (litBin .or .u64 st 262144) 524288) pr 1 va) true (litCmp .neq (toW (memB pg A X n) (szN pg) satp st pr 1 va) (toW (memB pg A X n) (szN pg) satp (litBin .or .u64 (litBin .or .u64 st 262144) 524288) pr 1 va))) false)) false (cond (!(isW (memB pg A X n) (szN pg) satp st pr 1 va)) (cond (!(isW (memB pg A X n) (szN pg) satp st pr 2 va)) true (cond (litCmp .eql (cauW (memB pg A X n) (szN pg) satp st pr 2 va) 7) true (litCmp .eql (cauW (memB pg A X n) (szN pg) satp st pr 2 va) 15))) (cond (litCmp .eql (cauW (memB pg A X n) (szN pg) satp st pr 1 va) 5) (cond (!(isW (memB pg A X n) (szN pg) satp st pr 2 va)) true (cond (litCmp .eql (cauW (memB pg A X n) (szN pg) satp st pr 2 va) 7) true (litCmp .eql (cauW (memB pg A X n) (szN pg) satp st pr 2 va) 15))) (cond (litCmp .eql (cauW (memB pg A X n) (szN pg) satp st pr 1 va) 13) (cond (!(isW (memB pg A X n) (szN pg) satp st pr 2 va)) true (cond (litCmp .eql (cauW (memB pg A X n) (szN pg) satp st pr 2 va) 7) true (litCmp .eql (cauW (memB pg A X n) (szN pg) satp st pr 2 va) 15))) false))))
set_option maxRecDepth 100000 in
theorem road (pg : Int) (n : Nat) (A X : Nat → Int) (st : Int) (c1 : Int) (c2 : Int) (c3 : Int) (c4 : Int) (c5 : Int) (c6 : Int) (c7 : Int) (c8 : Int) (satp : Int) (c10 : Int) (c11 : Int) (pr : Int) (k : Int) (va : Int) : ((call Try.prog cxl 400 9 [.agg [.int .u8 (.sym pg), .slice 0 (.lit 0) (.rc n 1 0) .any], .agg [.int .u64 (.sym st), .int .u64 (.sym c1), .int .u64 (.sym c2), .int .u64 (.sym c3), .int .u64 (.sym c4), .int .u64 (.sym c5), .int .u64 (.sym c6), .int .u64 (.sym c7), .int .u64 (.sym c8), .int .u64 (.sym satp), .int .u64 (.sym c10), .int .u64 (.sym c11), .int .i64 (.sym pr), .int .i64 (.sym k), .int .u64 (.sym va)]] [.rows 0 n [(.int .u32, A), (.int .u64, X)]]).route [true]).map (fun p => (p.1, p.2.1)) = some ([test0 pg n A X st c1 c2 c3 c4 c5 c6 c7 c8 satp c10 c11 pr k va], .val (.bool (.sym (val pg n A X st c1 c2 c3 c4 c5 c6 c7 c8 satp c10 c11 pr k va)))) := by kernel_rfl
theorem is_mono {F : Nat → Int} {N : Nat} {satp st pr k va st' k' : Int}
    (h2 : bad (en2 F N (root satp) va) 2 st pr k = false → bad (en2 F N (root satp) va) 2 st' pr k' = false)
    (h1 : bad (en1 F N (root satp) va) 1 st pr k = false → bad (en1 F N (root satp) va) 1 st' pr k' = false)
    (h0 : bad (en0 F N (root satp) va) 0 st pr k = false → bad (en0 F N (root satp) va) 0 st' pr k' = false)
    (hi : isW F N satp st pr k va = false) : isW F N satp st' pr k' va = false ∧ toW F N satp st' pr k' va = toW F N satp st pr k va := by
  have key : isW F N satp st' pr k' va = false ∧ pteW F N satp st' pr k' va = pteW F N satp st pr k va ∧ lvW F N satp st' pr k' va = lvW F N satp st pr k va := by
    unfold isW pteW lvW outW outP at *
    generalize bad (en2 F N (root satp) va) 2 st pr k = q2 at *
    generalize bad (en1 F N (root satp) va) 1 st pr k = q1 at *
    generalize bad (en0 F N (root satp) va) 0 st pr k = q0 at *
    generalize bad (en2 F N (root satp) va) 2 st' pr k' = r2 at *
    generalize bad (en1 F N (root satp) va) 1 st' pr k' = r1 at *
    generalize bad (en0 F N (root satp) va) 0 st' pr k' = r0 at *
    generalize leafS (en2 F N (root satp) va) = l2 at *
    generalize leafS (en1 F N (root satp) va) = l1 at *
    generalize leafS (en0 F N (root satp) va) = l0 at *
    generalize tabS (en2 F N (root satp) va) = t2 at *
    generalize tabS (en1 F N (root satp) va) = t1 at *
    generalize k2 N (root satp) va = a2 at *
    generalize k1 F N (root satp) va = a1 at *
    generalize k0 F N (root satp) va = a0 at *
    generalize canS va = cn at *
    generalize np satp = n at *
    generalize en2 F N (root satp) va = e2 at *
    generalize en1 F N (root satp) va = e1 at *
    generalize en0 F N (root satp) va = e0 at *
    cases n
    · cases cn
      · cases hi
      · cases a2
        · cases hi
        · cases l2
          · cases t2
            · cases hi
            · cases a1
              · cases hi
              · cases l1
                · cases t1
                  · cases hi
                  · cases a0
                    · cases hi
                    · cases l0
                      · cases hi
                      · cases q0
                        · rw [h0 rfl]
                          exact ⟨rfl, rfl, rfl⟩
                        · cases hi
                · cases q1
                  · rw [h1 rfl]
                    exact ⟨rfl, rfl, rfl⟩
                  · cases hi
          · cases q2
            · rw [h2 rfl]
              exact ⟨rfl, rfl, rfl⟩
            · cases hi
    · exact ⟨rfl, rfl, rfl⟩
  refine ⟨key.1, ?_⟩
  unfold toW
  rw [key.1, key.2.1, key.2.2, hi]
theorem bad_mono {e lv st st' pr k k' : Int} (h : mayS e k pr st = true → mayS e k' pr st' = true) (hb : bad e lv st pr k = false) : bad e lv st' pr k' = false := by
  unfold bad at *
  generalize aliS e lv = a at *
  generalize mayS e k pr st = m at *
  cases a
  · cases hb
  · cases m
    · cases hb
    · rw [h rfl]
      rfl
theorem may_load {e st pr : Int} (he : inU e) (h : mayS e 2 pr st = true) : mayS e 1 pr st = true := by
  revert h
  unfold mayS leafS
  rw [mk1 he, mk6 he, mk10 he, mk16 he, mk8 he, mk2 he, mk132 he, mk64 he]
  simp only [List.all_cons, List.all_nil, Bool.and_true]
  generalize bit e 0 = b0
  generalize bit e 1 = b1
  generalize bit e 2 = b2
  generalize bit e 3 = b3
  generalize bit e 4 = b4
  generalize bit e 6 = b6
  generalize bit e 7 = b7
  generalize litCmp .eql (litBin .shr .u64 e 54) 0 = z
  generalize litCmp .neq (litBin .and .u64 st 262144) 0 = s8
  generalize litCmp .neq (litBin .and .u64 st 524288) 0 = s9
  generalize litCmp .eql pr 0 = p0
  generalize litCmp .eql pr 1 = p1
  revert b0 b1 b2 b3 b4 b6 b7 s8 s9 z p0 p1
  decide +kernel
theorem may_more {e st pr : Int} (hs : inU st) (h : mayS e 1 pr st = true) : mayS e 1 pr (litBin .or .u64 (litBin .or .u64 st 262144) 524288) = true := by
  have i1 : inU 262144 := by unfold inU; omega
  have i2 : inU 524288 := by unfold inU; omega
  have hb : ∀ i, bit (litBin .or .u64 (litBin .or .u64 st 262144) 524288) i = (bit st i || bit 262144 i || bit 524288 i) := fun i => by rw [bit_or (inU.or _ _) i2, bit_or hs i1]
  have m1 : litCmp .neq (litBin .and .u64 (litBin .or .u64 (litBin .or .u64 st 262144) 524288) 262144) 0 = true := by
    rw [mk262144 (inU.or _ _)]
    simp only [List.all_cons, List.all_nil, Bool.and_true]
    rw [hb, (by decide +kernel : bit 262144 18 = true), (by decide +kernel : bit 524288 18 = false), Bool.or_true]
    rfl
  have m2 : litCmp .neq (litBin .and .u64 (litBin .or .u64 (litBin .or .u64 st 262144) 524288) 524288) 0 = true := by
    rw [mk524288 (inU.or _ _)]
    simp only [List.all_cons, List.all_nil, Bool.and_true]
    rw [hb, (by decide +kernel : bit 524288 19 = true), Bool.or_true]
    rfl
  revert h
  unfold mayS
  rw [m1, m2]
  generalize litCmp .neq (litBin .and .u64 st 262144) 0 = s8
  generalize litCmp .neq (litBin .and .u64 st 524288) 0 = s9
  generalize litCmp .eql pr 0 = p0
  generalize litCmp .eql pr 1 = p1
  generalize leafS e = l
  generalize litCmp .eql (litBin .and .u64 e 16) 16 = b16
  generalize litCmp .eql (litBin .and .u64 e 8) 8 = b8
  generalize litCmp .eql (litBin .and .u64 e 2) 2 = b2
  generalize litCmp .eql (litBin .and .u64 e 132) 132 = b132
  generalize litCmp .eql (litBin .and .u64 e 64) 64 = b64
  revert l b16 b8 b2 b132 b64 s8 s9 p0 p1
  decide +kernel
theorem cau_ind {F : Nat → Int} {N : Nat} {satp st pr k va : Int} (h : isW F N satp st pr k va = true) : cauW F N satp st pr k va = cauS k 12 15 13 ∨ cauW F N satp st pr k va = cauS k 1 7 5 := by
  revert h
  unfold isW cauW outW outP
  generalize bad (en2 F N (root satp) va) 2 st pr k = q2
  generalize bad (en1 F N (root satp) va) 1 st pr k = q1
  generalize bad (en0 F N (root satp) va) 0 st pr k = q0
  generalize leafS (en2 F N (root satp) va) = l2
  generalize leafS (en1 F N (root satp) va) = l1
  generalize leafS (en0 F N (root satp) va) = l0
  generalize tabS (en2 F N (root satp) va) = t2
  generalize tabS (en1 F N (root satp) va) = t1
  generalize k2 N (root satp) va = a2
  generalize k1 F N (root satp) va = a1
  generalize k0 F N (root satp) va = a0
  generalize canS va = cn
  generalize np satp = n
  generalize cauS k 12 15 13 = x
  generalize cauS k 1 7 5 = y
  intro h
  cases n
  · cases cn
    · exact .inl rfl
    · cases a2
      · exact .inr rfl
      · cases l2
        · cases t2
          · exact .inl rfl
          · cases a1
            · exact .inr rfl
            · cases l1
              · cases t1
                · exact .inl rfl
                · cases a0
                  · exact .inr rfl
                  · cases l0
                    · exact .inl rfl
                    · cases q0
                      · cases h
                      · exact .inl rfl
              · cases q1
                · cases h
                · exact .inl rfl
        · cases q2
          · cases h
          · exact .inl rfl
  · cases h

theorem law {pg : Int} {n : Nat} {A X : Nat → Int} {st : Int} {c1 : Int} {c2 : Int} {c3 : Int} {c4 : Int} {c5 : Int} {c6 : Int} {c7 : Int} {c8 : Int} {satp : Int} {c10 : Int} {c11 : Int} {pr : Int} {k : Int} {va : Int} (hpg : 0 ≤ pg ∧ pg < 256) (hA : ∀ j, j < n → 0 ≤ A j ∧ A j < 4294967296) (hX : ∀ j, j < n → inU (X j)) (wst : (Lit.int .u64 st).wf = true) (wc1 : (Lit.int .u64 c1).wf = true) (wc2 : (Lit.int .u64 c2).wf = true) (wc3 : (Lit.int .u64 c3).wf = true) (wc4 : (Lit.int .u64 c4).wf = true) (wc5 : (Lit.int .u64 c5).wf = true) (wc6 : (Lit.int .u64 c6).wf = true) (wc7 : (Lit.int .u64 c7).wf = true) (wc8 : (Lit.int .u64 c8).wf = true) (wsatp : (Lit.int .u64 satp).wf = true) (wc10 : (Lit.int .u64 c10).wf = true) (wc11 : (Lit.int .u64 c11).wf = true) (wpr : (Lit.int .i64 pr).wf = true) (wk : (Lit.int .i64 k).wf = true) (wva : (Lit.int .u64 va).wf = true) :
    test0 pg n A X st c1 c2 c3 c4 c5 c6 c7 c8 satp c10 c11 pr k va = true ∧ val pg n A X st c1 c2 c3 c4 c5 c6 c7 c8 satp c10 c11 pr k va = true := by
  have hm : MemOk (szN pg) (memB pg A X n) := memB_ok hpg
  have st' : inU (litBin .or .u64 (litBin .or .u64 st 262144) 524288) := inU.or _ _
  refine ⟨?_, ?_⟩
  · unfold test0
    rw [askB_of hpg hX, askW_of hm (inU_wf wsatp) (inU_wf wst) (inU_wf wva), askW_of hm (inU_wf wsatp) st' (inU_wf wva)]
    rfl
  · unfold val
    have e2 : inU (en2 (memB pg A X n) (szN pg) (root satp) va) := get_inU hm (adr_inU _ _ _)
    have e1 : inU (en1 (memB pg A X n) (szN pg) (root satp) va) := get_inU hm (adr_inU _ _ _)
    have e0 : inU (en0 (memB pg A X n) (szN pg) (root satp) va) := get_inU hm (adr_inU _ _ _)
    have s1 : isW (memB pg A X n) (szN pg) satp st pr 2 va = false → _ := is_mono (st' := st) (k' := 1) (bad_mono (may_load e2)) (bad_mono (may_load e1)) (bad_mono (may_load e0))
    have s2 : isW (memB pg A X n) (szN pg) satp st pr 1 va = false → _ := is_mono (st' := litBin .or .u64 (litBin .or .u64 st 262144) 524288) (k' := 1) (bad_mono (may_more (inU_wf wst))) (bad_mono (may_more (inU_wf wst))) (bad_mono (may_more (inU_wf wst)))
    have c1 : isW (memB pg A X n) (szN pg) satp st pr 1 va = true → _ := cau_ind
    have c2 : isW (memB pg A X n) (szN pg) satp st pr 2 va = true → _ := cau_ind
    have v1 : cauS 1 12 15 13 = 13 := rfl
    have v2 : cauS 1 1 7 5 = 5 := rfl
    have v3 : cauS 2 12 15 13 = 15 := rfl
    have v4 : cauS 2 1 7 5 = 7 := rfl
    rw [v1, v2] at c1
    rw [v3, v4] at c2
    generalize isW (memB pg A X n) (szN pg) satp st pr 1 va = i1 at *
    generalize isW (memB pg A X n) (szN pg) satp st pr 2 va = i2 at *
    generalize isW (memB pg A X n) (szN pg) satp (litBin .or .u64 (litBin .or .u64 st 262144) 524288) pr 1 va = i3 at *
    generalize toW (memB pg A X n) (szN pg) satp st pr 1 va = w1 at *
    generalize toW (memB pg A X n) (szN pg) satp st pr 2 va = w2 at *
    generalize toW (memB pg A X n) (szN pg) satp (litBin .or .u64 (litBin .or .u64 st 262144) 524288) pr 1 va = w3 at *
    generalize cauW (memB pg A X n) (szN pg) satp st pr 1 va = u1 at *
    generalize cauW (memB pg A X n) (szN pg) satp st pr 2 va = u2 at *
    simp only [eql_eq, neq_eq]
    cases i2
    · obtain ⟨rfl, rfl⟩ := s1 rfl
      obtain ⟨rfl, rfl⟩ := s2 rfl
      simp
    · cases i1
      · obtain ⟨rfl, rfl⟩ := s2 rfl
        rcases c2 rfl with rfl | rfl <;> simp
      · rcases c2 rfl with rfl | rfl <;> rcases c1 rfl with rfl | rfl <;> simp

theorem run : ∀ xs h, Abs [.duo [.int .u8] [.int .u32, .int .u64], .plain (.agg [.int .u64, .int .u64, .int .u64, .int .u64, .int .u64, .int .u64, .int .u64, .int .u64, .int .u64, .int .u64, .int .u64, .int .u64, .int .i64, .int .i64, .int .u64])] 0 xs h → ∃ b l, (call Try.prog cxl 400 9 xs h).pick = some (.val (.bool b), l) ∧ b.den = true := by
  rintro xs h ⟨cs, n, fs, as0, h0, rfl, rfl, ⟨_, _, rfl, ⟨pg, rfl, wpg⟩, rfl⟩, hrow, ⟨_, as1, rfl, ⟨_, rfl, ⟨_, _, rfl, ⟨st, rfl, wst⟩, ⟨_, _, rfl, ⟨c1, rfl, wc1⟩, ⟨_, _, rfl, ⟨c2, rfl, wc2⟩, ⟨_, _, rfl, ⟨c3, rfl, wc3⟩, ⟨_, _, rfl, ⟨c4, rfl, wc4⟩, ⟨_, _, rfl, ⟨c5, rfl, wc5⟩, ⟨_, _, rfl, ⟨c6, rfl, wc6⟩, ⟨_, _, rfl, ⟨c7, rfl, wc7⟩, ⟨_, _, rfl, ⟨c8, rfl, wc8⟩, ⟨_, _, rfl, ⟨satp, rfl, wsatp⟩, ⟨_, _, rfl, ⟨c10, rfl, wc10⟩, ⟨_, _, rfl, ⟨c11, rfl, wc11⟩, ⟨_, _, rfl, ⟨pr, rfl, wpr⟩, ⟨_, _, rfl, ⟨k, rfl, wk⟩, ⟨_, _, rfl, ⟨va, rfl, wva⟩, rfl⟩⟩⟩⟩⟩⟩⟩⟩⟩⟩⟩⟩⟩⟩⟩⟩, rfl, rfl⟩⟩
  obtain ⟨hn, hlen, hF⟩ := hrow
  match fs, hlen with
  | [A, X], _ =>
    obtain ⟨t0, hv⟩ := law (n := n) (A := A) (X := X) (wf8 wpg) (fun j hj => wf32 (hF 0 .u32 A rfl rfl j hj)) (fun j hj => inU_wf (hF 1 .u64 X rfl rfl j hj)) wst wc1 wc2 wc3 wc4 wc5 wc6 wc7 wc8 wsatp wc10 wc11 wpr wk wva
    refine (road_at (road pg n A X st c1 c2 c3 c4 c5 c6 c7 c8 satp c10 c11 pr k va) ?_).elim fun l hl => ⟨.sym _, l, hl, hv⟩
    rw [t0]

set_option maxRecDepth 100000 in
theorem lifted (os : Os) (started : os.Started) (H : Type) (enc : TypeId × Value → H) :
    ReturnsInHanded {} Try.checked os 9 .any (Rows.walkReadsSpec.pre6 enc Try.prog Try.f9 Rows.walkReadsRow.domain false) (Rows.walkReadsSpec.post enc Try.prog Try.f9 false true false false) := by
  refine returnsInHanded_of_change (C := Try.checked) own started (by kernel_rfl) Try.func9
    (ChangeSpec.witness6 (enc := enc) (C := Try.checked) false ⟨#[], #[.agg #[.int .u8 0, .slice none 0 0], .agg #[.int .u64 0, .int .u64 0, .int .u64 0, .int .u64 0, .int .u64 0, .int .u64 0, .int .u64 0, .int .u64 0, .int .u64 0, .int .u64 0, .int .u64 0, .int .u64 0, .int .i64 0, .int .i64 0, .int .u64 0]], []⟩ 8 (by kernel_rfl) (by kernel_rfl) (by kernel_rfl) (by kernel_rfl)) ?_
  intro W base args ds gs before hval hW _ _
  exact lifted_rows (P := Try.prog) (f := 9) (fn := Try.f9) (s := Rows.walkReadsSpec) cxl_ok (n := 400) rfl
    (fun ds h => by
      match ds, h with
      | [d1, d2], _ => rfl)
    (by kernel_rfl) rfl (by kernel_rfl) (by kernel_rfl) (by kernel_rfl) run W base args ds gs before hval hW

theorem closed : joinedFacts Try.prog 9 Try.f9 Rows.walkReadsSpec Rows.walkReadsRow = true := by
  unfold joinedFacts
  rw [may_enter, lifts_final, make_cut]
  repeat' (with_reducible refine Bool.and_eq_true_iff.mpr ⟨?_, ?_⟩)
  all_goals kernel_rfl

theorem over : Rows.walkReadsRow.holds Try.pinned (OpenSpec.ofChange Rows.walkReadsSpec) :=
  OpenClaim.holds_of_wide 9 Try.f9 rfl rfl rfl rfl rfl rfl rfl ⟨rfl, rfl, rfl, rfl, rfl⟩ rfl rfl rfl rfl rfl (by kernel_rfl) Try.func9 closed
    (of_decide_eq_true (by kernel_rfl)) (by unfold Func.isWrapper; first | (rw [if_pos (by decide +kernel)]; kernel_rfl) | (rw [if_neg (by decide +kernel)]; exact ⟨rfl, rfl⟩))
    (fun os started H enc _ => lifted os started H enc)

/-- The statement. -/
theorem proved : Rows.WalkReadsSaid :=
  over
#print axioms proved
end Go.Proofs.Ytngcbpcfgolifaa.WalkReads
