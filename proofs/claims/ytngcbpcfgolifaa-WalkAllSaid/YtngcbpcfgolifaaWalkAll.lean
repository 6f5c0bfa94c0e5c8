/- The statement 'WalkAll': where any walk ends, of any memory, any table and address, or its fault, is as the document says; and the real address. Conditions: none. -/
import Derived.Test.YtngcbpcfgolifaaShown
import Derived.Test.YtngcbpcfgolifaaHead
namespace Go.Proofs.Ytngcbpcfgolifaa.WalkAll
open Go.RowKit Go.WideShapes Go.ChangeShapes Go.ChangeAt Ev
set_option linter.unusedVariables false
set_option linter.unusedSimpArgs false

noncomputable def test0 (pg : Int) (n : Nat) (A X : Nat → Int) (st : Int) (c1 : Int) (c2 : Int) (c3 : Int) (c4 : Int) (c5 : Int) (c6 : Int) (c7 : Int) (c8 : Int) (satp : Int) (c10 : Int) (c11 : Int) (pr : Int) (k : Int) (va : Int) : Bool := ((askB pg n n X) && ((askW (szN pg) (szN pg) (szN pg) (memB pg A X n) satp st va) && ((askW (szN pg) (szN pg) (szN pg) (memB pg A X n) satp st va) && ((askW (szN pg) (szN pg) (szN pg) (memB pg A X n) satp st va) && (askW (szN pg) (szN pg) (szN pg) (memB pg A X n) satp st va)))))
noncomputable def val (pg : Int) (n : Nat) (A X : Nat → Int) (st : Int) (c1 : Int) (c2 : Int) (c3 : Int) (c4 : Int) (c5 : Int) (c6 : Int) (c7 : Int) (c8 : Int) (satp : Int) (c10 : Int) (c11 : Int) (pr : Int) (k : Int) (va : Int) : Bool := (cond (cond ((litCmp .eql (cauS k 12 15 13) (cauS k 12 15 13)) && (litCmp .eql va va)) ((litCmp .eql (cauS k 1 7 5) (cauS k 1 7 5)) && (litCmp .eql va va)) false) (cond ((litCmp .eql (pteW (memB pg A X n) (szN pg) satp st pr k va) (pteW (memB pg A X n) (szN pg) satp st pr k va)) && ((litCmp .eql (lvW (memB pg A X n) (szN pg) satp st pr k va) (lvW (memB pg A X n) (szN pg) satp st pr k va)) && ((glW (memB pg A X n) (szN pg) satp st pr k va) == (glW (memB pg A X n) (szN pg) satp st pr k va)))) (cond (((isW (memB pg A X n) (szN pg) satp st pr k va) == (isW (memB pg A X n) (szN pg) satp st pr k va)) && ((litCmp .eql (cauW (memB pg A X n) (szN pg) satp st pr k va) (cauW (memB pg A X n) (szN pg) satp st pr k va)) && (litCmp .eql (valW (memB pg A X n) (szN pg) satp st pr k va) (valW (memB pg A X n) (szN pg) satp st pr k va)))) (cond (litCmp .eql (toW (memB pg A X n) (szN pg) satp st pr k va) (toW (memB pg A X n) (szN pg) satp st pr k va)) (cond (((isW (memB pg A X n) (szN pg) satp st pr k va) == (isW (memB pg A X n) (szN pg) satp st pr k va)) && ((litCmp .eql (cauW (memB pg A X n) (szN pg) satp st pr k va) (cauW (memB pg A X n) (szN pg) satp st pr k va)) && (litCmp .eql (valW (memB pg A X n) (szN pg) satp st pr k va) (valW (memB pg A X n) (szN pg) satp st pr k va)))) ((litCmp .eql (litBin .shr .u64 satp 60) 8) == (litCmp .eql (litBin .shr .u64 satp 60) 8)) false) false) false) false) false)
set_option maxRecDepth 100000 in
theorem road (pg : Int) (n : Nat) (A X : Nat → Int) (st : Int) (c1 : Int) (c2 : Int) (c3 : Int) (c4 : Int) (c5 : Int) (c6 : Int) (c7 : Int) (c8 : Int) (satp : Int) (c10 : Int) (c11 : Int) (pr : Int) (k : Int) (va : Int) : ((call Try.prog cxl 400 8 [.agg [.int .u8 (.sym pg), .slice 0 (.lit 0) (.rc n 1 0) .any], .agg [.int .u64 (.sym st), .int .u64 (.sym c1), .int .u64 (.sym c2), .int .u64 (.sym c3), .int .u64 (.sym c4), .int .u64 (.sym c5), .int .u64 (.sym c6), .int .u64 (.sym c7), .int .u64 (.sym c8), .int .u64 (.sym satp), .int .u64 (.sym c10), .int .u64 (.sym c11), .int .i64 (.sym pr), .int .i64 (.sym k), .int .u64 (.sym va)]] [.rows 0 n [(.int .u32, A), (.int .u64, X)]]).route [true]).map (fun p => (p.1, p.2.1)) = some ([test0 pg n A X st c1 c2 c3 c4 c5 c6 c7 c8 satp c10 c11 pr k va], .val (.bool (.sym (val pg n A X st c1 c2 c3 c4 c5 c6 c7 c8 satp c10 c11 pr k va)))) := by kernel_rfl

theorem law {pg : Int} {n : Nat} {A X : Nat → Int} {st : Int} {c1 : Int} {c2 : Int} {c3 : Int} {c4 : Int} {c5 : Int} {c6 : Int} {c7 : Int} {c8 : Int} {satp : Int} {c10 : Int} {c11 : Int} {pr : Int} {k : Int} {va : Int} (hpg : 0 ≤ pg ∧ pg < 256) (hA : ∀ j, j < n → 0 ≤ A j ∧ A j < 4294967296) (hX : ∀ j, j < n → inU (X j)) (wst : (Lit.int .u64 st).wf = true) (wc1 : (Lit.int .u64 c1).wf = true) (wc2 : (Lit.int .u64 c2).wf = true) (wc3 : (Lit.int .u64 c3).wf = true) (wc4 : (Lit.int .u64 c4).wf = true) (wc5 : (Lit.int .u64 c5).wf = true) (wc6 : (Lit.int .u64 c6).wf = true) (wc7 : (Lit.int .u64 c7).wf = true) (wc8 : (Lit.int .u64 c8).wf = true) (wsatp : (Lit.int .u64 satp).wf = true) (wc10 : (Lit.int .u64 c10).wf = true) (wc11 : (Lit.int .u64 c11).wf = true) (wpr : (Lit.int .i64 pr).wf = true) (wk : (Lit.int .i64 k).wf = true) (wva : (Lit.int .u64 va).wf = true) :
    test0 pg n A X st c1 c2 c3 c4 c5 c6 c7 c8 satp c10 c11 pr k va = true ∧ val pg n A X st c1 c2 c3 c4 c5 c6 c7 c8 satp c10 c11 pr k va = true := by
  refine ⟨?_, ?_⟩
  · unfold test0
    rw [askB_of hpg hX, askW_of (memB_ok hpg) (inU_wf wsatp) (inU_wf wst) (inU_wf wva)]
    rfl
  · unfold val
    simp only [eql_self, beq_self_eq_true, Bool.and_self, cond_true]

theorem run : ∀ xs h, Abs [.duo [.int .u8] [.int .u32, .int .u64], .plain (.agg [.int .u64, .int .u64, .int .u64, .int .u64, .int .u64, .int .u64, .int .u64, .int .u64, .int .u64, .int .u64, .int .u64, .int .u64, .int .i64, .int .i64, .int .u64])] 0 xs h → ∃ b l, (call Try.prog cxl 400 8 xs h).pick = some (.val (.bool b), l) ∧ b.den = true := by
  rintro xs h ⟨cs, n, fs, as0, h0, rfl, rfl, ⟨_, _, rfl, ⟨pg, rfl, wpg⟩, rfl⟩, hrow, ⟨_, as1, rfl, ⟨_, rfl, ⟨_, _, rfl, ⟨st, rfl, wst⟩, ⟨_, _, rfl, ⟨c1, rfl, wc1⟩, ⟨_, _, rfl, ⟨c2, rfl, wc2⟩, ⟨_, _, rfl, ⟨c3, rfl, wc3⟩, ⟨_, _, rfl, ⟨c4, rfl, wc4⟩, ⟨_, _, rfl, ⟨c5, rfl, wc5⟩, ⟨_, _, rfl, ⟨c6, rfl, wc6⟩, ⟨_, _, rfl, ⟨c7, rfl, wc7⟩, ⟨_, _, rfl, ⟨c8, rfl, wc8⟩, ⟨_, _, rfl, ⟨satp, rfl, wsatp⟩, ⟨_, _, rfl, ⟨c10, rfl, wc10⟩, ⟨_, _, rfl, ⟨c11, rfl, wc11⟩, ⟨_, _, rfl, ⟨pr, rfl, wpr⟩, ⟨_, _, rfl, ⟨k, rfl, wk⟩, ⟨_, _, rfl, ⟨va, rfl, wva⟩, rfl⟩⟩⟩⟩⟩⟩⟩⟩⟩⟩⟩⟩⟩⟩⟩⟩, rfl, rfl⟩⟩
  obtain ⟨hn, hlen, hF⟩ := hrow
  match fs, hlen with
  | [A, X], _ =>
    obtain ⟨t0, hv⟩ := law (n := n) (A := A) (X := X) (wf8 wpg) (fun j hj => wf32 (hF 0 .u32 A rfl rfl j hj)) (fun j hj => inU_wf (hF 1 .u64 X rfl rfl j hj)) wst wc1 wc2 wc3 wc4 wc5 wc6 wc7 wc8 wsatp wc10 wc11 wpr wk wva
    refine (road_at (road pg n A X st c1 c2 c3 c4 c5 c6 c7 c8 satp c10 c11 pr k va) ?_).elim fun l hl => ⟨.sym _, l, hl, hv⟩
    rw [t0]

set_option maxRecDepth 100000 in
theorem lifted (os : Os) (started : os.Started) (H : Type) (enc : TypeId × Value → H) :
    ReturnsInHanded {} Try.checked os 8 .any (Rows.walkAllSpec.pre6 enc Try.prog Try.f8 Rows.walkAllRow.domain false) (Rows.walkAllSpec.post enc Try.prog Try.f8 false true false false) := by
  refine returnsInHanded_of_change (C := Try.checked) own started (by kernel_rfl) Try.func8
    (ChangeSpec.witness6 (enc := enc) (C := Try.checked) false ⟨#[], #[.agg #[.int .u8 0, .slice none 0 0], .agg #[.int .u64 0, .int .u64 0, .int .u64 0, .int .u64 0, .int .u64 0, .int .u64 0, .int .u64 0, .int .u64 0, .int .u64 0, .int .u64 0, .int .u64 0, .int .u64 0, .int .i64 0, .int .i64 0, .int .u64 0]], []⟩ 8 (by kernel_rfl) (by kernel_rfl) (by kernel_rfl) (by kernel_rfl)) ?_
  intro W base args ds gs before hval hW _ _
  exact lifted_rows (P := Try.prog) (f := 8) (fn := Try.f8) (s := Rows.walkAllSpec) cxl_ok (n := 400) rfl
    (fun ds h => by
      match ds, h with
      | [d1, d2], _ => rfl)
    (by kernel_rfl) rfl (by kernel_rfl) (by kernel_rfl) (by kernel_rfl) run W base args ds gs before hval hW

theorem closed : joinedFacts Try.prog 8 Try.f8 Rows.walkAllSpec Rows.walkAllRow = true := by
  unfold joinedFacts
  rw [may_enter, lifts_final, make_cut]
  repeat' (with_reducible refine Bool.and_eq_true_iff.mpr ⟨?_, ?_⟩)
  all_goals kernel_rfl

theorem over : Rows.walkAllRow.holds Try.pinned (OpenSpec.ofChange Rows.walkAllSpec) :=
  OpenClaim.holds_of_wide 8 Try.f8 rfl rfl rfl rfl rfl rfl rfl ⟨rfl, rfl, rfl, rfl, rfl⟩ rfl rfl rfl rfl rfl (by kernel_rfl) Try.func8 closed
    (of_decide_eq_true (by kernel_rfl)) (by unfold Func.isWrapper; first | (rw [if_pos (by decide +kernel)]; kernel_rfl) | (rw [if_neg (by decide +kernel)]; exact ⟨rfl, rfl⟩))
    (fun os started H enc _ => lifted os started H enc)

/-- The statement. -/
theorem proved : Rows.WalkAllSaid :=
  over
#print axioms proved
end Go.Proofs.Ytngcbpcfgolifaa.WalkAll
