/- The reference's Harts as a summary, the same as the code's. Conditions: none. -/
import Derived.Test.YtbjlkapfpcmjfaaDoorRefHarts
namespace Go.Proofs.YtbjlkapfpcmjfaaDoor.Mask
open Go.RowKit Ev
set_option linter.unusedVariables false
set_option linter.unusedSimpArgs false
namespace Ref
def yC (n : Int) : Int := cond (litCmp .lss 8 (cond (litCmp .gtr 0 n) 0 n)) 8 (cond (litCmp .gtr 0 n) 0 n)
theorem yC_eq (n : Int) : yC n = ((lanes n : Nat) : Int) := by
  have h := yI_eq n
  have h2 : yI n = IntKind.u64.wrap (yC n) := rfl
  unfold yC
  rw [lss_eq, gtr_eq]
  unfold lanes
  by_cases h : n < 0
  · rw [decide_eq_true h, cond_true]
    have : max n 0 = 0 := by omega
    rw [this]
    rfl
  · rw [decide_eq_false h, cond_false]
    by_cases h8 : 8 < n
    · rw [decide_eq_true h8, cond_true]
      have : min (max n 0) 8 = 8 := by omega
      rw [this]
      rfl
    · rw [decide_eq_false h8, cond_false]
      omega
def allT (b : Int) : Bool := litCmp .eql b 18446744073709551615
abbrev en (m b n : Int) : Env DC := e0 m b (yC n) 0
abbrev eu (n : Int) : Env DC := f0 (yC n) 0
section
variable (m b n : Int)
set_option maxRecDepth 100000 in
theorem fN : (call Tryd.prog cxN 60 10 (Code.ag m b n) []).route [false, true] = some ([allT b, askN (en m b n)], (.val (.tuple [.slice 1 (.lit 0) (.rc ((resN (en m b n)).n.getD 0 0) 1 0) (.un 1), .bool (.lit true)]), [.new (.cells 3 []), .obj 0 .gone, .new (.arr 3 ((resN (en m b n)).n.getD 1 0) [(.int .i64, (resN (en m b n)).f.getD 0 (fun _ => 0))])])) := by kernel_rfl
set_option maxRecDepth 100000 in
theorem fE : (call Tryd.prog cxE 60 10 (Code.ag m b n) []).route [false, true] = some ([allT b, askE (en m b n)], (.val (.tuple [.slice 0 (.lit 0) (.lit 0) (.kn (.lit 0)), .bool (.lit true)]), [.new (.cells 3 []), .obj 0 .gone])) := by kernel_rfl
set_option maxRecDepth 100000 in
theorem fR : (call Tryd.prog cxR 60 10 (Code.ag m b n) []).route [false, true] = some ([allT b, askR (en m b n)], (.val (.tuple [.nilslice, .bool (.lit false)]), [.new (.cells 3 []), .obj 0 .gone])) := by kernel_rfl
set_option maxRecDepth 100000 in
theorem fA : (call Tryd.prog cxR 60 10 (Code.ag m b n) []).route [true, true] = some ([allT b, askA (eu n)], (.val (.tuple [.slice 1 (.lit 0) (.rc ((resA (eu n)).n.getD 0 0) 1 0) (.un 1), .bool (.lit true)]), [.new (.cells 3 []), .obj 0 .gone, .new (.arr 3 ((resA (eu n)).n.getD 1 0) [(.int .i64, (resA (eu n)).f.getD 0 (fun _ => 0))])])) := by kernel_rfl
set_option maxRecDepth 100000 in
theorem fB : (call Tryd.prog cxB 60 10 (Code.ag m b n) []).route [true, true] = some ([allT b, askB (eu n)], (.val (.tuple [.slice 0 (.lit 0) (.lit 0) (.kn (.lit 0)), .bool (.lit true)]), [.new (.cells 3 []), .obj 0 .gone])) := by kernel_rfl
end
end Ref
theorem vals_zero (m b : Nat) : Ref.vals m b 0 = Code.vals m b := by unfold Ref.vals Code.vals; rw [rem_zero]
theorem list_all {m y : Nat} (hy : y ≤ 8) : okN m 18446744073709551615 y = true ∧ listN m 18446744073709551615 y = Ref.rng y := by
  have hb : bitsL (2 ^ y - 1) = List.range y := bits_ones ⟨y, by omega⟩
  have h1 : okN m 18446744073709551615 y = true := by
    unfold okN maskOf baseOf
    rw [if_pos rfl, if_pos rfl, hb, List.all_eq_true]
    intro k hk
    have := List.mem_range.1 hk
    unfold pass
    rw [Bool.and_eq_true, decide_eq_true_eq, decide_eq_true_eq]
    omega
  refine ⟨h1, ?_⟩
  unfold listN
  rw [if_pos h1]
  unfold maskOf baseOf Ref.rng
  rw [if_pos rfl, if_pos rfl, hb]
  refine List.map_congr_left fun k _ => ?_
  rw [Nat.zero_add]
theorem ref_fn {m b : Nat} {n : Int} (hm : m < 18446744073709551616) (hb : b < 18446744073709551616) (h : List (AO DC)) : FnOk Tryd.prog 10 (Code.ag m b n) h (.tuple [.slice h.length (.lit 0) (.rc (lenH m b n) 1 0) .any, .bool (.sym (okH m b n))], [.new (.rows 0 (lenH m b n) [(.int .i64, atH m b n)])]) := by
  have hL : listH m b n = listN m b (lanes n) := rfl
  have hO : okH m b n = okN m b (lanes n) := rfl
  have hag : (Code.ag (m : Int) (b : Int) n).all scal = true := rfl
  have hy := lanes_le n
  by_cases hall : b = 18446744073709551615
  · have hT : Ref.allT (b : Int) = true := by
      unfold Ref.allT
      rw [eql_eq]
      exact decide_eq_true (by omega)
    have hu : Ref.eu n = Ref.f0 ((lanes n : Nat) : Int) 0 := by rw [← Ref.yC_eq]
    obtain ⟨h1, h2⟩ := list_all (m := m) hy
    rw [← hall] at h1 h2
    have hl : listH m b n = Ref.rng (lanes n) := by rw [hL, h2]
    by_cases h0 : lanes n = 0
    · have hq : Ref.askB (Ref.eu n) = true := yes_of (by rw [hu, h0])
      have hr := route_at (Ref.fB m b n) (by rw [hT, hq])
      have hf := fn_ok Ref.cxB_ok (r := (.tuple [.slice 0 (.lit 0) (.lit 0) (.kn (.lit 0)), .bool (.lit true)], [.new (.cells 3 []), .obj 0 .gone])) hr
      have hl' : listH m b n = [] := by rw [hl, h0]; rfl
      have := fn_list (k := .i64) (n := 0) (F := listF []) (h := h) hag hf (.inl ⟨rfl, .inr ⟨0, rfl⟩⟩)
      unfold lenH atH
      rw [hl']
      exact fn_val this fun ρ u hu => val_ok (by rw [hO, h1]; rfl) u hu
    · have hq : Ref.askA (Ref.eu n) = true := yes_of ⟨lanes n, hu, by omega, hy⟩
      have hr := route_at (Ref.fA m b n) (by rw [hT, hq])
      rw [hu] at hr
      have hf := fn_ok Ref.cxR_ok (r := (.tuple [.slice 1 (.lit 0) (.rc (lenH m b n) 1 0) (.un 1), .bool (.lit true)], [.new (.cells 3 []), .obj 0 .gone, .new (.arr 3 (lenH m b n) [(.int .i64, atH m b n)])])) (by
        unfold lenH atH
        rw [hl]
        exact hr)
      have := fn_list (k := .i64) (n := lenH m b n) (F := atH m b n) (h := h) hag hf (.inr ⟨1, 3, 1, rfl, rfl⟩)
      exact fn_val this fun ρ u hu => val_ok (by rw [hO, h1]; rfl) u hu
  · have hT : Ref.allT (b : Int) = false := by
      unfold Ref.allT
      rw [eql_eq]
      exact decide_eq_false (by omega)
    have hmask : maskOf m b (lanes n) = m := if_neg hall
    have hbase : baseOf b = b := if_neg hall
    have hen : Ref.en m b n = Ref.e0 (m : Int) (b : Int) ((lanes n : Nat) : Int) 0 := by rw [← Ref.yC_eq]
    cases hok : okN m b (lanes n) with
    | false =>
      have hok' : (bitsL m).all (pass b (lanes n)) = false := by unfold okN at hok; rwa [hmask, hbase] at hok
      have hq : Ref.askR (Ref.en m b n) = true := yes_of ⟨m, b, lanes n, hen, hm, hb, hy, hok'⟩
      have hr := route_at (Ref.fR m b n) (by rw [hT, hq])
      have hf := fn_ok Ref.cxR_ok (r := (.tuple [.nilslice, .bool (.lit false)], [.new (.cells 3 []), .obj 0 .gone])) hr
      have hl : listH m b n = [] := by rw [hL]; unfold listN; rw [hok]; rfl
      have := fn_list (k := .i64) (n := 0) (F := listF []) (h := h) hag hf (.inl ⟨rfl, .inl rfl⟩)
      unfold lenH atH
      rw [hl]
      exact fn_val this fun ρ u hu => val_ok (by rw [hO, hok]; rfl) u hu
    | true =>
      have hok' : (bitsL m).all (pass b (lanes n)) = true := by unfold okN at hok; rwa [hmask, hbase] at hok
      have hl : listH m b n = Code.vals m b := by rw [hL]; unfold listN; rw [hok, hmask, hbase]; rfl
      by_cases h0 : m = 0
      · have hq : Ref.askE (Ref.en m b n) = true := yes_of ⟨m, b, lanes n, hen, hm, hb, hy, h0⟩
        have hr := route_at (Ref.fE m b n) (by rw [hT, hq])
        have hf := fn_ok Ref.cxE_ok (r := (.tuple [.slice 0 (.lit 0) (.lit 0) (.kn (.lit 0)), .bool (.lit true)], [.new (.cells 3 []), .obj 0 .gone])) hr
        have hl' : listH m b n = [] := by rw [hl, h0]; unfold Code.vals; rw [(bits_nil (by decide)).2 rfl]; rfl
        have := fn_list (k := .i64) (n := 0) (F := listF []) (h := h) hag hf (.inl ⟨rfl, .inr ⟨0, rfl⟩⟩)
        unfold lenH atH
        rw [hl']
        exact fn_val this fun ρ u hu => val_ok (by rw [hO, hok]; rfl) u hu
      · have hq : Ref.askN (Ref.en m b n) = true := yes_of ⟨m, b, lanes n, hen, hm, hb, hy, hok', h0⟩
        have hr := route_at (Ref.fN m b n) (by rw [hT, hq])
        rw [hen] at hr
        have hf := fn_ok Ref.cxN_ok (r := (.tuple [.slice 1 (.lit 0) (.rc (lenH m b n) 1 0) (.un 1), .bool (.lit true)], [.new (.cells 3 []), .obj 0 .gone, .new (.arr 3 (lenH m b n) [(.int .i64, atH m b n)])])) (by
          unfold lenH atH
          rw [hl, ← vals_zero]
          exact hr)
        have := fn_list (k := .i64) (n := lenH m b n) (F := atH m b n) (h := h) hag hf (.inr ⟨1, 3, 1, rfl, rfl⟩)
        exact fn_val this fun ρ u hu => val_ok (by rw [hO, hok]; rfl) u hu
end Go.Proofs.YtbjlkapfpcmjfaaDoor.Mask
