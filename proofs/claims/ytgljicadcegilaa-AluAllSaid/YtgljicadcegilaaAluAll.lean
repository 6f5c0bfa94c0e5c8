/- The statement 'AluAll': what any two numbers become by any op, whether a branch is taken, and which number is the second, is as the document says. Conditions: none. -/
import Derived.Test.YtgljicadcegilaaAluCx
namespace Go.Proofs.Ytgljicadcegilaa.AluAll
open Go.RowKit Go.WideShapes Go.ChangeShapes Go.ChangeAt Ev
set_option linter.unusedVariables false
set_option linter.unusedSimpArgs false

theorem eql_s (x : Int) : litCmp .eql x x = true := by rw [eql_eq]; exact decide_eq_true rfl
theorem and_rem {x : Int} (h : inU x) (k : Nat) (hk : k < 64) : litBin .and .u64 x ((2 ^ k - 1 : Nat) : Int) = litBin .rem .u64 x ((2 ^ k : Nat) : Int) := by
  obtain ⟨n, rfl, hn⟩ := h.nat
  have hp : 2 ^ k < 2 ^ 64 := Nat.pow_lt_pow_right (by decide) hk
  have h64 : (2 : Nat) ^ 64 = 18446744073709551616 := by decide
  have e : litBin .and .u64 (n : Int) ((2 ^ k - 1 : Nat) : Int) = ((n &&& (2 ^ k - 1) : Nat) : Int) := and_nat hn (y := 2 ^ k - 1) (by omega)
  rw [e, Nat.and_two_pow_sub_one_eq_mod]
  show ((n % 2 ^ k : Nat) : Int) = (n : Int).tmod ((2 ^ k : Nat) : Int)
  rw [Int.tmod_eq_emod_of_nonneg (by omega)]
  exact Int.natCast_emod n (2 ^ k)
theorem less_eq {a b : Int} (ha : inU a) (hb : inU b) : litCmp .lss (IntKind.wrap .i64 a) (IntKind.wrap .i64 b) = cond (litCmp .neq (litBin .shr .u64 a 63) (litBin .shr .u64 b 63)) (litCmp .eql (litBin .shr .u64 a 63) 1) (litCmp .lss a b) := by
  rw [shr63, shr63, wrapi, wrapi, lss_eq, lss_eq, neq_eq, eql_eq]
  unfold inU at ha hb
  by_cases h : a / 9223372036854775808 = b / 9223372036854775808
  · rw [decide_eq_true h]
    exact decide_eq_decide.2 (by omega)
  · rw [decide_eq_false h]
    exact decide_eq_decide.2 (by omega)
theorem inU_shW {x : Int} (y k : Int) (hx : inU x) : inU (shW x y k) := by
  obtain ⟨n, hn, e⟩ := and63 y
  refine inU.cond (inU_wrap _) (inU.cond ?_ (inU.cond (inU_wrap _) hx))
  rw [e]
  exact inU.shr hx n (by omega)
theorem inU_rem {x : Int} (h : inU x) : inU (litBin .rem .u64 x 4294967296) := by
  rw [rem32 h]
  unfold inU
  omega
structure Facts (a b : Int) : Prop where
  ia : inB a = true
  ib : inB b = true
  add : inB (litBin .add .u64 a b) = true
  sub : inB (litBin .sub .u64 a b) = true
  mul : inB (litBin .mul .u64 a b) = true
  rem : inB (litBin .rem .u64 a 4294967296) = true
  sx : inB (sextW a 32) = true
  s1 : ∀ y k, inB (shW a y k) = true
  s2 : ∀ y k, inB (shW (litBin .rem .u64 a 4294967296) y k) = true
  s3 : ∀ y k, inB (shW (sextW a 32) y k) = true
  e63 : litBin .and .u64 b 63 = litBin .rem .u64 b 64
  e31 : litBin .and .u64 b 31 = litBin .rem .u64 b 32
  low : IntKind.wrap .u64 (IntKind.wrap .u32 a) = litBin .rem .u64 a 4294967296
  less : litCmp .lss (IntKind.wrap .i64 a) (IntKind.wrap .i64 b) = cond (litCmp .neq (litBin .shr .u64 a 63) (litBin .shr .u64 b 63)) (litCmp .eql (litBin .shr .u64 a 63) 1) (litCmp .lss a b)
theorem facts {a b : Int} (ha : inU a) (hb : inU b) : Facts a b where
  ia := inB_of ha
  ib := inB_of hb
  add := inB_of (inU_wrap _)
  sub := inB_of (inU_wrap _)
  mul := inB_of (inU_wrap _)
  rem := inB_of (inU_rem ha)
  sx := inB_of (by rw [sextW32]; exact inU_sx a)
  s1 := fun y k => inB_of (inU_shW y k ha)
  s2 := fun y k => inB_of (inU_shW y k (inU_rem ha))
  s3 := fun y k => inB_of (inU_shW y k (by rw [sextW32]; exact inU_sx a))
  e63 := and_rem hb 6 (by decide)
  e31 := and_rem hb 5 (by decide)
  low := by rw [low32, rem32 ha]
  less := less_eq ha hb
set_option maxRecDepth 100000 in
theorem road0 (a b m : Int) : ((call Try.prog cxu 400 19 [.int .i64 (.lit 22), .agg [.int .u64 (.sym a), .int .u64 (.sym b)], .int .i64 (.sym m)] []).route []).map (fun p => (p.1, p.2.1)) = some ([], .val (.bool (.sym (cond (litCmp .eql (litBin .add .u64 a b) (litBin .add .u64 a b)) (litCmp .eql (IntKind.wrap .u64 m) (IntKind.wrap .u64 m)) false)))) := by kernel_rfl
theorem law0 {a b : Int} (m : Int) (F : Facts a b) : ∃ c : Bool, (call Try.prog cxu 400 19 [.int .i64 (.lit 22), .agg [.int .u64 (.sym a), .int .u64 (.sym b)], .int .i64 (.sym m)] []).pick.map (·.1) = some (.val (.bool (.sym c))) ∧ c = true :=
  ⟨_, route_pick1 (road0 a b m) rfl, by simp only [F.e63, F.e31, F.low, F.less, eql_s, cond_true]⟩
set_option maxRecDepth 100000 in
theorem road1 (a b m : Int) : ((call Try.prog cxu 400 19 [.int .i64 (.lit 23), .agg [.int .u64 (.sym a), .int .u64 (.sym b)], .int .i64 (.sym m)] []).route []).map (fun p => (p.1, p.2.1)) = some ([], .val (.bool (.sym (cond (litCmp .eql (cond (litCmp .lss (IntKind.wrap .i64 a) (IntKind.wrap .i64 b)) 1 0) (cond (cond (litCmp .neq (litBin .shr .u64 a 63) (litBin .shr .u64 b 63)) (litCmp .eql (litBin .shr .u64 a 63) 1) (litCmp .lss a b)) 1 0)) (litCmp .eql (IntKind.wrap .u64 m) (IntKind.wrap .u64 m)) false)))) := by kernel_rfl
theorem law1 {a b : Int} (m : Int) (F : Facts a b) : ∃ c : Bool, (call Try.prog cxu 400 19 [.int .i64 (.lit 23), .agg [.int .u64 (.sym a), .int .u64 (.sym b)], .int .i64 (.sym m)] []).pick.map (·.1) = some (.val (.bool (.sym c))) ∧ c = true :=
  ⟨_, route_pick1 (road1 a b m) rfl, by simp only [F.e63, F.e31, F.low, F.less, eql_s, cond_true]⟩
set_option maxRecDepth 100000 in
theorem road2 (a b m : Int) : ((call Try.prog cxu 400 19 [.int .i64 (.lit 24), .agg [.int .u64 (.sym a), .int .u64 (.sym b)], .int .i64 (.sym m)] []).route []).map (fun p => (p.1, p.2.1)) = some ([], .val (.bool (.sym (cond (litCmp .eql (cond (litCmp .lss a b) 1 0) (cond (litCmp .lss a b) 1 0)) (litCmp .eql (IntKind.wrap .u64 m) (IntKind.wrap .u64 m)) false)))) := by kernel_rfl
theorem law2 {a b : Int} (m : Int) (F : Facts a b) : ∃ c : Bool, (call Try.prog cxu 400 19 [.int .i64 (.lit 24), .agg [.int .u64 (.sym a), .int .u64 (.sym b)], .int .i64 (.sym m)] []).pick.map (·.1) = some (.val (.bool (.sym c))) ∧ c = true :=
  ⟨_, route_pick1 (road2 a b m) rfl, by simp only [F.e63, F.e31, F.low, F.less, eql_s, cond_true]⟩
set_option maxRecDepth 100000 in
theorem road3 (a b m : Int) : ((call Try.prog cxu 400 19 [.int .i64 (.lit 25), .agg [.int .u64 (.sym a), .int .u64 (.sym b)], .int .i64 (.sym m)] []).route []).map (fun p => (p.1, p.2.1)) = some ([], .val (.bool (.sym (cond (litCmp .eql (litBin .xor .u64 a b) (litBin .xor .u64 a b)) (litCmp .eql (IntKind.wrap .u64 m) (IntKind.wrap .u64 m)) false)))) := by kernel_rfl
theorem law3 {a b : Int} (m : Int) (F : Facts a b) : ∃ c : Bool, (call Try.prog cxu 400 19 [.int .i64 (.lit 25), .agg [.int .u64 (.sym a), .int .u64 (.sym b)], .int .i64 (.sym m)] []).pick.map (·.1) = some (.val (.bool (.sym c))) ∧ c = true :=
  ⟨_, route_pick1 (road3 a b m) rfl, by simp only [F.e63, F.e31, F.low, F.less, eql_s, cond_true]⟩
set_option maxRecDepth 100000 in
theorem road4 (a b m : Int) : ((call Try.prog cxu 400 19 [.int .i64 (.lit 26), .agg [.int .u64 (.sym a), .int .u64 (.sym b)], .int .i64 (.sym m)] []).route []).map (fun p => (p.1, p.2.1)) = some ([], .val (.bool (.sym (cond (litCmp .eql (litBin .or .u64 a b) (litBin .or .u64 a b)) (litCmp .eql (IntKind.wrap .u64 m) (IntKind.wrap .u64 m)) false)))) := by kernel_rfl
theorem law4 {a b : Int} (m : Int) (F : Facts a b) : ∃ c : Bool, (call Try.prog cxu 400 19 [.int .i64 (.lit 26), .agg [.int .u64 (.sym a), .int .u64 (.sym b)], .int .i64 (.sym m)] []).pick.map (·.1) = some (.val (.bool (.sym c))) ∧ c = true :=
  ⟨_, route_pick1 (road4 a b m) rfl, by simp only [F.e63, F.e31, F.low, F.less, eql_s, cond_true]⟩
set_option maxRecDepth 100000 in
theorem road5 (a b m : Int) : ((call Try.prog cxu 400 19 [.int .i64 (.lit 27), .agg [.int .u64 (.sym a), .int .u64 (.sym b)], .int .i64 (.sym m)] []).route []).map (fun p => (p.1, p.2.1)) = some ([], .val (.bool (.sym (cond (litCmp .eql (litBin .and .u64 a b) (litBin .and .u64 a b)) (litCmp .eql (IntKind.wrap .u64 m) (IntKind.wrap .u64 m)) false)))) := by kernel_rfl
theorem law5 {a b : Int} (m : Int) (F : Facts a b) : ∃ c : Bool, (call Try.prog cxu 400 19 [.int .i64 (.lit 27), .agg [.int .u64 (.sym a), .int .u64 (.sym b)], .int .i64 (.sym m)] []).pick.map (·.1) = some (.val (.bool (.sym c))) ∧ c = true :=
  ⟨_, route_pick1 (road5 a b m) rfl, by simp only [F.e63, F.e31, F.low, F.less, eql_s, cond_true]⟩
set_option maxRecDepth 100000 in
theorem road6 (a b m : Int) : ((call Try.prog cxu 400 19 [.int .i64 (.lit 28), .agg [.int .u64 (.sym a), .int .u64 (.sym b)], .int .i64 (.sym m)] []).route [true]).map (fun p => (p.1, p.2.1)) = some ([(inB a)], .val (.bool (.sym (cond (litCmp .eql (shW a (IntKind.wrap .i64 (litBin .and .u64 b 63)) 0) (shW a (IntKind.wrap .i64 (litBin .rem .u64 b 64)) 0)) (litCmp .eql (IntKind.wrap .u64 m) (IntKind.wrap .u64 m)) false)))) := by kernel_rfl
theorem law6 {a b : Int} (m : Int) (F : Facts a b) : ∃ c : Bool, (call Try.prog cxu 400 19 [.int .i64 (.lit 28), .agg [.int .u64 (.sym a), .int .u64 (.sym b)], .int .i64 (.sym m)] []).pick.map (·.1) = some (.val (.bool (.sym c))) ∧ c = true :=
  ⟨_, route_pick1 (road6 a b m) (by simp only [F.ia, F.ib, F.add, F.sub, F.mul, F.rem, F.sx, F.s1, F.s2, F.s3, Bool.and_self]), by simp only [F.e63, F.e31, F.low, F.less, eql_s, cond_true]⟩
set_option maxRecDepth 100000 in
theorem road7 (a b m : Int) : ((call Try.prog cxu 400 19 [.int .i64 (.lit 29), .agg [.int .u64 (.sym a), .int .u64 (.sym b)], .int .i64 (.sym m)] []).route [true]).map (fun p => (p.1, p.2.1)) = some ([(inB a)], .val (.bool (.sym (cond (litCmp .eql (shW a (IntKind.wrap .i64 (litBin .and .u64 b 63)) 1) (shW a (IntKind.wrap .i64 (litBin .rem .u64 b 64)) 1)) (litCmp .eql (IntKind.wrap .u64 m) (IntKind.wrap .u64 m)) false)))) := by kernel_rfl
theorem law7 {a b : Int} (m : Int) (F : Facts a b) : ∃ c : Bool, (call Try.prog cxu 400 19 [.int .i64 (.lit 29), .agg [.int .u64 (.sym a), .int .u64 (.sym b)], .int .i64 (.sym m)] []).pick.map (·.1) = some (.val (.bool (.sym c))) ∧ c = true :=
  ⟨_, route_pick1 (road7 a b m) (by simp only [F.ia, F.ib, F.add, F.sub, F.mul, F.rem, F.sx, F.s1, F.s2, F.s3, Bool.and_self]), by simp only [F.e63, F.e31, F.low, F.less, eql_s, cond_true]⟩
set_option maxRecDepth 100000 in
theorem road8 (a b m : Int) : ((call Try.prog cxu 400 19 [.int .i64 (.lit 30), .agg [.int .u64 (.sym a), .int .u64 (.sym b)], .int .i64 (.sym m)] []).route [true]).map (fun p => (p.1, p.2.1)) = some ([(inB a)], .val (.bool (.sym (cond (litCmp .eql (shW a (IntKind.wrap .i64 (litBin .and .u64 b 63)) 2) (shW a (IntKind.wrap .i64 (litBin .rem .u64 b 64)) 2)) (litCmp .eql (IntKind.wrap .u64 m) (IntKind.wrap .u64 m)) false)))) := by kernel_rfl
theorem law8 {a b : Int} (m : Int) (F : Facts a b) : ∃ c : Bool, (call Try.prog cxu 400 19 [.int .i64 (.lit 30), .agg [.int .u64 (.sym a), .int .u64 (.sym b)], .int .i64 (.sym m)] []).pick.map (·.1) = some (.val (.bool (.sym c))) ∧ c = true :=
  ⟨_, route_pick1 (road8 a b m) (by simp only [F.ia, F.ib, F.add, F.sub, F.mul, F.rem, F.sx, F.s1, F.s2, F.s3, Bool.and_self]), by simp only [F.e63, F.e31, F.low, F.less, eql_s, cond_true]⟩
set_option maxRecDepth 100000 in
theorem road9 (a b m : Int) : ((call Try.prog cxu 400 19 [.int .i64 (.lit 31), .agg [.int .u64 (.sym a), .int .u64 (.sym b)], .int .i64 (.sym m)] []).route []).map (fun p => (p.1, p.2.1)) = some ([], .val (.bool (.sym (cond (litCmp .eql (litBin .add .u64 a b) (litBin .add .u64 a b)) (litCmp .eql b b) false)))) := by kernel_rfl
theorem law9 {a b : Int} (m : Int) (F : Facts a b) : ∃ c : Bool, (call Try.prog cxu 400 19 [.int .i64 (.lit 31), .agg [.int .u64 (.sym a), .int .u64 (.sym b)], .int .i64 (.sym m)] []).pick.map (·.1) = some (.val (.bool (.sym c))) ∧ c = true :=
  ⟨_, route_pick1 (road9 a b m) rfl, by simp only [F.e63, F.e31, F.low, F.less, eql_s, cond_true]⟩
set_option maxRecDepth 100000 in
theorem road10 (a b m : Int) : ((call Try.prog cxu 400 19 [.int .i64 (.lit 32), .agg [.int .u64 (.sym a), .int .u64 (.sym b)], .int .i64 (.sym m)] []).route []).map (fun p => (p.1, p.2.1)) = some ([], .val (.bool (.sym (cond (litCmp .eql (litBin .sub .u64 a b) (litBin .sub .u64 a b)) (litCmp .eql b b) false)))) := by kernel_rfl
theorem law10 {a b : Int} (m : Int) (F : Facts a b) : ∃ c : Bool, (call Try.prog cxu 400 19 [.int .i64 (.lit 32), .agg [.int .u64 (.sym a), .int .u64 (.sym b)], .int .i64 (.sym m)] []).pick.map (·.1) = some (.val (.bool (.sym c))) ∧ c = true :=
  ⟨_, route_pick1 (road10 a b m) rfl, by simp only [F.e63, F.e31, F.low, F.less, eql_s, cond_true]⟩
set_option maxRecDepth 100000 in
theorem road11 (a b m : Int) : ((call Try.prog cxu 400 19 [.int .i64 (.lit 33), .agg [.int .u64 (.sym a), .int .u64 (.sym b)], .int .i64 (.sym m)] []).route [true]).map (fun p => (p.1, p.2.1)) = some ([(inB a)], .val (.bool (.sym (cond (litCmp .eql (shW a (IntKind.wrap .i64 (litBin .and .u64 b 63)) 0) (shW a (IntKind.wrap .i64 (litBin .rem .u64 b 64)) 0)) (litCmp .eql b b) false)))) := by kernel_rfl
theorem law11 {a b : Int} (m : Int) (F : Facts a b) : ∃ c : Bool, (call Try.prog cxu 400 19 [.int .i64 (.lit 33), .agg [.int .u64 (.sym a), .int .u64 (.sym b)], .int .i64 (.sym m)] []).pick.map (·.1) = some (.val (.bool (.sym c))) ∧ c = true :=
  ⟨_, route_pick1 (road11 a b m) (by simp only [F.ia, F.ib, F.add, F.sub, F.mul, F.rem, F.sx, F.s1, F.s2, F.s3, Bool.and_self]), by simp only [F.e63, F.e31, F.low, F.less, eql_s, cond_true]⟩
set_option maxRecDepth 100000 in
theorem road12 (a b m : Int) : ((call Try.prog cxu 400 19 [.int .i64 (.lit 34), .agg [.int .u64 (.sym a), .int .u64 (.sym b)], .int .i64 (.sym m)] []).route []).map (fun p => (p.1, p.2.1)) = some ([], .val (.bool (.sym (cond (litCmp .eql (cond (litCmp .lss (IntKind.wrap .i64 a) (IntKind.wrap .i64 b)) 1 0) (cond (cond (litCmp .neq (litBin .shr .u64 a 63) (litBin .shr .u64 b 63)) (litCmp .eql (litBin .shr .u64 a 63) 1) (litCmp .lss a b)) 1 0)) (litCmp .eql b b) false)))) := by kernel_rfl
theorem law12 {a b : Int} (m : Int) (F : Facts a b) : ∃ c : Bool, (call Try.prog cxu 400 19 [.int .i64 (.lit 34), .agg [.int .u64 (.sym a), .int .u64 (.sym b)], .int .i64 (.sym m)] []).pick.map (·.1) = some (.val (.bool (.sym c))) ∧ c = true :=
  ⟨_, route_pick1 (road12 a b m) rfl, by simp only [F.e63, F.e31, F.low, F.less, eql_s, cond_true]⟩
set_option maxRecDepth 100000 in
theorem road13 (a b m : Int) : ((call Try.prog cxu 400 19 [.int .i64 (.lit 35), .agg [.int .u64 (.sym a), .int .u64 (.sym b)], .int .i64 (.sym m)] []).route []).map (fun p => (p.1, p.2.1)) = some ([], .val (.bool (.sym (cond (litCmp .eql (cond (litCmp .lss a b) 1 0) (cond (litCmp .lss a b) 1 0)) (litCmp .eql b b) false)))) := by kernel_rfl
theorem law13 {a b : Int} (m : Int) (F : Facts a b) : ∃ c : Bool, (call Try.prog cxu 400 19 [.int .i64 (.lit 35), .agg [.int .u64 (.sym a), .int .u64 (.sym b)], .int .i64 (.sym m)] []).pick.map (·.1) = some (.val (.bool (.sym c))) ∧ c = true :=
  ⟨_, route_pick1 (road13 a b m) rfl, by simp only [F.e63, F.e31, F.low, F.less, eql_s, cond_true]⟩
set_option maxRecDepth 100000 in
theorem road14 (a b m : Int) : ((call Try.prog cxu 400 19 [.int .i64 (.lit 36), .agg [.int .u64 (.sym a), .int .u64 (.sym b)], .int .i64 (.sym m)] []).route []).map (fun p => (p.1, p.2.1)) = some ([], .val (.bool (.sym (cond (litCmp .eql (litBin .xor .u64 a b) (litBin .xor .u64 a b)) (litCmp .eql b b) false)))) := by kernel_rfl
theorem law14 {a b : Int} (m : Int) (F : Facts a b) : ∃ c : Bool, (call Try.prog cxu 400 19 [.int .i64 (.lit 36), .agg [.int .u64 (.sym a), .int .u64 (.sym b)], .int .i64 (.sym m)] []).pick.map (·.1) = some (.val (.bool (.sym c))) ∧ c = true :=
  ⟨_, route_pick1 (road14 a b m) rfl, by simp only [F.e63, F.e31, F.low, F.less, eql_s, cond_true]⟩
set_option maxRecDepth 100000 in
theorem road15 (a b m : Int) : ((call Try.prog cxu 400 19 [.int .i64 (.lit 37), .agg [.int .u64 (.sym a), .int .u64 (.sym b)], .int .i64 (.sym m)] []).route [true]).map (fun p => (p.1, p.2.1)) = some ([(inB a)], .val (.bool (.sym (cond (litCmp .eql (shW a (IntKind.wrap .i64 (litBin .and .u64 b 63)) 1) (shW a (IntKind.wrap .i64 (litBin .rem .u64 b 64)) 1)) (litCmp .eql b b) false)))) := by kernel_rfl
theorem law15 {a b : Int} (m : Int) (F : Facts a b) : ∃ c : Bool, (call Try.prog cxu 400 19 [.int .i64 (.lit 37), .agg [.int .u64 (.sym a), .int .u64 (.sym b)], .int .i64 (.sym m)] []).pick.map (·.1) = some (.val (.bool (.sym c))) ∧ c = true :=
  ⟨_, route_pick1 (road15 a b m) (by simp only [F.ia, F.ib, F.add, F.sub, F.mul, F.rem, F.sx, F.s1, F.s2, F.s3, Bool.and_self]), by simp only [F.e63, F.e31, F.low, F.less, eql_s, cond_true]⟩
set_option maxRecDepth 100000 in
theorem road16 (a b m : Int) : ((call Try.prog cxu 400 19 [.int .i64 (.lit 38), .agg [.int .u64 (.sym a), .int .u64 (.sym b)], .int .i64 (.sym m)] []).route [true]).map (fun p => (p.1, p.2.1)) = some ([(inB a)], .val (.bool (.sym (cond (litCmp .eql (shW a (IntKind.wrap .i64 (litBin .and .u64 b 63)) 2) (shW a (IntKind.wrap .i64 (litBin .rem .u64 b 64)) 2)) (litCmp .eql b b) false)))) := by kernel_rfl
theorem law16 {a b : Int} (m : Int) (F : Facts a b) : ∃ c : Bool, (call Try.prog cxu 400 19 [.int .i64 (.lit 38), .agg [.int .u64 (.sym a), .int .u64 (.sym b)], .int .i64 (.sym m)] []).pick.map (·.1) = some (.val (.bool (.sym c))) ∧ c = true :=
  ⟨_, route_pick1 (road16 a b m) (by simp only [F.ia, F.ib, F.add, F.sub, F.mul, F.rem, F.sx, F.s1, F.s2, F.s3, Bool.and_self]), by simp only [F.e63, F.e31, F.low, F.less, eql_s, cond_true]⟩
set_option maxRecDepth 100000 in
theorem road17 (a b m : Int) : ((call Try.prog cxu 400 19 [.int .i64 (.lit 39), .agg [.int .u64 (.sym a), .int .u64 (.sym b)], .int .i64 (.sym m)] []).route []).map (fun p => (p.1, p.2.1)) = some ([], .val (.bool (.sym (cond (litCmp .eql (litBin .or .u64 a b) (litBin .or .u64 a b)) (litCmp .eql b b) false)))) := by kernel_rfl
theorem law17 {a b : Int} (m : Int) (F : Facts a b) : ∃ c : Bool, (call Try.prog cxu 400 19 [.int .i64 (.lit 39), .agg [.int .u64 (.sym a), .int .u64 (.sym b)], .int .i64 (.sym m)] []).pick.map (·.1) = some (.val (.bool (.sym c))) ∧ c = true :=
  ⟨_, route_pick1 (road17 a b m) rfl, by simp only [F.e63, F.e31, F.low, F.less, eql_s, cond_true]⟩
set_option maxRecDepth 100000 in
theorem road18 (a b m : Int) : ((call Try.prog cxu 400 19 [.int .i64 (.lit 40), .agg [.int .u64 (.sym a), .int .u64 (.sym b)], .int .i64 (.sym m)] []).route []).map (fun p => (p.1, p.2.1)) = some ([], .val (.bool (.sym (cond (litCmp .eql (litBin .and .u64 a b) (litBin .and .u64 a b)) (litCmp .eql b b) false)))) := by kernel_rfl
theorem law18 {a b : Int} (m : Int) (F : Facts a b) : ∃ c : Bool, (call Try.prog cxu 400 19 [.int .i64 (.lit 40), .agg [.int .u64 (.sym a), .int .u64 (.sym b)], .int .i64 (.sym m)] []).pick.map (·.1) = some (.val (.bool (.sym c))) ∧ c = true :=
  ⟨_, route_pick1 (road18 a b m) rfl, by simp only [F.e63, F.e31, F.low, F.less, eql_s, cond_true]⟩
set_option maxRecDepth 100000 in
theorem road19 (a b m : Int) : ((call Try.prog cxu 400 19 [.int .i64 (.lit 41), .agg [.int .u64 (.sym a), .int .u64 (.sym b)], .int .i64 (.sym m)] []).route [true]).map (fun p => (p.1, p.2.1)) = some ([(inB (litBin .add .u64 a b))], .val (.bool (.sym (cond (litCmp .eql (sextW (litBin .add .u64 a b) 32) (sextW (litBin .add .u64 a b) 32)) (litCmp .eql (IntKind.wrap .u64 m) (IntKind.wrap .u64 m)) false)))) := by kernel_rfl
theorem law19 {a b : Int} (m : Int) (F : Facts a b) : ∃ c : Bool, (call Try.prog cxu 400 19 [.int .i64 (.lit 41), .agg [.int .u64 (.sym a), .int .u64 (.sym b)], .int .i64 (.sym m)] []).pick.map (·.1) = some (.val (.bool (.sym c))) ∧ c = true :=
  ⟨_, route_pick1 (road19 a b m) (by simp only [F.ia, F.ib, F.add, F.sub, F.mul, F.rem, F.sx, F.s1, F.s2, F.s3, Bool.and_self]), by simp only [F.e63, F.e31, F.low, F.less, eql_s, cond_true]⟩
set_option maxRecDepth 100000 in
theorem road20 (a b m : Int) : ((call Try.prog cxu 400 19 [.int .i64 (.lit 42), .agg [.int .u64 (.sym a), .int .u64 (.sym b)], .int .i64 (.sym m)] []).route [true]).map (fun p => (p.1, p.2.1)) = some ([((inB a) && (inB (shW a (IntKind.wrap .i64 (litBin .rem .u64 b 32)) 0)))], .val (.bool (.sym (cond (litCmp .eql (sextW (shW a (IntKind.wrap .i64 (litBin .and .u64 b 31)) 0) 32) (sextW (shW a (IntKind.wrap .i64 (litBin .rem .u64 b 32)) 0) 32)) (litCmp .eql (IntKind.wrap .u64 m) (IntKind.wrap .u64 m)) false)))) := by kernel_rfl
theorem law20 {a b : Int} (m : Int) (F : Facts a b) : ∃ c : Bool, (call Try.prog cxu 400 19 [.int .i64 (.lit 42), .agg [.int .u64 (.sym a), .int .u64 (.sym b)], .int .i64 (.sym m)] []).pick.map (·.1) = some (.val (.bool (.sym c))) ∧ c = true :=
  ⟨_, route_pick1 (road20 a b m) (by simp only [F.ia, F.ib, F.add, F.sub, F.mul, F.rem, F.sx, F.s1, F.s2, F.s3, Bool.and_self]), by simp only [F.e63, F.e31, F.low, F.less, eql_s, cond_true]⟩
set_option maxRecDepth 100000 in
theorem road21 (a b m : Int) : ((call Try.prog cxu 400 19 [.int .i64 (.lit 43), .agg [.int .u64 (.sym a), .int .u64 (.sym b)], .int .i64 (.sym m)] []).route [true]).map (fun p => (p.1, p.2.1)) = some ([((inB (litBin .rem .u64 a 4294967296)) && (inB (shW (litBin .rem .u64 a 4294967296) (IntKind.wrap .i64 (litBin .rem .u64 b 32)) 1)))], .val (.bool (.sym (cond (litCmp .eql (sextW (shW (IntKind.wrap .u64 (IntKind.wrap .u32 a)) (IntKind.wrap .i64 (litBin .and .u64 b 31)) 1) 32) (sextW (shW (litBin .rem .u64 a 4294967296) (IntKind.wrap .i64 (litBin .rem .u64 b 32)) 1) 32)) (litCmp .eql (IntKind.wrap .u64 m) (IntKind.wrap .u64 m)) false)))) := by kernel_rfl
theorem law21 {a b : Int} (m : Int) (F : Facts a b) : ∃ c : Bool, (call Try.prog cxu 400 19 [.int .i64 (.lit 43), .agg [.int .u64 (.sym a), .int .u64 (.sym b)], .int .i64 (.sym m)] []).pick.map (·.1) = some (.val (.bool (.sym c))) ∧ c = true :=
  ⟨_, route_pick1 (road21 a b m) (by simp only [F.ia, F.ib, F.add, F.sub, F.mul, F.rem, F.sx, F.s1, F.s2, F.s3, Bool.and_self]), by simp only [F.e63, F.e31, F.low, F.less, eql_s, cond_true]⟩
set_option maxRecDepth 100000 in
theorem road22 (a b m : Int) : ((call Try.prog cxu 400 19 [.int .i64 (.lit 44), .agg [.int .u64 (.sym a), .int .u64 (.sym b)], .int .i64 (.sym m)] []).route [true]).map (fun p => (p.1, p.2.1)) = some ([((inB a) && ((inB (sextW a 32)) && (inB (shW (sextW a 32) (IntKind.wrap .i64 (litBin .rem .u64 b 32)) 2))))], .val (.bool (.sym (cond (litCmp .eql (sextW (shW (sextW a 32) (IntKind.wrap .i64 (litBin .and .u64 b 31)) 2) 32) (sextW (shW (sextW a 32) (IntKind.wrap .i64 (litBin .rem .u64 b 32)) 2) 32)) (litCmp .eql (IntKind.wrap .u64 m) (IntKind.wrap .u64 m)) false)))) := by kernel_rfl
theorem law22 {a b : Int} (m : Int) (F : Facts a b) : ∃ c : Bool, (call Try.prog cxu 400 19 [.int .i64 (.lit 44), .agg [.int .u64 (.sym a), .int .u64 (.sym b)], .int .i64 (.sym m)] []).pick.map (·.1) = some (.val (.bool (.sym c))) ∧ c = true :=
  ⟨_, route_pick1 (road22 a b m) (by simp only [F.ia, F.ib, F.add, F.sub, F.mul, F.rem, F.sx, F.s1, F.s2, F.s3, Bool.and_self]), by simp only [F.e63, F.e31, F.low, F.less, eql_s, cond_true]⟩
set_option maxRecDepth 100000 in
theorem road23 (a b m : Int) : ((call Try.prog cxu 400 19 [.int .i64 (.lit 45), .agg [.int .u64 (.sym a), .int .u64 (.sym b)], .int .i64 (.sym m)] []).route [true]).map (fun p => (p.1, p.2.1)) = some ([(inB (litBin .add .u64 a b))], .val (.bool (.sym (cond (litCmp .eql (sextW (litBin .add .u64 a b) 32) (sextW (litBin .add .u64 a b) 32)) (litCmp .eql b b) false)))) := by kernel_rfl
theorem law23 {a b : Int} (m : Int) (F : Facts a b) : ∃ c : Bool, (call Try.prog cxu 400 19 [.int .i64 (.lit 45), .agg [.int .u64 (.sym a), .int .u64 (.sym b)], .int .i64 (.sym m)] []).pick.map (·.1) = some (.val (.bool (.sym c))) ∧ c = true :=
  ⟨_, route_pick1 (road23 a b m) (by simp only [F.ia, F.ib, F.add, F.sub, F.mul, F.rem, F.sx, F.s1, F.s2, F.s3, Bool.and_self]), by simp only [F.e63, F.e31, F.low, F.less, eql_s, cond_true]⟩
set_option maxRecDepth 100000 in
theorem road24 (a b m : Int) : ((call Try.prog cxu 400 19 [.int .i64 (.lit 46), .agg [.int .u64 (.sym a), .int .u64 (.sym b)], .int .i64 (.sym m)] []).route [true]).map (fun p => (p.1, p.2.1)) = some ([(inB (litBin .sub .u64 a b))], .val (.bool (.sym (cond (litCmp .eql (sextW (litBin .sub .u64 a b) 32) (sextW (litBin .sub .u64 a b) 32)) (litCmp .eql b b) false)))) := by kernel_rfl
theorem law24 {a b : Int} (m : Int) (F : Facts a b) : ∃ c : Bool, (call Try.prog cxu 400 19 [.int .i64 (.lit 46), .agg [.int .u64 (.sym a), .int .u64 (.sym b)], .int .i64 (.sym m)] []).pick.map (·.1) = some (.val (.bool (.sym c))) ∧ c = true :=
  ⟨_, route_pick1 (road24 a b m) (by simp only [F.ia, F.ib, F.add, F.sub, F.mul, F.rem, F.sx, F.s1, F.s2, F.s3, Bool.and_self]), by simp only [F.e63, F.e31, F.low, F.less, eql_s, cond_true]⟩
set_option maxRecDepth 100000 in
theorem road25 (a b m : Int) : ((call Try.prog cxu 400 19 [.int .i64 (.lit 47), .agg [.int .u64 (.sym a), .int .u64 (.sym b)], .int .i64 (.sym m)] []).route [true]).map (fun p => (p.1, p.2.1)) = some ([((inB a) && (inB (shW a (IntKind.wrap .i64 (litBin .rem .u64 b 32)) 0)))], .val (.bool (.sym (cond (litCmp .eql (sextW (shW a (IntKind.wrap .i64 (litBin .and .u64 b 31)) 0) 32) (sextW (shW a (IntKind.wrap .i64 (litBin .rem .u64 b 32)) 0) 32)) (litCmp .eql b b) false)))) := by kernel_rfl
theorem law25 {a b : Int} (m : Int) (F : Facts a b) : ∃ c : Bool, (call Try.prog cxu 400 19 [.int .i64 (.lit 47), .agg [.int .u64 (.sym a), .int .u64 (.sym b)], .int .i64 (.sym m)] []).pick.map (·.1) = some (.val (.bool (.sym c))) ∧ c = true :=
  ⟨_, route_pick1 (road25 a b m) (by simp only [F.ia, F.ib, F.add, F.sub, F.mul, F.rem, F.sx, F.s1, F.s2, F.s3, Bool.and_self]), by simp only [F.e63, F.e31, F.low, F.less, eql_s, cond_true]⟩
set_option maxRecDepth 100000 in
theorem road26 (a b m : Int) : ((call Try.prog cxu 400 19 [.int .i64 (.lit 48), .agg [.int .u64 (.sym a), .int .u64 (.sym b)], .int .i64 (.sym m)] []).route [true]).map (fun p => (p.1, p.2.1)) = some ([((inB (litBin .rem .u64 a 4294967296)) && (inB (shW (litBin .rem .u64 a 4294967296) (IntKind.wrap .i64 (litBin .rem .u64 b 32)) 1)))], .val (.bool (.sym (cond (litCmp .eql (sextW (shW (IntKind.wrap .u64 (IntKind.wrap .u32 a)) (IntKind.wrap .i64 (litBin .and .u64 b 31)) 1) 32) (sextW (shW (litBin .rem .u64 a 4294967296) (IntKind.wrap .i64 (litBin .rem .u64 b 32)) 1) 32)) (litCmp .eql b b) false)))) := by kernel_rfl
theorem law26 {a b : Int} (m : Int) (F : Facts a b) : ∃ c : Bool, (call Try.prog cxu 400 19 [.int .i64 (.lit 48), .agg [.int .u64 (.sym a), .int .u64 (.sym b)], .int .i64 (.sym m)] []).pick.map (·.1) = some (.val (.bool (.sym c))) ∧ c = true :=
  ⟨_, route_pick1 (road26 a b m) (by simp only [F.ia, F.ib, F.add, F.sub, F.mul, F.rem, F.sx, F.s1, F.s2, F.s3, Bool.and_self]), by simp only [F.e63, F.e31, F.low, F.less, eql_s, cond_true]⟩
set_option maxRecDepth 100000 in
theorem road27 (a b m : Int) : ((call Try.prog cxu 400 19 [.int .i64 (.lit 49), .agg [.int .u64 (.sym a), .int .u64 (.sym b)], .int .i64 (.sym m)] []).route [true]).map (fun p => (p.1, p.2.1)) = some ([((inB a) && ((inB (sextW a 32)) && (inB (shW (sextW a 32) (IntKind.wrap .i64 (litBin .rem .u64 b 32)) 2))))], .val (.bool (.sym (cond (litCmp .eql (sextW (shW (sextW a 32) (IntKind.wrap .i64 (litBin .and .u64 b 31)) 2) 32) (sextW (shW (sextW a 32) (IntKind.wrap .i64 (litBin .rem .u64 b 32)) 2) 32)) (litCmp .eql b b) false)))) := by kernel_rfl
theorem law27 {a b : Int} (m : Int) (F : Facts a b) : ∃ c : Bool, (call Try.prog cxu 400 19 [.int .i64 (.lit 49), .agg [.int .u64 (.sym a), .int .u64 (.sym b)], .int .i64 (.sym m)] []).pick.map (·.1) = some (.val (.bool (.sym c))) ∧ c = true :=
  ⟨_, route_pick1 (road27 a b m) (by simp only [F.ia, F.ib, F.add, F.sub, F.mul, F.rem, F.sx, F.s1, F.s2, F.s3, Bool.and_self]), by simp only [F.e63, F.e31, F.low, F.less, eql_s, cond_true]⟩
set_option maxRecDepth 100000 in
theorem road28 (a b m : Int) : ((call Try.prog cxu 400 19 [.int .i64 (.lit 50), .agg [.int .u64 (.sym a), .int .u64 (.sym b)], .int .i64 (.sym m)] []).route []).map (fun p => (p.1, p.2.1)) = some ([], .val (.bool (.sym (cond (litCmp .eql (litBin .mul .u64 a b) (litBin .mul .u64 a b)) (litCmp .eql b b) false)))) := by kernel_rfl
theorem law28 {a b : Int} (m : Int) (F : Facts a b) : ∃ c : Bool, (call Try.prog cxu 400 19 [.int .i64 (.lit 50), .agg [.int .u64 (.sym a), .int .u64 (.sym b)], .int .i64 (.sym m)] []).pick.map (·.1) = some (.val (.bool (.sym c))) ∧ c = true :=
  ⟨_, route_pick1 (road28 a b m) rfl, by simp only [F.e63, F.e31, F.low, F.less, eql_s, cond_true]⟩
set_option maxRecDepth 100000 in
theorem road29 (a b m : Int) : ((call Try.prog cxu 400 19 [.int .i64 (.lit 51), .agg [.int .u64 (.sym a), .int .u64 (.sym b)], .int .i64 (.sym m)] []).route [true]).map (fun p => (p.1, p.2.1)) = some ([((inB a && inB b) && (inB a && inB b))], .val (.bool (.sym (cond (litCmp .eql (hiR a b true true) (hiR a b true true)) (litCmp .eql b b) false)))) := by kernel_rfl
theorem law29 {a b : Int} (m : Int) (F : Facts a b) : ∃ c : Bool, (call Try.prog cxu 400 19 [.int .i64 (.lit 51), .agg [.int .u64 (.sym a), .int .u64 (.sym b)], .int .i64 (.sym m)] []).pick.map (·.1) = some (.val (.bool (.sym c))) ∧ c = true :=
  ⟨_, route_pick1 (road29 a b m) (by simp only [F.ia, F.ib, F.add, F.sub, F.mul, F.rem, F.sx, F.s1, F.s2, F.s3, Bool.and_self]), by simp only [F.e63, F.e31, F.low, F.less, eql_s, cond_true]⟩
set_option maxRecDepth 100000 in
theorem road30 (a b m : Int) : ((call Try.prog cxu 400 19 [.int .i64 (.lit 52), .agg [.int .u64 (.sym a), .int .u64 (.sym b)], .int .i64 (.sym m)] []).route [true]).map (fun p => (p.1, p.2.1)) = some ([((inB a && inB b) && (inB a && inB b))], .val (.bool (.sym (cond (litCmp .eql (hiR a b true false) (hiR a b true false)) (litCmp .eql b b) false)))) := by kernel_rfl
theorem law30 {a b : Int} (m : Int) (F : Facts a b) : ∃ c : Bool, (call Try.prog cxu 400 19 [.int .i64 (.lit 52), .agg [.int .u64 (.sym a), .int .u64 (.sym b)], .int .i64 (.sym m)] []).pick.map (·.1) = some (.val (.bool (.sym c))) ∧ c = true :=
  ⟨_, route_pick1 (road30 a b m) (by simp only [F.ia, F.ib, F.add, F.sub, F.mul, F.rem, F.sx, F.s1, F.s2, F.s3, Bool.and_self]), by simp only [F.e63, F.e31, F.low, F.less, eql_s, cond_true]⟩
set_option maxRecDepth 100000 in
theorem road31 (a b m : Int) : ((call Try.prog cxu 400 19 [.int .i64 (.lit 53), .agg [.int .u64 (.sym a), .int .u64 (.sym b)], .int .i64 (.sym m)] []).route [true]).map (fun p => (p.1, p.2.1)) = some ([((inB a && inB b) && (inB a && inB b))], .val (.bool (.sym (cond (litCmp .eql (hiR a b false false) (hiR a b false false)) (litCmp .eql b b) false)))) := by kernel_rfl
theorem law31 {a b : Int} (m : Int) (F : Facts a b) : ∃ c : Bool, (call Try.prog cxu 400 19 [.int .i64 (.lit 53), .agg [.int .u64 (.sym a), .int .u64 (.sym b)], .int .i64 (.sym m)] []).pick.map (·.1) = some (.val (.bool (.sym c))) ∧ c = true :=
  ⟨_, route_pick1 (road31 a b m) (by simp only [F.ia, F.ib, F.add, F.sub, F.mul, F.rem, F.sx, F.s1, F.s2, F.s3, Bool.and_self]), by simp only [F.e63, F.e31, F.low, F.less, eql_s, cond_true]⟩
set_option maxRecDepth 100000 in
theorem road32 (a b m : Int) : ((call Try.prog cxu 400 19 [.int .i64 (.lit 54), .agg [.int .u64 (.sym a), .int .u64 (.sym b)], .int .i64 (.sym m)] []).route [true]).map (fun p => (p.1, p.2.1)) = some ([(inB a && inB b)], .val (.bool (.sym (cond (litCmp .eql (divW a b true) (divW a b true)) (litCmp .eql b b) false)))) := by kernel_rfl
theorem law32 {a b : Int} (m : Int) (F : Facts a b) : ∃ c : Bool, (call Try.prog cxu 400 19 [.int .i64 (.lit 54), .agg [.int .u64 (.sym a), .int .u64 (.sym b)], .int .i64 (.sym m)] []).pick.map (·.1) = some (.val (.bool (.sym c))) ∧ c = true :=
  ⟨_, route_pick1 (road32 a b m) (by simp only [F.ia, F.ib, F.add, F.sub, F.mul, F.rem, F.sx, F.s1, F.s2, F.s3, Bool.and_self]), by simp only [F.e63, F.e31, F.low, F.less, eql_s, cond_true]⟩
set_option maxRecDepth 100000 in
theorem road33 (a b m : Int) : ((call Try.prog cxu 400 19 [.int .i64 (.lit 55), .agg [.int .u64 (.sym a), .int .u64 (.sym b)], .int .i64 (.sym m)] []).route [true]).map (fun p => (p.1, p.2.1)) = some ([(inB a && inB b)], .val (.bool (.sym (cond (litCmp .eql (divW a b false) (divW a b false)) (litCmp .eql b b) false)))) := by kernel_rfl
theorem law33 {a b : Int} (m : Int) (F : Facts a b) : ∃ c : Bool, (call Try.prog cxu 400 19 [.int .i64 (.lit 55), .agg [.int .u64 (.sym a), .int .u64 (.sym b)], .int .i64 (.sym m)] []).pick.map (·.1) = some (.val (.bool (.sym c))) ∧ c = true :=
  ⟨_, route_pick1 (road33 a b m) (by simp only [F.ia, F.ib, F.add, F.sub, F.mul, F.rem, F.sx, F.s1, F.s2, F.s3, Bool.and_self]), by simp only [F.e63, F.e31, F.low, F.less, eql_s, cond_true]⟩
set_option maxRecDepth 100000 in
theorem road34 (a b m : Int) : ((call Try.prog cxu 400 19 [.int .i64 (.lit 56), .agg [.int .u64 (.sym a), .int .u64 (.sym b)], .int .i64 (.sym m)] []).route [true]).map (fun p => (p.1, p.2.1)) = some ([(inB a && inB b)], .val (.bool (.sym (cond (litCmp .eql (remW a b true) (remW a b true)) (litCmp .eql b b) false)))) := by kernel_rfl
theorem law34 {a b : Int} (m : Int) (F : Facts a b) : ∃ c : Bool, (call Try.prog cxu 400 19 [.int .i64 (.lit 56), .agg [.int .u64 (.sym a), .int .u64 (.sym b)], .int .i64 (.sym m)] []).pick.map (·.1) = some (.val (.bool (.sym c))) ∧ c = true :=
  ⟨_, route_pick1 (road34 a b m) (by simp only [F.ia, F.ib, F.add, F.sub, F.mul, F.rem, F.sx, F.s1, F.s2, F.s3, Bool.and_self]), by simp only [F.e63, F.e31, F.low, F.less, eql_s, cond_true]⟩
set_option maxRecDepth 100000 in
theorem road35 (a b m : Int) : ((call Try.prog cxu 400 19 [.int .i64 (.lit 57), .agg [.int .u64 (.sym a), .int .u64 (.sym b)], .int .i64 (.sym m)] []).route [true]).map (fun p => (p.1, p.2.1)) = some ([(inB a && inB b)], .val (.bool (.sym (cond (litCmp .eql (remW a b false) (remW a b false)) (litCmp .eql b b) false)))) := by kernel_rfl
theorem law35 {a b : Int} (m : Int) (F : Facts a b) : ∃ c : Bool, (call Try.prog cxu 400 19 [.int .i64 (.lit 57), .agg [.int .u64 (.sym a), .int .u64 (.sym b)], .int .i64 (.sym m)] []).pick.map (·.1) = some (.val (.bool (.sym c))) ∧ c = true :=
  ⟨_, route_pick1 (road35 a b m) (by simp only [F.ia, F.ib, F.add, F.sub, F.mul, F.rem, F.sx, F.s1, F.s2, F.s3, Bool.and_self]), by simp only [F.e63, F.e31, F.low, F.less, eql_s, cond_true]⟩
set_option maxRecDepth 100000 in
theorem road36 (a b m : Int) : ((call Try.prog cxu 400 19 [.int .i64 (.lit 58), .agg [.int .u64 (.sym a), .int .u64 (.sym b)], .int .i64 (.sym m)] []).route [true]).map (fun p => (p.1, p.2.1)) = some ([(inB (litBin .mul .u64 a b))], .val (.bool (.sym (cond (litCmp .eql (sextW (litBin .mul .u64 a b) 32) (sextW (litBin .mul .u64 a b) 32)) (litCmp .eql b b) false)))) := by kernel_rfl
theorem law36 {a b : Int} (m : Int) (F : Facts a b) : ∃ c : Bool, (call Try.prog cxu 400 19 [.int .i64 (.lit 58), .agg [.int .u64 (.sym a), .int .u64 (.sym b)], .int .i64 (.sym m)] []).pick.map (·.1) = some (.val (.bool (.sym c))) ∧ c = true :=
  ⟨_, route_pick1 (road36 a b m) (by simp only [F.ia, F.ib, F.add, F.sub, F.mul, F.rem, F.sx, F.s1, F.s2, F.s3, Bool.and_self]), by simp only [F.e63, F.e31, F.low, F.less, eql_s, cond_true]⟩
set_option maxRecDepth 100000 in
theorem road37 (a b m : Int) : ((call Try.prog cxu 400 19 [.int .i64 (.lit 59), .agg [.int .u64 (.sym a), .int .u64 (.sym b)], .int .i64 (.sym m)] []).route [true]).map (fun p => (p.1, p.2.1)) = some ([(inB a && inB b)], .val (.bool (.sym (cond (litCmp .eql (div32W a b true) (div32W a b true)) (litCmp .eql b b) false)))) := by kernel_rfl
theorem law37 {a b : Int} (m : Int) (F : Facts a b) : ∃ c : Bool, (call Try.prog cxu 400 19 [.int .i64 (.lit 59), .agg [.int .u64 (.sym a), .int .u64 (.sym b)], .int .i64 (.sym m)] []).pick.map (·.1) = some (.val (.bool (.sym c))) ∧ c = true :=
  ⟨_, route_pick1 (road37 a b m) (by simp only [F.ia, F.ib, F.add, F.sub, F.mul, F.rem, F.sx, F.s1, F.s2, F.s3, Bool.and_self]), by simp only [F.e63, F.e31, F.low, F.less, eql_s, cond_true]⟩
set_option maxRecDepth 100000 in
theorem road38 (a b m : Int) : ((call Try.prog cxu 400 19 [.int .i64 (.lit 60), .agg [.int .u64 (.sym a), .int .u64 (.sym b)], .int .i64 (.sym m)] []).route [true]).map (fun p => (p.1, p.2.1)) = some ([(inB a && inB b)], .val (.bool (.sym (cond (litCmp .eql (div32W a b false) (div32W a b false)) (litCmp .eql b b) false)))) := by kernel_rfl
theorem law38 {a b : Int} (m : Int) (F : Facts a b) : ∃ c : Bool, (call Try.prog cxu 400 19 [.int .i64 (.lit 60), .agg [.int .u64 (.sym a), .int .u64 (.sym b)], .int .i64 (.sym m)] []).pick.map (·.1) = some (.val (.bool (.sym c))) ∧ c = true :=
  ⟨_, route_pick1 (road38 a b m) (by simp only [F.ia, F.ib, F.add, F.sub, F.mul, F.rem, F.sx, F.s1, F.s2, F.s3, Bool.and_self]), by simp only [F.e63, F.e31, F.low, F.less, eql_s, cond_true]⟩
set_option maxRecDepth 100000 in
theorem road39 (a b m : Int) : ((call Try.prog cxu 400 19 [.int .i64 (.lit 61), .agg [.int .u64 (.sym a), .int .u64 (.sym b)], .int .i64 (.sym m)] []).route [true]).map (fun p => (p.1, p.2.1)) = some ([(inB a && inB b)], .val (.bool (.sym (cond (litCmp .eql (rem32W a b true) (rem32W a b true)) (litCmp .eql b b) false)))) := by kernel_rfl
theorem law39 {a b : Int} (m : Int) (F : Facts a b) : ∃ c : Bool, (call Try.prog cxu 400 19 [.int .i64 (.lit 61), .agg [.int .u64 (.sym a), .int .u64 (.sym b)], .int .i64 (.sym m)] []).pick.map (·.1) = some (.val (.bool (.sym c))) ∧ c = true :=
  ⟨_, route_pick1 (road39 a b m) (by simp only [F.ia, F.ib, F.add, F.sub, F.mul, F.rem, F.sx, F.s1, F.s2, F.s3, Bool.and_self]), by simp only [F.e63, F.e31, F.low, F.less, eql_s, cond_true]⟩
set_option maxRecDepth 100000 in
theorem road40 (a b m : Int) : ((call Try.prog cxu 400 19 [.int .i64 (.lit 62), .agg [.int .u64 (.sym a), .int .u64 (.sym b)], .int .i64 (.sym m)] []).route [true]).map (fun p => (p.1, p.2.1)) = some ([(inB a && inB b)], .val (.bool (.sym (cond (litCmp .eql (rem32W a b false) (rem32W a b false)) (litCmp .eql b b) false)))) := by kernel_rfl
theorem law40 {a b : Int} (m : Int) (F : Facts a b) : ∃ c : Bool, (call Try.prog cxu 400 19 [.int .i64 (.lit 62), .agg [.int .u64 (.sym a), .int .u64 (.sym b)], .int .i64 (.sym m)] []).pick.map (·.1) = some (.val (.bool (.sym c))) ∧ c = true :=
  ⟨_, route_pick1 (road40 a b m) (by simp only [F.ia, F.ib, F.add, F.sub, F.mul, F.rem, F.sx, F.s1, F.s2, F.s3, Bool.and_self]), by simp only [F.e63, F.e31, F.low, F.less, eql_s, cond_true]⟩
set_option maxRecDepth 100000 in
theorem roadN (o a b m : Int) : ((call Try.prog cxu 400 19 [.int .i64 (.sym o), .agg [.int .u64 (.sym a), .int .u64 (.sym b)], .int .i64 (.sym m)] []).route [true]).map (fun p => (p.1, p.2.1)) = some ([((noop o) && (noop o))], .val (.bool (.sym (cond ((cond (cond (litCmp .eql o 5) (litCmp .eql o 5) (litCmp .eql o 6)) ((litCmp .eql a b) == (litCmp .eql o 5)) (cond (cond (litCmp .eql o 7) (litCmp .eql o 7) (litCmp .eql o 8)) ((litCmp .lss (IntKind.wrap .i64 a) (IntKind.wrap .i64 b)) == (litCmp .eql o 7)) (cond (cond (litCmp .eql o 9) (litCmp .eql o 9) (litCmp .eql o 10)) ((litCmp .lss a b) == (litCmp .eql o 9)) false))) == (cond (litCmp .eql o 5) (litCmp .eql a b) (cond (litCmp .eql o 6) (litCmp .neq a b) (cond (litCmp .eql o 7) (cond (litCmp .neq (litBin .shr .u64 a 63) (litBin .shr .u64 b 63)) (litCmp .eql (litBin .shr .u64 a 63) 1) (litCmp .lss a b)) (cond (litCmp .eql o 8) (!(cond (litCmp .neq (litBin .shr .u64 a 63) (litBin .shr .u64 b 63)) (litCmp .eql (litBin .shr .u64 a 63) 1) (litCmp .lss a b))) (cond (litCmp .eql o 9) (litCmp .lss a b) (cond (litCmp .eql o 10) (!(litCmp .lss a b)) false))))))) (litCmp .eql (cond (cond (litCmp .eql (kindF o) 5) (litCmp .eql (kindF o) 5) (litCmp .eql (kindF o) 7)) (IntKind.wrap .u64 m) b) (cond (cond (litCmp .eql (kindF o) 5) true (litCmp .eql (kindF o) 7)) (IntKind.wrap .u64 m) b)) false)))) := by kernel_rfl
theorem bools : ∀ p5 p6 p7 p8 p9 p10 e l u : Bool, (p5 && (p6 || p7 || p8 || p9 || p10) || p6 && (p7 || p8 || p9 || p10) || p7 && (p8 || p9 || p10) || p8 && (p9 || p10) || p9 && p10) = false →
    ((cond (cond p5 p5 p6) (e == p5) (cond (cond p7 p7 p8) (l == p7) (cond (cond p9 p9 p10) (u == p9) false))) == (cond p5 e (cond p6 (!e) (cond p7 l (cond p8 (!l) (cond p9 u (cond p10 (!u) false))))))) = true := by decide +kernel
theorem apart (o : Int) : (litCmp .eql o 5 && (litCmp .eql o 6 || litCmp .eql o 7 || litCmp .eql o 8 || litCmp .eql o 9 || litCmp .eql o 10) || litCmp .eql o 6 && (litCmp .eql o 7 || litCmp .eql o 8 || litCmp .eql o 9 || litCmp .eql o 10) || litCmp .eql o 7 && (litCmp .eql o 8 || litCmp .eql o 9 || litCmp .eql o 10) || litCmp .eql o 8 && (litCmp .eql o 9 || litCmp .eql o 10) || litCmp .eql o 9 && litCmp .eql o 10) = false := by
  simp only [eql_eq]
  by_cases h5 : o = 5
  · subst h5; decide
  by_cases h6 : o = 6
  · subst h6; decide
  by_cases h7 : o = 7
  · subst h7; decide
  by_cases h8 : o = 8
  · subst h8; decide
  by_cases h9 : o = 9
  · subst h9; decide
  simp [h5, h6, h7, h8, h9]
theorem lawN {o a b : Int} (m : Int) (F : Facts a b) (h : noop o = true) : ∃ c : Bool, (call Try.prog cxu 400 19 [.int .i64 (.sym o), .agg [.int .u64 (.sym a), .int .u64 (.sym b)], .int .i64 (.sym m)] []).pick.map (·.1) = some (.val (.bool (.sym c))) ∧ c = true := by
  refine ⟨_, route_pick1 (roadN o a b m) (by rw [h]; rfl), ?_⟩
  rw [F.less, noop_kind h 5 (by decide) (by decide), noop_kind h 7 (by decide) (by decide)]
  simp only [neq_eq, cond_false, eql_s]
  have := bools (litCmp .eql o 5) (litCmp .eql o 6) (litCmp .eql o 7) (litCmp .eql o 8) (litCmp .eql o 9) (litCmp .eql o 10) (litCmp .eql a b) (cond (!decide (litBin .shr .u64 a 63 = litBin .shr .u64 b 63)) (litCmp .eql (litBin .shr .u64 a 63) 1) (litCmp .lss a b)) (litCmp .lss a b) (apart o)
  exact (congrArg (fun x => cond x true false) this).trans rfl

theorem sums (o a b m : Int) (wa : (Lit.int .u64 a).wf = true) (wb : (Lit.int .u64 b).wf = true) : ∃ args : List (AV DC), VRels [] args [.int .i64 o, .agg [.int .u64 a, .int .u64 b].toArray, .int .i64 m] ∧
    ∃ c : Bool, (call Try.prog cxu 400 19 args []).pick.map (·.1) = some (.val (.bool (.sym c))) ∧ c = true := by
  have F := facts (inU_wf wa) (inU_wf wb)
  have hv : ∀ x : AI DC, x.den = o → VRels [] [.int .i64 x, .agg [.int .u64 (.sym a), .int .u64 (.sym b)], .int .i64 (.sym m)] [.int .i64 o, .agg [.int .u64 a, .int .u64 b].toArray, .int .i64 m] := fun x hx =>
    ⟨_, _, rfl, (congrArg (Value.int .i64) hx.symm : Value.int .i64 o = Value.int .i64 x.den), _, _, rfl, ⟨_, rfl, ⟨_, _, rfl, rfl, _, _, rfl, rfl, rfl⟩⟩, _, _, rfl, rfl, rfl⟩
  by_cases hn : noop o = true
  · exact ⟨_, hv (.sym o) rfl, lawN m F hn⟩
  · have h2 : o = 22 ∨ o = 23 ∨ o = 24 ∨ o = 25 ∨ o = 26 ∨ o = 27 ∨ o = 28 ∨ o = 29 ∨ o = 30 ∨ o = 31 ∨ o = 32 ∨ o = 33 ∨ o = 34 ∨ o = 35 ∨ o = 36 ∨ o = 37 ∨ o = 38 ∨ o = 39 ∨ o = 40 ∨ o = 41 ∨ o = 42 ∨ o = 43 ∨ o = 44 ∨ o = 45 ∨ o = 46 ∨ o = 47 ∨ o = 48 ∨ o = 49 ∨ o = 50 ∨ o = 51 ∨ o = 52 ∨ o = 53 ∨ o = 54 ∨ o = 55 ∨ o = 56 ∨ o = 57 ∨ o = 58 ∨ o = 59 ∨ o = 60 ∨ o = 61 ∨ o = 62 := by
      unfold noop at hn
      simp only [Bool.or_eq_true, decide_eq_true_eq] at hn
      omega
    rcases h2 with h | h | h | h | h | h | h | h | h | h | h | h | h | h | h | h | h | h | h | h | h | h | h | h | h | h | h | h | h | h | h | h | h | h | h | h | h | h | h | h | h
    · exact ⟨_, hv (.lit 22) h.symm, law0 m F⟩
    · exact ⟨_, hv (.lit 23) h.symm, law1 m F⟩
    · exact ⟨_, hv (.lit 24) h.symm, law2 m F⟩
    · exact ⟨_, hv (.lit 25) h.symm, law3 m F⟩
    · exact ⟨_, hv (.lit 26) h.symm, law4 m F⟩
    · exact ⟨_, hv (.lit 27) h.symm, law5 m F⟩
    · exact ⟨_, hv (.lit 28) h.symm, law6 m F⟩
    · exact ⟨_, hv (.lit 29) h.symm, law7 m F⟩
    · exact ⟨_, hv (.lit 30) h.symm, law8 m F⟩
    · exact ⟨_, hv (.lit 31) h.symm, law9 m F⟩
    · exact ⟨_, hv (.lit 32) h.symm, law10 m F⟩
    · exact ⟨_, hv (.lit 33) h.symm, law11 m F⟩
    · exact ⟨_, hv (.lit 34) h.symm, law12 m F⟩
    · exact ⟨_, hv (.lit 35) h.symm, law13 m F⟩
    · exact ⟨_, hv (.lit 36) h.symm, law14 m F⟩
    · exact ⟨_, hv (.lit 37) h.symm, law15 m F⟩
    · exact ⟨_, hv (.lit 38) h.symm, law16 m F⟩
    · exact ⟨_, hv (.lit 39) h.symm, law17 m F⟩
    · exact ⟨_, hv (.lit 40) h.symm, law18 m F⟩
    · exact ⟨_, hv (.lit 41) h.symm, law19 m F⟩
    · exact ⟨_, hv (.lit 42) h.symm, law20 m F⟩
    · exact ⟨_, hv (.lit 43) h.symm, law21 m F⟩
    · exact ⟨_, hv (.lit 44) h.symm, law22 m F⟩
    · exact ⟨_, hv (.lit 45) h.symm, law23 m F⟩
    · exact ⟨_, hv (.lit 46) h.symm, law24 m F⟩
    · exact ⟨_, hv (.lit 47) h.symm, law25 m F⟩
    · exact ⟨_, hv (.lit 48) h.symm, law26 m F⟩
    · exact ⟨_, hv (.lit 49) h.symm, law27 m F⟩
    · exact ⟨_, hv (.lit 50) h.symm, law28 m F⟩
    · exact ⟨_, hv (.lit 51) h.symm, law29 m F⟩
    · exact ⟨_, hv (.lit 52) h.symm, law30 m F⟩
    · exact ⟨_, hv (.lit 53) h.symm, law31 m F⟩
    · exact ⟨_, hv (.lit 54) h.symm, law32 m F⟩
    · exact ⟨_, hv (.lit 55) h.symm, law33 m F⟩
    · exact ⟨_, hv (.lit 56) h.symm, law34 m F⟩
    · exact ⟨_, hv (.lit 57) h.symm, law35 m F⟩
    · exact ⟨_, hv (.lit 58) h.symm, law36 m F⟩
    · exact ⟨_, hv (.lit 59) h.symm, law37 m F⟩
    · exact ⟨_, hv (.lit 60) h.symm, law38 m F⟩
    · exact ⟨_, hv (.lit 61) h.symm, law39 m F⟩
    · exact ⟨_, hv (.lit 62) h.symm, law40 m F⟩

set_option maxRecDepth 100000 in
set_option maxHeartbeats 4000000 in
theorem run : ∀ vs, ArgsOk [.one (.int .i64), .agg [.int .u64, .int .u64], .one (.int .i64)] vs → ∀ w, Calls Try.prog 19 vs.toArray w fun e w' => e = .returned (.bool true) ∧ Below w.heap.size w w' := by
  intro vs h w
  obtain ⟨_, _, rfl, ⟨o, rfl, wo⟩, _, _, rfl, ⟨_, rfl, _, _, rfl, ⟨a, rfl, wa⟩, _, _, rfl, ⟨b, rfl, wb⟩, rfl⟩, _, _, rfl, ⟨m, rfl, wm⟩, rfl⟩ := h
  obtain ⟨args, k3, c, k1, k2⟩ := sums o a b m wa wb
  have k4 := law_true3 cxu_ok k3 k1 k2 w
  exact k4

set_option maxRecDepth 100000 in
theorem lifted (os : Os) (started : os.Started) (H : Type) (enc : TypeId × Value → H) :
    ReturnsInHanded {} Try.checked os 19 .any (Rows.aluAllSpec.pre6 enc Try.prog Try.f19 Rows.aluAllRow.domain false) (Rows.aluAllSpec.post enc Try.prog Try.f19 false true false false) := by
  refine returnsInHanded_of_change (C := Try.checked) own started (by kernel_rfl) Try.func19
    (ChangeSpec.witness6 (enc := enc) (C := Try.checked) false ⟨#[], #[.int .i64 0, .agg #[.int .u64 0, .int .u64 0], .int .i64 0], []⟩ 8 (by kernel_rfl) (by kernel_rfl) (by kernel_rfl) (by kernel_rfl)) ?_
  intro W base args ds gs before hval hW _ _
  exact lifted_plain (P := Try.prog) (f := 19) (fn := Try.f19) (s := Rows.aluAllSpec) (tb := 4) rfl
    (fun ds h => by
      match ds, h with
      | [d1, d2, d3], _ => rfl)
    (by kernel_rfl) rfl (by kernel_rfl) run W base args ds gs before hval hW

theorem over : Rows.aluAllRow.holds Try.pinned (OpenSpec.ofChange Rows.aluAllSpec) :=
  OpenClaim.holds_of_wide 19 Try.f19 rfl rfl rfl rfl rfl rfl rfl ⟨rfl, rfl, rfl, rfl, rfl⟩ rfl rfl rfl rfl rfl (by kernel_rfl) Try.func19 (by kernel_rfl)
    (of_decide_eq_true (by kernel_rfl)) (by unfold Func.isWrapper; first | (rw [if_pos (by decide +kernel)]; kernel_rfl) | (rw [if_neg (by decide +kernel)]; exact ⟨rfl, rfl⟩))
    (fun os started H enc _ => lifted os started H enc)

/-- The statement. -/
theorem proved : Rows.AluAllSaid :=
  over
#print axioms proved
end Go.Proofs.Ytgljicadcegilaa.AluAll
