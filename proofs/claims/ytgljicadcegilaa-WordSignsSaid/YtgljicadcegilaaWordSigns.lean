/- The statement 'WordSigns': a number whose sign was extended is of so many bits, and shifts go to and fro. Conditions: none. -/
import Derived.Test.YtgljicadcegilaaWords
import Derived.Test.YtgljicadcegilaaEvTmpl
namespace Go.Proofs.Ytgljicadcegilaa.WordSigns
open Go.RowKit Go.WideShapes Go.ChangeShapes Go.ChangeAt Ev
set_option linter.unusedVariables false
set_option linter.unusedSimpArgs false

def tm : Tmpl := { slots := [.int .u64, .skip, .int .u8, .skip, .skip, .skip, .skip, .truth true, .int .i64, .int .u64, .int .i64] ++ List.replicate 98 .skip, heap := [] }
def tm' : Tmpl := { slots := [.int .u64, .skip, .int .u8, .skip, .skip, .skip, .skip, .truth true, .int .i64, .int .u64] ++ List.replicate 99 .skip, heap := [] }
def nn (m : Int) : Int := litBin .add .i64 1 (IntKind.wrap .i64 (litBin .and .u8 m 63))
def dd (m : Int) : Int := litBin .sub .i64 64 (nn m)
def kk (k : Int) : Int := IntKind.wrap .i64 (litBin .and .u8 k 63)
def out (m : Int) : Bool := cond (litCmp .lss (nn m) 1) true (litCmp .gtr (nn m) 64)
def ext (x m : Int) : Int := IntKind.wrap .u64 (litBin .shr .i64 (IntKind.wrap .i64 (litBin .shl .u64 x (dd m))) (dd m))
def yy (x m : Int) : Int := cond (out m) x (ext x m)
def at1 (x i : Int) : Int := litBin .and .u64 (litBin .shr .u64 x i) 1
def upE (x k : Int) : Bool := litCmp .eql (litBin .shl .u64 (litBin .shr .u64 x (litBin .and .i64 (kk k) 63)) (litBin .and .i64 (kk k) 63)) (litBin .shl .u64 (litBin .shr .u64 (litBin .and .u64 x 18446744073709551615) (kk k)) (kk k))
def finV (x m k : Int) : Bool := cond (upE x k) (cond (litCmp .eql (litBin .shr .u64 (litBin .shl .u64 x (litBin .and .i64 (kk k) 63)) (litBin .and .i64 (kk k) 63)) (litBin .shr .u64 (litBin .shl .u64 (litBin .and .u64 x 18446744073709551615) (kk k)) (kk k))) (litCmp .eql (IntKind.wrap .u64 (litBin .shr .i64 (IntKind.wrap .i64 (litBin .shl .u64 x (litBin .and .i64 (dd m) 63))) (litBin .and .i64 (dd m) 63))) (yy x m)) false) false
def finG (x m k : Int) : Bool := ((!(litCmp .lss (litBin .and .i64 (kk k) 63) 0)) && (!(litCmp .lss (litBin .and .i64 (kk k) 63) 0))) && (((!(litCmp .lss (litBin .and .i64 (kk k) 63) 0)) && (!(litCmp .lss (litBin .and .i64 (kk k) 63) 0))) && (((!(litCmp .lss (litBin .and .i64 (dd m) 63) 0)) && (!(litCmp .lss (litBin .and .i64 (dd m) 63) 0))) && ((!(litCmp .lss (kk k) 0)) && ((!(litCmp .lss (kk k) 0)) && (cond (upE x k) ((!(litCmp .lss (kk k) 0)) && (!(litCmp .lss (kk k) 0))) true)))))
def again (x m : Int) : Bool := litCmp .neq (cond (out m) (yy x m) (ext (yy x m) m)) (yy x m)
def bitG (x n y i : Int) : Bool := cond (litCmp .lss i n) ((!(litCmp .lss i 0)) && (cond (litCmp .neq (at1 y i) (at1 x i)) true (cond (litCmp .geq i n) (!(litCmp .lss (litBin .sub .i64 n 1) 0)) true))) (cond (litCmp .geq i n) (!(litCmp .lss (litBin .sub .i64 n 1) 0)) true)
def bitV (x n y i : Int) : Bool := cond (litCmp .lss i n) (cond (litCmp .neq (at1 y i) (at1 x i)) true (cond (litCmp .geq i n) (litCmp .neq (at1 y i) (at1 y (litBin .sub .i64 n 1))) false)) (cond (litCmp .geq i n) (litCmp .neq (at1 y i) (at1 y (litBin .sub .i64 n 1))) false)
set_option maxRecDepth 100000 in
theorem goes (x k n y i : Int) : (viewT tm 0 (fun _ => []) (tm.fill ⟨[x, k, n, y, i], [], [], []⟩) (ev Try.prog cx 4 400 (.code (loopAt Try.prog 4 0)) (tm.fill ⟨[x, k, n, y, i], [], [], []⟩))).route [true, true, true, false] =
    some ([litCmp .lss i 64, !(litCmp .lss i 0), bitG x n y i, bitV x n y i], (.normal, some ⟨[x, k, n, y, litBin .add .i64 i 1], [], [], []⟩)) := by kernel_rfl
set_option maxRecDepth 100000 in
theorem ends (x k n y i : Int) : (viewT tm 0 (fun _ => []) (tm.fill ⟨[x, k, n, y, i], [], [], []⟩) (ev Try.prog cx 4 400 (.code (loopAt Try.prog 4 0)) (tm.fill ⟨[x, k, n, y, i], [], [], []⟩))).route [false] =
    some ([litCmp .lss i 64], (.exit 0, some ⟨[x, k, n, y, i], [], [], []⟩)) := by kernel_rfl
theorem small63 {k : Int} (wk : (Lit.int .u8 k).wf = true) : ∃ p : Nat, p < 64 ∧ IntKind.wrap .i64 (litBin .and .u8 k 63) = (p : Int) := by
  have h0 := wf8 wk
  have : ∀ n : Fin 256, ∃ p : Nat, p < 64 ∧ IntKind.wrap .i64 (litBin .and .u8 ((n.val : Nat) : Int) 63) = (p : Int) := by
    intro n
    refine ⟨n.val % 64, Nat.mod_lt _ (by decide), ?_⟩
    revert n
    decide +kernel
  obtain ⟨p, h1, h2⟩ := this ⟨k.toNat, by omega⟩
  have e : ((k.toNat : Nat) : Int) = k := by omega
  exact ⟨p, h1, by rw [← h2]; simp only [e]⟩
theorem tabs : ∀ p : Fin 64, litBin .and .i64 ((p.val : Nat) : Int) 63 = ((p.val : Nat) : Int) ∧ litBin .add .i64 1 ((p.val : Nat) : Int) = ((p.val + 1 : Nat) : Int) ∧ litBin .sub .i64 64 ((p.val + 1 : Nat) : Int) = ((63 - p.val : Nat) : Int) ∧ litBin .sub .i64 ((p.val + 1 : Nat) : Int) 1 = ((p.val : Nat) : Int) := by decide +kernel
theorem lss0 (p : Nat) : litCmp .lss (p : Int) 0 = false := by rw [lss_eq]; exact decide_eq_false (by omega)
theorem shl_p (x : Int) {p : Nat} (h : p ≤ 64) : litBin .shl .u64 x (p : Int) = (x * 2 ^ p) % 18446744073709551616 := by
  show IntKind.u64.wrap (x * 2 ^ (min p 64)) = _
  rw [Nat.min_eq_left h, Ev.wrap64]
theorem shr_pi (x : Int) {p : Nat} (h : p ≤ 64) : litBin .shr .i64 x (p : Int) = x / 2 ^ p := by
  show Int.fdiv x (2 ^ (min p 64)) = _
  rw [Nat.min_eq_left h, Int.fdiv_eq_ediv_of_nonneg _ (Int.le_of_lt (Int.pow_pos (by decide)))]
theorem wrapi_bv (Z : BitVec 64) : IntKind.wrap .i64 (Z.toNat : Int) = Z.toInt := by
  have := Z.isLt
  rw [wrapi, BitVec.toInt_eq_toNat_cond]
  split <;> omega
theorem wrapu_bv (Z : BitVec 64) : IntKind.wrap .u64 Z.toInt = (Z.toNat : Int) := by
  have := Z.isLt
  rw [Ev.wrap64, BitVec.toInt_eq_toNat_cond]
  split <;> omega
/-- A sign that is extended, as bits. -/
theorem ext_bv {n d : Nat} (hn : n < 18446744073709551616) (hd : d ≤ 63) : IntKind.wrap .u64 (litBin .shr .i64 (IntKind.wrap .i64 (litBin .shl .u64 (n : Int) (d : Int))) (d : Int)) = ((((BitVec.ofNat 64 n <<< d).sshiftRight d).toNat : Nat) : Int) := by
  have e1 : litBin .shl .u64 (n : Int) (d : Int) = (((BitVec.ofNat 64 n <<< d).toNat : Nat) : Int) := by
    rw [shl_p _ (by omega), BitVec.toNat_shiftLeft, BitVec.toNat_ofNat, Nat.mod_eq_of_lt (a := n) hn, Nat.shiftLeft_eq, Int.natCast_emod, Int.natCast_mul, Int.natCast_pow]
    rfl
  rw [e1, wrapi_bv, shr_pi _ (by omega), ← wrapu_bv, BitVec.toInt_sshiftRight, Int.shiftRight_eq_div_pow, Int.natCast_pow]
  rfl
theorem ext_bit {x : Int} (hx : inU x) {p : Nat} (hp : p < 64) (i : Nat) (hi : i < 64) : bit (IntKind.wrap .u64 (litBin .shr .i64 (IntKind.wrap .i64 (litBin .shl .u64 x ((63 - p : Nat) : Int))) ((63 - p : Nat) : Int))) i = bit x (if i ≤ p then i else p) := by
  obtain ⟨n, rfl, hn⟩ := hx.nat
  rw [ext_bv hn (by omega), bit_nat, bit_nat, BitVec.testBit_toNat, BitVec.getLsbD_sshiftRight]
  have h64 : (64 ≤ i) = False := by simp; omega
  have hx2 : ∀ j, j < 64 → (BitVec.ofNat 64 n).getLsbD j = n.testBit j := fun j hj => by
    rw [BitVec.getLsbD_ofNat]
    simp [hj]
  by_cases h : i ≤ p
  · rw [if_pos h, if_pos (by omega), BitVec.getLsbD_shiftLeft]
    simp only [h64, decide_false, Bool.not_false, Bool.true_and]
    rw [show 63 - p + i - (63 - p) = i by omega, hx2 i hi]
    simp <;> omega
  · rw [if_neg h, if_neg (by omega), BitVec.msb_eq_getLsbD_last, BitVec.getLsbD_shiftLeft]
    simp only [h64, decide_false, Bool.not_false, Bool.true_and]
    rw [show 64 - 1 - (63 - p) = p by omega, hx2 p hp]
    simp <;> omega
theorem inU_ext {x : Int} (m : Int) : inU (ext x m) := inU_wrap _
theorem bit_big {x : Int} (hx : inU x) {i : Nat} (hi : 64 ≤ i) : bit x i = false := by
  obtain ⟨n, rfl, hn⟩ := hx.nat
  rw [bit_nat]
  exact Nat.testBit_lt_two_pow (Nat.lt_of_lt_of_le hn (Nat.pow_le_pow_right (by decide : 0 < 2) hi : 2 ^ 64 ≤ 2 ^ i))
theorem at_bit {x : Int} (hx : inU x) (i : Nat) (hi : i ≤ 64) : at1 x (i : Int) = ((bit x i).toNat : Int) := by
  unfold at1
  obtain ⟨n, rfl, hn⟩ := hx.nat
  have hs : n >>> i < 18446744073709551616 := Nat.lt_of_le_of_lt (Nat.shiftRight_le n i) hn
  have e : litBin .and .u64 ((n >>> i : Nat) : Int) 1 = ((n >>> i &&& 1 : Nat) : Int) := and_nat hs (y := 1) (by decide)
  rw [shr_nat n i hi, e, bit_nat, Nat.testBit]
  congr 1
  rw [Nat.and_comm]
  have := Nat.and_one_is_mod (n >>> i)
  rw [Nat.and_comm] at this
  rw [this]
  rcases Nat.mod_two_eq_zero_or_one (n >>> i) with h | h <;> rw [h] <;> rfl


/-- What stays at the loop's head. -/
def I (e0 e : Env DC) : Prop := ∃ (x k y : Int) (p q : Nat) (i0 : Int), e0 = ⟨[x, k, ((p + 1 : Nat) : Int), y, i0], [], [], []⟩ ∧ e = ⟨[x, k, ((p + 1 : Nat) : Int), y, (q : Int)], [], [], []⟩ ∧ p < 64 ∧ q ≤ 64 ∧ inU x ∧ inU y ∧ (∀ j, j < 64 → bit y j = bit x (if j ≤ p then j else p))
noncomputable def ask (e : Env DC) : Bool := yes (I e e)
noncomputable def X : Cx DC := cx.block 4 0 (loopSum (D := DC) tm tm' 0 [] ask)

theorem round (e0 e : Env DC) (h : I e0 e) : RoundT (I e0) (fun e => (64 - (e.i.getD 4 0)).toNat) (I e0) 0 e (viewT tm 0 (fun _ => []) (tm.fill e) (ev Try.prog cx 4 400 (.code (loopAt Try.prog 4 0)) (tm.fill e))) := by
  obtain ⟨x, k, y, p, q, i0, rfl, rfl, hp, hq, hx, hy, eb⟩ := h
  have t4 := (tabs ⟨p, hp⟩).2.2.2
  simp only at t4
  by_cases hg : q < 64
  · have g1 : litCmp .lss (q : Int) 64 = true := decide_eq_true (by omega)
    have bV : bitV x ((p + 1 : Nat) : Int) y (q : Int) = false := by
      unfold bitV
      rw [t4, at_bit hy q (by omega), at_bit hx q (by omega), at_bit hy p (by omega), eb q hg, eb p hp, if_pos (Nat.le_refl p)]
      by_cases h : q ≤ p
      · have h1 : litCmp .lss (q : Int) ((p + 1 : Nat) : Int) = true := decide_eq_true (by omega)
        have h2 : litCmp .geq (q : Int) ((p + 1 : Nat) : Int) = false := decide_eq_false (by omega)
        rw [h1, h2, if_pos h, neq_self]
        rfl
      · have h1 : litCmp .lss (q : Int) ((p + 1 : Nat) : Int) = false := decide_eq_false (by omega)
        rw [h1, if_neg h, neq_self, Bool.cond_self]
        rfl
    have bG : bitG x ((p + 1 : Nat) : Int) y (q : Int) = true := by
      unfold bitG
      rw [t4, lss0, lss0]
      simp only [Bool.not_false, Bool.cond_self, Bool.true_and]
    have ei : litBin .add .i64 (q : Int) 1 = ((q + 1 : Nat) : Int) := by
      show IntKind.i64.wrap ((q : Int) + 1) = _
      rw [wrapi]
      omega
    refine ⟨_, _, route_at (goes x k _ y q) ?_, .inl ⟨rfl, _, rfl, ⟨x, k, y, p, q + 1, i0, rfl, by rw [ei], hp, by omega, hx, hy, eb⟩, ?_⟩⟩
    · rw [g1, bV, bG, lss0]
      rfl
    · simp only [List.getD_cons_succ, List.getD_cons_zero]
      rw [ei]
      omega
  · have g1 : litCmp .lss (q : Int) 64 = false := decide_eq_false (by omega)
    refine ⟨_, _, route_at (ends x k _ y q) (by rw [g1]), .inr ⟨rfl, _, rfl, x, k, y, p, q, i0, rfl, rfl, hp, hq, hx, hy, eb⟩⟩

theorem X_ok : Ok Try.prog X := by
  refine cx_ok.block (by kernel_rfl) fun hw s r hr => loopSum_ok (I := I) (m := fun _ e => (64 - (e.i.getD 4 0)).toNat) (Fin := I) cx_ok (fun e he => of_yes he) round ?_ hw s r hr
  rintro e0 e1 ⟨x, k, y, p, q, i0, rfl, rfl, _⟩
  kernel_rfl

noncomputable def test0 (x m k : Int) : Bool := (cond (out m) true ((!(litCmp .lss (dd m) 0)) && (!(litCmp .lss (dd m) 0)))) && ((cond (out m) true ((!(litCmp .lss (dd m) 0)) && (!(litCmp .lss (dd m) 0)))) && (cond (again x m) true (ask ⟨[x, k, nn m, yy x m, 0], [], [], []⟩ && finG x m k)))
def val (x m k : Int) : Bool := cond (again x m) false (finV x m k)
set_option maxRecDepth 100000 in
theorem road (x m k : Int) : ((call Try.prog X 400 4 [.int .u64 (.sym x), .int .u8 (.sym m), .int .u8 (.sym k)] []).route [true]).map (fun p => (p.1, p.2.1)) = some ([test0 x m k], .val (.bool (.sym (val x m k)))) := by kernel_rfl

theorem law {x m k : Int} (wx : (Lit.int .u64 x).wf = true) (wm : (Lit.int .u8 m).wf = true) (wk : (Lit.int .u8 k).wf = true) : test0 x m k = true ∧ val x m k = true := by
  have hx := inU_wf wx
  obtain ⟨p, hp, ep⟩ := small63 wm
  obtain ⟨q, hq, eq⟩ := small63 wk
  obtain ⟨t1, t2, t3, t4⟩ := tabs ⟨p, hp⟩
  have t5 := (tabs ⟨q, hq⟩).1
  have t6 := (tabs ⟨63 - p, by omega⟩).1
  simp only at t1 t2 t3 t4 t5 t6
  have en : nn m = ((p + 1 : Nat) : Int) := by unfold nn; rw [ep, t2]
  have ed : dd m = ((63 - p : Nat) : Int) := by unfold dd; rw [en, t3]
  have ek : kk k = (q : Int) := eq
  have eo : out m = false := by
    unfold out
    rw [en, lss_eq, gtr_eq, decide_eq_false (by omega), decide_eq_false (by omega)]
    rfl
  have ey : yy x m = ext x m := by unfold yy; rw [eo]; rfl
  have hy : inU (ext x m) := inU_ext m
  have eb0 : ∀ z, inU z → ∀ i, i < 64 → bit (ext z m) i = bit z (if i ≤ p then i else p) := fun z hz i hi => by
    unfold ext
    rw [ed]
    exact ext_bit hz hp i hi
  have eb := eb0 x hx
  have eb2 := eb0 _ hy
  have ee : ext (ext x m) m = ext x m := by
    refine eq_of_bits (inU_ext m) hy fun i => ?_
    by_cases hi : i < 64
    · rw [eb2 i hi]
      split
      · rfl
      · rename_i hip
        rw [eb p hp, eb i hi, if_neg hip, if_pos (Nat.le_refl p)]
    · rw [bit_big (inU_ext m) (by omega), bit_big hy (by omega)]
  have ea : again x m = false := by
    unfold again
    rw [ey, eo, cond_false, ee]
    exact neq_self _
  have hask : ask ⟨[x, k, nn m, yy x m, 0], [], [], []⟩ = true := by
    refine yes_of ⟨x, k, yy x m, p, 0, 0, by rw [en], by rw [en]; rfl, hp, by omega, hx, by rw [ey]; exact hy, fun j hj => by rw [ey]; exact eb j hj⟩
  have eu : upE x k = true := by
    unfold upE
    rw [ek, t5, and_all hx]
    exact eql_self _
  constructor
  · unfold test0
    rw [hask, ea, eo, ed, lss0, cond_false, cond_false, Bool.true_and]
    unfold finG
    rw [ek, ed, t5, t6, lss0, lss0, eu]
    rfl
  · unfold val
    rw [ea, cond_false]
    unfold finV
    rw [eu, ek, ed, t5, t6, and_all hx, eql_self, ey]
    unfold ext
    rw [ed, eql_self]
    rfl

theorem sums (x m k : Int) (wx : (Lit.int .u64 x).wf = true) (wm : (Lit.int .u8 m).wf = true) (wk : (Lit.int .u8 k).wf = true) :
    ∃ c : Bool, (call Try.prog X 400 4 [.int .u64 (.sym x), .int .u8 (.sym m), .int .u8 (.sym k)] []).pick.map (·.1) = some (.val (.bool (.sym c))) ∧ c = true :=
  ⟨_, route_pick1 (road x m k) (by rw [(law wx wm wk).1]), (law wx wm wk).2⟩

set_option maxRecDepth 100000 in
set_option maxHeartbeats 4000000 in
theorem run : ∀ vs, ArgsOk [.one (.int .u64), .one (.int .u8), .one (.int .u8)] vs → ∀ w, Calls Try.prog 4 vs.toArray w fun e w' => e = .returned (.bool true) ∧ Below w.heap.size w w' := by
  intro vs h w
  obtain ⟨_, _, rfl, ⟨x, rfl, wx⟩, _, _, rfl, ⟨m, rfl, wm⟩, _, _, rfl, ⟨k, rfl, wk⟩, rfl⟩ := h
  obtain ⟨c, k1, k2⟩ := sums x m k wx wm wk
  have k3 := (rfl : List.map absV [.int .u64 x, .int .u8 m, .int .u8 k] = [.int .u64 (.sym x), .int .u8 (.sym m), .int .u8 (.sym k)])
  have k4 := law_true2 X_ok k3 k1 k2 w
  exact k4

set_option maxRecDepth 100000 in
theorem lifted (os : Os) (started : os.Started) (H : Type) (enc : TypeId × Value → H) :
    ReturnsInHanded {} Try.checked os 4 .any (Rows.wordSignsSpec.pre6 enc Try.prog Try.f4 Rows.wordSignsRow.domain false) (Rows.wordSignsSpec.post enc Try.prog Try.f4 false true false false) := by
  refine returnsInHanded_of_change (C := Try.checked) own started (by kernel_rfl) Try.func4
    (ChangeSpec.witness6 (enc := enc) (C := Try.checked) false ⟨#[], #[.int .u64 0, .int .u8 0, .int .u8 0], []⟩ 8 (by kernel_rfl) (by kernel_rfl) (by kernel_rfl) (by kernel_rfl)) ?_
  intro W base args ds gs before hval hW _ _
  exact lifted_plain (P := Try.prog) (f := 4) (fn := Try.f4) (s := Rows.wordSignsSpec) (tb := 4) rfl
    (fun ds h => by
      match ds, h with
      | [d1, d2, d3], _ => rfl)
    (by kernel_rfl) rfl (by kernel_rfl) run W base args ds gs before hval hW

theorem over : Rows.wordSignsRow.holds Try.pinned (OpenSpec.ofChange Rows.wordSignsSpec) :=
  OpenClaim.holds_of_wide 4 Try.f4 rfl rfl rfl rfl rfl rfl rfl ⟨rfl, rfl, rfl, rfl, rfl⟩ rfl rfl rfl rfl rfl (by kernel_rfl) Try.func4 (by kernel_rfl)
    (of_decide_eq_true (by kernel_rfl)) (by unfold Func.isWrapper; first | (rw [if_pos (by decide +kernel)]; kernel_rfl) | (rw [if_neg (by decide +kernel)]; exact ⟨rfl, rfl⟩))
    (fun os started H enc _ => lifted os started H enc)

/-- The statement. -/
theorem proved : Rows.WordSignsSaid :=
  over
#print axioms proved
end Go.Proofs.Ytgljicadcegilaa.WordSigns
