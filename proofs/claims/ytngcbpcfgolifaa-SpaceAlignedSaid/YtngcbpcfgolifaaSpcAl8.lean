/- The statement 'SpaceAligned' at eight bytes: without a table an access is of the address itself, is let just if all of its bytes are in memory, and faults at the first that is not. Conditions: none. -/
import Derived.Test.YtngcbpcfgolifaaSpcLoad
namespace Go.Proofs.Ytngcbpcfgolifaa.SpaceAligned
open Go.RowKit Go.WideShapes Go.ChangeShapes Go.ChangeAt Ev
set_option linter.unusedVariables false
set_option linter.unusedSimpArgs false

def isCmp3 (o : Oper) : Bool := match o.op with
  | .binOp .lss t _ _ _ => Nat.beq t 3
  | .binOp .gtr t _ _ _ => Nat.beq t 3
  | _ => false
noncomputable def cxA0 (k : Int) (b : Bool) : Cx DC := (((cxo.sum 74 (gSize k)).sum 75 gLoad).more (askX Try.prog isCmp3 false)).more (askX Try.prog isNeqU b)
theorem cxA0_ok (k : Int) (b : Bool) : Ok Try.prog (cxA0 k b) :=
  (((cxo_ok.sum (by kernel_rfl) fun args h t r ht hp => gSize_ok ht hp).sum (by kernel_rfl) fun args h t r ht hp => gLoad_ok ht hp).more fun o s t z ho h w0 own ρ a w hS H => askX_sound ho h hS H).more fun o s t z ho h w0 own ρ a w hS H => askX_sound ho h hS H
def isGeqU (o : Oper) : Bool := match o.op with
  | .binOp .geq t _ _ _ => Nat.beq t 23
  | _ => false
def isLssU (o : Oper) : Bool := match o.op with
  | .binOp .lss t _ _ _ => Nat.beq t 23
  | _ => false
theorem ask_ok {X : Cx DC} (hX : Ok Try.prog X) (q : Oper → Bool) (b : Bool) : Ok Try.prog (X.more (askX Try.prog q b)) := hX.more fun o s t z ho h w0 own ρ a w hS H => askX_sound ho h hS H
/-! ### A loop's rounds, each by a context of its own -/
noncomputable def roundsT (f : FuncId) (m : Nat) (a : Code) : List (Cx DC) → St DC → T DC (Ex DC × List (W DC))
  | [], _ => .fail
  | X :: Xs, s => (ev Try.prog X f m (.code a) s).bind fun r => match r.1 with
    | .normal => (roundsT f m a Xs (s.apps r.2)).bind fun q => .ret (q.1, r.2 ++ q.2)
    | _ => .ret r
noncomputable def blockT (id : Nat) (t : T DC (Ex DC × List (W DC))) : T DC (Ex DC × List (W DC)) := t.bind fun r => match r.1 with
  | .exit i => if Nat.beq i id then .ret (.normal, r.2) else .ret r
  | _ => .ret r
theorem roundsT_ok {f : FuncId} {m : Nat} {a : Code} {w0 : World} {own : List Nat} : ∀ (Xs : List (Cx DC)), (∀ X ∈ Xs, Ok Try.prog X) → Within Try.prog f (.loop a) → ∀ (s : St DC) (r : Ex DC × List (W DC)), (roundsT f m a Xs s).pick = some r → ∀ (ρ : List Rb) (ac : Act) (w : World), SR w0 own ρ s ac w → Code.rounds Try.prog a (CodePost w0 own ρ s r) Xs.length ac w
  | [], _, _, s, r, h, _, _, _, _ => by cases h
  | X :: Xs, hX, hi, s, r, h, ρ, ac, w, H => by
    obtain ⟨r1, h1, h2⟩ := T.bind_some h
    rw [List.length_cons, rounds_succ]
    refine Code.wp_mono (fun e a' w' hg => ?_) ((sound (hX X (by simp)) m).1 _ _ _ _ (hi.sub (.loop (.refl _))) h1 ρ ac w H)
    obtain ⟨ρ', g1, g2, g3⟩ := hg
    rcases exitR g2 with ⟨e1, rfl⟩ | ⟨i, e1, rfl⟩ | ⟨e1, rfl⟩
    · rw [e1] at h2
      simp only [] at h2
      obtain ⟨q, h3, h4⟩ := T.bind_some h2
      have := T.ret_some h4
      subst this
      exact rounds_mono (fun e a w hg => Good.before g1 hg) Xs.length _ _ (roundsT_ok Xs (fun Y hY => hX Y (by simp [hY])) hi _ _ h3 ρ' a' w' g3)
    · rw [e1] at h2
      simp only [] at h2
      have := T.ret_some h2
      subst this
      exact ⟨ρ', g1, g2, g3⟩
    · rw [e1] at h2
      simp only [] at h2
      have := T.ret_some h2
      subst this
      exact ⟨ρ', g1, g2, g3⟩
theorem stages_ok {X : Cx DC} (hX : Ok Try.prog X) {f : FuncId} {id m : Nat} {Xs : List (Cx DC)} (hXs : ∀ Y ∈ Xs, Ok Try.prog Y) (h1 : oneLoop (blocksAt id (bodyOf Try.prog f)) = true) : Ok Try.prog (X.block f id fun s => blockT id (roundsT f m (loopAt Try.prog f id) Xs s)) :=
  hX.block h1 fun hw s r hr w0 own ρ a w H => by
    obtain ⟨r1, h1, h2⟩ := T.bind_some hr
    refine wp_block (Code.wp_mono (fun e a' w' hg => ?_) (wp_loop_rounds Xs.length (roundsT_ok Xs hXs (hw.sub (.block (.refl _))) s r1 h1 ρ a w H)))
    obtain ⟨ρ', g1, g2, g3⟩ := hg
    rcases exitR g2 with ⟨e1, rfl⟩ | ⟨i, e1, rfl⟩ | ⟨e1, rfl⟩
    · rw [e1] at h2
      simp only [] at h2
      have := T.ret_some h2
      subst this
      exact ⟨ρ', g1, g2, g3⟩
    · rw [e1] at h2
      simp only [] at h2
      simp only [Exit.inBlock]
      split at h2
      · rename_i hi
        have := Nat.eq_of_beq_eq_true hi
        subst this
        have := T.ret_some h2
        subst this
        rw [if_pos rfl]
        exact ⟨ρ', g1, trivial, g3⟩
      · rename_i hi
        have hne : i ≠ id := fun e => by subst e; simp at hi
        have := T.ret_some h2
        subst this
        rw [if_neg hne]
        exact ⟨ρ', g1, g2, g3⟩
    · rw [e1] at h2
      simp only [] at h2
      have := T.ret_some h2
      subst this
      exact ⟨ρ', g1, g2, g3⟩
noncomputable def cxYes (k : Int) : Cx DC := ((cxA0 k true).more (askX Try.prog isGeqU true)).more (askX Try.prog isLssU true)
noncomputable def cxLow (k : Int) : Cx DC := (cxA0 k true).more (askX Try.prog isGeqU false)
noncomputable def cxEnd (k : Int) : Cx DC := ((cxA0 k true).more (askX Try.prog isGeqU true)).more (askX Try.prog isLssU false)
noncomputable def askG (fl : Bool) (L C N : Nat) (F : Nat → Int) (satp st pr k v n : Int) : Bool := askS L C N F satp st pr k v n && (sF F N L satp st pr k v n == fl)
noncomputable def gSpT (fl : Bool) (args : List (AV DC)) (h : List (AO DC)) : Option (T DC (AV DC × List (W DC))) := match args with
  | [.agg [.ptr b (.lit 0), .nilptr], .agg [.int .u64 st, .int .u64 c1, .int .u64 c2, .int .u64 c3, .int .u64 c4, .int .u64 c5, .int .u64 c6, .int .u64 c7, .int .u64 c8, .int .u64 satp, .int .u64 c10, .int .u64 c11], .int .i64 pr, .int .i64 k, .int .u64 va, .int .i64 n] => match h[b]? with
    | some (.cells 156 [.slice c (.lit 0) (.rc L 1 0) (.kn (.rc C 1 0))]) => match h[c]? with
      | some (.arr 5 N [(.int .u8, F)]) => some (.br (askG fl L C N F satp.den st.den pr.den k.den va.den n.den) (.ret (.tuple [.int .u64 (.sym (sT F N L satp.den st.den pr.den k.den va.den n.den)), .agg [.bool (.lit fl), .int .i64 (.sym (sC F N L satp.den st.den pr.den k.den va.den n.den)), .int .u64 (.sym (sV F N L satp.den st.den pr.den k.den va.den n.den))]], [])) .fail)
      | _ => none
    | _ => none
  | _ => none
theorem gSpT_ok {fl : Bool} {args : List (AV DC)} {h : List (AO DC)} {t : T DC (AV DC × List (W DC))} {r : AV DC × List (W DC)} (ht : gSpT fl args h = some t) (hp : t.pick = some r) : FnOk Try.prog 78 args h r := by
  unfold gSpT at ht
  split at ht
  · rename_i b st c1 c2 c3 c4 c5 c6 c7 c8 satp c10 c11 pr k va n
    split at ht
    · rename_i c L C hb
      split at ht
      · rename_i N F hc
        cases ht
        obtain ⟨h1, h2⟩ := T.ask hp
        have := T.ret_some h2
        subst this
        have h1' : (askS L C N F satp.den st.den pr.den k.den va.den n.den && (sF F N L satp.den st.den pr.den k.den va.den n.den == fl)) = true := h1
        rw [Bool.and_eq_true] at h1'
        exact memA (F2 := F) cxs_ok (spcTo L C N F st.den c1.den c2.den c3.den c4.den c5.den c6.den c7.den c8.den satp.den c10.den c11.den pr.den k.den va.den n.den) (by rw [h1'.1]) hb hc (fun hbc => ⟨⟨⟨rfl, rfl⟩, trivial, trivial⟩, ⟨⟨rfl, rfl⟩, ⟨rfl, rfl⟩, ⟨rfl, rfl⟩, ⟨rfl, rfl⟩, ⟨rfl, rfl⟩, ⟨rfl, rfl⟩, ⟨rfl, rfl⟩, ⟨rfl, rfl⟩, ⟨rfl, rfl⟩, ⟨rfl, rfl⟩, ⟨rfl, rfl⟩, ⟨rfl, rfl⟩, trivial⟩, ⟨rfl, rfl⟩, ⟨rfl, rfl⟩, ⟨rfl, rfl⟩, ⟨rfl, rfl⟩, trivial⟩) (fun hbc => ⟨⟨rfl, rfl⟩, ⟨eq_of_beq h1'.2, ⟨rfl, rfl⟩, ⟨rfl, rfl⟩, trivial⟩, trivial⟩) (.inl ⟨rfl, fun _ _ => rfl⟩)
      · cases ht
    · cases ht
  · cases ht
noncomputable def cxTo (k : Int) (b fl : Bool) : Cx DC := (cxA0 k b).sum 78 (gSpT fl)
theorem cxTo_ok (k : Int) (b fl : Bool) : Ok Try.prog (cxTo k b fl) := (cxA0_ok k b).sum (by kernel_rfl) fun args h t r ht hp => gSpT_ok ht hp
/-- So many bytes are let, and then one that is not, or the end. -/
noncomputable def esL (k : Int) (b e : Bool) : Nat → List (Cx DC)
  | 0 => [bif e then cxTo k b true else cxA0 k b]
  | j + 1 => cxTo k b false :: esL k b e j
theorem esL_ok (k : Int) (b e : Bool) : ∀ (j : Nat), ∀ X ∈ esL k b e j, Ok Try.prog X
  | 0, X, h => by
    have h' : X = (bif e then cxTo k b true else cxA0 k b) := List.mem_singleton.1 h
    subst h'
    cases e
    · exact cxA0_ok k b
    · exact cxTo_ok k b true
  | j + 1, X, h => by
    rcases List.mem_cons.1 h with rfl | h
    · exact cxTo_ok k b false
    · exact esL_ok k b e j X h
/-- So many rounds of the statement's own loop, and its end. -/
noncomputable def stg (k : Int) (v : Bool) : Nat → List (Cx DC)
  | 0 => [bif v then cxLow k else cxEnd k]
  | j + 1 => cxYes k :: stg k v j
theorem stg_ok (k : Int) (v : Bool) : ∀ (j : Nat), ∀ X ∈ stg k v j, Ok Try.prog X
  | 0, X, h => by
    have h' : X = (bif v then cxLow k else cxEnd k) := List.mem_singleton.1 h
    subst h'
    cases v
    · exact ask_ok (ask_ok (cxA0_ok k true) _ _) _ _
    · exact ask_ok (cxA0_ok k true) _ _
  | j + 1, X, h => by
    rcases List.mem_cons.1 h with rfl | h
    · exact ask_ok (ask_ok (cxA0_ok k true) _ _) _ _
    · exact stg_ok k v j X h
noncomputable def cxQ (k : Int) (b : Bool) (es ms : List (Cx DC)) : Cx DC := ((cxA0 k b).block 115 0 fun s => blockT 0 (roundsT 115 40 (loopAt Try.prog 115 0) es s)).block 18 0 fun s => blockT 0 (roundsT 18 30 (loopAt Try.prog 18 0) ms s)
theorem cxQ_ok (k : Int) (b : Bool) {es ms : List (Cx DC)} (h1 : ∀ X ∈ es, Ok Try.prog X) (h2 : ∀ X ∈ ms, Ok Try.prog X) : Ok Try.prog (cxQ k b es ms) := stages_ok (stages_ok (cxA0_ok k b) h1 (by kernel_rfl)) h2 (by kernel_rfl)
noncomputable def cxU (k : Int) (j : Nat) (v : Bool) : Cx DC := cxQ k true (esL k true true j) (stg k v j)
theorem cxU_ok (k : Int) (j : Nat) (v : Bool) : Ok Try.prog (cxU k j v) := cxQ_ok k true (esL_ok k true true j) (stg_ok k v j)
noncomputable def cxF (k : Int) (b : Bool) (j : Nat) : Cx DC := cxQ k b (esL k b false j) []
theorem cxF_ok (k : Int) (b : Bool) (j : Nat) : Ok Try.prog (cxF k b j) := cxQ_ok k b (esL_ok k b false j) (fun X h => by cases h)
noncomputable def cxA (k : Int) : Cx DC := cxQ k false (esL k false true 0) [cxA0 k false]
theorem cxA_ok (k : Int) : Ok Try.prog (cxA k) := cxQ_ok k false (esL_ok k false true 0) (fun X h => by
  have h' : X = cxA0 k false := List.mem_singleton.1 h
  subst h'
  exact cxA0_ok k false)
def itz (va : Int) : Nat → Int
  | 0 => va
  | n + 1 => litBin .add .u64 (itz va n) 1
theorem itz_eq {va : Int} (hv : inU va) : ∀ n : Nat, itz va n = litBin .add .u64 va (n : Int)
  | 0 => (add0 hv).symm
  | n + 1 => by
    show litBin .add .u64 (itz va n) 1 = _
    rw [itz_eq hv n, Page.addu, Page.addu, Page.addu]
    omega
def pq (pg : Int) : Int := litBin .and .u8 pg 3
theorem pq_in {pg : Int} (h : 0 ≤ pg ∧ pg < 256) : 0 ≤ pq pg ∧ pq pg < 256 := by
  unfold pq
  rw [and3 h]
  omega
def endE (N : Nat) : Int := litBin .add .u64 2147483648 (IntKind.wrap .u64 ((N : Nat) : Int))
def inA (N : Nat) (va k : Int) : Bool := cond (litCmp .geq va 2147483648) (cond (litCmp .lss va (endE N)) (litCmp .geq (litBin .sub .u64 (endE N) va) k) false) false
theorem end_eq {N : Nat} (h : N ≤ 65536) : endE N = 2147483648 + (N : Int) := by
  unfold endE
  rw [Page.addu, Ev.wrap64]
  omega
theorem ge_of {N : Nat} {z : Int} (h : N ≤ 65536) (hu : okS N z 1 = true) : litCmp .geq z 2147483648 = true ∧ litCmp .lss z (endE N) = true := by
  unfold okS at hu
  have h' := of_decide_eq_true hu
  rw [end_eq h]
  exact ⟨decide_eq_true (by omega), decide_eq_true (by omega)⟩
theorem lt_of {N : Nat} {z : Int} (h : N ≤ 65536) (hu : okS N z 1 = false) (hg : litCmp .geq z 2147483648 = true) : litCmp .lss z (endE N) = false := by
  unfold okS at hu
  have h' := of_decide_eq_false hu
  have hg' : 2147483648 ≤ z := of_decide_eq_true hg
  rw [end_eq h]
  exact decide_eq_false (by omega)
theorem ge_nx {N : Nat} {va i j : Int} (h : N ≤ 65536) (hu : okS N (litBin .add .u64 va i) 1 = true) (hj : j = i + 1) : litCmp .geq (litBin .add .u64 va j) 2147483648 = true := by
  subst hj
  unfold okS at hu
  have h' := of_decide_eq_true hu
  rw [Page.addu] at h' ⊢
  exact decide_eq_true (by omega)
theorem in_ok {N : Nat} {va k : Int} (h : N ≤ 65536) (hv : inU va) (hk : num k = true) : inA N va k = okS N va k := by
  unfold inA okS
  rw [end_eq h]
  have hk := Page.num_cases hk
  by_cases h1 : 2147483648 ≤ va
  · rw [show litCmp .geq va 2147483648 = true from decide_eq_true h1, cond_true]
    by_cases h2 : va < 2147483648 + (N : Int)
    · rw [show litCmp .lss va (2147483648 + (N : Int)) = true from decide_eq_true h2, cond_true, Page.subu]
      show decide (k ≤ (2147483648 + (N : Int) - va) % 18446744073709551616) = decide _
      rw [decide_eq_decide]
      rcases hk with rfl | rfl | rfl | rfl <;> omega
    · rw [show litCmp .lss va (2147483648 + (N : Int)) = false from decide_eq_false h2, cond_false]
      exact (decide_eq_false (by omega)).symm
  · rw [show litCmp .geq va 2147483648 = false from decide_eq_false h1, cond_false]
    exact (decide_eq_false (by omega)).symm
theorem np0 : np 0 = true := by decide
section
variable {F : Nat → Int} {N : Nat} {st pr k va n : Int}
theorem isW0 : isW F N 0 st pr k va = false := outW_np np0
theorem toW0 : toW F N 0 st pr k va = va := by
  unfold toW
  rw [isW0, np0]
  rfl
theorem sF0 : sF F N N 0 st pr k va n = !okS N va n := by
  unfold sF
  rw [isW0, toW0]
  cases okS N va n <;> rfl
theorem sT0 (h : okS N va n = true) : sT F N N 0 st pr k va n = va := by
  unfold sT
  rw [isW0, toW0, h]
  rfl
theorem sC0 (h : okS N va n = false) : sC F N N 0 st pr k va n = cauS k 1 7 5 := by
  unfold sC
  rw [isW0, toW0, h]
  rfl
end
theorem cau7 : cauS 2 1 7 5 = 7 := by decide
theorem cau5 : cauS 1 1 7 5 = 5 := by decide
/-- All of the bytes, or not. -/
theorem all_ok {N : Nat} {va k : Int} (h : N ≤ 65536) (hv : inU va) (hk : num k = true) : okS N va k = true ↔ ∀ i : Int, 0 ≤ i ∧ i < k → okS N (litBin .add .u64 va i) 1 = true := by
  have hk' := Page.num_cases hk
  constructor
  · intro ho i hi
    exact ok_byte h ho hi
  · intro hall
    have a0 := hall 0 (by rcases hk' with rfl | rfl | rfl | rfl <;> omega)
    have a1 := hall (k - 1) (by rcases hk' with rfl | rfl | rfl | rfl <;> omega)
    unfold okS at *
    have b0 := of_decide_eq_true a0
    have b1 := of_decide_eq_true a1
    rw [Page.addu] at b0 b1
    unfold inU at hv
    refine decide_eq_true ?_
    rcases hk' with rfl | rfl | rfl | rfl <;> omega
/-- What was put is got. -/
theorem get_byte {F : Nat → Int} {N : Nat} {a : Int} (h : okS N a 1 = true) : getS F N a 1 = F (Int.toNat (litBin .sub .u64 a 2147483648)) := by
  have h1 : (num 1 && okS N a 1) = true := by rw [h]; rfl
  unfold getS
  rw [h1, cond_true]
  show F (off a) + 256 * 0 = F (off a)
  omega
theorem sub_at {va i : Int} {N k : Nat} (hN : N ≤ 65536) (hv : inU va) (h0 : okS N va 1 = true) (hi : 0 ≤ i ∧ i < 8) : Int.toNat (litBin .sub .u64 (litBin .add .u64 va i) 2147483648) = Int.toNat (va - 2147483648) + Int.toNat i := by
  unfold okS at h0
  have h0' := of_decide_eq_true h0
  rw [Page.addu, Page.subu]
  unfold inU at hv
  omega
theorem byte_of {x : Int} (hx : inU x) (k : Nat) (hk : k < 8) : IntKind.wrap .u8 (litBin .shr .u64 x ((8 * k : Nat) : Int)) = x / 256 ^ k % 256 := by
  rw [shr_ediv x (8 * k) (by omega), wrapb, Int.pow_mul]
  rfl
theorem sum_bytes {g : Nat → Int} {x : Int} (hx : inU x) (hg : ∀ i, i < 8 → g i = x / 256 ^ i % 256) : ∀ k, k ≤ 8 → Page.orN g k = x % 256 ^ k := by
  have hb : ∀ i, i < 8 → 0 ≤ g i ∧ g i < 256 := fun i hi => by rw [hg i hi]; omega
  intro k
  induction k with
  | zero => intro _; show (0 : Int) = x % 1; omega
  | succ k ih =>
    intro hk
    obtain ⟨n, rfl, hn⟩ := hx.nat
    obtain ⟨a, h1, h2, -⟩ := Page.sum_ok hb k (by omega)
    have ih := ih (by omega)
    have e1 : g k = ((n / 256 ^ k % 256 : Nat) : Int) := by
      rw [hg k (by omega)]
      simp
    have e2 : a = n % 256 ^ k := by
      rw [h2] at ih
      have : ((n : Int) % 256 ^ k) = ((n % 256 ^ k : Nat) : Int) := by simp
      rw [this] at ih
      exact Int.ofNat.inj ih
    have hc : n / 256 ^ k % 256 < 256 := Nat.mod_lt _ (by decide)
    obtain ⟨-, s2, -⟩ := Page.sum_step (a := a) (c := n / 256 ^ k % 256) (k := k) (by omega) h1 hc
    show litBin .or .u64 (Page.orN g k) (litBin .shl .u64 (g k) _) = _
    rw [h2, e1, s2, e2]
    have : ((n : Int) % 256 ^ (k + 1)) = ((n % 256 ^ (k + 1) : Nat) : Int) := by simp
    rw [this, Nat.pow_succ, Nat.mod_mul, Nat.mul_comm]

theorem sum_upto {g : Nat → Int} {x : Int} {K : Nat} (hx : inU x) (hg : ∀ i, i < K → g i = x / 256 ^ i % 256) (k : Nat) (hk : k ≤ K) (hK : K ≤ 8) : Page.orN g k = x % 256 ^ k := by
  have hf := sum_bytes (g := fun i => x / 256 ^ i % 256) hx (fun i _ => rfl) k (by omega)
  rw [← hf]
  have : ∀ m, m ≤ k → Page.orN g m = Page.orN (fun i => x / 256 ^ i % 256) m := by
    intro m
    induction m with
    | zero => exact fun _ => rfl
    | succ m ih =>
      intro hm
      show litBin .or .u64 (Page.orN g m) (litBin .shl .u64 (g m) _) = litBin .or .u64 (Page.orN _ m) (litBin .shl .u64 (x / 256 ^ m % 256) _)
      rw [ih (by omega), hg m (by omega)]
  exact this k (Nat.le_refl _)

noncomputable def v8u_0v (pg va x nn : Int) : Bool := (cond (inA (szN (pq pg)) va 8) false (cond (ldF (fun _ => 0) (szN (pq pg)) 0 0 0 va 8) (cond (litCmp .eql (sC (fun _ => 0) (szN (pq pg)) (szN (pq pg)) 0 0 1 2 (litBin .add .u64 va 0) 1) 7) (cond (litCmp .eql (ldC (fun _ => 0) (szN (pq pg)) 0 0 0 va 8) 5) (cond (litCmp .eql (sV (fun _ => 0) (szN (pq pg)) (szN (pq pg)) 0 0 1 2 (litBin .add .u64 va 0) 1) va) (litCmp .eql (ldV (fun _ => 0) (szN (pq pg)) 0 0 0 va 8) va) false) false) false) false))
set_option maxRecDepth 100000 in
theorem road8u_0v (pg va x nn : Int) : ((call Try.prog (cxU 8 0 true) 70 18 [.int .u8 (.sym pg), .agg [.int .u64 (.sym va), .int .u64 (.sym x)], .int .u8 (.sym nn)] []).route [true]).map (fun p => (p.1, p.2.1)) = some ([(((((!(litCmp .lss (pgs (pq pg)) 1)) && (!(litCmp .gtr (pgs (pq pg)) 16))) && (decide (0 ≤ (litBin .mul .i64 (pgs (pq pg)) 4096) ∧ (litBin .mul .i64 (pgs (pq pg)) 4096) < ((16777216 : Nat) : Int)))) && (((!(litCmp .lss (pgs (pq pg)) 1)) && (!(litCmp .gtr (pgs (pq pg)) 16))) && (decide (0 ≤ (litBin .mul .i64 (pgs (pq pg)) 4096) ∧ (litBin .mul .i64 (pgs (pq pg)) 4096) < ((16777216 : Nat) : Int))))) && ((szq 8 nn) && (((litCmp .neq (litBin .rem .u64 va 8) 0) && (askG true (szN (pq pg)) (szN (pq pg)) (szN (pq pg)) (fun _ => 0) 0 0 1 2 (litBin .add .u64 va 0) 1)) && ((askL (szN (pq pg)) (szN (pq pg)) (szN (pq pg)) (fun _ => 0) 0 0 va 8) && (cond (inA (szN (pq pg)) va 8) true ((litCmp .neq (litBin .rem .u64 va 8) 0) && (!(litCmp .geq va 2147483648))))))))], .val (.bool (.sym (v8u_0v pg va x nn)))) := by kernel_rfl
noncomputable def v8u_0 (pg va x nn : Int) : Bool := (cond (inA (szN (pq pg)) va 8) false (cond (ldF (fun _ => 0) (szN (pq pg)) 0 0 0 va 8) (cond (litCmp .eql (sC (fun _ => 0) (szN (pq pg)) (szN (pq pg)) 0 0 1 2 (litBin .add .u64 va 0) 1) 7) (cond (litCmp .eql (ldC (fun _ => 0) (szN (pq pg)) 0 0 0 va 8) 5) (cond (litCmp .eql (sV (fun _ => 0) (szN (pq pg)) (szN (pq pg)) 0 0 1 2 (litBin .add .u64 va 0) 1) va) (litCmp .eql (ldV (fun _ => 0) (szN (pq pg)) 0 0 0 va 8) va) false) false) false) false))
set_option maxRecDepth 100000 in
theorem road8u_0 (pg va x nn : Int) : ((call Try.prog (cxU 8 0 false) 70 18 [.int .u8 (.sym pg), .agg [.int .u64 (.sym va), .int .u64 (.sym x)], .int .u8 (.sym nn)] []).route [true]).map (fun p => (p.1, p.2.1)) = some ([(((((!(litCmp .lss (pgs (pq pg)) 1)) && (!(litCmp .gtr (pgs (pq pg)) 16))) && (decide (0 ≤ (litBin .mul .i64 (pgs (pq pg)) 4096) ∧ (litBin .mul .i64 (pgs (pq pg)) 4096) < ((16777216 : Nat) : Int)))) && (((!(litCmp .lss (pgs (pq pg)) 1)) && (!(litCmp .gtr (pgs (pq pg)) 16))) && (decide (0 ≤ (litBin .mul .i64 (pgs (pq pg)) 4096) ∧ (litBin .mul .i64 (pgs (pq pg)) 4096) < ((16777216 : Nat) : Int))))) && ((szq 8 nn) && (((litCmp .neq (litBin .rem .u64 va 8) 0) && (askG true (szN (pq pg)) (szN (pq pg)) (szN (pq pg)) (fun _ => 0) 0 0 1 2 (litBin .add .u64 va 0) 1)) && ((askL (szN (pq pg)) (szN (pq pg)) (szN (pq pg)) (fun _ => 0) 0 0 va 8) && (cond (inA (szN (pq pg)) va 8) true ((litCmp .neq (litBin .rem .u64 va 8) 0) && ((litCmp .geq va 2147483648) && (!(litCmp .lss va (endE (szN (pq pg))))))))))))], .val (.bool (.sym (v8u_0 pg va x nn)))) := by kernel_rfl
noncomputable def v8u_1 (pg va x nn : Int) : Bool := (cond (inA (szN (pq pg)) va 8) false (cond (ldF (fun _ => 0) (szN (pq pg)) 0 0 0 va 8) (cond (litCmp .eql (sC (fun _ => 0) (szN (pq pg)) (szN (pq pg)) 0 0 1 2 (litBin .add .u64 va 1) 1) 7) (cond (litCmp .eql (ldC (fun _ => 0) (szN (pq pg)) 0 0 0 va 8) 5) (cond (litCmp .eql (sV (fun _ => 0) (szN (pq pg)) (szN (pq pg)) 0 0 1 2 (litBin .add .u64 va 1) 1) (litBin .add .u64 va 1)) (litCmp .eql (ldV (fun _ => 0) (szN (pq pg)) 0 0 0 va 8) (litBin .add .u64 va 1)) false) false) false) false))
set_option maxRecDepth 100000 in
theorem road8u_1 (pg va x nn : Int) : ((call Try.prog (cxU 8 1 false) 70 18 [.int .u8 (.sym pg), .agg [.int .u64 (.sym va), .int .u64 (.sym x)], .int .u8 (.sym nn)] []).route [true]).map (fun p => (p.1, p.2.1)) = some ([(((((!(litCmp .lss (pgs (pq pg)) 1)) && (!(litCmp .gtr (pgs (pq pg)) 16))) && (decide (0 ≤ (litBin .mul .i64 (pgs (pq pg)) 4096) ∧ (litBin .mul .i64 (pgs (pq pg)) 4096) < ((16777216 : Nat) : Int)))) && (((!(litCmp .lss (pgs (pq pg)) 1)) && (!(litCmp .gtr (pgs (pq pg)) 16))) && (decide (0 ≤ (litBin .mul .i64 (pgs (pq pg)) 4096) ∧ (litBin .mul .i64 (pgs (pq pg)) 4096) < ((16777216 : Nat) : Int))))) && ((szq 8 nn) && (((litCmp .neq (litBin .rem .u64 va 8) 0) && ((askG false (szN (pq pg)) (szN (pq pg)) (szN (pq pg)) (fun _ => 0) 0 0 1 2 (litBin .add .u64 va 0) 1) && (askG true (szN (pq pg)) (szN (pq pg)) (szN (pq pg)) (fun _ => 0) 0 0 1 2 (litBin .add .u64 va 1) 1))) && ((askL (szN (pq pg)) (szN (pq pg)) (szN (pq pg)) (fun _ => 0) 0 0 va 8) && (cond (inA (szN (pq pg)) va 8) true (((litCmp .neq (litBin .rem .u64 va 8) 0) && ((litCmp .geq va 2147483648) && (litCmp .lss va (endE (szN (pq pg)))))) && ((litCmp .neq (litBin .rem .u64 va 8) 0) && ((litCmp .geq (litBin .add .u64 va 1) 2147483648) && (!(litCmp .lss (litBin .add .u64 va 1) (endE (szN (pq pg)))))))))))))], .val (.bool (.sym (v8u_1 pg va x nn)))) := by kernel_rfl
noncomputable def v8u_2 (pg va x nn : Int) : Bool := (cond (ldF (fun _ => 0) (szN (pq pg)) 0 0 0 va 8) (cond (litCmp .eql (sC (fun _ => 0) (szN (pq pg)) (szN (pq pg)) 0 0 1 2 (litBin .add .u64 va 2) 1) 7) (cond (litCmp .eql (ldC (fun _ => 0) (szN (pq pg)) 0 0 0 va 8) 5) (cond (litCmp .eql (sV (fun _ => 0) (szN (pq pg)) (szN (pq pg)) 0 0 1 2 (litBin .add .u64 va 2) 1) (itz va 2)) (litCmp .eql (ldV (fun _ => 0) (szN (pq pg)) 0 0 0 va 8) (itz va 2)) false) false) false) false)
set_option maxRecDepth 100000 in
theorem road8u_2 (pg va x nn : Int) : ((call Try.prog (cxU 8 2 false) 70 18 [.int .u8 (.sym pg), .agg [.int .u64 (.sym va), .int .u64 (.sym x)], .int .u8 (.sym nn)] []).route [true, true, true, true, false, true]).map (fun p => (p.1, p.2.1)) = some ([((((!(litCmp .lss (pgs (pq pg)) 1)) && (!(litCmp .gtr (pgs (pq pg)) 16))) && (decide (0 ≤ (litBin .mul .i64 (pgs (pq pg)) 4096) ∧ (litBin .mul .i64 (pgs (pq pg)) 4096) < ((16777216 : Nat) : Int)))) && (((!(litCmp .lss (pgs (pq pg)) 1)) && (!(litCmp .gtr (pgs (pq pg)) 16))) && (decide (0 ≤ (litBin .mul .i64 (pgs (pq pg)) 4096) ∧ (litBin .mul .i64 (pgs (pq pg)) 4096) < ((16777216 : Nat) : Int))))), (szq 8 nn), ((litCmp .neq (litBin .rem .u64 va 8) 0) && ((askG false (szN (pq pg)) (szN (pq pg)) (szN (pq pg)) (fun _ => 0) 0 0 1 2 (litBin .add .u64 va 0) 1) && ((askG false (szN (pq pg)) (szN (pq pg)) (szN (pq pg)) (fun _ => 0) 0 0 1 2 (litBin .add .u64 va 1) 1) && (askG true (szN (pq pg)) (szN (pq pg)) (szN (pq pg)) (fun _ => 0) 0 0 1 2 (litBin .add .u64 va 2) 1)))), (askL (szN (pq pg)) (szN (pq pg)) (szN (pq pg)) (fun _ => 0) 0 0 va 8), (inA (szN (pq pg)) va 8), (((litCmp .neq (litBin .rem .u64 va 8) 0) && ((litCmp .geq va 2147483648) && (litCmp .lss va (endE (szN (pq pg)))))) && (((litCmp .neq (litBin .rem .u64 va 8) 0) && ((litCmp .geq (litBin .add .u64 va 1) 2147483648) && (litCmp .lss (litBin .add .u64 va 1) (endE (szN (pq pg)))))) && ((litCmp .neq (litBin .rem .u64 va 8) 0) && ((litCmp .geq (itz va 2) 2147483648) && (!(litCmp .lss (itz va 2) (endE (szN (pq pg)))))))))], .val (.bool (.sym (v8u_2 pg va x nn)))) := by kernel_rfl
noncomputable def v8u_3 (pg va x nn : Int) : Bool := (cond (ldF (fun _ => 0) (szN (pq pg)) 0 0 0 va 8) (cond (litCmp .eql (sC (fun _ => 0) (szN (pq pg)) (szN (pq pg)) 0 0 1 2 (litBin .add .u64 va 3) 1) 7) (cond (litCmp .eql (ldC (fun _ => 0) (szN (pq pg)) 0 0 0 va 8) 5) (cond (litCmp .eql (sV (fun _ => 0) (szN (pq pg)) (szN (pq pg)) 0 0 1 2 (litBin .add .u64 va 3) 1) (itz va 3)) (litCmp .eql (ldV (fun _ => 0) (szN (pq pg)) 0 0 0 va 8) (itz va 3)) false) false) false) false)
set_option maxRecDepth 100000 in
theorem road8u_3 (pg va x nn : Int) : ((call Try.prog (cxU 8 3 false) 70 18 [.int .u8 (.sym pg), .agg [.int .u64 (.sym va), .int .u64 (.sym x)], .int .u8 (.sym nn)] []).route [true, true, true, true, false, true]).map (fun p => (p.1, p.2.1)) = some ([((((!(litCmp .lss (pgs (pq pg)) 1)) && (!(litCmp .gtr (pgs (pq pg)) 16))) && (decide (0 ≤ (litBin .mul .i64 (pgs (pq pg)) 4096) ∧ (litBin .mul .i64 (pgs (pq pg)) 4096) < ((16777216 : Nat) : Int)))) && (((!(litCmp .lss (pgs (pq pg)) 1)) && (!(litCmp .gtr (pgs (pq pg)) 16))) && (decide (0 ≤ (litBin .mul .i64 (pgs (pq pg)) 4096) ∧ (litBin .mul .i64 (pgs (pq pg)) 4096) < ((16777216 : Nat) : Int))))), (szq 8 nn), ((litCmp .neq (litBin .rem .u64 va 8) 0) && ((askG false (szN (pq pg)) (szN (pq pg)) (szN (pq pg)) (fun _ => 0) 0 0 1 2 (litBin .add .u64 va 0) 1) && ((askG false (szN (pq pg)) (szN (pq pg)) (szN (pq pg)) (fun _ => 0) 0 0 1 2 (litBin .add .u64 va 1) 1) && ((askG false (szN (pq pg)) (szN (pq pg)) (szN (pq pg)) (fun _ => 0) 0 0 1 2 (litBin .add .u64 va 2) 1) && (askG true (szN (pq pg)) (szN (pq pg)) (szN (pq pg)) (fun _ => 0) 0 0 1 2 (litBin .add .u64 va 3) 1))))), (askL (szN (pq pg)) (szN (pq pg)) (szN (pq pg)) (fun _ => 0) 0 0 va 8), (inA (szN (pq pg)) va 8), (((litCmp .neq (litBin .rem .u64 va 8) 0) && ((litCmp .geq va 2147483648) && (litCmp .lss va (endE (szN (pq pg)))))) && (((litCmp .neq (litBin .rem .u64 va 8) 0) && ((litCmp .geq (litBin .add .u64 va 1) 2147483648) && (litCmp .lss (litBin .add .u64 va 1) (endE (szN (pq pg)))))) && (((litCmp .neq (litBin .rem .u64 va 8) 0) && ((litCmp .geq (itz va 2) 2147483648) && (litCmp .lss (itz va 2) (endE (szN (pq pg)))))) && ((litCmp .neq (litBin .rem .u64 va 8) 0) && ((litCmp .geq (itz va 3) 2147483648) && (!(litCmp .lss (itz va 3) (endE (szN (pq pg))))))))))], .val (.bool (.sym (v8u_3 pg va x nn)))) := by kernel_rfl
noncomputable def v8u_4 (pg va x nn : Int) : Bool := (cond (ldF (fun _ => 0) (szN (pq pg)) 0 0 0 va 8) (cond (litCmp .eql (sC (fun _ => 0) (szN (pq pg)) (szN (pq pg)) 0 0 1 2 (litBin .add .u64 va 4) 1) 7) (cond (litCmp .eql (ldC (fun _ => 0) (szN (pq pg)) 0 0 0 va 8) 5) (cond (litCmp .eql (sV (fun _ => 0) (szN (pq pg)) (szN (pq pg)) 0 0 1 2 (litBin .add .u64 va 4) 1) (itz va 4)) (litCmp .eql (ldV (fun _ => 0) (szN (pq pg)) 0 0 0 va 8) (itz va 4)) false) false) false) false)
set_option maxRecDepth 100000 in
theorem road8u_4 (pg va x nn : Int) : ((call Try.prog (cxU 8 4 false) 70 18 [.int .u8 (.sym pg), .agg [.int .u64 (.sym va), .int .u64 (.sym x)], .int .u8 (.sym nn)] []).route [true, true, true, true, false, true]).map (fun p => (p.1, p.2.1)) = some ([((((!(litCmp .lss (pgs (pq pg)) 1)) && (!(litCmp .gtr (pgs (pq pg)) 16))) && (decide (0 ≤ (litBin .mul .i64 (pgs (pq pg)) 4096) ∧ (litBin .mul .i64 (pgs (pq pg)) 4096) < ((16777216 : Nat) : Int)))) && (((!(litCmp .lss (pgs (pq pg)) 1)) && (!(litCmp .gtr (pgs (pq pg)) 16))) && (decide (0 ≤ (litBin .mul .i64 (pgs (pq pg)) 4096) ∧ (litBin .mul .i64 (pgs (pq pg)) 4096) < ((16777216 : Nat) : Int))))), (szq 8 nn), ((litCmp .neq (litBin .rem .u64 va 8) 0) && ((askG false (szN (pq pg)) (szN (pq pg)) (szN (pq pg)) (fun _ => 0) 0 0 1 2 (litBin .add .u64 va 0) 1) && ((askG false (szN (pq pg)) (szN (pq pg)) (szN (pq pg)) (fun _ => 0) 0 0 1 2 (litBin .add .u64 va 1) 1) && ((askG false (szN (pq pg)) (szN (pq pg)) (szN (pq pg)) (fun _ => 0) 0 0 1 2 (litBin .add .u64 va 2) 1) && ((askG false (szN (pq pg)) (szN (pq pg)) (szN (pq pg)) (fun _ => 0) 0 0 1 2 (litBin .add .u64 va 3) 1) && (askG true (szN (pq pg)) (szN (pq pg)) (szN (pq pg)) (fun _ => 0) 0 0 1 2 (litBin .add .u64 va 4) 1)))))), (askL (szN (pq pg)) (szN (pq pg)) (szN (pq pg)) (fun _ => 0) 0 0 va 8), (inA (szN (pq pg)) va 8), (((litCmp .neq (litBin .rem .u64 va 8) 0) && ((litCmp .geq va 2147483648) && (litCmp .lss va (endE (szN (pq pg)))))) && (((litCmp .neq (litBin .rem .u64 va 8) 0) && ((litCmp .geq (litBin .add .u64 va 1) 2147483648) && (litCmp .lss (litBin .add .u64 va 1) (endE (szN (pq pg)))))) && (((litCmp .neq (litBin .rem .u64 va 8) 0) && ((litCmp .geq (itz va 2) 2147483648) && (litCmp .lss (itz va 2) (endE (szN (pq pg)))))) && (((litCmp .neq (litBin .rem .u64 va 8) 0) && ((litCmp .geq (itz va 3) 2147483648) && (litCmp .lss (itz va 3) (endE (szN (pq pg)))))) && ((litCmp .neq (litBin .rem .u64 va 8) 0) && ((litCmp .geq (itz va 4) 2147483648) && (!(litCmp .lss (itz va 4) (endE (szN (pq pg)))))))))))], .val (.bool (.sym (v8u_4 pg va x nn)))) := by kernel_rfl
noncomputable def v8u_5 (pg va x nn : Int) : Bool := (cond (ldF (fun _ => 0) (szN (pq pg)) 0 0 0 va 8) (cond (litCmp .eql (sC (fun _ => 0) (szN (pq pg)) (szN (pq pg)) 0 0 1 2 (litBin .add .u64 va 5) 1) 7) (cond (litCmp .eql (ldC (fun _ => 0) (szN (pq pg)) 0 0 0 va 8) 5) (cond (litCmp .eql (sV (fun _ => 0) (szN (pq pg)) (szN (pq pg)) 0 0 1 2 (litBin .add .u64 va 5) 1) (itz va 5)) (litCmp .eql (ldV (fun _ => 0) (szN (pq pg)) 0 0 0 va 8) (itz va 5)) false) false) false) false)
set_option maxRecDepth 100000 in
theorem road8u_5 (pg va x nn : Int) : ((call Try.prog (cxU 8 5 false) 70 18 [.int .u8 (.sym pg), .agg [.int .u64 (.sym va), .int .u64 (.sym x)], .int .u8 (.sym nn)] []).route [true, true, true, true, false, true]).map (fun p => (p.1, p.2.1)) = some ([((((!(litCmp .lss (pgs (pq pg)) 1)) && (!(litCmp .gtr (pgs (pq pg)) 16))) && (decide (0 ≤ (litBin .mul .i64 (pgs (pq pg)) 4096) ∧ (litBin .mul .i64 (pgs (pq pg)) 4096) < ((16777216 : Nat) : Int)))) && (((!(litCmp .lss (pgs (pq pg)) 1)) && (!(litCmp .gtr (pgs (pq pg)) 16))) && (decide (0 ≤ (litBin .mul .i64 (pgs (pq pg)) 4096) ∧ (litBin .mul .i64 (pgs (pq pg)) 4096) < ((16777216 : Nat) : Int))))), (szq 8 nn), ((litCmp .neq (litBin .rem .u64 va 8) 0) && ((askG false (szN (pq pg)) (szN (pq pg)) (szN (pq pg)) (fun _ => 0) 0 0 1 2 (litBin .add .u64 va 0) 1) && ((askG false (szN (pq pg)) (szN (pq pg)) (szN (pq pg)) (fun _ => 0) 0 0 1 2 (litBin .add .u64 va 1) 1) && ((askG false (szN (pq pg)) (szN (pq pg)) (szN (pq pg)) (fun _ => 0) 0 0 1 2 (litBin .add .u64 va 2) 1) && ((askG false (szN (pq pg)) (szN (pq pg)) (szN (pq pg)) (fun _ => 0) 0 0 1 2 (litBin .add .u64 va 3) 1) && ((askG false (szN (pq pg)) (szN (pq pg)) (szN (pq pg)) (fun _ => 0) 0 0 1 2 (litBin .add .u64 va 4) 1) && (askG true (szN (pq pg)) (szN (pq pg)) (szN (pq pg)) (fun _ => 0) 0 0 1 2 (litBin .add .u64 va 5) 1))))))), (askL (szN (pq pg)) (szN (pq pg)) (szN (pq pg)) (fun _ => 0) 0 0 va 8), (inA (szN (pq pg)) va 8), (((litCmp .neq (litBin .rem .u64 va 8) 0) && ((litCmp .geq va 2147483648) && (litCmp .lss va (endE (szN (pq pg)))))) && (((litCmp .neq (litBin .rem .u64 va 8) 0) && ((litCmp .geq (litBin .add .u64 va 1) 2147483648) && (litCmp .lss (litBin .add .u64 va 1) (endE (szN (pq pg)))))) && (((litCmp .neq (litBin .rem .u64 va 8) 0) && ((litCmp .geq (itz va 2) 2147483648) && (litCmp .lss (itz va 2) (endE (szN (pq pg)))))) && (((litCmp .neq (litBin .rem .u64 va 8) 0) && ((litCmp .geq (itz va 3) 2147483648) && (litCmp .lss (itz va 3) (endE (szN (pq pg)))))) && (((litCmp .neq (litBin .rem .u64 va 8) 0) && ((litCmp .geq (itz va 4) 2147483648) && (litCmp .lss (itz va 4) (endE (szN (pq pg)))))) && ((litCmp .neq (litBin .rem .u64 va 8) 0) && ((litCmp .geq (itz va 5) 2147483648) && (!(litCmp .lss (itz va 5) (endE (szN (pq pg))))))))))))], .val (.bool (.sym (v8u_5 pg va x nn)))) := by kernel_rfl
noncomputable def v8u_6 (pg va x nn : Int) : Bool := (cond (ldF (fun _ => 0) (szN (pq pg)) 0 0 0 va 8) (cond (litCmp .eql (sC (fun _ => 0) (szN (pq pg)) (szN (pq pg)) 0 0 1 2 (litBin .add .u64 va 6) 1) 7) (cond (litCmp .eql (ldC (fun _ => 0) (szN (pq pg)) 0 0 0 va 8) 5) (cond (litCmp .eql (sV (fun _ => 0) (szN (pq pg)) (szN (pq pg)) 0 0 1 2 (litBin .add .u64 va 6) 1) (itz va 6)) (litCmp .eql (ldV (fun _ => 0) (szN (pq pg)) 0 0 0 va 8) (itz va 6)) false) false) false) false)
set_option maxRecDepth 100000 in
theorem road8u_6 (pg va x nn : Int) : ((call Try.prog (cxU 8 6 false) 70 18 [.int .u8 (.sym pg), .agg [.int .u64 (.sym va), .int .u64 (.sym x)], .int .u8 (.sym nn)] []).route [true, true, true, true, false, true]).map (fun p => (p.1, p.2.1)) = some ([((((!(litCmp .lss (pgs (pq pg)) 1)) && (!(litCmp .gtr (pgs (pq pg)) 16))) && (decide (0 ≤ (litBin .mul .i64 (pgs (pq pg)) 4096) ∧ (litBin .mul .i64 (pgs (pq pg)) 4096) < ((16777216 : Nat) : Int)))) && (((!(litCmp .lss (pgs (pq pg)) 1)) && (!(litCmp .gtr (pgs (pq pg)) 16))) && (decide (0 ≤ (litBin .mul .i64 (pgs (pq pg)) 4096) ∧ (litBin .mul .i64 (pgs (pq pg)) 4096) < ((16777216 : Nat) : Int))))), (szq 8 nn), ((litCmp .neq (litBin .rem .u64 va 8) 0) && ((askG false (szN (pq pg)) (szN (pq pg)) (szN (pq pg)) (fun _ => 0) 0 0 1 2 (litBin .add .u64 va 0) 1) && ((askG false (szN (pq pg)) (szN (pq pg)) (szN (pq pg)) (fun _ => 0) 0 0 1 2 (litBin .add .u64 va 1) 1) && ((askG false (szN (pq pg)) (szN (pq pg)) (szN (pq pg)) (fun _ => 0) 0 0 1 2 (litBin .add .u64 va 2) 1) && ((askG false (szN (pq pg)) (szN (pq pg)) (szN (pq pg)) (fun _ => 0) 0 0 1 2 (litBin .add .u64 va 3) 1) && ((askG false (szN (pq pg)) (szN (pq pg)) (szN (pq pg)) (fun _ => 0) 0 0 1 2 (litBin .add .u64 va 4) 1) && ((askG false (szN (pq pg)) (szN (pq pg)) (szN (pq pg)) (fun _ => 0) 0 0 1 2 (litBin .add .u64 va 5) 1) && (askG true (szN (pq pg)) (szN (pq pg)) (szN (pq pg)) (fun _ => 0) 0 0 1 2 (litBin .add .u64 va 6) 1)))))))), (askL (szN (pq pg)) (szN (pq pg)) (szN (pq pg)) (fun _ => 0) 0 0 va 8), (inA (szN (pq pg)) va 8), (((litCmp .neq (litBin .rem .u64 va 8) 0) && ((litCmp .geq va 2147483648) && (litCmp .lss va (endE (szN (pq pg)))))) && (((litCmp .neq (litBin .rem .u64 va 8) 0) && ((litCmp .geq (litBin .add .u64 va 1) 2147483648) && (litCmp .lss (litBin .add .u64 va 1) (endE (szN (pq pg)))))) && (((litCmp .neq (litBin .rem .u64 va 8) 0) && ((litCmp .geq (itz va 2) 2147483648) && (litCmp .lss (itz va 2) (endE (szN (pq pg)))))) && (((litCmp .neq (litBin .rem .u64 va 8) 0) && ((litCmp .geq (itz va 3) 2147483648) && (litCmp .lss (itz va 3) (endE (szN (pq pg)))))) && (((litCmp .neq (litBin .rem .u64 va 8) 0) && ((litCmp .geq (itz va 4) 2147483648) && (litCmp .lss (itz va 4) (endE (szN (pq pg)))))) && (((litCmp .neq (litBin .rem .u64 va 8) 0) && ((litCmp .geq (itz va 5) 2147483648) && (litCmp .lss (itz va 5) (endE (szN (pq pg)))))) && ((litCmp .neq (litBin .rem .u64 va 8) 0) && ((litCmp .geq (itz va 6) 2147483648) && (!(litCmp .lss (itz va 6) (endE (szN (pq pg)))))))))))))], .val (.bool (.sym (v8u_6 pg va x nn)))) := by kernel_rfl
noncomputable def v8u_7 (pg va x nn : Int) : Bool := (cond (ldF (fun _ => 0) (szN (pq pg)) 0 0 0 va 8) (cond (litCmp .eql (sC (fun _ => 0) (szN (pq pg)) (szN (pq pg)) 0 0 1 2 (litBin .add .u64 va 7) 1) 7) (cond (litCmp .eql (ldC (fun _ => 0) (szN (pq pg)) 0 0 0 va 8) 5) (cond (litCmp .eql (sV (fun _ => 0) (szN (pq pg)) (szN (pq pg)) 0 0 1 2 (litBin .add .u64 va 7) 1) (itz va 7)) (litCmp .eql (ldV (fun _ => 0) (szN (pq pg)) 0 0 0 va 8) (itz va 7)) false) false) false) false)
set_option maxRecDepth 100000 in
theorem road8u_7 (pg va x nn : Int) : ((call Try.prog (cxU 8 7 false) 70 18 [.int .u8 (.sym pg), .agg [.int .u64 (.sym va), .int .u64 (.sym x)], .int .u8 (.sym nn)] []).route [true, true, true, true, false, true]).map (fun p => (p.1, p.2.1)) = some ([((((!(litCmp .lss (pgs (pq pg)) 1)) && (!(litCmp .gtr (pgs (pq pg)) 16))) && (decide (0 ≤ (litBin .mul .i64 (pgs (pq pg)) 4096) ∧ (litBin .mul .i64 (pgs (pq pg)) 4096) < ((16777216 : Nat) : Int)))) && (((!(litCmp .lss (pgs (pq pg)) 1)) && (!(litCmp .gtr (pgs (pq pg)) 16))) && (decide (0 ≤ (litBin .mul .i64 (pgs (pq pg)) 4096) ∧ (litBin .mul .i64 (pgs (pq pg)) 4096) < ((16777216 : Nat) : Int))))), (szq 8 nn), ((litCmp .neq (litBin .rem .u64 va 8) 0) && ((askG false (szN (pq pg)) (szN (pq pg)) (szN (pq pg)) (fun _ => 0) 0 0 1 2 (litBin .add .u64 va 0) 1) && ((askG false (szN (pq pg)) (szN (pq pg)) (szN (pq pg)) (fun _ => 0) 0 0 1 2 (litBin .add .u64 va 1) 1) && ((askG false (szN (pq pg)) (szN (pq pg)) (szN (pq pg)) (fun _ => 0) 0 0 1 2 (litBin .add .u64 va 2) 1) && ((askG false (szN (pq pg)) (szN (pq pg)) (szN (pq pg)) (fun _ => 0) 0 0 1 2 (litBin .add .u64 va 3) 1) && ((askG false (szN (pq pg)) (szN (pq pg)) (szN (pq pg)) (fun _ => 0) 0 0 1 2 (litBin .add .u64 va 4) 1) && ((askG false (szN (pq pg)) (szN (pq pg)) (szN (pq pg)) (fun _ => 0) 0 0 1 2 (litBin .add .u64 va 5) 1) && ((askG false (szN (pq pg)) (szN (pq pg)) (szN (pq pg)) (fun _ => 0) 0 0 1 2 (litBin .add .u64 va 6) 1) && (askG true (szN (pq pg)) (szN (pq pg)) (szN (pq pg)) (fun _ => 0) 0 0 1 2 (litBin .add .u64 va 7) 1))))))))), (askL (szN (pq pg)) (szN (pq pg)) (szN (pq pg)) (fun _ => 0) 0 0 va 8), (inA (szN (pq pg)) va 8), (((litCmp .neq (litBin .rem .u64 va 8) 0) && ((litCmp .geq va 2147483648) && (litCmp .lss va (endE (szN (pq pg)))))) && (((litCmp .neq (litBin .rem .u64 va 8) 0) && ((litCmp .geq (litBin .add .u64 va 1) 2147483648) && (litCmp .lss (litBin .add .u64 va 1) (endE (szN (pq pg)))))) && (((litCmp .neq (litBin .rem .u64 va 8) 0) && ((litCmp .geq (itz va 2) 2147483648) && (litCmp .lss (itz va 2) (endE (szN (pq pg)))))) && (((litCmp .neq (litBin .rem .u64 va 8) 0) && ((litCmp .geq (itz va 3) 2147483648) && (litCmp .lss (itz va 3) (endE (szN (pq pg)))))) && (((litCmp .neq (litBin .rem .u64 va 8) 0) && ((litCmp .geq (itz va 4) 2147483648) && (litCmp .lss (itz va 4) (endE (szN (pq pg)))))) && (((litCmp .neq (litBin .rem .u64 va 8) 0) && ((litCmp .geq (itz va 5) 2147483648) && (litCmp .lss (itz va 5) (endE (szN (pq pg)))))) && (((litCmp .neq (litBin .rem .u64 va 8) 0) && ((litCmp .geq (itz va 6) 2147483648) && (litCmp .lss (itz va 6) (endE (szN (pq pg)))))) && ((litCmp .neq (litBin .rem .u64 va 8) 0) && ((litCmp .geq (itz va 7) 2147483648) && (!(litCmp .lss (itz va 7) (endE (szN (pq pg))))))))))))))], .val (.bool (.sym (v8u_7 pg va x nn)))) := by kernel_rfl
noncomputable def v8u_8 (pg va x nn : Int) : Bool := (cond (!(ldF (putF (putF (putF (putF (putF (putF (putF (putF (fun _ => 0) (szN (pq pg)) (litBin .add .u64 (sT (fun _ => 0) (szN (pq pg)) (szN (pq pg)) 0 0 1 2 (litBin .add .u64 va 0) 1) 0) 1 (litBin .shr .u64 x 0)) (szN (pq pg)) (litBin .add .u64 (sT (fun _ => 0) (szN (pq pg)) (szN (pq pg)) 0 0 1 2 (litBin .add .u64 va 1) 1) 0) 1 (litBin .shr .u64 x 8)) (szN (pq pg)) (litBin .add .u64 (sT (fun _ => 0) (szN (pq pg)) (szN (pq pg)) 0 0 1 2 (litBin .add .u64 va 2) 1) 0) 1 (litBin .shr .u64 x 16)) (szN (pq pg)) (litBin .add .u64 (sT (fun _ => 0) (szN (pq pg)) (szN (pq pg)) 0 0 1 2 (litBin .add .u64 va 3) 1) 0) 1 (litBin .shr .u64 x 24)) (szN (pq pg)) (litBin .add .u64 (sT (fun _ => 0) (szN (pq pg)) (szN (pq pg)) 0 0 1 2 (litBin .add .u64 va 4) 1) 0) 1 (litBin .shr .u64 x 32)) (szN (pq pg)) (litBin .add .u64 (sT (fun _ => 0) (szN (pq pg)) (szN (pq pg)) 0 0 1 2 (litBin .add .u64 va 5) 1) 0) 1 (litBin .shr .u64 x 40)) (szN (pq pg)) (litBin .add .u64 (sT (fun _ => 0) (szN (pq pg)) (szN (pq pg)) 0 0 1 2 (litBin .add .u64 va 6) 1) 0) 1 (litBin .shr .u64 x 48)) (szN (pq pg)) (litBin .add .u64 (sT (fun _ => 0) (szN (pq pg)) (szN (pq pg)) 0 0 1 2 (litBin .add .u64 va 7) 1) 0) 1 (litBin .shr .u64 x 56)) (szN (pq pg)) 0 0 0 va 8)) (cond (litCmp .eql (litBin .add .u64 (sT (fun _ => 0) (szN (pq pg)) (szN (pq pg)) 0 0 1 2 (litBin .add .u64 va 0) 1) 0) va) (litCmp .eql (ldX (putF (putF (putF (putF (putF (putF (putF (putF (fun _ => 0) (szN (pq pg)) (litBin .add .u64 (sT (fun _ => 0) (szN (pq pg)) (szN (pq pg)) 0 0 1 2 (litBin .add .u64 va 0) 1) 0) 1 (litBin .shr .u64 x 0)) (szN (pq pg)) (litBin .add .u64 (sT (fun _ => 0) (szN (pq pg)) (szN (pq pg)) 0 0 1 2 (litBin .add .u64 va 1) 1) 0) 1 (litBin .shr .u64 x 8)) (szN (pq pg)) (litBin .add .u64 (sT (fun _ => 0) (szN (pq pg)) (szN (pq pg)) 0 0 1 2 (litBin .add .u64 va 2) 1) 0) 1 (litBin .shr .u64 x 16)) (szN (pq pg)) (litBin .add .u64 (sT (fun _ => 0) (szN (pq pg)) (szN (pq pg)) 0 0 1 2 (litBin .add .u64 va 3) 1) 0) 1 (litBin .shr .u64 x 24)) (szN (pq pg)) (litBin .add .u64 (sT (fun _ => 0) (szN (pq pg)) (szN (pq pg)) 0 0 1 2 (litBin .add .u64 va 4) 1) 0) 1 (litBin .shr .u64 x 32)) (szN (pq pg)) (litBin .add .u64 (sT (fun _ => 0) (szN (pq pg)) (szN (pq pg)) 0 0 1 2 (litBin .add .u64 va 5) 1) 0) 1 (litBin .shr .u64 x 40)) (szN (pq pg)) (litBin .add .u64 (sT (fun _ => 0) (szN (pq pg)) (szN (pq pg)) 0 0 1 2 (litBin .add .u64 va 6) 1) 0) 1 (litBin .shr .u64 x 48)) (szN (pq pg)) (litBin .add .u64 (sT (fun _ => 0) (szN (pq pg)) (szN (pq pg)) 0 0 1 2 (litBin .add .u64 va 7) 1) 0) 1 (litBin .shr .u64 x 56)) (szN (pq pg)) 0 0 0 va 8) (litBin .and .u64 x 18446744073709551615)) false) false)
set_option maxRecDepth 100000 in
theorem road8u_8 (pg va x nn : Int) : ((call Try.prog (cxF 8 true 8) 70 18 [.int .u8 (.sym pg), .agg [.int .u64 (.sym va), .int .u64 (.sym x)], .int .u8 (.sym nn)] []).route [true]).map (fun p => (p.1, p.2.1)) = some ([(((((!(litCmp .lss (pgs (pq pg)) 1)) && (!(litCmp .gtr (pgs (pq pg)) 16))) && (decide (0 ≤ (litBin .mul .i64 (pgs (pq pg)) 4096) ∧ (litBin .mul .i64 (pgs (pq pg)) 4096) < ((16777216 : Nat) : Int)))) && (((!(litCmp .lss (pgs (pq pg)) 1)) && (!(litCmp .gtr (pgs (pq pg)) 16))) && (decide (0 ≤ (litBin .mul .i64 (pgs (pq pg)) 4096) ∧ (litBin .mul .i64 (pgs (pq pg)) 4096) < ((16777216 : Nat) : Int))))) && ((szq 8 nn) && ((((litCmp .neq (litBin .rem .u64 va 8) 0) && ((askG false (szN (pq pg)) (szN (pq pg)) (szN (pq pg)) (fun _ => 0) 0 0 1 2 (litBin .add .u64 va 0) 1) && ((askG false (szN (pq pg)) (szN (pq pg)) (szN (pq pg)) (fun _ => 0) 0 0 1 2 (litBin .add .u64 va 1) 1) && ((askG false (szN (pq pg)) (szN (pq pg)) (szN (pq pg)) (fun _ => 0) 0 0 1 2 (litBin .add .u64 va 2) 1) && ((askG false (szN (pq pg)) (szN (pq pg)) (szN (pq pg)) (fun _ => 0) 0 0 1 2 (litBin .add .u64 va 3) 1) && ((askG false (szN (pq pg)) (szN (pq pg)) (szN (pq pg)) (fun _ => 0) 0 0 1 2 (litBin .add .u64 va 4) 1) && ((askG false (szN (pq pg)) (szN (pq pg)) (szN (pq pg)) (fun _ => 0) 0 0 1 2 (litBin .add .u64 va 5) 1) && ((askG false (szN (pq pg)) (szN (pq pg)) (szN (pq pg)) (fun _ => 0) 0 0 1 2 (litBin .add .u64 va 6) 1) && (askG false (szN (pq pg)) (szN (pq pg)) (szN (pq pg)) (fun _ => 0) 0 0 1 2 (litBin .add .u64 va 7) 1))))))))) && ((askM (szN (pq pg)) (szN (pq pg)) (szN (pq pg)) (fun _ => 0) (litBin .add .u64 (sT (fun _ => 0) (szN (pq pg)) (szN (pq pg)) 0 0 1 2 (litBin .add .u64 va 0) 1) 0) 1 && yes (inU (litBin .shr .u64 x 0))) && ((askM (szN (pq pg)) (szN (pq pg)) (szN (pq pg)) (putF (fun _ => 0) (szN (pq pg)) (litBin .add .u64 (sT (fun _ => 0) (szN (pq pg)) (szN (pq pg)) 0 0 1 2 (litBin .add .u64 va 0) 1) 0) 1 (litBin .shr .u64 x 0)) (litBin .add .u64 (sT (fun _ => 0) (szN (pq pg)) (szN (pq pg)) 0 0 1 2 (litBin .add .u64 va 1) 1) 0) 1 && yes (inU (litBin .shr .u64 x 8))) && ((askM (szN (pq pg)) (szN (pq pg)) (szN (pq pg)) (putF (putF (fun _ => 0) (szN (pq pg)) (litBin .add .u64 (sT (fun _ => 0) (szN (pq pg)) (szN (pq pg)) 0 0 1 2 (litBin .add .u64 va 0) 1) 0) 1 (litBin .shr .u64 x 0)) (szN (pq pg)) (litBin .add .u64 (sT (fun _ => 0) (szN (pq pg)) (szN (pq pg)) 0 0 1 2 (litBin .add .u64 va 1) 1) 0) 1 (litBin .shr .u64 x 8)) (litBin .add .u64 (sT (fun _ => 0) (szN (pq pg)) (szN (pq pg)) 0 0 1 2 (litBin .add .u64 va 2) 1) 0) 1 && yes (inU (litBin .shr .u64 x 16))) && ((askM (szN (pq pg)) (szN (pq pg)) (szN (pq pg)) (putF (putF (putF (fun _ => 0) (szN (pq pg)) (litBin .add .u64 (sT (fun _ => 0) (szN (pq pg)) (szN (pq pg)) 0 0 1 2 (litBin .add .u64 va 0) 1) 0) 1 (litBin .shr .u64 x 0)) (szN (pq pg)) (litBin .add .u64 (sT (fun _ => 0) (szN (pq pg)) (szN (pq pg)) 0 0 1 2 (litBin .add .u64 va 1) 1) 0) 1 (litBin .shr .u64 x 8)) (szN (pq pg)) (litBin .add .u64 (sT (fun _ => 0) (szN (pq pg)) (szN (pq pg)) 0 0 1 2 (litBin .add .u64 va 2) 1) 0) 1 (litBin .shr .u64 x 16)) (litBin .add .u64 (sT (fun _ => 0) (szN (pq pg)) (szN (pq pg)) 0 0 1 2 (litBin .add .u64 va 3) 1) 0) 1 && yes (inU (litBin .shr .u64 x 24))) && ((askM (szN (pq pg)) (szN (pq pg)) (szN (pq pg)) (putF (putF (putF (putF (fun _ => 0) (szN (pq pg)) (litBin .add .u64 (sT (fun _ => 0) (szN (pq pg)) (szN (pq pg)) 0 0 1 2 (litBin .add .u64 va 0) 1) 0) 1 (litBin .shr .u64 x 0)) (szN (pq pg)) (litBin .add .u64 (sT (fun _ => 0) (szN (pq pg)) (szN (pq pg)) 0 0 1 2 (litBin .add .u64 va 1) 1) 0) 1 (litBin .shr .u64 x 8)) (szN (pq pg)) (litBin .add .u64 (sT (fun _ => 0) (szN (pq pg)) (szN (pq pg)) 0 0 1 2 (litBin .add .u64 va 2) 1) 0) 1 (litBin .shr .u64 x 16)) (szN (pq pg)) (litBin .add .u64 (sT (fun _ => 0) (szN (pq pg)) (szN (pq pg)) 0 0 1 2 (litBin .add .u64 va 3) 1) 0) 1 (litBin .shr .u64 x 24)) (litBin .add .u64 (sT (fun _ => 0) (szN (pq pg)) (szN (pq pg)) 0 0 1 2 (litBin .add .u64 va 4) 1) 0) 1 && yes (inU (litBin .shr .u64 x 32))) && ((askM (szN (pq pg)) (szN (pq pg)) (szN (pq pg)) (putF (putF (putF (putF (putF (fun _ => 0) (szN (pq pg)) (litBin .add .u64 (sT (fun _ => 0) (szN (pq pg)) (szN (pq pg)) 0 0 1 2 (litBin .add .u64 va 0) 1) 0) 1 (litBin .shr .u64 x 0)) (szN (pq pg)) (litBin .add .u64 (sT (fun _ => 0) (szN (pq pg)) (szN (pq pg)) 0 0 1 2 (litBin .add .u64 va 1) 1) 0) 1 (litBin .shr .u64 x 8)) (szN (pq pg)) (litBin .add .u64 (sT (fun _ => 0) (szN (pq pg)) (szN (pq pg)) 0 0 1 2 (litBin .add .u64 va 2) 1) 0) 1 (litBin .shr .u64 x 16)) (szN (pq pg)) (litBin .add .u64 (sT (fun _ => 0) (szN (pq pg)) (szN (pq pg)) 0 0 1 2 (litBin .add .u64 va 3) 1) 0) 1 (litBin .shr .u64 x 24)) (szN (pq pg)) (litBin .add .u64 (sT (fun _ => 0) (szN (pq pg)) (szN (pq pg)) 0 0 1 2 (litBin .add .u64 va 4) 1) 0) 1 (litBin .shr .u64 x 32)) (litBin .add .u64 (sT (fun _ => 0) (szN (pq pg)) (szN (pq pg)) 0 0 1 2 (litBin .add .u64 va 5) 1) 0) 1 && yes (inU (litBin .shr .u64 x 40))) && ((askM (szN (pq pg)) (szN (pq pg)) (szN (pq pg)) (putF (putF (putF (putF (putF (putF (fun _ => 0) (szN (pq pg)) (litBin .add .u64 (sT (fun _ => 0) (szN (pq pg)) (szN (pq pg)) 0 0 1 2 (litBin .add .u64 va 0) 1) 0) 1 (litBin .shr .u64 x 0)) (szN (pq pg)) (litBin .add .u64 (sT (fun _ => 0) (szN (pq pg)) (szN (pq pg)) 0 0 1 2 (litBin .add .u64 va 1) 1) 0) 1 (litBin .shr .u64 x 8)) (szN (pq pg)) (litBin .add .u64 (sT (fun _ => 0) (szN (pq pg)) (szN (pq pg)) 0 0 1 2 (litBin .add .u64 va 2) 1) 0) 1 (litBin .shr .u64 x 16)) (szN (pq pg)) (litBin .add .u64 (sT (fun _ => 0) (szN (pq pg)) (szN (pq pg)) 0 0 1 2 (litBin .add .u64 va 3) 1) 0) 1 (litBin .shr .u64 x 24)) (szN (pq pg)) (litBin .add .u64 (sT (fun _ => 0) (szN (pq pg)) (szN (pq pg)) 0 0 1 2 (litBin .add .u64 va 4) 1) 0) 1 (litBin .shr .u64 x 32)) (szN (pq pg)) (litBin .add .u64 (sT (fun _ => 0) (szN (pq pg)) (szN (pq pg)) 0 0 1 2 (litBin .add .u64 va 5) 1) 0) 1 (litBin .shr .u64 x 40)) (litBin .add .u64 (sT (fun _ => 0) (szN (pq pg)) (szN (pq pg)) 0 0 1 2 (litBin .add .u64 va 6) 1) 0) 1 && yes (inU (litBin .shr .u64 x 48))) && (askM (szN (pq pg)) (szN (pq pg)) (szN (pq pg)) (putF (putF (putF (putF (putF (putF (putF (fun _ => 0) (szN (pq pg)) (litBin .add .u64 (sT (fun _ => 0) (szN (pq pg)) (szN (pq pg)) 0 0 1 2 (litBin .add .u64 va 0) 1) 0) 1 (litBin .shr .u64 x 0)) (szN (pq pg)) (litBin .add .u64 (sT (fun _ => 0) (szN (pq pg)) (szN (pq pg)) 0 0 1 2 (litBin .add .u64 va 1) 1) 0) 1 (litBin .shr .u64 x 8)) (szN (pq pg)) (litBin .add .u64 (sT (fun _ => 0) (szN (pq pg)) (szN (pq pg)) 0 0 1 2 (litBin .add .u64 va 2) 1) 0) 1 (litBin .shr .u64 x 16)) (szN (pq pg)) (litBin .add .u64 (sT (fun _ => 0) (szN (pq pg)) (szN (pq pg)) 0 0 1 2 (litBin .add .u64 va 3) 1) 0) 1 (litBin .shr .u64 x 24)) (szN (pq pg)) (litBin .add .u64 (sT (fun _ => 0) (szN (pq pg)) (szN (pq pg)) 0 0 1 2 (litBin .add .u64 va 4) 1) 0) 1 (litBin .shr .u64 x 32)) (szN (pq pg)) (litBin .add .u64 (sT (fun _ => 0) (szN (pq pg)) (szN (pq pg)) 0 0 1 2 (litBin .add .u64 va 5) 1) 0) 1 (litBin .shr .u64 x 40)) (szN (pq pg)) (litBin .add .u64 (sT (fun _ => 0) (szN (pq pg)) (szN (pq pg)) 0 0 1 2 (litBin .add .u64 va 6) 1) 0) 1 (litBin .shr .u64 x 48)) (litBin .add .u64 (sT (fun _ => 0) (szN (pq pg)) (szN (pq pg)) 0 0 1 2 (litBin .add .u64 va 7) 1) 0) 1 && yes (inU (litBin .shr .u64 x 56))))))))))) && ((askL (szN (pq pg)) (szN (pq pg)) (szN (pq pg)) (putF (putF (putF (putF (putF (putF (putF (putF (fun _ => 0) (szN (pq pg)) (litBin .add .u64 (sT (fun _ => 0) (szN (pq pg)) (szN (pq pg)) 0 0 1 2 (litBin .add .u64 va 0) 1) 0) 1 (litBin .shr .u64 x 0)) (szN (pq pg)) (litBin .add .u64 (sT (fun _ => 0) (szN (pq pg)) (szN (pq pg)) 0 0 1 2 (litBin .add .u64 va 1) 1) 0) 1 (litBin .shr .u64 x 8)) (szN (pq pg)) (litBin .add .u64 (sT (fun _ => 0) (szN (pq pg)) (szN (pq pg)) 0 0 1 2 (litBin .add .u64 va 2) 1) 0) 1 (litBin .shr .u64 x 16)) (szN (pq pg)) (litBin .add .u64 (sT (fun _ => 0) (szN (pq pg)) (szN (pq pg)) 0 0 1 2 (litBin .add .u64 va 3) 1) 0) 1 (litBin .shr .u64 x 24)) (szN (pq pg)) (litBin .add .u64 (sT (fun _ => 0) (szN (pq pg)) (szN (pq pg)) 0 0 1 2 (litBin .add .u64 va 4) 1) 0) 1 (litBin .shr .u64 x 32)) (szN (pq pg)) (litBin .add .u64 (sT (fun _ => 0) (szN (pq pg)) (szN (pq pg)) 0 0 1 2 (litBin .add .u64 va 5) 1) 0) 1 (litBin .shr .u64 x 40)) (szN (pq pg)) (litBin .add .u64 (sT (fun _ => 0) (szN (pq pg)) (szN (pq pg)) 0 0 1 2 (litBin .add .u64 va 6) 1) 0) 1 (litBin .shr .u64 x 48)) (szN (pq pg)) (litBin .add .u64 (sT (fun _ => 0) (szN (pq pg)) (szN (pq pg)) 0 0 1 2 (litBin .add .u64 va 7) 1) 0) 1 (litBin .shr .u64 x 56)) 0 0 va 8) && (inA (szN (pq pg)) va 8)))))], .val (.bool (.sym (v8u_8 pg va x nn)))) := by kernel_rfl
theorem law8u {pg va x nn : Int} (hpg : 0 ≤ pg ∧ pg < 256) (hva : inU va) (hx : inU x) (wnn : 0 ≤ nn ∧ nn < 256) (hnn : sizeS nn = 8) (hal : decide (va % 8 = 0) = false) :
    ∃ (C : Cx DC) (ds cs : List Bool) (v : Bool), Ok Try.prog C ∧ ((call Try.prog C 70 18 [.int .u8 (.sym pg), .agg [.int .u64 (.sym va), .int .u64 (.sym x)], .int .u8 (.sym nn)] []).route ds).map (fun p => (p.1, p.2.1)) = some (cs, .val (.bool (.sym v))) ∧ cs = ds ∧ v = true := by
  have hp := pq_in hpg
  have hle : (szN (pq pg)) ≤ 65536 := (szN_eq hp).2
  have hN : (((szN (pq pg)) : Nat) : Int) % 8 = 0 := by
    rw [(szN_eq hp).1]
    omega
  have hm : MemOk (szN (pq pg)) (fun _ => 0) := MemOk.zero hle
  have hq : szq 8 nn = true := szq_of wnn hnn
  have hpi := pgs_in hp
  have pL : litCmp .lss (pgs (pq pg)) 1 = false := by rw [lss_eq]; exact decide_eq_false (by omega)
  have pG : litCmp .gtr (pgs (pq pg)) 16 = false := by rw [gtr_eq]; exact decide_eq_false (by omega)
  have pU : decide (0 ≤ (litBin .mul .i64 (pgs (pq pg)) 4096) ∧ (litBin .mul .i64 (pgs (pq pg)) 4096) < ((16777216 : Nat) : Int)) = true := (pgT_f hp).2
  have hne : litCmp .neq (litBin .rem .u64 va 8) 0 = true := by rw [neq0 hva, hal]; rfl
  have z0 : (litBin .add .u64 va 0) = va := add0 hva
  have hk : num 8 = true := rfl
  have hin : inA (szN (pq pg)) va 8 = okS (szN (pq pg)) va 8 := in_ok hle hva hk
  have hall := all_ok hle hva hk
  have aL : askL (szN (pq pg)) (szN (pq pg)) (szN (pq pg)) (fun _ => 0) 0 0 va 8 = true := yes_of ⟨⟨rfl, rfl, hm, hN⟩, inU0, inU0, hva, rfl⟩
  have q0 : askS (szN (pq pg)) (szN (pq pg)) (szN (pq pg)) (fun _ => 0) 0 0 1 2 (litBin .add .u64 va 0) 1 = true := Page.askS_t hm inU0 inU0 (inU.add _ _) rfl
  have q1 : askS (szN (pq pg)) (szN (pq pg)) (szN (pq pg)) (fun _ => 0) 0 0 1 2 (litBin .add .u64 va 1) 1 = true := Page.askS_t hm inU0 inU0 (inU.add _ _) rfl
  have q2 : askS (szN (pq pg)) (szN (pq pg)) (szN (pq pg)) (fun _ => 0) 0 0 1 2 (litBin .add .u64 va 2) 1 = true := Page.askS_t hm inU0 inU0 (inU.add _ _) rfl
  have q3 : askS (szN (pq pg)) (szN (pq pg)) (szN (pq pg)) (fun _ => 0) 0 0 1 2 (litBin .add .u64 va 3) 1 = true := Page.askS_t hm inU0 inU0 (inU.add _ _) rfl
  have q4 : askS (szN (pq pg)) (szN (pq pg)) (szN (pq pg)) (fun _ => 0) 0 0 1 2 (litBin .add .u64 va 4) 1 = true := Page.askS_t hm inU0 inU0 (inU.add _ _) rfl
  have q5 : askS (szN (pq pg)) (szN (pq pg)) (szN (pq pg)) (fun _ => 0) 0 0 1 2 (litBin .add .u64 va 5) 1 = true := Page.askS_t hm inU0 inU0 (inU.add _ _) rfl
  have q6 : askS (szN (pq pg)) (szN (pq pg)) (szN (pq pg)) (fun _ => 0) 0 0 1 2 (litBin .add .u64 va 6) 1 = true := Page.askS_t hm inU0 inU0 (inU.add _ _) rfl
  have q7 : askS (szN (pq pg)) (szN (pq pg)) (szN (pq pg)) (fun _ => 0) 0 0 1 2 (litBin .add .u64 va 7) 1 = true := Page.askS_t hm inU0 inU0 (inU.add _ _) rfl
  cases u0 : okS (szN (pq pg)) (litBin .add .u64 va 0) 1
  · have f0 : sF (fun _ => 0) (szN (pq pg)) (szN (pq pg)) 0 0 1 2 (litBin .add .u64 va 0) 1 = true := by rw [sF0, u0]; rfl
    have ni : inA (szN (pq pg)) va 8 = false := by
      rw [hin]
      cases ho : okS (szN (pq pg)) va 8
      · rfl
      · exact absurd ((hall.1 ho 0 (by omega)).symm.trans u0) (by decide)
    have l0 : ldA (fun _ => 0) (szN (pq pg)) 0 0 0 va 0 = true := by unfold ldA; rw [sF0, u0]; rfl
    have e0 : ldI (fun _ => 0) (szN (pq pg)) 0 0 0 va 8 = some 0 := by unfold ldI; simp only [show ixs 8 = [0, 1, 2, 3, 4, 5, 6, 7] from rfl, firstL, l0, cond_true, cond_false]
    have eF : ldF (fun _ => 0) (szN (pq pg)) 0 0 0 va 8 = true := by unfold ldF; rw [e0]
    have eV : ldV (fun _ => 0) (szN (pq pg)) 0 0 0 va 8 = va := by unfold ldV; rw [e0]; exact z0
    have eC : ldC (fun _ => 0) (szN (pq pg)) 0 0 0 va 8 = 5 := by unfold ldC; rw [e0]; exact (sC0 u0).trans cau5
    have u0' : okS (szN (pq pg)) va 1 = false := by rw [← z0]; exact u0
    cases gB : litCmp .geq va 2147483648
    · have hgB := gB
      have eS : sV (fun _ => 0) (szN (pq pg)) (szN (pq pg)) 0 0 1 2 (litBin .add .u64 va 0) 1 = va := (Page.sV_t f0).trans z0
      have eK : sC (fun _ => 0) (szN (pq pg)) (szN (pq pg)) 0 0 1 2 (litBin .add .u64 va 0) 1 = 7 := (sC0 u0).trans cau7
      have aI : askG true (szN (pq pg)) (szN (pq pg)) (szN (pq pg)) (fun _ => 0) 0 0 1 2 (litBin .add .u64 va 0) 1 = true := by unfold askG; rw [q0, f0]; rfl
      refine ⟨cxU 8 0 true, _, _, _, cxU_ok 8 0 true, road8u_0v pg va x nn, ?_, ?_⟩
      · simp only [pL, pG, pU, hq, hne, aI, aL, ni, gB, Bool.and_self, Bool.not_false, Bool.not_true, Bool.cond_self, cond_true, cond_false, beq_self_eq_true, Bool.true_and, Bool.and_true]
        try rfl
      · unfold v8u_0v
        simp only [ni, eF, eV, eC, eS, eK, eql_self, cond_true, cond_false]
        try rfl
    · have lB : litCmp .lss va (endE (szN (pq pg))) = false := lt_of hle u0' gB
      have eS : sV (fun _ => 0) (szN (pq pg)) (szN (pq pg)) 0 0 1 2 (litBin .add .u64 va 0) 1 = va := (Page.sV_t f0).trans z0
      have eK : sC (fun _ => 0) (szN (pq pg)) (szN (pq pg)) 0 0 1 2 (litBin .add .u64 va 0) 1 = 7 := (sC0 u0).trans cau7
      have aI : askG true (szN (pq pg)) (szN (pq pg)) (szN (pq pg)) (fun _ => 0) 0 0 1 2 (litBin .add .u64 va 0) 1 = true := by unfold askG; rw [q0, f0]; rfl
      refine ⟨cxU 8 0 false, _, _, _, cxU_ok 8 0 false, road8u_0 pg va x nn, ?_, ?_⟩
      · simp only [pL, pG, pU, hq, hne, aI, aL, ni, gB, lB, Bool.and_self, Bool.not_false, Bool.not_true, Bool.cond_self, cond_true, cond_false, beq_self_eq_true, Bool.true_and, Bool.and_true]
        try rfl
      · unfold v8u_0
        simp only [ni, eF, eV, eC, eS, eK, eql_self, cond_true, cond_false]
        try rfl
  have f0 : sF (fun _ => 0) (szN (pq pg)) (szN (pq pg)) 0 0 1 2 (litBin .add .u64 va 0) 1 = false := by rw [sF0, u0]; rfl
  have a0g : askG false (szN (pq pg)) (szN (pq pg)) (szN (pq pg)) (fun _ => 0) 0 0 1 2 (litBin .add .u64 va 0) 1 = true := by unfold askG; rw [q0, f0]; rfl
  cases u1 : okS (szN (pq pg)) (litBin .add .u64 va 1) 1
  · have f1 : sF (fun _ => 0) (szN (pq pg)) (szN (pq pg)) 0 0 1 2 (litBin .add .u64 va 1) 1 = true := by rw [sF0, u1]; rfl
    have ni : inA (szN (pq pg)) va 8 = false := by
      rw [hin]
      cases ho : okS (szN (pq pg)) va 8
      · rfl
      · exact absurd ((hall.1 ho 1 (by omega)).symm.trans u1) (by decide)
    have l0 : ldA (fun _ => 0) (szN (pq pg)) 0 0 0 va 0 = false := by unfold ldA; rw [sF0, u0]; rfl
    have l1 : ldA (fun _ => 0) (szN (pq pg)) 0 0 0 va 1 = true := by unfold ldA; rw [sF0, u1]; rfl
    have e0 : ldI (fun _ => 0) (szN (pq pg)) 0 0 0 va 8 = some 1 := by unfold ldI; simp only [show ixs 8 = [0, 1, 2, 3, 4, 5, 6, 7] from rfl, firstL, l0, l1, cond_true, cond_false]
    have eF : ldF (fun _ => 0) (szN (pq pg)) 0 0 0 va 8 = true := by unfold ldF; rw [e0]
    have eV : ldV (fun _ => 0) (szN (pq pg)) 0 0 0 va 8 = (litBin .add .u64 va 1) := by unfold ldV; rw [e0]
    have eC : ldC (fun _ => 0) (szN (pq pg)) 0 0 0 va 8 = 5 := by unfold ldC; rw [e0]; exact (sC0 u1).trans cau5
    have o0 := ge_of hle (show okS (szN (pq pg)) va 1 = true from by rw [← z0]; exact u0)
    have gI : litCmp .geq (litBin .add .u64 va 1) 2147483648 = true := by
      exact ge_nx hle u0 (by omega)
    have lI : litCmp .lss (litBin .add .u64 va 1) (endE (szN (pq pg))) = false := lt_of hle (by
      exact u1) gI
    have eS : sV (fun _ => 0) (szN (pq pg)) (szN (pq pg)) 0 0 1 2 (litBin .add .u64 va 1) 1 = (litBin .add .u64 va 1) := (Page.sV_t f1)
    have eK : sC (fun _ => 0) (szN (pq pg)) (szN (pq pg)) 0 0 1 2 (litBin .add .u64 va 1) 1 = 7 := (sC0 u1).trans cau7
    have aI : askG true (szN (pq pg)) (szN (pq pg)) (szN (pq pg)) (fun _ => 0) 0 0 1 2 (litBin .add .u64 va 1) 1 = true := by unfold askG; rw [q1, f1]; rfl
    refine ⟨cxU 8 1 false, _, _, _, cxU_ok 8 1 false, road8u_1 pg va x nn, ?_, ?_⟩
    · simp only [pL, pG, pU, hq, hne, a0g, aI, aL, ni, o0.1, o0.2, gI, lI, Bool.and_self, Bool.not_false, Bool.not_true, Bool.cond_self, cond_true, cond_false, beq_self_eq_true, Bool.true_and, Bool.and_true]
      try rfl
    · unfold v8u_1
      simp only [ni, eF, eV, eC, eS, eK, eql_self, cond_true, cond_false]
      try rfl
  have f1 : sF (fun _ => 0) (szN (pq pg)) (szN (pq pg)) 0 0 1 2 (litBin .add .u64 va 1) 1 = false := by rw [sF0, u1]; rfl
  have a1g : askG false (szN (pq pg)) (szN (pq pg)) (szN (pq pg)) (fun _ => 0) 0 0 1 2 (litBin .add .u64 va 1) 1 = true := by unfold askG; rw [q1, f1]; rfl
  cases u2 : okS (szN (pq pg)) (litBin .add .u64 va 2) 1
  · have f2 : sF (fun _ => 0) (szN (pq pg)) (szN (pq pg)) 0 0 1 2 (litBin .add .u64 va 2) 1 = true := by rw [sF0, u2]; rfl
    have ni : inA (szN (pq pg)) va 8 = false := by
      rw [hin]
      cases ho : okS (szN (pq pg)) va 8
      · rfl
      · exact absurd ((hall.1 ho 2 (by omega)).symm.trans u2) (by decide)
    have l0 : ldA (fun _ => 0) (szN (pq pg)) 0 0 0 va 0 = false := by unfold ldA; rw [sF0, u0]; rfl
    have l1 : ldA (fun _ => 0) (szN (pq pg)) 0 0 0 va 1 = false := by unfold ldA; rw [sF0, u1]; rfl
    have l2 : ldA (fun _ => 0) (szN (pq pg)) 0 0 0 va 2 = true := by unfold ldA; rw [sF0, u2]; rfl
    have e0 : ldI (fun _ => 0) (szN (pq pg)) 0 0 0 va 8 = some 2 := by unfold ldI; simp only [show ixs 8 = [0, 1, 2, 3, 4, 5, 6, 7] from rfl, firstL, l0, l1, l2, cond_true, cond_false]
    have eF : ldF (fun _ => 0) (szN (pq pg)) 0 0 0 va 8 = true := by unfold ldF; rw [e0]
    have eV : ldV (fun _ => 0) (szN (pq pg)) 0 0 0 va 8 = (litBin .add .u64 va 2) := by unfold ldV; rw [e0]
    have eC : ldC (fun _ => 0) (szN (pq pg)) 0 0 0 va 8 = 5 := by unfold ldC; rw [e0]; exact (sC0 u2).trans cau5
    have o0 := ge_of hle (show okS (szN (pq pg)) va 1 = true from by rw [← z0]; exact u0)
    have o1 := ge_of hle u1
    have y2e : itz va 2 = (litBin .add .u64 va 2) := itz_eq hva 2
    have gI : litCmp .geq (itz va 2) 2147483648 = true := by
      rw [y2e]
      exact ge_nx hle u1 (by omega)
    have lI : litCmp .lss (itz va 2) (endE (szN (pq pg))) = false := lt_of hle (by
      rw [y2e]
      exact u2) gI
    have eS : sV (fun _ => 0) (szN (pq pg)) (szN (pq pg)) 0 0 1 2 (litBin .add .u64 va 2) 1 = (litBin .add .u64 va 2) := (Page.sV_t f2)
    have eK : sC (fun _ => 0) (szN (pq pg)) (szN (pq pg)) 0 0 1 2 (litBin .add .u64 va 2) 1 = 7 := (sC0 u2).trans cau7
    have aI : askG true (szN (pq pg)) (szN (pq pg)) (szN (pq pg)) (fun _ => 0) 0 0 1 2 (litBin .add .u64 va 2) 1 = true := by unfold askG; rw [q2, f2]; rfl
    refine ⟨cxU 8 2 false, _, _, _, cxU_ok 8 2 false, road8u_2 pg va x nn, ?_, ?_⟩
    · simp only [pL, pG, pU, hq, hne, a0g, a1g, aI, aL, ni, o0.1, o0.2, o1.1, o1.2, gI, lI, Bool.and_self, Bool.not_false, Bool.not_true, Bool.cond_self, cond_true, cond_false, beq_self_eq_true, Bool.true_and, Bool.and_true]
      try rfl
    · unfold v8u_2
      simp only [ni, eF, eV, eC, eS, eK, eql_self, cond_true, cond_false, y2e]
      try rfl
  have f2 : sF (fun _ => 0) (szN (pq pg)) (szN (pq pg)) 0 0 1 2 (litBin .add .u64 va 2) 1 = false := by rw [sF0, u2]; rfl
  have a2g : askG false (szN (pq pg)) (szN (pq pg)) (szN (pq pg)) (fun _ => 0) 0 0 1 2 (litBin .add .u64 va 2) 1 = true := by unfold askG; rw [q2, f2]; rfl
  cases u3 : okS (szN (pq pg)) (litBin .add .u64 va 3) 1
  · have f3 : sF (fun _ => 0) (szN (pq pg)) (szN (pq pg)) 0 0 1 2 (litBin .add .u64 va 3) 1 = true := by rw [sF0, u3]; rfl
    have ni : inA (szN (pq pg)) va 8 = false := by
      rw [hin]
      cases ho : okS (szN (pq pg)) va 8
      · rfl
      · exact absurd ((hall.1 ho 3 (by omega)).symm.trans u3) (by decide)
    have l0 : ldA (fun _ => 0) (szN (pq pg)) 0 0 0 va 0 = false := by unfold ldA; rw [sF0, u0]; rfl
    have l1 : ldA (fun _ => 0) (szN (pq pg)) 0 0 0 va 1 = false := by unfold ldA; rw [sF0, u1]; rfl
    have l2 : ldA (fun _ => 0) (szN (pq pg)) 0 0 0 va 2 = false := by unfold ldA; rw [sF0, u2]; rfl
    have l3 : ldA (fun _ => 0) (szN (pq pg)) 0 0 0 va 3 = true := by unfold ldA; rw [sF0, u3]; rfl
    have e0 : ldI (fun _ => 0) (szN (pq pg)) 0 0 0 va 8 = some 3 := by unfold ldI; simp only [show ixs 8 = [0, 1, 2, 3, 4, 5, 6, 7] from rfl, firstL, l0, l1, l2, l3, cond_true, cond_false]
    have eF : ldF (fun _ => 0) (szN (pq pg)) 0 0 0 va 8 = true := by unfold ldF; rw [e0]
    have eV : ldV (fun _ => 0) (szN (pq pg)) 0 0 0 va 8 = (litBin .add .u64 va 3) := by unfold ldV; rw [e0]
    have eC : ldC (fun _ => 0) (szN (pq pg)) 0 0 0 va 8 = 5 := by unfold ldC; rw [e0]; exact (sC0 u3).trans cau5
    have o0 := ge_of hle (show okS (szN (pq pg)) va 1 = true from by rw [← z0]; exact u0)
    have o1 := ge_of hle u1
    have y2e : itz va 2 = (litBin .add .u64 va 2) := itz_eq hva 2
    have o2 := ge_of hle (show okS (szN (pq pg)) (itz va 2) 1 = true from by rw [y2e]; exact u2)
    have y3e : itz va 3 = (litBin .add .u64 va 3) := itz_eq hva 3
    have gI : litCmp .geq (itz va 3) 2147483648 = true := by
      rw [y3e]
      exact ge_nx hle u2 (by omega)
    have lI : litCmp .lss (itz va 3) (endE (szN (pq pg))) = false := lt_of hle (by
      rw [y3e]
      exact u3) gI
    have eS : sV (fun _ => 0) (szN (pq pg)) (szN (pq pg)) 0 0 1 2 (litBin .add .u64 va 3) 1 = (litBin .add .u64 va 3) := (Page.sV_t f3)
    have eK : sC (fun _ => 0) (szN (pq pg)) (szN (pq pg)) 0 0 1 2 (litBin .add .u64 va 3) 1 = 7 := (sC0 u3).trans cau7
    have aI : askG true (szN (pq pg)) (szN (pq pg)) (szN (pq pg)) (fun _ => 0) 0 0 1 2 (litBin .add .u64 va 3) 1 = true := by unfold askG; rw [q3, f3]; rfl
    refine ⟨cxU 8 3 false, _, _, _, cxU_ok 8 3 false, road8u_3 pg va x nn, ?_, ?_⟩
    · simp only [pL, pG, pU, hq, hne, a0g, a1g, a2g, aI, aL, ni, o0.1, o0.2, o1.1, o1.2, o2.1, o2.2, gI, lI, Bool.and_self, Bool.not_false, Bool.not_true, Bool.cond_self, cond_true, cond_false, beq_self_eq_true, Bool.true_and, Bool.and_true]
      try rfl
    · unfold v8u_3
      simp only [ni, eF, eV, eC, eS, eK, eql_self, cond_true, cond_false, y3e]
      try rfl
  have f3 : sF (fun _ => 0) (szN (pq pg)) (szN (pq pg)) 0 0 1 2 (litBin .add .u64 va 3) 1 = false := by rw [sF0, u3]; rfl
  have a3g : askG false (szN (pq pg)) (szN (pq pg)) (szN (pq pg)) (fun _ => 0) 0 0 1 2 (litBin .add .u64 va 3) 1 = true := by unfold askG; rw [q3, f3]; rfl
  cases u4 : okS (szN (pq pg)) (litBin .add .u64 va 4) 1
  · have f4 : sF (fun _ => 0) (szN (pq pg)) (szN (pq pg)) 0 0 1 2 (litBin .add .u64 va 4) 1 = true := by rw [sF0, u4]; rfl
    have ni : inA (szN (pq pg)) va 8 = false := by
      rw [hin]
      cases ho : okS (szN (pq pg)) va 8
      · rfl
      · exact absurd ((hall.1 ho 4 (by omega)).symm.trans u4) (by decide)
    have l0 : ldA (fun _ => 0) (szN (pq pg)) 0 0 0 va 0 = false := by unfold ldA; rw [sF0, u0]; rfl
    have l1 : ldA (fun _ => 0) (szN (pq pg)) 0 0 0 va 1 = false := by unfold ldA; rw [sF0, u1]; rfl
    have l2 : ldA (fun _ => 0) (szN (pq pg)) 0 0 0 va 2 = false := by unfold ldA; rw [sF0, u2]; rfl
    have l3 : ldA (fun _ => 0) (szN (pq pg)) 0 0 0 va 3 = false := by unfold ldA; rw [sF0, u3]; rfl
    have l4 : ldA (fun _ => 0) (szN (pq pg)) 0 0 0 va 4 = true := by unfold ldA; rw [sF0, u4]; rfl
    have e0 : ldI (fun _ => 0) (szN (pq pg)) 0 0 0 va 8 = some 4 := by unfold ldI; simp only [show ixs 8 = [0, 1, 2, 3, 4, 5, 6, 7] from rfl, firstL, l0, l1, l2, l3, l4, cond_true, cond_false]
    have eF : ldF (fun _ => 0) (szN (pq pg)) 0 0 0 va 8 = true := by unfold ldF; rw [e0]
    have eV : ldV (fun _ => 0) (szN (pq pg)) 0 0 0 va 8 = (litBin .add .u64 va 4) := by unfold ldV; rw [e0]
    have eC : ldC (fun _ => 0) (szN (pq pg)) 0 0 0 va 8 = 5 := by unfold ldC; rw [e0]; exact (sC0 u4).trans cau5
    have o0 := ge_of hle (show okS (szN (pq pg)) va 1 = true from by rw [← z0]; exact u0)
    have o1 := ge_of hle u1
    have y2e : itz va 2 = (litBin .add .u64 va 2) := itz_eq hva 2
    have o2 := ge_of hle (show okS (szN (pq pg)) (itz va 2) 1 = true from by rw [y2e]; exact u2)
    have y3e : itz va 3 = (litBin .add .u64 va 3) := itz_eq hva 3
    have o3 := ge_of hle (show okS (szN (pq pg)) (itz va 3) 1 = true from by rw [y3e]; exact u3)
    have y4e : itz va 4 = (litBin .add .u64 va 4) := itz_eq hva 4
    have gI : litCmp .geq (itz va 4) 2147483648 = true := by
      rw [y4e]
      exact ge_nx hle u3 (by omega)
    have lI : litCmp .lss (itz va 4) (endE (szN (pq pg))) = false := lt_of hle (by
      rw [y4e]
      exact u4) gI
    have eS : sV (fun _ => 0) (szN (pq pg)) (szN (pq pg)) 0 0 1 2 (litBin .add .u64 va 4) 1 = (litBin .add .u64 va 4) := (Page.sV_t f4)
    have eK : sC (fun _ => 0) (szN (pq pg)) (szN (pq pg)) 0 0 1 2 (litBin .add .u64 va 4) 1 = 7 := (sC0 u4).trans cau7
    have aI : askG true (szN (pq pg)) (szN (pq pg)) (szN (pq pg)) (fun _ => 0) 0 0 1 2 (litBin .add .u64 va 4) 1 = true := by unfold askG; rw [q4, f4]; rfl
    refine ⟨cxU 8 4 false, _, _, _, cxU_ok 8 4 false, road8u_4 pg va x nn, ?_, ?_⟩
    · simp only [pL, pG, pU, hq, hne, a0g, a1g, a2g, a3g, aI, aL, ni, o0.1, o0.2, o1.1, o1.2, o2.1, o2.2, o3.1, o3.2, gI, lI, Bool.and_self, Bool.not_false, Bool.not_true, Bool.cond_self, cond_true, cond_false, beq_self_eq_true, Bool.true_and, Bool.and_true]
      try rfl
    · unfold v8u_4
      simp only [ni, eF, eV, eC, eS, eK, eql_self, cond_true, cond_false, y4e]
      try rfl
  have f4 : sF (fun _ => 0) (szN (pq pg)) (szN (pq pg)) 0 0 1 2 (litBin .add .u64 va 4) 1 = false := by rw [sF0, u4]; rfl
  have a4g : askG false (szN (pq pg)) (szN (pq pg)) (szN (pq pg)) (fun _ => 0) 0 0 1 2 (litBin .add .u64 va 4) 1 = true := by unfold askG; rw [q4, f4]; rfl
  cases u5 : okS (szN (pq pg)) (litBin .add .u64 va 5) 1
  · have f5 : sF (fun _ => 0) (szN (pq pg)) (szN (pq pg)) 0 0 1 2 (litBin .add .u64 va 5) 1 = true := by rw [sF0, u5]; rfl
    have ni : inA (szN (pq pg)) va 8 = false := by
      rw [hin]
      cases ho : okS (szN (pq pg)) va 8
      · rfl
      · exact absurd ((hall.1 ho 5 (by omega)).symm.trans u5) (by decide)
    have l0 : ldA (fun _ => 0) (szN (pq pg)) 0 0 0 va 0 = false := by unfold ldA; rw [sF0, u0]; rfl
    have l1 : ldA (fun _ => 0) (szN (pq pg)) 0 0 0 va 1 = false := by unfold ldA; rw [sF0, u1]; rfl
    have l2 : ldA (fun _ => 0) (szN (pq pg)) 0 0 0 va 2 = false := by unfold ldA; rw [sF0, u2]; rfl
    have l3 : ldA (fun _ => 0) (szN (pq pg)) 0 0 0 va 3 = false := by unfold ldA; rw [sF0, u3]; rfl
    have l4 : ldA (fun _ => 0) (szN (pq pg)) 0 0 0 va 4 = false := by unfold ldA; rw [sF0, u4]; rfl
    have l5 : ldA (fun _ => 0) (szN (pq pg)) 0 0 0 va 5 = true := by unfold ldA; rw [sF0, u5]; rfl
    have e0 : ldI (fun _ => 0) (szN (pq pg)) 0 0 0 va 8 = some 5 := by unfold ldI; simp only [show ixs 8 = [0, 1, 2, 3, 4, 5, 6, 7] from rfl, firstL, l0, l1, l2, l3, l4, l5, cond_true, cond_false]
    have eF : ldF (fun _ => 0) (szN (pq pg)) 0 0 0 va 8 = true := by unfold ldF; rw [e0]
    have eV : ldV (fun _ => 0) (szN (pq pg)) 0 0 0 va 8 = (litBin .add .u64 va 5) := by unfold ldV; rw [e0]
    have eC : ldC (fun _ => 0) (szN (pq pg)) 0 0 0 va 8 = 5 := by unfold ldC; rw [e0]; exact (sC0 u5).trans cau5
    have o0 := ge_of hle (show okS (szN (pq pg)) va 1 = true from by rw [← z0]; exact u0)
    have o1 := ge_of hle u1
    have y2e : itz va 2 = (litBin .add .u64 va 2) := itz_eq hva 2
    have o2 := ge_of hle (show okS (szN (pq pg)) (itz va 2) 1 = true from by rw [y2e]; exact u2)
    have y3e : itz va 3 = (litBin .add .u64 va 3) := itz_eq hva 3
    have o3 := ge_of hle (show okS (szN (pq pg)) (itz va 3) 1 = true from by rw [y3e]; exact u3)
    have y4e : itz va 4 = (litBin .add .u64 va 4) := itz_eq hva 4
    have o4 := ge_of hle (show okS (szN (pq pg)) (itz va 4) 1 = true from by rw [y4e]; exact u4)
    have y5e : itz va 5 = (litBin .add .u64 va 5) := itz_eq hva 5
    have gI : litCmp .geq (itz va 5) 2147483648 = true := by
      rw [y5e]
      exact ge_nx hle u4 (by omega)
    have lI : litCmp .lss (itz va 5) (endE (szN (pq pg))) = false := lt_of hle (by
      rw [y5e]
      exact u5) gI
    have eS : sV (fun _ => 0) (szN (pq pg)) (szN (pq pg)) 0 0 1 2 (litBin .add .u64 va 5) 1 = (litBin .add .u64 va 5) := (Page.sV_t f5)
    have eK : sC (fun _ => 0) (szN (pq pg)) (szN (pq pg)) 0 0 1 2 (litBin .add .u64 va 5) 1 = 7 := (sC0 u5).trans cau7
    have aI : askG true (szN (pq pg)) (szN (pq pg)) (szN (pq pg)) (fun _ => 0) 0 0 1 2 (litBin .add .u64 va 5) 1 = true := by unfold askG; rw [q5, f5]; rfl
    refine ⟨cxU 8 5 false, _, _, _, cxU_ok 8 5 false, road8u_5 pg va x nn, ?_, ?_⟩
    · simp only [pL, pG, pU, hq, hne, a0g, a1g, a2g, a3g, a4g, aI, aL, ni, o0.1, o0.2, o1.1, o1.2, o2.1, o2.2, o3.1, o3.2, o4.1, o4.2, gI, lI, Bool.and_self, Bool.not_false, Bool.not_true, Bool.cond_self, cond_true, cond_false, beq_self_eq_true, Bool.true_and, Bool.and_true]
      try rfl
    · unfold v8u_5
      simp only [ni, eF, eV, eC, eS, eK, eql_self, cond_true, cond_false, y5e]
      try rfl
  have f5 : sF (fun _ => 0) (szN (pq pg)) (szN (pq pg)) 0 0 1 2 (litBin .add .u64 va 5) 1 = false := by rw [sF0, u5]; rfl
  have a5g : askG false (szN (pq pg)) (szN (pq pg)) (szN (pq pg)) (fun _ => 0) 0 0 1 2 (litBin .add .u64 va 5) 1 = true := by unfold askG; rw [q5, f5]; rfl
  cases u6 : okS (szN (pq pg)) (litBin .add .u64 va 6) 1
  · have f6 : sF (fun _ => 0) (szN (pq pg)) (szN (pq pg)) 0 0 1 2 (litBin .add .u64 va 6) 1 = true := by rw [sF0, u6]; rfl
    have ni : inA (szN (pq pg)) va 8 = false := by
      rw [hin]
      cases ho : okS (szN (pq pg)) va 8
      · rfl
      · exact absurd ((hall.1 ho 6 (by omega)).symm.trans u6) (by decide)
    have l0 : ldA (fun _ => 0) (szN (pq pg)) 0 0 0 va 0 = false := by unfold ldA; rw [sF0, u0]; rfl
    have l1 : ldA (fun _ => 0) (szN (pq pg)) 0 0 0 va 1 = false := by unfold ldA; rw [sF0, u1]; rfl
    have l2 : ldA (fun _ => 0) (szN (pq pg)) 0 0 0 va 2 = false := by unfold ldA; rw [sF0, u2]; rfl
    have l3 : ldA (fun _ => 0) (szN (pq pg)) 0 0 0 va 3 = false := by unfold ldA; rw [sF0, u3]; rfl
    have l4 : ldA (fun _ => 0) (szN (pq pg)) 0 0 0 va 4 = false := by unfold ldA; rw [sF0, u4]; rfl
    have l5 : ldA (fun _ => 0) (szN (pq pg)) 0 0 0 va 5 = false := by unfold ldA; rw [sF0, u5]; rfl
    have l6 : ldA (fun _ => 0) (szN (pq pg)) 0 0 0 va 6 = true := by unfold ldA; rw [sF0, u6]; rfl
    have e0 : ldI (fun _ => 0) (szN (pq pg)) 0 0 0 va 8 = some 6 := by unfold ldI; simp only [show ixs 8 = [0, 1, 2, 3, 4, 5, 6, 7] from rfl, firstL, l0, l1, l2, l3, l4, l5, l6, cond_true, cond_false]
    have eF : ldF (fun _ => 0) (szN (pq pg)) 0 0 0 va 8 = true := by unfold ldF; rw [e0]
    have eV : ldV (fun _ => 0) (szN (pq pg)) 0 0 0 va 8 = (litBin .add .u64 va 6) := by unfold ldV; rw [e0]
    have eC : ldC (fun _ => 0) (szN (pq pg)) 0 0 0 va 8 = 5 := by unfold ldC; rw [e0]; exact (sC0 u6).trans cau5
    have o0 := ge_of hle (show okS (szN (pq pg)) va 1 = true from by rw [← z0]; exact u0)
    have o1 := ge_of hle u1
    have y2e : itz va 2 = (litBin .add .u64 va 2) := itz_eq hva 2
    have o2 := ge_of hle (show okS (szN (pq pg)) (itz va 2) 1 = true from by rw [y2e]; exact u2)
    have y3e : itz va 3 = (litBin .add .u64 va 3) := itz_eq hva 3
    have o3 := ge_of hle (show okS (szN (pq pg)) (itz va 3) 1 = true from by rw [y3e]; exact u3)
    have y4e : itz va 4 = (litBin .add .u64 va 4) := itz_eq hva 4
    have o4 := ge_of hle (show okS (szN (pq pg)) (itz va 4) 1 = true from by rw [y4e]; exact u4)
    have y5e : itz va 5 = (litBin .add .u64 va 5) := itz_eq hva 5
    have o5 := ge_of hle (show okS (szN (pq pg)) (itz va 5) 1 = true from by rw [y5e]; exact u5)
    have y6e : itz va 6 = (litBin .add .u64 va 6) := itz_eq hva 6
    have gI : litCmp .geq (itz va 6) 2147483648 = true := by
      rw [y6e]
      exact ge_nx hle u5 (by omega)
    have lI : litCmp .lss (itz va 6) (endE (szN (pq pg))) = false := lt_of hle (by
      rw [y6e]
      exact u6) gI
    have eS : sV (fun _ => 0) (szN (pq pg)) (szN (pq pg)) 0 0 1 2 (litBin .add .u64 va 6) 1 = (litBin .add .u64 va 6) := (Page.sV_t f6)
    have eK : sC (fun _ => 0) (szN (pq pg)) (szN (pq pg)) 0 0 1 2 (litBin .add .u64 va 6) 1 = 7 := (sC0 u6).trans cau7
    have aI : askG true (szN (pq pg)) (szN (pq pg)) (szN (pq pg)) (fun _ => 0) 0 0 1 2 (litBin .add .u64 va 6) 1 = true := by unfold askG; rw [q6, f6]; rfl
    refine ⟨cxU 8 6 false, _, _, _, cxU_ok 8 6 false, road8u_6 pg va x nn, ?_, ?_⟩
    · simp only [pL, pG, pU, hq, hne, a0g, a1g, a2g, a3g, a4g, a5g, aI, aL, ni, o0.1, o0.2, o1.1, o1.2, o2.1, o2.2, o3.1, o3.2, o4.1, o4.2, o5.1, o5.2, gI, lI, Bool.and_self, Bool.not_false, Bool.not_true, Bool.cond_self, cond_true, cond_false, beq_self_eq_true, Bool.true_and, Bool.and_true]
      try rfl
    · unfold v8u_6
      simp only [ni, eF, eV, eC, eS, eK, eql_self, cond_true, cond_false, y6e]
      try rfl
  have f6 : sF (fun _ => 0) (szN (pq pg)) (szN (pq pg)) 0 0 1 2 (litBin .add .u64 va 6) 1 = false := by rw [sF0, u6]; rfl
  have a6g : askG false (szN (pq pg)) (szN (pq pg)) (szN (pq pg)) (fun _ => 0) 0 0 1 2 (litBin .add .u64 va 6) 1 = true := by unfold askG; rw [q6, f6]; rfl
  cases u7 : okS (szN (pq pg)) (litBin .add .u64 va 7) 1
  · have f7 : sF (fun _ => 0) (szN (pq pg)) (szN (pq pg)) 0 0 1 2 (litBin .add .u64 va 7) 1 = true := by rw [sF0, u7]; rfl
    have ni : inA (szN (pq pg)) va 8 = false := by
      rw [hin]
      cases ho : okS (szN (pq pg)) va 8
      · rfl
      · exact absurd ((hall.1 ho 7 (by omega)).symm.trans u7) (by decide)
    have l0 : ldA (fun _ => 0) (szN (pq pg)) 0 0 0 va 0 = false := by unfold ldA; rw [sF0, u0]; rfl
    have l1 : ldA (fun _ => 0) (szN (pq pg)) 0 0 0 va 1 = false := by unfold ldA; rw [sF0, u1]; rfl
    have l2 : ldA (fun _ => 0) (szN (pq pg)) 0 0 0 va 2 = false := by unfold ldA; rw [sF0, u2]; rfl
    have l3 : ldA (fun _ => 0) (szN (pq pg)) 0 0 0 va 3 = false := by unfold ldA; rw [sF0, u3]; rfl
    have l4 : ldA (fun _ => 0) (szN (pq pg)) 0 0 0 va 4 = false := by unfold ldA; rw [sF0, u4]; rfl
    have l5 : ldA (fun _ => 0) (szN (pq pg)) 0 0 0 va 5 = false := by unfold ldA; rw [sF0, u5]; rfl
    have l6 : ldA (fun _ => 0) (szN (pq pg)) 0 0 0 va 6 = false := by unfold ldA; rw [sF0, u6]; rfl
    have l7 : ldA (fun _ => 0) (szN (pq pg)) 0 0 0 va 7 = true := by unfold ldA; rw [sF0, u7]; rfl
    have e0 : ldI (fun _ => 0) (szN (pq pg)) 0 0 0 va 8 = some 7 := by unfold ldI; simp only [show ixs 8 = [0, 1, 2, 3, 4, 5, 6, 7] from rfl, firstL, l0, l1, l2, l3, l4, l5, l6, l7, cond_true, cond_false]
    have eF : ldF (fun _ => 0) (szN (pq pg)) 0 0 0 va 8 = true := by unfold ldF; rw [e0]
    have eV : ldV (fun _ => 0) (szN (pq pg)) 0 0 0 va 8 = (litBin .add .u64 va 7) := by unfold ldV; rw [e0]
    have eC : ldC (fun _ => 0) (szN (pq pg)) 0 0 0 va 8 = 5 := by unfold ldC; rw [e0]; exact (sC0 u7).trans cau5
    have o0 := ge_of hle (show okS (szN (pq pg)) va 1 = true from by rw [← z0]; exact u0)
    have o1 := ge_of hle u1
    have y2e : itz va 2 = (litBin .add .u64 va 2) := itz_eq hva 2
    have o2 := ge_of hle (show okS (szN (pq pg)) (itz va 2) 1 = true from by rw [y2e]; exact u2)
    have y3e : itz va 3 = (litBin .add .u64 va 3) := itz_eq hva 3
    have o3 := ge_of hle (show okS (szN (pq pg)) (itz va 3) 1 = true from by rw [y3e]; exact u3)
    have y4e : itz va 4 = (litBin .add .u64 va 4) := itz_eq hva 4
    have o4 := ge_of hle (show okS (szN (pq pg)) (itz va 4) 1 = true from by rw [y4e]; exact u4)
    have y5e : itz va 5 = (litBin .add .u64 va 5) := itz_eq hva 5
    have o5 := ge_of hle (show okS (szN (pq pg)) (itz va 5) 1 = true from by rw [y5e]; exact u5)
    have y6e : itz va 6 = (litBin .add .u64 va 6) := itz_eq hva 6
    have o6 := ge_of hle (show okS (szN (pq pg)) (itz va 6) 1 = true from by rw [y6e]; exact u6)
    have y7e : itz va 7 = (litBin .add .u64 va 7) := itz_eq hva 7
    have gI : litCmp .geq (itz va 7) 2147483648 = true := by
      rw [y7e]
      exact ge_nx hle u6 (by omega)
    have lI : litCmp .lss (itz va 7) (endE (szN (pq pg))) = false := lt_of hle (by
      rw [y7e]
      exact u7) gI
    have eS : sV (fun _ => 0) (szN (pq pg)) (szN (pq pg)) 0 0 1 2 (litBin .add .u64 va 7) 1 = (litBin .add .u64 va 7) := (Page.sV_t f7)
    have eK : sC (fun _ => 0) (szN (pq pg)) (szN (pq pg)) 0 0 1 2 (litBin .add .u64 va 7) 1 = 7 := (sC0 u7).trans cau7
    have aI : askG true (szN (pq pg)) (szN (pq pg)) (szN (pq pg)) (fun _ => 0) 0 0 1 2 (litBin .add .u64 va 7) 1 = true := by unfold askG; rw [q7, f7]; rfl
    refine ⟨cxU 8 7 false, _, _, _, cxU_ok 8 7 false, road8u_7 pg va x nn, ?_, ?_⟩
    · simp only [pL, pG, pU, hq, hne, a0g, a1g, a2g, a3g, a4g, a5g, a6g, aI, aL, ni, o0.1, o0.2, o1.1, o1.2, o2.1, o2.2, o3.1, o3.2, o4.1, o4.2, o5.1, o5.2, o6.1, o6.2, gI, lI, Bool.and_self, Bool.not_false, Bool.not_true, Bool.cond_self, cond_true, cond_false, beq_self_eq_true, Bool.true_and, Bool.and_true]
      try rfl
    · unfold v8u_7
      simp only [ni, eF, eV, eC, eS, eK, eql_self, cond_true, cond_false, y7e]
      try rfl
  have f7 : sF (fun _ => 0) (szN (pq pg)) (szN (pq pg)) 0 0 1 2 (litBin .add .u64 va 7) 1 = false := by rw [sF0, u7]; rfl
  have a7g : askG false (szN (pq pg)) (szN (pq pg)) (szN (pq pg)) (fun _ => 0) 0 0 1 2 (litBin .add .u64 va 7) 1 = true := by unfold askG; rw [q7, f7]; rfl
  have ho : okS (szN (pq pg)) va 8 = true := hall.2 fun i hi => by
    rcases (by omega : i = 0 ∨ i = 1 ∨ i = 2 ∨ i = 3 ∨ i = 4 ∨ i = 5 ∨ i = 6 ∨ i = 7) with rfl | rfl | rfl | rfl | rfl | rfl | rfl | rfl
    · exact u0
    · exact u1
    · exact u2
    · exact u3
    · exact u4
    · exact u5
    · exact u6
    · exact u7
  have yi : inA (szN (pq pg)) va 8 = true := by rw [hin]; exact ho
  have y0 : yes (inU (litBin .shr .u64 x 0)) = true := yes_of (inU.shr hx 0 (by omega))
  have m0 : askM (szN (pq pg)) (szN (pq pg)) (szN (pq pg)) (fun _ => 0) (litBin .add .u64 (sT (fun _ => 0) (szN (pq pg)) (szN (pq pg)) 0 0 1 2 (litBin .add .u64 va 0) 1) 0) 1 = true := askM_of hm (inU.add _ _) (Page.inI_num rfl)
  have a0 : (litBin .add .u64 (sT (fun _ => 0) (szN (pq pg)) (szN (pq pg)) 0 0 1 2 (litBin .add .u64 va 0) 1) 0) = (litBin .add .u64 va 0) := by rw [sT0 u0]; exact add0 (inU.add _ _)
  have y1 : yes (inU (litBin .shr .u64 x 8)) = true := yes_of (inU.shr hx 8 (by omega))
  have m1 : askM (szN (pq pg)) (szN (pq pg)) (szN (pq pg)) (putF (fun _ => 0) (szN (pq pg)) (litBin .add .u64 (sT (fun _ => 0) (szN (pq pg)) (szN (pq pg)) 0 0 1 2 (litBin .add .u64 va 0) 1) 0) 1 (litBin .shr .u64 x 0)) (litBin .add .u64 (sT (fun _ => 0) (szN (pq pg)) (szN (pq pg)) 0 0 1 2 (litBin .add .u64 va 1) 1) 0) 1 = true := askM_of (MemOk.put hm _ _ _) (inU.add _ _) (Page.inI_num rfl)
  have a1 : (litBin .add .u64 (sT (fun _ => 0) (szN (pq pg)) (szN (pq pg)) 0 0 1 2 (litBin .add .u64 va 1) 1) 0) = (litBin .add .u64 va 1) := by rw [sT0 u1]; exact add0 (inU.add _ _)
  have y2 : yes (inU (litBin .shr .u64 x 16)) = true := yes_of (inU.shr hx 16 (by omega))
  have m2 : askM (szN (pq pg)) (szN (pq pg)) (szN (pq pg)) (putF (putF (fun _ => 0) (szN (pq pg)) (litBin .add .u64 (sT (fun _ => 0) (szN (pq pg)) (szN (pq pg)) 0 0 1 2 (litBin .add .u64 va 0) 1) 0) 1 (litBin .shr .u64 x 0)) (szN (pq pg)) (litBin .add .u64 (sT (fun _ => 0) (szN (pq pg)) (szN (pq pg)) 0 0 1 2 (litBin .add .u64 va 1) 1) 0) 1 (litBin .shr .u64 x 8)) (litBin .add .u64 (sT (fun _ => 0) (szN (pq pg)) (szN (pq pg)) 0 0 1 2 (litBin .add .u64 va 2) 1) 0) 1 = true := askM_of (MemOk.put (MemOk.put hm _ _ _) _ _ _) (inU.add _ _) (Page.inI_num rfl)
  have a2 : (litBin .add .u64 (sT (fun _ => 0) (szN (pq pg)) (szN (pq pg)) 0 0 1 2 (litBin .add .u64 va 2) 1) 0) = (litBin .add .u64 va 2) := by rw [sT0 u2]; exact add0 (inU.add _ _)
  have y3 : yes (inU (litBin .shr .u64 x 24)) = true := yes_of (inU.shr hx 24 (by omega))
  have m3 : askM (szN (pq pg)) (szN (pq pg)) (szN (pq pg)) (putF (putF (putF (fun _ => 0) (szN (pq pg)) (litBin .add .u64 (sT (fun _ => 0) (szN (pq pg)) (szN (pq pg)) 0 0 1 2 (litBin .add .u64 va 0) 1) 0) 1 (litBin .shr .u64 x 0)) (szN (pq pg)) (litBin .add .u64 (sT (fun _ => 0) (szN (pq pg)) (szN (pq pg)) 0 0 1 2 (litBin .add .u64 va 1) 1) 0) 1 (litBin .shr .u64 x 8)) (szN (pq pg)) (litBin .add .u64 (sT (fun _ => 0) (szN (pq pg)) (szN (pq pg)) 0 0 1 2 (litBin .add .u64 va 2) 1) 0) 1 (litBin .shr .u64 x 16)) (litBin .add .u64 (sT (fun _ => 0) (szN (pq pg)) (szN (pq pg)) 0 0 1 2 (litBin .add .u64 va 3) 1) 0) 1 = true := askM_of (MemOk.put (MemOk.put (MemOk.put hm _ _ _) _ _ _) _ _ _) (inU.add _ _) (Page.inI_num rfl)
  have a3 : (litBin .add .u64 (sT (fun _ => 0) (szN (pq pg)) (szN (pq pg)) 0 0 1 2 (litBin .add .u64 va 3) 1) 0) = (litBin .add .u64 va 3) := by rw [sT0 u3]; exact add0 (inU.add _ _)
  have y4 : yes (inU (litBin .shr .u64 x 32)) = true := yes_of (inU.shr hx 32 (by omega))
  have m4 : askM (szN (pq pg)) (szN (pq pg)) (szN (pq pg)) (putF (putF (putF (putF (fun _ => 0) (szN (pq pg)) (litBin .add .u64 (sT (fun _ => 0) (szN (pq pg)) (szN (pq pg)) 0 0 1 2 (litBin .add .u64 va 0) 1) 0) 1 (litBin .shr .u64 x 0)) (szN (pq pg)) (litBin .add .u64 (sT (fun _ => 0) (szN (pq pg)) (szN (pq pg)) 0 0 1 2 (litBin .add .u64 va 1) 1) 0) 1 (litBin .shr .u64 x 8)) (szN (pq pg)) (litBin .add .u64 (sT (fun _ => 0) (szN (pq pg)) (szN (pq pg)) 0 0 1 2 (litBin .add .u64 va 2) 1) 0) 1 (litBin .shr .u64 x 16)) (szN (pq pg)) (litBin .add .u64 (sT (fun _ => 0) (szN (pq pg)) (szN (pq pg)) 0 0 1 2 (litBin .add .u64 va 3) 1) 0) 1 (litBin .shr .u64 x 24)) (litBin .add .u64 (sT (fun _ => 0) (szN (pq pg)) (szN (pq pg)) 0 0 1 2 (litBin .add .u64 va 4) 1) 0) 1 = true := askM_of (MemOk.put (MemOk.put (MemOk.put (MemOk.put hm _ _ _) _ _ _) _ _ _) _ _ _) (inU.add _ _) (Page.inI_num rfl)
  have a4 : (litBin .add .u64 (sT (fun _ => 0) (szN (pq pg)) (szN (pq pg)) 0 0 1 2 (litBin .add .u64 va 4) 1) 0) = (litBin .add .u64 va 4) := by rw [sT0 u4]; exact add0 (inU.add _ _)
  have y5 : yes (inU (litBin .shr .u64 x 40)) = true := yes_of (inU.shr hx 40 (by omega))
  have m5 : askM (szN (pq pg)) (szN (pq pg)) (szN (pq pg)) (putF (putF (putF (putF (putF (fun _ => 0) (szN (pq pg)) (litBin .add .u64 (sT (fun _ => 0) (szN (pq pg)) (szN (pq pg)) 0 0 1 2 (litBin .add .u64 va 0) 1) 0) 1 (litBin .shr .u64 x 0)) (szN (pq pg)) (litBin .add .u64 (sT (fun _ => 0) (szN (pq pg)) (szN (pq pg)) 0 0 1 2 (litBin .add .u64 va 1) 1) 0) 1 (litBin .shr .u64 x 8)) (szN (pq pg)) (litBin .add .u64 (sT (fun _ => 0) (szN (pq pg)) (szN (pq pg)) 0 0 1 2 (litBin .add .u64 va 2) 1) 0) 1 (litBin .shr .u64 x 16)) (szN (pq pg)) (litBin .add .u64 (sT (fun _ => 0) (szN (pq pg)) (szN (pq pg)) 0 0 1 2 (litBin .add .u64 va 3) 1) 0) 1 (litBin .shr .u64 x 24)) (szN (pq pg)) (litBin .add .u64 (sT (fun _ => 0) (szN (pq pg)) (szN (pq pg)) 0 0 1 2 (litBin .add .u64 va 4) 1) 0) 1 (litBin .shr .u64 x 32)) (litBin .add .u64 (sT (fun _ => 0) (szN (pq pg)) (szN (pq pg)) 0 0 1 2 (litBin .add .u64 va 5) 1) 0) 1 = true := askM_of (MemOk.put (MemOk.put (MemOk.put (MemOk.put (MemOk.put hm _ _ _) _ _ _) _ _ _) _ _ _) _ _ _) (inU.add _ _) (Page.inI_num rfl)
  have a5 : (litBin .add .u64 (sT (fun _ => 0) (szN (pq pg)) (szN (pq pg)) 0 0 1 2 (litBin .add .u64 va 5) 1) 0) = (litBin .add .u64 va 5) := by rw [sT0 u5]; exact add0 (inU.add _ _)
  have y6 : yes (inU (litBin .shr .u64 x 48)) = true := yes_of (inU.shr hx 48 (by omega))
  have m6 : askM (szN (pq pg)) (szN (pq pg)) (szN (pq pg)) (putF (putF (putF (putF (putF (putF (fun _ => 0) (szN (pq pg)) (litBin .add .u64 (sT (fun _ => 0) (szN (pq pg)) (szN (pq pg)) 0 0 1 2 (litBin .add .u64 va 0) 1) 0) 1 (litBin .shr .u64 x 0)) (szN (pq pg)) (litBin .add .u64 (sT (fun _ => 0) (szN (pq pg)) (szN (pq pg)) 0 0 1 2 (litBin .add .u64 va 1) 1) 0) 1 (litBin .shr .u64 x 8)) (szN (pq pg)) (litBin .add .u64 (sT (fun _ => 0) (szN (pq pg)) (szN (pq pg)) 0 0 1 2 (litBin .add .u64 va 2) 1) 0) 1 (litBin .shr .u64 x 16)) (szN (pq pg)) (litBin .add .u64 (sT (fun _ => 0) (szN (pq pg)) (szN (pq pg)) 0 0 1 2 (litBin .add .u64 va 3) 1) 0) 1 (litBin .shr .u64 x 24)) (szN (pq pg)) (litBin .add .u64 (sT (fun _ => 0) (szN (pq pg)) (szN (pq pg)) 0 0 1 2 (litBin .add .u64 va 4) 1) 0) 1 (litBin .shr .u64 x 32)) (szN (pq pg)) (litBin .add .u64 (sT (fun _ => 0) (szN (pq pg)) (szN (pq pg)) 0 0 1 2 (litBin .add .u64 va 5) 1) 0) 1 (litBin .shr .u64 x 40)) (litBin .add .u64 (sT (fun _ => 0) (szN (pq pg)) (szN (pq pg)) 0 0 1 2 (litBin .add .u64 va 6) 1) 0) 1 = true := askM_of (MemOk.put (MemOk.put (MemOk.put (MemOk.put (MemOk.put (MemOk.put hm _ _ _) _ _ _) _ _ _) _ _ _) _ _ _) _ _ _) (inU.add _ _) (Page.inI_num rfl)
  have a6 : (litBin .add .u64 (sT (fun _ => 0) (szN (pq pg)) (szN (pq pg)) 0 0 1 2 (litBin .add .u64 va 6) 1) 0) = (litBin .add .u64 va 6) := by rw [sT0 u6]; exact add0 (inU.add _ _)
  have y7 : yes (inU (litBin .shr .u64 x 56)) = true := yes_of (inU.shr hx 56 (by omega))
  have m7 : askM (szN (pq pg)) (szN (pq pg)) (szN (pq pg)) (putF (putF (putF (putF (putF (putF (putF (fun _ => 0) (szN (pq pg)) (litBin .add .u64 (sT (fun _ => 0) (szN (pq pg)) (szN (pq pg)) 0 0 1 2 (litBin .add .u64 va 0) 1) 0) 1 (litBin .shr .u64 x 0)) (szN (pq pg)) (litBin .add .u64 (sT (fun _ => 0) (szN (pq pg)) (szN (pq pg)) 0 0 1 2 (litBin .add .u64 va 1) 1) 0) 1 (litBin .shr .u64 x 8)) (szN (pq pg)) (litBin .add .u64 (sT (fun _ => 0) (szN (pq pg)) (szN (pq pg)) 0 0 1 2 (litBin .add .u64 va 2) 1) 0) 1 (litBin .shr .u64 x 16)) (szN (pq pg)) (litBin .add .u64 (sT (fun _ => 0) (szN (pq pg)) (szN (pq pg)) 0 0 1 2 (litBin .add .u64 va 3) 1) 0) 1 (litBin .shr .u64 x 24)) (szN (pq pg)) (litBin .add .u64 (sT (fun _ => 0) (szN (pq pg)) (szN (pq pg)) 0 0 1 2 (litBin .add .u64 va 4) 1) 0) 1 (litBin .shr .u64 x 32)) (szN (pq pg)) (litBin .add .u64 (sT (fun _ => 0) (szN (pq pg)) (szN (pq pg)) 0 0 1 2 (litBin .add .u64 va 5) 1) 0) 1 (litBin .shr .u64 x 40)) (szN (pq pg)) (litBin .add .u64 (sT (fun _ => 0) (szN (pq pg)) (szN (pq pg)) 0 0 1 2 (litBin .add .u64 va 6) 1) 0) 1 (litBin .shr .u64 x 48)) (litBin .add .u64 (sT (fun _ => 0) (szN (pq pg)) (szN (pq pg)) 0 0 1 2 (litBin .add .u64 va 7) 1) 0) 1 = true := askM_of (MemOk.put (MemOk.put (MemOk.put (MemOk.put (MemOk.put (MemOk.put (MemOk.put hm _ _ _) _ _ _) _ _ _) _ _ _) _ _ _) _ _ _) _ _ _) (inU.add _ _) (Page.inI_num rfl)
  have a7 : (litBin .add .u64 (sT (fun _ => 0) (szN (pq pg)) (szN (pq pg)) 0 0 1 2 (litBin .add .u64 va 7) 1) 0) = (litBin .add .u64 va 7) := by rw [sT0 u7]; exact add0 (inU.add _ _)
  have hmk : MemOk (szN (pq pg)) (putF (putF (putF (putF (putF (putF (putF (putF (fun _ => 0) (szN (pq pg)) (litBin .add .u64 (sT (fun _ => 0) (szN (pq pg)) (szN (pq pg)) 0 0 1 2 (litBin .add .u64 va 0) 1) 0) 1 (litBin .shr .u64 x 0)) (szN (pq pg)) (litBin .add .u64 (sT (fun _ => 0) (szN (pq pg)) (szN (pq pg)) 0 0 1 2 (litBin .add .u64 va 1) 1) 0) 1 (litBin .shr .u64 x 8)) (szN (pq pg)) (litBin .add .u64 (sT (fun _ => 0) (szN (pq pg)) (szN (pq pg)) 0 0 1 2 (litBin .add .u64 va 2) 1) 0) 1 (litBin .shr .u64 x 16)) (szN (pq pg)) (litBin .add .u64 (sT (fun _ => 0) (szN (pq pg)) (szN (pq pg)) 0 0 1 2 (litBin .add .u64 va 3) 1) 0) 1 (litBin .shr .u64 x 24)) (szN (pq pg)) (litBin .add .u64 (sT (fun _ => 0) (szN (pq pg)) (szN (pq pg)) 0 0 1 2 (litBin .add .u64 va 4) 1) 0) 1 (litBin .shr .u64 x 32)) (szN (pq pg)) (litBin .add .u64 (sT (fun _ => 0) (szN (pq pg)) (szN (pq pg)) 0 0 1 2 (litBin .add .u64 va 5) 1) 0) 1 (litBin .shr .u64 x 40)) (szN (pq pg)) (litBin .add .u64 (sT (fun _ => 0) (szN (pq pg)) (szN (pq pg)) 0 0 1 2 (litBin .add .u64 va 6) 1) 0) 1 (litBin .shr .u64 x 48)) (szN (pq pg)) (litBin .add .u64 (sT (fun _ => 0) (szN (pq pg)) (szN (pq pg)) 0 0 1 2 (litBin .add .u64 va 7) 1) 0) 1 (litBin .shr .u64 x 56)) := (MemOk.put (MemOk.put (MemOk.put (MemOk.put (MemOk.put (MemOk.put (MemOk.put (MemOk.put hm _ _ _) _ _ _) _ _ _) _ _ _) _ _ _) _ _ _) _ _ _) _ _ _)
  have aK : askL (szN (pq pg)) (szN (pq pg)) (szN (pq pg)) (putF (putF (putF (putF (putF (putF (putF (putF (fun _ => 0) (szN (pq pg)) (litBin .add .u64 (sT (fun _ => 0) (szN (pq pg)) (szN (pq pg)) 0 0 1 2 (litBin .add .u64 va 0) 1) 0) 1 (litBin .shr .u64 x 0)) (szN (pq pg)) (litBin .add .u64 (sT (fun _ => 0) (szN (pq pg)) (szN (pq pg)) 0 0 1 2 (litBin .add .u64 va 1) 1) 0) 1 (litBin .shr .u64 x 8)) (szN (pq pg)) (litBin .add .u64 (sT (fun _ => 0) (szN (pq pg)) (szN (pq pg)) 0 0 1 2 (litBin .add .u64 va 2) 1) 0) 1 (litBin .shr .u64 x 16)) (szN (pq pg)) (litBin .add .u64 (sT (fun _ => 0) (szN (pq pg)) (szN (pq pg)) 0 0 1 2 (litBin .add .u64 va 3) 1) 0) 1 (litBin .shr .u64 x 24)) (szN (pq pg)) (litBin .add .u64 (sT (fun _ => 0) (szN (pq pg)) (szN (pq pg)) 0 0 1 2 (litBin .add .u64 va 4) 1) 0) 1 (litBin .shr .u64 x 32)) (szN (pq pg)) (litBin .add .u64 (sT (fun _ => 0) (szN (pq pg)) (szN (pq pg)) 0 0 1 2 (litBin .add .u64 va 5) 1) 0) 1 (litBin .shr .u64 x 40)) (szN (pq pg)) (litBin .add .u64 (sT (fun _ => 0) (szN (pq pg)) (szN (pq pg)) 0 0 1 2 (litBin .add .u64 va 6) 1) 0) 1 (litBin .shr .u64 x 48)) (szN (pq pg)) (litBin .add .u64 (sT (fun _ => 0) (szN (pq pg)) (szN (pq pg)) 0 0 1 2 (litBin .add .u64 va 7) 1) 0) 1 (litBin .shr .u64 x 56)) 0 0 va 8 = true := yes_of ⟨⟨rfl, rfl, hmk, hN⟩, inU0, inU0, hva, rfl⟩
  refine ⟨cxF 8 true 8, _, _, _, cxF_ok 8 true 8, road8u_8 pg va x nn, ?_, ?_⟩
  · simp only [pL, pG, pU, hq, hne, a0g, a1g, a2g, a3g, a4g, a5g, a6g, a7g, y0, m0, y1, m1, y2, m2, y3, m3, y4, m4, y5, m5, y6, m6, y7, m7, aK, yi, Bool.and_self, Bool.not_false, Bool.not_true, Bool.cond_self, cond_true, cond_false, beq_self_eq_true, Bool.true_and, Bool.and_true]
    try rfl
  · have hG : ∃ G : Nat → Int, (putF (putF (putF (putF (putF (putF (putF (putF (fun _ => 0) (szN (pq pg)) (litBin .add .u64 (sT (fun _ => 0) (szN (pq pg)) (szN (pq pg)) 0 0 1 2 (litBin .add .u64 va 0) 1) 0) 1 (litBin .shr .u64 x 0)) (szN (pq pg)) (litBin .add .u64 (sT (fun _ => 0) (szN (pq pg)) (szN (pq pg)) 0 0 1 2 (litBin .add .u64 va 1) 1) 0) 1 (litBin .shr .u64 x 8)) (szN (pq pg)) (litBin .add .u64 (sT (fun _ => 0) (szN (pq pg)) (szN (pq pg)) 0 0 1 2 (litBin .add .u64 va 2) 1) 0) 1 (litBin .shr .u64 x 16)) (szN (pq pg)) (litBin .add .u64 (sT (fun _ => 0) (szN (pq pg)) (szN (pq pg)) 0 0 1 2 (litBin .add .u64 va 3) 1) 0) 1 (litBin .shr .u64 x 24)) (szN (pq pg)) (litBin .add .u64 (sT (fun _ => 0) (szN (pq pg)) (szN (pq pg)) 0 0 1 2 (litBin .add .u64 va 4) 1) 0) 1 (litBin .shr .u64 x 32)) (szN (pq pg)) (litBin .add .u64 (sT (fun _ => 0) (szN (pq pg)) (szN (pq pg)) 0 0 1 2 (litBin .add .u64 va 5) 1) 0) 1 (litBin .shr .u64 x 40)) (szN (pq pg)) (litBin .add .u64 (sT (fun _ => 0) (szN (pq pg)) (szN (pq pg)) 0 0 1 2 (litBin .add .u64 va 6) 1) 0) 1 (litBin .shr .u64 x 48)) (szN (pq pg)) (litBin .add .u64 (sT (fun _ => 0) (szN (pq pg)) (szN (pq pg)) 0 0 1 2 (litBin .add .u64 va 7) 1) 0) 1 (litBin .shr .u64 x 56)) = G ∧ ∀ i : Nat, i < 8 → G (Int.toNat (va - 2147483648) + i) = x / 256 ^ i % 256 := by
      refine ⟨_, rfl, fun i hi => ?_⟩
      have u0' : okS (szN (pq pg)) va 1 = true := by rw [← z0]; exact u0
      rw [a0, a1, a2, a3, a4, a5, a6, a7, put1 u0, put1 u1, put1 u2, put1 u3, put1 u4, put1 u5, put1 u6, put1 u7]
      have s0 := sub_at (i := 0) (k := 0) hle hva u0' (by omega)
      have s1 := sub_at (i := 1) (k := 0) hle hva u0' (by omega)
      have s2 := sub_at (i := 2) (k := 0) hle hva u0' (by omega)
      have s3 := sub_at (i := 3) (k := 0) hle hva u0' (by omega)
      have s4 := sub_at (i := 4) (k := 0) hle hva u0' (by omega)
      have s5 := sub_at (i := 5) (k := 0) hle hva u0' (by omega)
      have s6 := sub_at (i := 6) (k := 0) hle hva u0' (by omega)
      have s7 := sub_at (i := 7) (k := 0) hle hva u0' (by omega)
      rw [s0, s1, s2, s3, s4, s5, s6, s7]
      have w0 : IntKind.wrap .u8 (litBin .shr .u64 x 0) = x / 256 ^ 0 % 256 := byte_of hx 0 (by omega)
      have w1 : IntKind.wrap .u8 (litBin .shr .u64 x 8) = x / 256 ^ 1 % 256 := byte_of hx 1 (by omega)
      have w2 : IntKind.wrap .u8 (litBin .shr .u64 x 16) = x / 256 ^ 2 % 256 := byte_of hx 2 (by omega)
      have w3 : IntKind.wrap .u8 (litBin .shr .u64 x 24) = x / 256 ^ 3 % 256 := byte_of hx 3 (by omega)
      have w4 : IntKind.wrap .u8 (litBin .shr .u64 x 32) = x / 256 ^ 4 % 256 := byte_of hx 4 (by omega)
      have w5 : IntKind.wrap .u8 (litBin .shr .u64 x 40) = x / 256 ^ 5 % 256 := byte_of hx 5 (by omega)
      have w6 : IntKind.wrap .u8 (litBin .shr .u64 x 48) = x / 256 ^ 6 % 256 := byte_of hx 6 (by omega)
      have w7 : IntKind.wrap .u8 (litBin .shr .u64 x 56) = x / 256 ^ 7 % 256 := byte_of hx 7 (by omega)
      rw [w0, w1, w2, w3, w4, w5, w6, w7]
      unfold updF
      rcases (by omega : i = 0 ∨ i = 1 ∨ i = 2 ∨ i = 3 ∨ i = 4 ∨ i = 5 ∨ i = 6 ∨ i = 7) with rfl | rfl | rfl | rfl | rfl | rfl | rfl | rfl
      · simp
      · simp
      · simp
      · simp
      · simp
      · simp
      · simp
      · simp
    obtain ⟨G, hG, hB⟩ := hG
    unfold v8u_8
    rw [hG] at hmk ⊢
    have l0 : ldA G (szN (pq pg)) 0 0 0 va 0 = false := by unfold ldA; rw [sF0, u0]; rfl
    have l1 : ldA G (szN (pq pg)) 0 0 0 va 1 = false := by unfold ldA; rw [sF0, u1]; rfl
    have l2 : ldA G (szN (pq pg)) 0 0 0 va 2 = false := by unfold ldA; rw [sF0, u2]; rfl
    have l3 : ldA G (szN (pq pg)) 0 0 0 va 3 = false := by unfold ldA; rw [sF0, u3]; rfl
    have l4 : ldA G (szN (pq pg)) 0 0 0 va 4 = false := by unfold ldA; rw [sF0, u4]; rfl
    have l5 : ldA G (szN (pq pg)) 0 0 0 va 5 = false := by unfold ldA; rw [sF0, u5]; rfl
    have l6 : ldA G (szN (pq pg)) 0 0 0 va 6 = false := by unfold ldA; rw [sF0, u6]; rfl
    have l7 : ldA G (szN (pq pg)) 0 0 0 va 7 = false := by unfold ldA; rw [sF0, u7]; rfl
    have e0 : ldI G (szN (pq pg)) 0 0 0 va 8 = none := by unfold ldI; simp only [show ixs 8 = [0, 1, 2, 3, 4, 5, 6, 7] from rfl, firstL, l0, l1, l2, l3, l4, l5, l6, l7, cond_true, cond_false]
    have eF : ldF G (szN (pq pg)) 0 0 0 va 8 = false := by unfold ldF; rw [e0]
    have eX : ldX G (szN (pq pg)) 0 0 0 va 8 = orL (ldB G (szN (pq pg)) 0 0 0 va) 0 (ixs 8) := by unfold ldX; rw [e0]
    have u0' : okS (szN (pq pg)) va 1 = true := by rw [← z0]; exact u0
    have eB : ∀ i : Nat, i < 8 → ldB G (szN (pq pg)) 0 0 0 va (i : Int) = x / 256 ^ i % 256 := fun i hi => by
      have ui : okS (szN (pq pg)) (litBin .add .u64 va (i : Int)) 1 = true := hall.1 ho _ (by omega)
      unfold ldB
      rw [sT0 ui, get_byte ui, sub_at (k := 0) hle hva u0' (by omega), Int.toNat_natCast]
      exact hB i hi
    have hs : orL (ldB G (szN (pq pg)) 0 0 0 va) 0 (ixs 8) = x % 256 ^ 8 := by
      have h1 := sum_upto hx eB 8 (Nat.le_refl _) (by omega)
      exact h1
    have hx2 : litBin .and .u64 x 18446744073709551615 = x % 256 ^ 8 := and_low hx 64 (by omega)
    rw [eF, eX, hs, hx2, a0, z0, eql_self, eql_self]
    rfl
end Go.Proofs.Ytngcbpcfgolifaa.SpaceAligned
