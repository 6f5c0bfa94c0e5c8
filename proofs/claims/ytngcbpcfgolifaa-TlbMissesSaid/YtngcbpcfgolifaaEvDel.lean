/- Work in place on a row of its own: what a slice's capacity bears at least, append within the block, clear. Conditions: none. -/
import Derived.Test.YtngcbpcfgolifaaEvCopy
namespace Go.Proofs.Ytngcbpcfgolifaa.Ev
open Go.RowKit
set_option linter.unusedVariables false
set_option linter.unusedSimpArgs false

section
variable {D : Dom} (P : Program)
/-- What the capacity is at least. -/
def topC (sz : Nat) (n : D.N) : Cap D → Option D.N
  | .un w => if Nat.beq w sz && Nat.blt 0 sz then some n else none
  | .ge w lo => if Nat.beq w sz && Nat.blt 0 sz then some lo else none
  | _ => none
def sliceG (t : TypeId) (x : AV D) (lo hi : Option (AV D)) : Option (T D (AV D × List (W D))) := match P.underlying t, x with
  | some (.slice e), .slice b off len cap => match sizeT P e, len.num with
    | some sz, some n => match topC sz n cap with
      | some c0 => match boundA hi n c0 with
        | some (qh, h) => match boundA lo (D.nlit 0) h, moveA off lo sz with
          | some (ql, l), some off' => some (.br (D.and qh (D.and ql (D.ltN l c0))) (.ret (.slice b off' (.rc (D.nsub h l) 1 0) (.ge sz (D.nsub c0 l)), [])) .fail)
          | _, _ => none
        | none => none
      | none => none
    | _, _ => none
  | _, _ => none
def appG (h : List (AO D)) (t : TypeId) (x y : AV D) : Option (T D (AV D × List (W D))) := match P.underlying t with
  | some (.slice e) => match sizeT P e with
    | some sz => match x, y with
      | .slice b (.lit 0) len (.ge w lo), .slice b' off' len' _ => match h[b]?, len.num, rowAt sz off', len'.num with
        | some (.arr u N fs), some n, some (q, 0), some m => if (Nat.beq b b' && Nat.beq w sz) && ((Nat.beq u e && Nat.beq fs.length sz) && Nat.blt 0 sz) then
            some (.br (D.and (D.and (D.leN (D.nadd n m) lo) (D.leN (D.nadd n m) N)) (D.leN (D.nadd q m) N)) (.ret (.slice b (.lit 0) (.rc (D.nadd n m) 1 0) (.ge w lo), [.obj b (.arr u N (fs.map fun p => (p.1, D.blitF p.2 n p.2 q m)))])) .fail) else none
        | _, _, _, _ => none
      | _, _ => none
    | none => none
  | _ => none
/-- Of what is cleared nothing is told. -/
def clearG (h : List (AO D)) (t : TypeId) (x : AV D) : Option (T D (AV D × List (W D))) := match P.underlying t with
  | some (.slice e) => match P.info? e with
    | some i => match i.zero with
      | some z => match x with
        | .slice b off len _ => match h[b]?, rowAt i.size off, len.num with
          | some (.arr u N fs), some (q, 0), some m => if (Nat.beq u e && Nat.beq fs.length i.size) && ((Nat.beq z.cells.size i.size && z.cells.toList.all fun v => v.oneCell') && Nat.blt 0 i.size) then
              some (.br (D.leN (D.nadd q m) N) (.ret (.tuple [], [.obj b (.arr u q fs)])) .fail) else none
          | _, _, _ => none
        | _ => none
      | none => none
    | none => none
  | _ => none
def delX (o : Oper) (s : St D) : Option (T D (AV D × List (W D))) := match o.op with
  | .slice t x lo hi mx => if hi.isSome && mx.isNone then sliceG P t (evalA s.slots x) (lo.map (evalA s.slots)) (hi.map (evalA s.slots)) else none
  | .call c => match c.callee, c.args.toList, c.argTypes.toList with
    | .builtin .append, [a, x], [t, t'] => if Nat.beq t t' then appG P s.heap t (evalA s.slots a) (evalA s.slots x) else none
    | .builtin .clear, [a], [t] => clearG P s.heap t (evalA s.slots a)
    | _, _, _ => none
  | _ => none
end

section
variable {P : Program} {ρ : List Rb} {w0 w : World} {own : List Nat} {s : St DC} {a : Act}
theorem topC_spec {r : Rb} {off len : Nat} {p : Option Addr} {c sz c0 : Nat} {n : Nat} {cap : Cap DC} (hk : cap.ok r off len p c) (h : topC (D := DC) sz n cap = some c0) (hn : len = n) : 0 < sz ∧ c0 ≤ c ∧ (0 < c0 → p = some (r.ad off) ∧ off + c * sz ≤ r.2.1) := by
  cases cap with
  | un w =>
    simp only [topC] at h
    split at h
    · rename_i hg
      rw [Bool.and_eq_true] at hg
      have := Nat.eq_of_beq_eq_true hg.1
      subst this
      have h0 : 0 < w := Nat.le_of_ble_eq_true hg.2
      have e : n = c0 := Option.some.inj h
      obtain ⟨h1, a, rfl, h2⟩ := hk
      refine ⟨h0, by rw [← e, ← hn]; exact h1, fun hc => ?_⟩
      rcases h2 with h2 | ⟨rfl, h2⟩
      · rw [← e, ← hn] at hc
        omega
      · exact ⟨rfl, by rcases h2 with h2 | h2; · omega
                       · exact h2⟩
    · cases h
  | ge w lo =>
    simp only [topC] at h
    split at h
    · rename_i hg
      rw [Bool.and_eq_true] at hg
      have := Nat.eq_of_beq_eq_true hg.1
      subst this
      have h0 : 0 < w := Nat.le_of_ble_eq_true hg.2
      cases h
      exact ⟨h0, hk.2.1, fun _ => hk.2.2⟩
    · cases h
  | _ => cases h
theorem sliceG_sound {o : Oper} {t : TypeId} {x : Operand} {lo hi : Option Operand} {q : T DC (AV DC × List (W DC))} {z : AV DC × List (W DC)} (ho : o.op = .slice t x lo hi none) (hS : RS ρ s.slots a) (H : WR w0 own ρ s.heap w)
    (hq : sliceG (D := DC) P t (evalA s.slots x) (lo.map (evalA s.slots)) (hi.map (evalA s.slots)) = some q) (h : q.pick = some z) : Does P w0 own ρ s a w o z := by
  have hv := evalA_rel hS x
  have hlo := optRel (o := lo) hS
  have hhi := optRel (o := hi) hS
  generalize lo.map (evalA s.slots) = lo' at *
  generalize hi.map (evalA s.slots) = hi' at *
  unfold sliceG at hq
  split at hq
  · rename_i e b off len cap hu hx
    split at hq
    · rename_i sz n hs hn
      split at hq
      · rename_i c0 hc0
        split at hq
        · rename_i qh hh' hh
          split at hq
          · rename_i ql l off' hl hoff
            cases hq
            rcases T.br_some h with ⟨h1, h2⟩ | ⟨_, h2⟩
            · have := T.ret_some h2
              subst this
              have h1' : (qh && (ql && decide ((l : Nat) < c0))) = true := h1
              simp only [Bool.and_eq_true] at h1'
              obtain ⟨q2, q3, q4⟩ := h1'
              have hlt : (l : Nat) < c0 := of_decide_eq_true q4
              rw [hx] at hv
              obtain ⟨r, hr, p, c', hval, hk⟩ := hv
              have elen : len.den = (n : Nat) := num_den hn
              obtain ⟨hsz, hcc, hpp⟩ := topC_spec hk hc0 elen
              obtain ⟨hp, hfit⟩ := hpp (Nat.lt_of_le_of_lt (Nat.zero_le _) hlt)
              obtain ⟨bh, lh⟩ := boundA_spec hhi hh q2
              obtain ⟨bl, ll⟩ := boundA_spec hlo hl q3
              have bh' : BO (hi.map a.eval) len.den c' hh' := by
                rw [elen]
                cases hhv : hi.map a.eval with
                | none => rw [hhv] at bh; exact bh
                | some v =>
                  rw [hhv] at bh
                  obtain ⟨k, i, e1, e2, e3, e4⟩ := bh
                  exact ⟨k, i, e1, e2, Int.le_trans e3 (Int.ofNat_le.2 hcc), e4⟩
              have hrun := sliceBounds_run (P := P) (mx := none) (m := c') (fun _ => rfl) rfl bh' bl w
              have hne : ¬ c' = l := Nat.ne_of_gt (Nat.lt_of_lt_of_le hlt hcc)
              have hfull : (execOp a.eval o).run P w = .ok (.value (.slice (if c' = l then p else p.map (·.add (l * sz))) (hh' - l) (c' - l))) w := by
                simp only [execOp, ho, Instr.sliceAt, Sem.run_bind, run_underlying hu, Result.andThen_ok, hval, Instr.slice, Option.map_none, hrun, run_sizeT hs, Sem.run_pure]
              have hden : (AN.rc (DC.nsub hh' l) 1 0 : AN DC).den = (hh' : Nat) - (l : Nat) := by
                show ((hh' : Nat) - (l : Nat)) * 1 + 0 = _
                rw [Nat.add_zero, Nat.mul_one]
              have hle : (hh' : Nat) ≤ (c' : Nat) := Nat.le_trans lh hcc
              have ho' : off'.den = off.den + l * sz := moveA_spec hlo hoff bl
              refine Does.same H hfull ⟨r, hr, _, (c' : Nat) - (l : Nat), by rw [hden], ?_⟩
              rw [if_neg hne, hp]
              refine ⟨by rw [hden]; exact Nat.sub_le_sub_right hle _, Nat.sub_le_sub_right hcc _, by simp only [Option.map_some, Rb.ad_add, ho'], ?_⟩
              rw [ho', Nat.add_assoc, ← Nat.add_mul, Nat.add_sub_of_le (Nat.le_of_lt (Nat.lt_of_lt_of_le hlt hcc))]
              exact hfit
            · cases h2
          · cases hq
        · cases hq
      · cases hq
    · cases hq
  · cases hq

theorem row_fit {fs : List (CK × (Nat → Int))} {N : Nat} {cur : Array Value} (hr : RowsRel 0 N fs cur) (hL : 0 < fs.length) : N * fs.length ≤ cur.size := by
  rcases Nat.eq_zero_or_pos N with h0 | h0
  · rw [h0, Nat.zero_mul]; exact Nat.zero_le _
  · have := hr (N - 1) (fs.length - 1) _ _ (by omega) (List.getElem?_eq_getElem (by omega))
    have hlt := (Array.getElem?_eq_some_iff.1 this).1
    have e2 : (N - 1) * fs.length + fs.length = N * fs.length := by rw [← Nat.succ_mul]; congr 1; omega
    omega
theorem row_one {fs : List (CK × (Nat → Int))} {N k : Nat} {cur : Array Value} {u : Value} (hr : RowsRel 0 N fs cur) (hL : 0 < fs.length) (hk : k < N * fs.length) (hu : cur[k]? = some u) : u.oneCell' = true := by
  have hc : k % fs.length < fs.length := Nat.mod_lt _ hL
  have h1 := hr (k / fs.length) (k % fs.length) _ _ ((Nat.div_lt_iff_lt_mul hL).2 hk) (List.getElem?_eq_getElem hc)
  rw [Nat.zero_add, show k / fs.length * fs.length + k % fs.length = k from Nat.div_add_mod' _ _, hu] at h1
  cases h1
  have one : ∀ (k : CK) (n : Int), (k.val n).oneCell' = true := fun k n => by cases k <;> rfl
  exact one _ _
theorem blit_no {n m j : Nat} (h : m = 0) : ¬(n ≤ j ∧ j < n + m) := by omega
theorem min_part {S q m N wd : Nat} (h1 : q * wd + m * wd ≤ N * wd) (h2 : N * wd ≤ S) : min (m * wd) (S - q * wd) = m * wd := by omega
theorem in_part {j q m N wd : Nat} (h1 : q * wd + m * wd ≤ N * wd) (h : j < m * wd) : q * wd + j < N * wd := by omega
theorem le_part {q m N wd S : Nat} (h1 : q * wd + m * wd ≤ N * wd) (h2 : N * wd ≤ S) : q * wd + m * wd ≤ S := by omega
theorem mul_lt {j n L c : Nat} (hj : j < n) (hc : c < L) : j * L + c < n * L := by
  have := Nat.mul_le_mul_right L (show j + 1 ≤ n from hj)
  rw [Nat.add_mul, Nat.one_mul] at this
  omega
theorem app_rows {fs : List (CK × (Nat → Int))} {N n q m : Nat} {cur : Array Value} (hr : RowsRel 0 N fs cur) (hL : 0 < fs.length) (h1 : n + m ≤ N) (h2 : q + m ≤ N) (A : Array Value)
    (hA : A = (cur.toList.take (n * fs.length) ++ (cur.toList.drop (q * fs.length)).take (m * fs.length) ++ cur.toList.drop (n * fs.length + m * fs.length)).toArray) :
    RowsRel 0 N (fs.map fun p => (p.1, DC.blitF p.2 n p.2 q m)) A ∧ A.size = cur.size := by
  have hfit := row_fit hr hL
  have e1 : (n + m) * fs.length ≤ N * fs.length := Nat.mul_le_mul_right _ h1
  have e2 : (q + m) * fs.length ≤ N * fs.length := Nat.mul_le_mul_right _ h2
  rw [Nat.add_mul] at e1 e2
  have l1 : (cur.toList.take (n * fs.length)).length = n * fs.length := by rw [List.length_take, show cur.toList.length = cur.size from rfl]; omega
  have l2 : ((cur.toList.drop (q * fs.length)).take (m * fs.length)).length = m * fs.length := by rw [List.length_take, List.length_drop, show cur.toList.length = cur.size from rfl]; omega
  refine ⟨fun j c k g hj hf => ?_, ?_⟩
  · rw [List.getElem?_map] at hf
    obtain ⟨⟨k0, f0⟩, hf0, hfe⟩ := Option.map_eq_some_iff.1 hf
    simp only [Prod.mk.injEq] at hfe
    obtain ⟨rfl, rfl⟩ := hfe
    have hc : c < fs.length := (List.getElem?_eq_some_iff.1 hf0).1
    rw [Nat.zero_add, List.length_map, hA, List.getElem?_toArray, List.append_assoc]
    show _ = some (CK.val k0 (if n ≤ j ∧ j < n + m then f0 (q + (j - n)) else f0 j))
    have cell : ∀ j', j' < N → cur.toList[j' * fs.length + c]? = some (CK.val k0 (f0 j')) := fun j' hj' => by
      have := hr j' c k0 f0 hj' hf0
      rw [Nat.zero_add] at this
      simpa using this
    by_cases g1 : j < n
    · have := mul_lt (L := fs.length) g1 hc
      rw [if_neg (by omega), List.getElem?_append_left (by rw [l1]; exact this), List.getElem?_take, if_pos this]
      exact cell j hj
    · obtain ⟨d, rfl⟩ : ∃ d, j = n + d := ⟨j - n, by omega⟩
      have e3 : (n + d) * fs.length + c = n * fs.length + (d * fs.length + c) := by rw [Nat.add_mul, Nat.add_assoc]
      rw [List.getElem?_append_right (by rw [l1, e3]; omega), l1, e3, Nat.add_sub_cancel_left]
      by_cases g2 : d < m
      · have := mul_lt (L := fs.length) g2 hc
        rw [if_pos ⟨by omega, by omega⟩, List.getElem?_append_left (by rw [l2]; exact this), List.getElem?_take, if_pos this, List.getElem?_drop, ← Nat.add_assoc, ← Nat.add_mul, Nat.add_sub_cancel_left]
        exact cell (q + d) (by omega)
      · obtain ⟨d', rfl⟩ : ∃ d', d = m + d' := ⟨d - m, by omega⟩
        have e4 : (m + d') * fs.length + c = m * fs.length + (d' * fs.length + c) := by rw [Nat.add_mul, Nat.add_assoc]
        rw [if_neg (by omega), List.getElem?_append_right (by rw [l2, e4]; omega), l2, e4, Nat.add_sub_cancel_left, List.getElem?_drop]
        have e5 : n * fs.length + m * fs.length + (d' * fs.length + c) = (n + (m + d')) * fs.length + c := by rw [Nat.add_mul, Nat.add_mul]; omega
        rw [e5]
        exact cell _ hj
  · rw [hA]
    simp only [List.size_toArray, List.length_append, l1, l2, List.length_drop, show cur.toList.length = cur.size from rfl]
    omega
theorem appG_sound {o : Oper} {t ty : TypeId} {x' y' : AV DC} {vx vy : Value} (hrun : (execOp a.eval o).run P w = ((Builtin.append_ #[t, t] ty #[vx, vy]).run P w).andThen fun v w' => .ok (.value v) w')
    (H : WR w0 own ρ s.heap w) (hx : VRel ρ x' vx) (hy : VRel ρ y' vy) {q : T DC (AV DC × List (W DC))} {z : AV DC × List (W DC)} (hq : appG (D := DC) P s.heap t x' y' = some q) (h : q.pick = some z) : Does P w0 own ρ s a w o z := by
  unfold appG at hq
  split at hq
  · rename_i e hu
    split at hq
    · rename_i sz hsz
      split at hq
      · rename_i b len wd lo b' off' len' cap'
        split at hq
        · rename_i u N fs n q0 m hb hn hra hm
          split at hq
          · rename_i hg
            simp only [Bool.and_eq_true] at hg
            obtain ⟨⟨g1, g2⟩, ⟨g3, g4⟩, g5⟩ := hg
            have e1 := Nat.eq_of_beq_eq_true g1
            have e2 := Nat.eq_of_beq_eq_true g2
            have e3 := Nat.eq_of_beq_eq_true g3
            have e4 := Nat.eq_of_beq_eq_true g4
            have e5 : 0 < sz := Nat.le_of_ble_eq_true g5
            subst e1 e2 e3
            obtain ⟨i, hi, hsi⟩ : ∃ i, P.info? u = some i ∧ i.size = wd := by
              unfold sizeT at hsz
              cases hi : P.info? u with
              | none => rw [hi] at hsz; cases hsz
              | some i => rw [hi] at hsz; exact ⟨i, rfl, by simpa using hsz⟩
            cases hq
            rcases T.br_some h with ⟨h1, h2⟩ | ⟨_, h2⟩
            · have := T.ret_some h2
              subst this
              have h1' : ((decide ((n : Nat) + m ≤ lo) && decide ((n : Nat) + m ≤ (N : Nat))) && decide ((q0 : Nat) + m ≤ (N : Nat))) = true := h1
              simp only [Bool.and_eq_true] at h1'
              have k1 : (n : Nat) + (m : Nat) ≤ (lo : Nat) := of_decide_eq_true h1'.1.1
              have k2 : (n : Nat) + (m : Nat) ≤ (N : Nat) := of_decide_eq_true h1'.1.2
              have k3 : (q0 : Nat) + (m : Nat) ≤ (N : Nat) := of_decide_eq_true h1'.2
              obtain ⟨r, hr, p, c, hvx, hx1, hx2, hx3, hx4⟩ := hx
              obtain ⟨r2, hr2, p2, c2, hvy, hy2⟩ := hy
              rw [hr] at hr2
              cases hr2
              have hx2 : (lo : Nat) ≤ c := hx2
              obtain ⟨cur, hcur, hown, hrows⟩ := H.obj _ _ _ hb hr
              have hrows : RowsRel 0 (N : Nat) fs cur := hrows
              have en : len.den = (n : Nat) := num_den hn
              have em : len'.den = (m : Nat) := num_den hm
              have eo : off'.den = (q0 : Nat) * wd + 0 := rowAt_den hra
              rw [en] at hvx hx1
              rw [em] at hvy hy2
              have hx3' : p = some ⟨r.1, 0, none⟩ := by rw [hx3]; exact congrArg some (Rb.ad_own hown 0)
              have hL : 0 < fs.length := by rw [e4]; exact e5
              have hbl : b < s.heap.length := (List.getElem?_eq_some_iff.1 hb).1
              have hden : (AN.rc (D := DC) (DC.nadd n m) 1 0).den = (n : Nat) + (m : Nat) := by
                show ((n : Nat) + (m : Nat)) * 1 + 0 = _
                rw [Nat.add_zero, Nat.mul_one]
              have hslots : (s.apps [.obj b (.arr u N (fs.map fun p => (p.1, DC.blitF p.2 n p.2 q0 m)))]).slots = s.slots := rfl
              have hval : VRel ρ (.slice b (.lit 0) (.rc (DC.nadd n m) 1 0) (.ge wd lo)) (.slice p ((n : Nat) + (m : Nat)) c) := ⟨r, hr, p, c, by rw [hden], by rw [hden]; exact Nat.le_trans k1 hx2, hx2, hx3, hx4⟩
              by_cases h0 : (m : Nat) = 0
              · have hr0 := run_append_none (P := P) w t ty u i hu hi p n c p2 c2 hx1
                refine ⟨.slice p ((n : Nat) + (m : Nat)) c, w, ρ, .inl (by rw [hrun, hvx, hvy, h0, hr0]; rfl), Ext.refl _, hval, ?_, hslots, fun e => by cases e⟩
                refine H.turn hb rfl hr (by simp [St.apps, St.app]) (o' := .arr u N (fs.map fun p => (p.1, DC.blitF p.2 n p.2 q0 m))) (by simp [St.apps, St.app, hbl]) (fun c hc => by simp only [St.apps, St.app]; rw [List.getElem?_set_ne (fun e => hc e.symm)]) ?_ (fun c hc => rfl) rfl rfl rfl rfl
                refine ⟨cur, hcur, hown, fun j c k f hj hf => ?_⟩
                rw [List.getElem?_map] at hf
                obtain ⟨⟨k0, f0⟩, hf0, hfe⟩ := Option.map_eq_some_iff.1 hf
                simp only [Prod.mk.injEq] at hfe
                obtain ⟨rfl, rfl⟩ := hfe
                rw [List.length_map, hrows j c k0 f0 hj hf0]
                show some (CK.val k0 (f0 j)) = some (CK.val k0 (if (n : Nat) ≤ j ∧ j < (n : Nat) + m then f0 ((q0 : Nat) + (j - n)) else f0 j))
                rw [if_neg (blit_no h0)]
              · have hm0 : 0 < (m : Nat) := Nat.pos_of_ne_zero h0
                have hp2 := hy2.at hm0
                rw [eo, Nat.add_zero, Rb.ad_own hown] at hp2
                have hfit := row_fit hrows hL
                rw [e4] at hfit
                have f1 : ((n : Nat) + (m : Nat)) * wd ≤ (N : Nat) * wd := Nat.mul_le_mul_right _ k2
                have f2 : ((q0 : Nat) + (m : Nat)) * wd ≤ (N : Nat) * wd := Nat.mul_le_mul_right _ k3
                rw [Nat.add_mul] at f1 f2
                obtain ⟨ns, hns⟩ : ∃ ns, ns = (cur.toList.drop ((q0 : Nat) * wd)).take ((m : Nat) * wd) := ⟨_, rfl⟩
                have hnl : ns.length = (m : Nat) * i.size := by
                  rw [hns, hsi, List.length_take, List.length_drop, show cur.toList.length = cur.size from rfl]
                  exact min_part f2 hfit
                have hat : ∀ j u', ns[j]? = some u' → cur[(q0 : Nat) * wd + j]? = some u' ∧ (q0 : Nat) * wd + j < (N : Nat) * wd := fun j u' hj => by
                  rw [hns, List.getElem?_take] at hj
                  split at hj
                  · rename_i hjm
                    rw [List.getElem?_drop] at hj
                    exact ⟨by simpa using hj, in_part f2 hjm⟩
                  · cases hj
                have hnc : ∀ j u', ns[j]? = some u' → w.cell? ((⟨r.1, (q0 : Nat) * wd, none⟩ : Addr).add j) = some u' := fun j u' hj => by
                  rw [Addr.add_lit, cell_of_row w r.1 _ cur u (0, 0) hcur]
                  exact (hat j u' hj).1
                have hone : ∀ u' ∈ ns, u'.oneCell' = true := fun u' hu' => by
                  obtain ⟨j, hj⟩ := List.getElem?_of_mem hu'
                  obtain ⟨h3, h4⟩ := hat j u' hj
                  exact row_one hrows hL (by rw [e4]; exact h4) h3
                have hroom : (n : Nat) + (m : Nat) ≤ c := Nat.le_trans k1 hx2
                have hap := run_append_room (P := P) w t ty u i hu hi r.1 n c cur hcur ⟨r.1, (q0 : Nat) * wd, none⟩ m c2 ns hnl hnc hone hroom (by rw [hnl, hsi]; exact le_part f1 hfit)
                rw [hnl, hsi, hns] at hap
                obtain ⟨A, hA⟩ : ∃ A : Array Value, A = (cur.toList.take ((n : Nat) * wd) ++ (cur.toList.drop ((q0 : Nat) * wd)).take ((m : Nat) * wd) ++ cur.toList.drop ((n : Nat) * wd + (m : Nat) * wd)).toArray := ⟨_, rfl⟩
                rw [← hA] at hap
                obtain ⟨hrow, hsize⟩ := app_rows hrows hL k2 k3 A (by rw [hA, e4])
                refine ⟨.slice p ((n : Nat) + (m : Nat)) c, _, ρ, .inl (by rw [hrun, hvx, hvy, hx3', hp2, hap]; rfl), Ext.refl _, hval, ?_, hslots, fun e => by cases e⟩
                refine H.turn hb rfl hr (by simp [St.apps, St.app]) (o' := .arr u N (fs.map fun p => (p.1, DC.blitF p.2 n p.2 q0 m))) (by simp [St.apps, St.app, hbl]) (fun c hc => by simp only [St.apps, St.app]; rw [List.getElem?_set_ne (fun e => hc e.symm)]) ?_ (fun c hc => setRow_other w r.1 c _ hc) (by simp [World.setRow]) rfl rfl rfl
                rw [setRow_heap w r.1 cur _ u (0, 0) hcur]
                exact ⟨_, rfl, ⟨hsize.trans hown.1, hown.2⟩, hrow⟩
            · cases h2
          · cases hq
        · cases hq
      · cases hq
    · cases hq
  · cases hq
theorem run_clear {t e ty : TypeId} {i : TypeInfo} {z : Value} (hu : P.underlying t = some (.slice e)) (hi : P.info? e = some i) (hz : i.zero = some z) (hone : ∀ v ∈ z.cells.toList, v.oneCell' = true) (hzs : z.cells.size = i.size) (hL : 0 < i.size)
    (g o n c : Nat) (cur : Array Value) (hg : w.heap[g]? = some (.cells cur e (0, 0))) (hn : 0 < n) (hfit : o + n * i.size ≤ cur.size) :
    ∃ zs : List Value, zs.length = n * i.size ∧ (Builtin.clear_ #[t] ty #[.slice (some ⟨g, o, none⟩) n c]).run P w = .ok (.tuple #[]) (w.setRow g (cur.toList.take o ++ zs ++ cur.toList.drop (o + zs.length)).toArray) := by
  have hl : ((Builtin.zeroCells z.cells n).toList).length = n * i.size := by rw [Array.length_toList, fill_size _ _ _ hzs]
  refine ⟨(Builtin.zeroCells z.cells n).toList, hl, ?_⟩
  have h1 : ∀ v ∈ (Builtin.zeroCells z.cells n).toList, v.oneCell' = true := by
    intro v hv
    obtain ⟨j, hj⟩ := List.getElem?_of_mem hv
    have hjl := (List.getElem?_eq_some_iff.1 hj).1
    simp only [Builtin.zeroCells] at hj
    simp at hj
    obtain ⟨_, _, rfl⟩ := hj
    refine hone _ ?_
    rw [getElem!_pos z.cells _ (Nat.mod_lt _ (by omega))]
    simp
  have hst := run_storeCells_at (P := P) g o e (Builtin.zeroCells z.cells n).toList 0 cur w hg (by rw [hl]; simpa using hfit) h1
  simp only [Nat.add_zero] at hst
  have hv : ∀ w, (zeroValue e).run P w = .ok z w := fun w => by simp [zeroValue, typeInfo, hi, hz]
  obtain ⟨m, rfl⟩ : ∃ m, n = m + 1 := ⟨n - 1, by omega⟩
  simp [Builtin.clear_, run_underlying hu, hv, hst]
theorem clearG_sound {o : Oper} {t ty : TypeId} {x' : AV DC} {vx : Value} (hrun : (execOp a.eval o).run P w = ((Builtin.clear_ #[t] ty #[vx]).run P w).andThen fun v w' => .ok (.value v) w')
    (H : WR w0 own ρ s.heap w) (hx : VRel ρ x' vx) {q : T DC (AV DC × List (W DC))} {z : AV DC × List (W DC)} (hq : clearG (D := DC) P s.heap t x' = some q) (h : q.pick = some z) : Does P w0 own ρ s a w o z := by
  unfold clearG at hq
  split at hq
  · rename_i e hu
    split at hq
    · rename_i i hi
      split at hq
      · rename_i z0 hz
        split at hq
        · rename_i b off len cap
          split at hq
          · rename_i u N fs q0 m hb hra hm
            split at hq
            · rename_i hg
              simp only [Bool.and_eq_true] at hg
              obtain ⟨⟨g3, g4⟩, ⟨g6, g7⟩, g5⟩ := hg
              have e3 := Nat.eq_of_beq_eq_true g3
              have e4 := Nat.eq_of_beq_eq_true g4
              have e6 := Nat.eq_of_beq_eq_true g6
              have e5 : 0 < i.size := Nat.le_of_ble_eq_true g5
              have hone : ∀ v ∈ z0.cells.toList, v.oneCell' = true := fun v hv => List.all_eq_true.1 g7 v hv
              subst e3
              cases hq
              rcases T.br_some h with ⟨h1, h2⟩ | ⟨_, h2⟩
              · have := T.ret_some h2
                subst this
                have k3 : (q0 : Nat) + (m : Nat) ≤ (N : Nat) := of_decide_eq_true h1
                obtain ⟨r, hr, p, c, hvx, hk⟩ := hx
                obtain ⟨cur, hcur, hown, hrows⟩ := H.obj _ _ _ hb hr
                have hrows : RowsRel 0 (N : Nat) fs cur := hrows
                have em : len.den = (m : Nat) := num_den hm
                have eo : off.den = (q0 : Nat) * i.size + 0 := rowAt_den hra
                rw [em] at hvx hk
                have hbl : b < s.heap.length := (List.getElem?_eq_some_iff.1 hb).1
                have hslots : (s.apps [.obj b (.arr u q0 fs)]).slots = s.slots := rfl
                by_cases h0 : (m : Nat) = 0
                · have hr0 : (Builtin.clear_ #[t] ty #[.slice p 0 c]).run P w = .ok (.tuple #[]) w := by
                    cases p <;> simp [Builtin.clear_, run_underlying hu]
                  refine ⟨.tuple #[], w, ρ, .inl (by rw [hrun, hvx, h0, hr0]; rfl), Ext.refl _, ⟨#[], rfl, rfl⟩, ?_, hslots, fun e => by cases e⟩
                  refine H.turn hb rfl hr (by simp [St.apps, St.app]) (o' := .arr u q0 fs) (by simp [St.apps, St.app, hbl]) (fun c hc => by simp only [St.apps, St.app]; rw [List.getElem?_set_ne (fun e => hc e.symm)]) ?_ (fun c hc => rfl) rfl rfl rfl rfl
                  exact ⟨cur, hcur, hown, fun j c k f hj hf => hrows j c k f (Nat.lt_of_lt_of_le hj (Nat.le_trans (Nat.le_add_right _ _) k3)) hf⟩
                · have hm0 : 0 < (m : Nat) := Nat.pos_of_ne_zero h0
                  have hp := hk.at hm0
                  rw [eo, Nat.add_zero, Rb.ad_own hown] at hp
                  have hL : 0 < fs.length := by rw [e4]; exact e5
                  have hfit := row_fit hrows hL
                  rw [e4] at hfit
                  have f2 : ((q0 : Nat) + (m : Nat)) * i.size ≤ (N : Nat) * i.size := Nat.mul_le_mul_right _ k3
                  rw [Nat.add_mul] at f2
                  obtain ⟨zs, hzl, hcl⟩ := run_clear (P := P) (w := w) (ty := ty) hu hi hz hone e6 e5 r.1 ((q0 : Nat) * i.size) m c cur hcur hm0 (le_part f2 hfit)
                  refine ⟨.tuple #[], _, ρ, .inl (by rw [hrun, hvx, hp, hcl]; rfl), Ext.refl _, ⟨#[], rfl, rfl⟩, ?_, hslots, fun e => by cases e⟩
                  refine H.turn hb rfl hr (by simp [St.apps, St.app]) (o' := .arr u q0 fs) (by simp [St.apps, St.app, hbl]) (fun c hc => by simp only [St.apps, St.app]; rw [List.getElem?_set_ne (fun e => hc e.symm)]) ?_ (fun c hc => setRow_other w r.1 c _ hc) (by simp [World.setRow]) rfl rfl rfl
                  rw [setRow_heap w r.1 cur _ u (0, 0) hcur]
                  have l1 : (cur.toList.take ((q0 : Nat) * i.size)).length = (q0 : Nat) * i.size := by rw [List.length_take, show cur.toList.length = cur.size from rfl]; exact Nat.min_eq_left (Nat.le_trans (Nat.le_add_right _ _) (le_part f2 hfit))
                  refine ⟨_, rfl, ⟨?_, hown.2⟩, fun j c' k f hj hf => ?_⟩
                  · refine Eq.trans ?_ hown.1
                    simp only [List.size_toArray, List.length_append, l1, hzl, List.length_drop, show cur.toList.length = cur.size from rfl]
                    exact Nat.add_sub_of_le (le_part f2 hfit)
                  · have hc : c' < fs.length := (List.getElem?_eq_some_iff.1 hf).1
                    have hj' : j < (q0 : Nat) := hj
                    have hlt : j * fs.length + c' < (q0 : Nat) * i.size := by rw [← e4]; exact mul_lt hj' hc
                    have := hrows j c' k f (Nat.lt_of_lt_of_le hj' (Nat.le_trans (Nat.le_add_right _ _) k3)) hf
                    rw [Nat.zero_add] at this ⊢
                    rw [List.getElem?_toArray, List.append_assoc, List.getElem?_append_left (by rw [l1]; exact hlt), List.getElem?_take, if_pos hlt]
                    simpa using this
              · cases h2
            · cases hq
          · cases hq
        · cases hq
      · cases hq
    · cases hq
  · cases hq
theorem delX_sound {o : Oper} {t : T DC (AV DC × List (W DC))} {z : AV DC × List (W DC)} (ho : delX P o s = some t) (h : t.pick = some z) (hS : RS ρ s.slots a) (H : WR w0 own ρ s.heap w) : Does P w0 own ρ s a w o z := by
  unfold delX at ho
  split at ho
  · rename_i t0 x lo hi mx hop
    split at ho
    · rename_i hg
      rw [Bool.and_eq_true] at hg
      have hm : mx = none := by
        cases mx with
        | none => rfl
        | some v => cases hg.2
      subst hm
      exact sliceG_sound hop hS H ho h
    · cases ho
  · rename_i c hop
    split at ho
    · rename_i a1 x1 t1 tx1 hc ha ht
      obtain ⟨cal, args, ats⟩ := c
      have ha' : args = #[a1, x1] := Array.ext' ha
      have ht' : ats = #[t1, tx1] := Array.ext' ht
      have hc' : cal = .builtin .append := hc
      subst ha' ht' hc'
      split at ho
      · rename_i hg
        have := Nat.eq_of_beq_eq_true hg
        subst this
        refine appG_sound (ty := o.type) ?_ H (evalA_rel hS a1) (evalA_rel hS x1) ho h
        simp [execOp, hop, resolve, invoke, builtin]
      · cases ho
    · rename_i a1 t1 hc ha ht
      obtain ⟨cal, args, ats⟩ := c
      have ha' : args = #[a1] := Array.ext' ha
      have ht' : ats = #[t1] := Array.ext' ht
      have hc' : cal = .builtin .clear := hc
      subst ha' ht' hc'
      refine clearG_sound (ty := o.type) ?_ H (evalA_rel hS a1) ho h
      simp [execOp, hop, resolve, invoke, builtin]
    · cases ho
  · cases ho
end
end Go.Proofs.Ytngcbpcfgolifaa.Ev
