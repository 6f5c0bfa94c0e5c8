/- The statement 'TimerPlays': whatever is set, and however the time goes on, the time, what is due, and what comes next is as the document says. Conditions: none. -/
import Derived.Test.YtbjlkapfpcmjfaaNextSums
import Derived.Test.YtbjlkapfpcmjfaaEvTails
namespace Go.Proofs.Ytbjlkapfpcmjfaa.TimerPlays
open Go.RowKit Go.WideShapes Go.ChangeShapes Go.ChangeAt Ev
set_option linter.unusedVariables false
set_option linter.unusedSimpArgs false

noncomputable def cxr : Cx DC := cxq.tails [(52, 5, 5), (55, 2, 5)]
theorem cxr_ok : Ok Try.prog cxr := cxq_ok.tails _
/-- The state at the loop's head: the clock stands at a block of its own number, for it is another one behind a clone. -/
def tm : Tmpl := { slots := [.slice 0 0 .any, .skip, .truth false, .skip, .ptr 4 0, .ptr 3 0, .int .i64] ++ List.replicate 108 .skip, heap := [.rows 0 [.int .u8, .int .i64, .int .u64], .skip, .skip, .cells 79 [.int .u64, .int .u64, .int .u64, .int .u64, .int .u64, .int .u64, .int .u64, .int .u64, .int .u64], .cells 89 [.int .u64, .int .u64, .int .u64, .int .u64, .int .u64, .int .u64, .int .u64, .int .u64, .int .u64]] }
def tm' : Tmpl := { slots := List.replicate 115 .skip, heap := [.skip, .skip, .skip, .skip, .skip] }
def ls (s : St DC) : List Nat := match s.slots.getD 4 .dead with
  | .ptr b _ => [0, 1, 2, 3, b]
  | _ => []

def k3 (f : Int) : Int := litBin .rem .u8 f 3
def inG (g : Int) : Bool := cond (litCmp .geq g 0) (litCmp .lss g 8) false
def gg (g : Int) : Bool := (cond (inG g) ((decide (0 ≤ g ∧ g < ((8 : Nat) : Int))) && (decide ((Int.toNat g) < 8))) true) && (cond (inG g) ((decide (0 ≤ g ∧ g < ((8 : Nat) : Int))) && (decide ((Int.toNat g) < 8))) true)
def st (g h : Int) (k : Nat) (c : Int) : Int := cond (inG g) (cond (decide ((Int.toNat g) = k)) h c) c
def tkC (w h : Int) : Int := litBin .add .u64 w (cond (litCmp .lss (litBin .sub .u64 18446744073709551615 w) h) (litBin .sub .u64 18446744073709551615 w) h)
def tkR (w h : Int) : Int := cond (litCmp .gtr h (litBin .sub .u64 18446744073709551615 w)) 18446744073709551615 (litBin .add .u64 w h)
def tA (w v : Int) (a b : Int) : Bool := cond (litCmp .neq (nextV a) (nextV b)) true (cond (!((nextB a) == (nextB b))) true (litCmp .neq w v))
def tD (c w d v : Int) : Bool := !((cond (litCmp .eql c 18446744073709551615) false (litCmp .leq c w)) == (cond (litCmp .neq d 18446744073709551615) (litCmp .leq d v) false))
def g0 (i : Int) (n : Nat) : Bool := cond (litCmp .lss i ((n : Nat) : Int)) (litCmp .lss i 60) false
def g1 (i : Int) (n : Nat) : Bool := (decide (0 ≤ i ∧ i < ((n : Nat) : Int))) && (decide ((Int.toNat i) < n))
set_option maxRecDepth 100000 in
theorem goes0 (i w c0 c1 c2 c3 c4 c5 c6 c7 : Int) (n : Nat) (F G H : Nat → Int) : (viewT tm 4 ls (tm.fill ⟨[i, w, c0, c1, c2, c3, c4, c5, c6, c7, w, c0, c1, c2, c3, c4, c5, c6, c7], [], [n, n], [F, G, H]⟩) (ev Try.prog cxr 16 400 (.code (loopAt Try.prog 16 0)) (tm.fill ⟨[i, w, c0, c1, c2, c3, c4, c5, c6, c7, w, c0, c1, c2, c3, c4, c5, c6, c7], [], [n, n], [F, G, H]⟩))).route [true, true, true, false, false, false, false, false, false, false, false, false] = some ([g0 i n, g1 i n, litCmp .eql (k3 (F (Int.toNat i))) 0, tA (tkC w (H (Int.toNat i))) (tkR w (H (Int.toNat i))) (best (tkC w (H (Int.toNat i))) c0 c1 c2 c3 c4 c5 c6 c7) (best (tkR w (H (Int.toNat i))) c0 c1 c2 c3 c4 c5 c6 c7), tD c0 (tkC w (H (Int.toNat i))) c0 (tkR w (H (Int.toNat i))), tD c1 (tkC w (H (Int.toNat i))) c1 (tkR w (H (Int.toNat i))), tD c2 (tkC w (H (Int.toNat i))) c2 (tkR w (H (Int.toNat i))), tD c3 (tkC w (H (Int.toNat i))) c3 (tkR w (H (Int.toNat i))), tD c4 (tkC w (H (Int.toNat i))) c4 (tkR w (H (Int.toNat i))), tD c5 (tkC w (H (Int.toNat i))) c5 (tkR w (H (Int.toNat i))), tD c6 (tkC w (H (Int.toNat i))) c6 (tkR w (H (Int.toNat i))), tD c7 (tkC w (H (Int.toNat i))) c7 (tkR w (H (Int.toNat i)))], (.normal, some ⟨[litBin .add .i64 i 1, tkR w (H (Int.toNat i)), c0, c1, c2, c3, c4, c5, c6, c7, tkC w (H (Int.toNat i)), c0, c1, c2, c3, c4, c5, c6, c7], [], [n, n], [F, G, H]⟩)) := by kernel_rfl
set_option maxRecDepth 100000 in
theorem goes1 (i w c0 c1 c2 c3 c4 c5 c6 c7 : Int) (n : Nat) (F G H : Nat → Int) : (viewT tm 4 ls (tm.fill ⟨[i, w, c0, c1, c2, c3, c4, c5, c6, c7, w, c0, c1, c2, c3, c4, c5, c6, c7], [], [n, n], [F, G, H]⟩) (ev Try.prog cxr 16 400 (.code (loopAt Try.prog 16 0)) (tm.fill ⟨[i, w, c0, c1, c2, c3, c4, c5, c6, c7, w, c0, c1, c2, c3, c4, c5, c6, c7], [], [n, n], [F, G, H]⟩))).route [true, true, false, true, true, false, false, false, false, false, false, false, false, false] = some ([g0 i n, g1 i n, litCmp .eql (k3 (F (Int.toNat i))) 0, litCmp .eql (k3 (F (Int.toNat i))) 1, gg (G (Int.toNat i)), tA w w (best w (st (G (Int.toNat i)) (H (Int.toNat i)) 0 c0) (st (G (Int.toNat i)) (H (Int.toNat i)) 1 c1) (st (G (Int.toNat i)) (H (Int.toNat i)) 2 c2) (st (G (Int.toNat i)) (H (Int.toNat i)) 3 c3) (st (G (Int.toNat i)) (H (Int.toNat i)) 4 c4) (st (G (Int.toNat i)) (H (Int.toNat i)) 5 c5) (st (G (Int.toNat i)) (H (Int.toNat i)) 6 c6) (st (G (Int.toNat i)) (H (Int.toNat i)) 7 c7)) (best w (st (G (Int.toNat i)) (H (Int.toNat i)) 0 c0) (st (G (Int.toNat i)) (H (Int.toNat i)) 1 c1) (st (G (Int.toNat i)) (H (Int.toNat i)) 2 c2) (st (G (Int.toNat i)) (H (Int.toNat i)) 3 c3) (st (G (Int.toNat i)) (H (Int.toNat i)) 4 c4) (st (G (Int.toNat i)) (H (Int.toNat i)) 5 c5) (st (G (Int.toNat i)) (H (Int.toNat i)) 6 c6) (st (G (Int.toNat i)) (H (Int.toNat i)) 7 c7)), tD (st (G (Int.toNat i)) (H (Int.toNat i)) 0 c0) w (st (G (Int.toNat i)) (H (Int.toNat i)) 0 c0) w, tD (st (G (Int.toNat i)) (H (Int.toNat i)) 1 c1) w (st (G (Int.toNat i)) (H (Int.toNat i)) 1 c1) w, tD (st (G (Int.toNat i)) (H (Int.toNat i)) 2 c2) w (st (G (Int.toNat i)) (H (Int.toNat i)) 2 c2) w, tD (st (G (Int.toNat i)) (H (Int.toNat i)) 3 c3) w (st (G (Int.toNat i)) (H (Int.toNat i)) 3 c3) w, tD (st (G (Int.toNat i)) (H (Int.toNat i)) 4 c4) w (st (G (Int.toNat i)) (H (Int.toNat i)) 4 c4) w, tD (st (G (Int.toNat i)) (H (Int.toNat i)) 5 c5) w (st (G (Int.toNat i)) (H (Int.toNat i)) 5 c5) w, tD (st (G (Int.toNat i)) (H (Int.toNat i)) 6 c6) w (st (G (Int.toNat i)) (H (Int.toNat i)) 6 c6) w, tD (st (G (Int.toNat i)) (H (Int.toNat i)) 7 c7) w (st (G (Int.toNat i)) (H (Int.toNat i)) 7 c7) w], (.normal, some ⟨[litBin .add .i64 i 1, w, (st (G (Int.toNat i)) (H (Int.toNat i)) 0 c0), (st (G (Int.toNat i)) (H (Int.toNat i)) 1 c1), (st (G (Int.toNat i)) (H (Int.toNat i)) 2 c2), (st (G (Int.toNat i)) (H (Int.toNat i)) 3 c3), (st (G (Int.toNat i)) (H (Int.toNat i)) 4 c4), (st (G (Int.toNat i)) (H (Int.toNat i)) 5 c5), (st (G (Int.toNat i)) (H (Int.toNat i)) 6 c6), (st (G (Int.toNat i)) (H (Int.toNat i)) 7 c7), w, (st (G (Int.toNat i)) (H (Int.toNat i)) 0 c0), (st (G (Int.toNat i)) (H (Int.toNat i)) 1 c1), (st (G (Int.toNat i)) (H (Int.toNat i)) 2 c2), (st (G (Int.toNat i)) (H (Int.toNat i)) 3 c3), (st (G (Int.toNat i)) (H (Int.toNat i)) 4 c4), (st (G (Int.toNat i)) (H (Int.toNat i)) 5 c5), (st (G (Int.toNat i)) (H (Int.toNat i)) 6 c6), (st (G (Int.toNat i)) (H (Int.toNat i)) 7 c7)], [], [n, n], [F, G, H]⟩)) := by kernel_rfl
set_option maxRecDepth 100000 in
theorem goes2 (i w c0 c1 c2 c3 c4 c5 c6 c7 : Int) (n : Nat) (F G H : Nat → Int) : (viewT tm 4 ls (tm.fill ⟨[i, w, c0, c1, c2, c3, c4, c5, c6, c7, w, c0, c1, c2, c3, c4, c5, c6, c7], [], [n, n], [F, G, H]⟩) (ev Try.prog cxr 16 400 (.code (loopAt Try.prog 16 0)) (tm.fill ⟨[i, w, c0, c1, c2, c3, c4, c5, c6, c7, w, c0, c1, c2, c3, c4, c5, c6, c7], [], [n, n], [F, G, H]⟩))).route [true, true, false, false, true, false, false, false, false, false, false, false, false, false] = some ([g0 i n, g1 i n, litCmp .eql (k3 (F (Int.toNat i))) 0, litCmp .eql (k3 (F (Int.toNat i))) 1, litCmp .eql (k3 (F (Int.toNat i))) 2, tA w w (best w c0 c1 c2 c3 c4 c5 c6 c7) (best w c0 c1 c2 c3 c4 c5 c6 c7), tD c0 w c0 w, tD c1 w c1 w, tD c2 w c2 w, tD c3 w c3 w, tD c4 w c4 w, tD c5 w c5 w, tD c6 w c6 w, tD c7 w c7 w], (.normal, some ⟨[litBin .add .i64 i 1, w, c0, c1, c2, c3, c4, c5, c6, c7, w, c0, c1, c2, c3, c4, c5, c6, c7], [], [n, n], [F, G, H]⟩)) := by kernel_rfl
set_option maxRecDepth 100000 in
theorem ends (i w c0 c1 c2 c3 c4 c5 c6 c7 : Int) (n : Nat) (F G H : Nat → Int) : (viewT tm 4 ls (tm.fill ⟨[i, w, c0, c1, c2, c3, c4, c5, c6, c7, w, c0, c1, c2, c3, c4, c5, c6, c7], [], [n, n], [F, G, H]⟩) (ev Try.prog cxr 16 400 (.code (loopAt Try.prog 16 0)) (tm.fill ⟨[i, w, c0, c1, c2, c3, c4, c5, c6, c7, w, c0, c1, c2, c3, c4, c5, c6, c7], [], [n, n], [F, G, H]⟩))).route [false] = some ([g0 i n], (.exit 0, some ⟨[i, w, c0, c1, c2, c3, c4, c5, c6, c7, w, c0, c1, c2, c3, c4, c5, c6, c7], [], [n, n], [F, G, H]⟩)) := by kernel_rfl

theorem eql_s (x : Int) : litCmp .eql x x = true := by rw [eql_eq]; exact decide_eq_true rfl
theorem neq_s (x : Int) : litCmp .neq x x = false := by rw [neq_eq, decide_eq_true rfl]; rfl
theorem tA_s (w a : Int) : tA w w a a = false := by
  unfold tA
  rw [neq_s, neq_s]
  cases nextB a <;> rfl
theorem tD_s (c w : Int) : tD c w c w = false := by
  unfold tD
  rw [neq_eq, eql_eq]
  cases decide (c = 18446744073709551615) <;> cases litCmp .leq c w <;> rfl
theorem tk_eq {w h : Int} (hw : 0 ≤ w ∧ w < 18446744073709551616) (hh : 0 ≤ h ∧ h < 18446744073709551616) : tkR w h = tkC w h ∧ 0 ≤ tkC w h ∧ tkC w h < 18446744073709551616 := by
  unfold tkR tkC
  rw [gtr_eq, lss_eq, sub_eq]
  by_cases e : (18446744073709551615 - w) % 18446744073709551616 < h
  · rw [decide_eq_true e, cond_true, cond_true, add_eq]
    omega
  · rw [decide_eq_false e, cond_false, cond_false, add_eq]
    omega
theorem gg_t (g : Int) : gg g = true := by
  unfold gg inG
  rw [geq_eq, lss_eq]
  by_cases h1 : 0 ≤ g
  · by_cases h2 : g < 8
    · rw [decide_eq_true h1, decide_eq_true h2, decide_eq_true (show 0 ≤ g ∧ g < ((8 : Nat) : Int) by omega), decide_eq_true (show g.toNat < 8 by omega)]
      rfl
    · rw [decide_eq_true h1, decide_eq_false h2]
      rfl
  · rw [decide_eq_false h1]
    rfl
theorem k3_in {f : Int} (h : 0 ≤ f) : k3 f = 0 ∨ k3 f = 1 ∨ k3 f = 2 := by
  have : k3 f = f.tmod 3 := rfl
  rw [this, Int.tmod_eq_emod_of_nonneg h]
  omega

structure Rg (n : Nat) (F H : Nat → Int) : Prop where
  hF : ∀ j, j < n → 0 ≤ F j
  hH : ∀ j, j < n → 0 ≤ H j ∧ H j < 18446744073709551616
def I (e0 e : Env DC) : Prop := ∃ (i w c0 c1 c2 c3 c4 c5 c6 c7 : Int) (n : Nat) (F G H : Nat → Int), e = ⟨[i, w, c0, c1, c2, c3, c4, c5, c6, c7, w, c0, c1, c2, c3, c4, c5, c6, c7], [], [n, n], [F, G, H]⟩ ∧ (0 ≤ i ∧ i ≤ 60) ∧ (0 ≤ w ∧ w < 18446744073709551616) ∧ Rg n F H
noncomputable def ask (e : Env DC) : Bool := yes (I e e)
noncomputable def X : Cx DC := cxr.block 16 0 (loopSum (D := DC) tm tm' 4 [0, 1, 2, 3, 2] ask)

theorem round (e0 e : Env DC) (h : I e0 e) : RoundT (I e0) (fun e => (61 - (e.i.getD 0 0)).toNat) (I e0) 0 e (viewT tm 4 ls (tm.fill e) (ev Try.prog cxr 16 400 (.code (loopAt Try.prog 16 0)) (tm.fill e))) := by
  obtain ⟨i, w, c0, c1, c2, c3, c4, c5, c6, c7, n, F, G, H, rfl, hi, hw, hR⟩ := h
  by_cases hg : i < n ∧ i < 60
  · have b0 : g0 i n = true := by
      unfold g0
      rw [lss_eq, lss_eq, decide_eq_true hg.1, decide_eq_true hg.2]
      rfl
    have hin : i.toNat < n := by omega
    have b1 : g1 i n = true := by
      unfold g1
      rw [decide_eq_true (show 0 ≤ i ∧ i < ((n : Nat) : Int) from ⟨hi.1, hg.1⟩), decide_eq_true hin]
      rfl
    have hadd : litBin .add .i64 i 1 = i + 1 := by
      show IntKind.i64.wrap (i + 1) = _
      simp [IntKind.wrap, IntKind.signed, IntKind.bits]
      omega
    obtain ⟨t1, t2⟩ := tk_eq hw (hR.hH i.toNat hin)
    have hm : (61 - litBin .add .i64 i 1).toNat < (61 - i).toNat := by rw [hadd]; omega
    have hi' : 0 ≤ litBin .add .i64 i 1 ∧ litBin .add .i64 i 1 ≤ 60 := by rw [hadd]; omega
    rcases k3_in (hR.hF i.toNat hin) with hk | hk | hk
    · have e0 : litCmp .eql (k3 (F i.toNat)) 0 = true := by rw [hk]; rfl
      refine ⟨_, _, route_at (goes0 i w c0 c1 c2 c3 c4 c5 c6 c7 n F G H) ?_, .inl ⟨rfl, _, rfl, ⟨litBin .add .i64 i 1, tkC w (H i.toNat), c0, c1, c2, c3, c4, c5, c6, c7, n, F, G, H, by rw [t1], hi', ?_, hR⟩, hm⟩⟩
      · rw [b0, b1, e0, t1, tA_s, tD_s, tD_s, tD_s, tD_s, tD_s, tD_s, tD_s, tD_s]
      · exact t2
    · have e0 : litCmp .eql (k3 (F i.toNat)) 0 = false := by rw [hk]; rfl
      have e1 : litCmp .eql (k3 (F i.toNat)) 1 = true := by rw [hk]; rfl
      refine ⟨_, _, route_at (goes1 i w c0 c1 c2 c3 c4 c5 c6 c7 n F G H) ?_, .inl ⟨rfl, _, rfl, ⟨_, _, _, _, _, _, _, _, _, _, n, F, G, H, rfl, hi', hw, hR⟩, hm⟩⟩
      rw [b0, b1, e0, e1, gg_t, tA_s, tD_s, tD_s, tD_s, tD_s, tD_s, tD_s, tD_s, tD_s]
    · have e0 : litCmp .eql (k3 (F i.toNat)) 0 = false := by rw [hk]; rfl
      have e1 : litCmp .eql (k3 (F i.toNat)) 1 = false := by rw [hk]; rfl
      have e2 : litCmp .eql (k3 (F i.toNat)) 2 = true := by rw [hk]; rfl
      refine ⟨_, _, route_at (goes2 i w c0 c1 c2 c3 c4 c5 c6 c7 n F G H) ?_, .inl ⟨rfl, _, rfl, ⟨_, _, _, _, _, _, _, _, _, _, n, F, G, H, rfl, hi', hw, hR⟩, hm⟩⟩
      rw [b0, b1, e0, e1, e2, tA_s, tD_s, tD_s, tD_s, tD_s, tD_s, tD_s, tD_s, tD_s]
  · have b0 : g0 i n = false := by
      unfold g0
      rw [lss_eq, lss_eq]
      by_cases h1 : i < n
      · rw [decide_eq_true h1, decide_eq_false (fun h => hg ⟨h1, h⟩)]
        rfl
      · rw [decide_eq_false h1]
        rfl
    exact ⟨_, _, route_at (ends i w c0 c1 c2 c3 c4 c5 c6 c7 n F G H) (by rw [b0]), .inr ⟨rfl, _, rfl, i, w, c0, c1, c2, c3, c4, c5, c6, c7, n, F, G, H, rfl, hi, hw, hR⟩⟩

theorem X_ok : Ok Try.prog X := by
  refine cxr_ok.block (by kernel_rfl) fun hw s r hr => loopSum_ok (I := I) (m := fun _ e => (61 - (e.i.getD 0 0)).toNat) (Fin := I) cxr_ok (fun e he => of_yes he) round ?_ hw s r hr
  rintro e0 e1 ⟨i, w, c0, c1, c2, c3, c4, c5, c6, c7, n, F, G, H, rfl, _⟩
  kernel_rfl

set_option maxRecDepth 100000 in
/-- The whole law. -/
theorem road (n : Nat) (F G H : Nat → Int) : ((call Try.prog X 400 16 [.slice 0 (.lit 0) (.rc n 1 0) .any] [.rows 0 n [(.int .u8, F), (.int .i64, G), (.int .u64, H)]]).route [true]).map (fun p => (p.1, p.2.1)) =
    some ([ask ⟨[0, 0, 18446744073709551615, 18446744073709551615, 18446744073709551615, 18446744073709551615, 18446744073709551615, 18446744073709551615, 18446744073709551615, 18446744073709551615, 0, 18446744073709551615, 18446744073709551615, 18446744073709551615, 18446744073709551615, 18446744073709551615, 18446744073709551615, 18446744073709551615, 18446744073709551615], [], [n, n], [F, G, H]⟩], .val (.bool (.lit true))) := by kernel_rfl

theorem run : ∀ xs h, Abs [.rows [.int .u8, .int .i64, .int .u64]] 0 xs h → ∃ b l, (call Try.prog X 400 16 xs h).pick = some (.val (.bool b), l) ∧ b.den = true := by
  rintro xs h ⟨n, fs, as3, h3, rfl, rfl, hrow, rfl, rfl⟩
  obtain ⟨hn, hlen, hF⟩ := hrow
  match fs, hlen with
  | [F, G, H], _ =>
    refine (road_at (road n F G H) ?_).elim fun l hl => ⟨.lit true, l, hl, rfl⟩
    rw [show ask ⟨[0, 0, 18446744073709551615, 18446744073709551615, 18446744073709551615, 18446744073709551615, 18446744073709551615, 18446744073709551615, 18446744073709551615, 18446744073709551615, 0, 18446744073709551615, 18446744073709551615, 18446744073709551615, 18446744073709551615, 18446744073709551615, 18446744073709551615, 18446744073709551615, 18446744073709551615], [], [n, n], [F, G, H]⟩ = true from yes_of ⟨0, 0, 18446744073709551615, 18446744073709551615, 18446744073709551615, 18446744073709551615, 18446744073709551615, 18446744073709551615, 18446744073709551615, 18446744073709551615, n, F, G, H, rfl, by omega, by omega, ⟨fun j hj => ?_, fun j hj => ?_⟩⟩]
    · have := hF 0 .u8 F rfl rfl j hj
      simp [Lit.wf, IntKind.min, IntKind.max, IntKind.signed, IntKind.bits] at this
      omega
    · exact wf64 (hF 2 .u64 H rfl rfl j hj)

set_option maxRecDepth 100000 in
theorem lifted (os : Os) (started : os.Started) (H : Type) (enc : TypeId × Value → H) :
    ReturnsInHanded {} Try.checked os 16 .any (Rows.timerPlaysSpec.pre6 enc Try.prog Try.f16 Rows.timerPlaysRow.domain false) (Rows.timerPlaysSpec.post enc Try.prog Try.f16 false true false false) := by
  refine returnsInHanded_of_change (C := Try.checked) own started (by kernel_rfl) Try.func16
    (ChangeSpec.witness6 (enc := enc) (C := Try.checked) false ⟨#[], #[.slice none 0 0], []⟩ 8 (by kernel_rfl) (by kernel_rfl) (by kernel_rfl) (by kernel_rfl)) ?_
  intro W base args ds gs before hval hW _ _
  exact lifted_rows (P := Try.prog) (f := 16) (fn := Try.f16) (s := Rows.timerPlaysSpec) X_ok (n := 400) rfl
    (fun ds h => by
      match ds, h with
      | [d1], _ => rfl)
    (by kernel_rfl) rfl (by kernel_rfl) (by kernel_rfl) (by kernel_rfl) run W base args ds gs before hval hW

theorem over : Rows.timerPlaysRow.holds Try.pinned (OpenSpec.ofChange Rows.timerPlaysSpec) :=
  OpenClaim.holds_of_wide 16 Try.f16 rfl rfl rfl rfl rfl rfl rfl ⟨rfl, rfl, rfl, rfl, rfl⟩ rfl rfl rfl rfl rfl (by kernel_rfl) Try.func16 (by kernel_rfl)
    (of_decide_eq_true (by kernel_rfl)) (by unfold Func.isWrapper; first | (rw [if_pos (by decide +kernel)]; kernel_rfl) | (rw [if_neg (by decide +kernel)]; exact ⟨rfl, rfl⟩))
    (fun os started H enc _ => lifted os started H enc)

/-- The statement. -/
theorem proved : Rows.TimerPlaysSaid :=
  over
#print axioms proved
end Go.Proofs.Ytbjlkapfpcmjfaa.TimerPlays
