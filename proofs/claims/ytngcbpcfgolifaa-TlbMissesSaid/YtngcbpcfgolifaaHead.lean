/- The words at the program's head, reckoned once. Conditions: none. -/
import Derived.Test.YtngcbpcfgolifaaChecked
import Derived.Test.YtngcbpcfgolifaaRows
import Derived.JoinedOf
namespace Go.Proofs.Ytngcbpcfgolifaa.Ev
open Go
set_option maxRecDepth 100000
def joinH : List (List Nat) → List Nat
  | [] => []
  | [w] => w
  | w :: u :: ws => w ++ 32 :: joinH (u :: ws)
theorem fine_code {c : Nat} (h : (Nat.blt c 128 && !(Nat.beq c 32)) = true) : Char.ofNat c ≠ Char.ofNat 32 := by
  simp only [Bool.and_eq_true] at h
  have hc : c < 128 := Nat.le_of_ble_eq_true h.1
  have hall : (List.range 128).all (fun c => Nat.beq c 32 || (Char.ofNat c != Char.ofNat 32)) = true := by decide +kernel
  have := List.all_eq_true.1 hall c (List.mem_range.2 hc)
  rw [Bool.or_eq_true] at this
  rcases this with h1 | h1
  · rw [h1] at h
    exact absurd h.2 (by decide)
  · exact bne_iff_ne.1 h1
theorem words_cons {c : Char} {l : List Char} (hc : c ≠ Char.ofNat 32) {w : List Char} {ws : List (List Char)} (h : wordsSigns l = w :: ws) : wordsSigns (c :: l) = (c :: w) :: ws := by
  have e : wordsSigns (c :: l) = match wordsSigns l with
    | w :: ws => (c :: w) :: ws
    | [] => [[c]] := by
    rw [wordsSigns] <;> first | rfl | exact fun h => hc h
  rw [e, h]
theorem words_sp (l : List Char) : wordsSigns (Char.ofNat 32 :: l) = [] :: wordsSigns l := rfl
theorem words_one : ∀ (w : List Nat), (w.all fun c => Nat.blt c 128 && !(Nat.beq c 32)) = true → ∀ (l : List Char) (v : List Char) (vs : List (List Char)), wordsSigns l = v :: vs → wordsSigns (w.map Char.ofNat ++ l) = (w.map Char.ofNat ++ v) :: vs
  | [], _, l, v, vs, h => h
  | c :: w, hw, l, v, vs, h => by
    rw [List.all_cons, Bool.and_eq_true] at hw
    exact words_cons (fine_code hw.1) (words_one w hw.2 l v vs h)
theorem words_join : ∀ (W : List (List Nat)), W ≠ [] → (W.all fun w => w.all fun c => Nat.blt c 128 && !(Nat.beq c 32)) = true → wordsSigns ((joinH W).map Char.ofNat) = W.map (List.map Char.ofNat)
  | [], h, _ => absurd rfl h
  | [w], _, hw => by
    rw [List.all_cons, Bool.and_eq_true] at hw
    have := words_one w hw.1 [] [] [] rfl
    rw [List.append_nil] at this
    exact this
  | w :: u :: ws, _, hw => by
    rw [List.all_cons, Bool.and_eq_true] at hw
    have ih := words_join (u :: ws) (by simp) hw.2
    show wordsSigns ((w ++ 32 :: joinH (u :: ws)).map Char.ofNat) = _
    rw [List.map_append, List.map_cons]
    have := words_one w hw.1 (Char.ofNat 32 :: (joinH (u :: ws)).map Char.ofNat) [] _ (words_sp _)
    rw [this, ih, List.append_nil]
    rfl
def headW : List (List Nat) := [[104, 97, 114, 110, 101, 115, 115], [102, 98, 49, 52, 57, 53, 56, 53, 98, 57, 55, 53, 49, 101, 101, 99, 50, 48, 48, 55, 54, 55, 99, 50, 57, 55, 100, 100, 50, 101, 52, 48, 57, 97, 101, 100, 97, 55, 53, 50, 55, 51, 100, 101, 57, 55, 56, 101, 101, 97, 57, 56, 49, 53, 99, 97, 51, 55, 48, 55, 100, 54, 98, 55], [99, 117, 116], [97, 116], [115, 117, 122, 101, 114, 97, 105, 110, 47, 115, 117, 122, 101, 114, 97, 105, 110, 108, 97, 119, 49, 50, 46, 84, 108, 98, 79, 114, 100, 101, 114], [115, 117, 122, 101, 114, 97, 105, 110, 47, 115, 117, 122, 101, 114, 97, 105, 110, 108, 97, 119, 48, 50, 46, 82, 97, 109, 67, 108, 111, 110, 101, 115], [115, 117, 122, 101, 114, 97, 105, 110, 47, 115, 117, 122, 101, 114, 97, 105, 110, 108, 97, 119, 48, 50, 46, 82, 97, 109, 75, 101, 101, 112, 115], [115, 117, 122, 101, 114, 97, 105, 110, 47, 115, 117, 122, 101, 114, 97, 105, 110, 108, 97, 119, 48, 50, 46, 82, 97, 109, 66, 121, 116, 101, 115], [115, 117, 122, 101, 114, 97, 105, 110, 47, 115, 117, 122, 101, 114, 97, 105, 110, 108, 97, 119, 48, 50, 46, 82, 97, 109, 80, 108, 97, 121, 115], [115, 117, 122, 101, 114, 97, 105, 110, 47, 115, 117, 122, 101, 114, 97, 105, 110, 108, 97, 119, 49, 49, 46, 87, 97, 108, 107, 65, 108, 108], [115, 117, 122, 101, 114, 97, 105, 110, 47, 115, 117, 122, 101, 114, 97, 105, 110, 108, 97, 119, 49, 49, 46, 87, 97, 108, 107, 82, 101, 97, 100, 115], [115, 117, 122, 101, 114, 97, 105, 110, 47, 115, 117, 122, 101, 114, 97, 105, 110, 108, 97, 119, 49, 49, 46, 87, 97, 108, 107, 79, 102, 102, 115, 101, 116, 115], [115, 117, 122, 101, 114, 97, 105, 110, 47, 115, 117, 122, 101, 114, 97, 105, 110, 108, 97, 119, 49, 49, 46, 87, 97, 108, 107, 76, 101, 118, 101, 108, 115], [115, 117, 122, 101, 114, 97, 105, 110, 47, 115, 117, 122, 101, 114, 97, 105, 110, 108, 97, 119, 49, 49, 46, 87, 97, 108, 107, 77, 97, 121], [115, 117, 122, 101, 114, 97, 105, 110, 47, 115, 117, 122, 101, 114, 97, 105, 110, 108, 97, 119, 49, 50, 46, 84, 108, 98, 77, 105, 115, 115, 101, 115], [115, 117, 122, 101, 114, 97, 105, 110, 47, 115, 117, 122, 101, 114, 97, 105, 110, 108, 97, 119, 49, 50, 46, 84, 108, 98, 87, 97, 108, 107, 115], [115, 117, 122, 101, 114, 97, 105, 110, 47, 115, 117, 122, 101, 114, 97, 105, 110, 108, 97, 119, 49, 50, 46, 84, 108, 98, 80, 108, 97, 121, 115], [115, 117, 122, 101, 114, 97, 105, 110, 47, 115, 117, 122, 101, 114, 97, 105, 110, 108, 97, 119, 49, 50, 46, 84, 108, 98, 70, 101, 110, 99, 101, 115], [115, 117, 122, 101, 114, 97, 105, 110, 47, 115, 117, 122, 101, 114, 97, 105, 110, 108, 97, 119, 49, 51, 46, 83, 112, 97, 99, 101, 66, 121, 116, 101, 115], [115, 117, 122, 101, 114, 97, 105, 110, 47, 115, 117, 122, 101, 114, 97, 105, 110, 108, 97, 119, 49, 51, 46, 83, 112, 97, 99, 101, 65, 108, 105, 103, 110, 101, 100], [115, 117, 122, 101, 114, 97, 105, 110, 47, 115, 117, 122, 101, 114, 97, 105, 110, 108, 97, 119, 49, 51, 46, 83, 112, 97, 99, 101, 83, 116, 111, 114, 101, 115], [115, 117, 122, 101, 114, 97, 105, 110, 47, 115, 117, 122, 101, 114, 97, 105, 110, 108, 97, 119, 49, 51, 46, 83, 112, 97, 99, 101, 70, 101, 116, 99, 104, 101, 115], [115, 117, 122, 101, 114, 97, 105, 110, 47, 115, 117, 122, 101, 114, 97, 105, 110, 108, 97, 119, 49, 51, 46, 83, 112, 97, 99, 101, 80, 108, 97, 121, 115], [115, 117, 122, 101, 114, 97, 105, 110, 47, 115, 117, 122, 101, 114, 97, 105, 110, 108, 97, 119, 49, 51, 46, 83, 112, 97, 99, 101, 75, 101, 101, 112, 115]]
theorem head_eq : Try.prog.initOrder = String.ofList ((joinH headW).map Char.ofNat) := by kernel_rfl
theorem head_list : wordsSigns Try.prog.initOrder.toList = headW.map (List.map Char.ofNat) := by
  rw [head_eq, String.toList_ofList]
  exact words_join headW (by unfold headW; exact List.cons_ne_nil _ _) (by decide +kernel)
theorem strip_no : ∀ (L : List String) (w : List Char) (ws : List (List Char)), (L.all fun o => o.toList != w) = true → stripLifts L (w :: ws) = ([], w :: ws)
  | [], _, _, _ => rfl
  | o :: os, w, ws, h => by
    rw [List.all_cons, Bool.and_eq_true] at h
    unfold stripLifts
    rw [if_neg (by have := bne_iff_ne.1 h.1; intro e; exact this (eq_of_beq e).symm)]
    exact strip_no os w ws h.2
theorem headIs : behindMainWord (wordsSigns Try.prog.initOrder.toList) = "cut".toList :: (headW.drop 3).map (List.map Char.ofNat) := by
  rw [head_list]
  kernel_rfl
theorem strip_all : (liftWords.all fun o => o.toList != "cut".toList) = true := by kernel_rfl
theorem cut_gc : ("cut".toList == "gc".toList) = false := by kernel_rfl
theorem cut_spec : ("cut".toList == "spec".toList) = false := by kernel_rfl
theorem cut_carried : ("cut".toList == "carried".toList) = false := by kernel_rfl
theorem make_of {P : Program} {rest : List (List Char)} (h : behindMainWord (wordsSigns P.initOrder.toList) = "cut".toList :: rest) : P.make = some .cut := by
  unfold Program.make
  rw [h]
  dsimp only
  rw [cut_gc, cut_spec, beq_self_eq_true]
  rfl
theorem lifts_of {P : Program} {rest : List (List Char)} (h : behindMainWord (wordsSigns P.initOrder.toList) = "cut".toList :: rest) : P.headLifts = [] := by
  unfold Program.headLifts
  rw [h]
  dsimp only
  rw [strip_no _ _ _ strip_all]
  simp
theorem final_of {P : Program} {rest : List (List Char)} (h : behindMainWord (wordsSigns P.initOrder.toList) = "cut".toList :: rest) : P.liftsFinal = false := by
  unfold Program.liftsFinal
  rw [lifts_of h, h]
  simp only [List.head?_cons, Option.some_beq_some, cut_carried, Bool.false_and, List.contains_nil, Bool.or_false]
theorem enter_of {P : Program} {rest : List (List Char)} (h : behindMainWord (wordsSigns P.initOrder.toList) = "cut".toList :: rest) (d1 : P.laysLater = false) (d2 : P.bearsReflect = false) (d3 : P.doorFits [] = true) : P.mayEnter = true := by
  unfold Program.mayEnter
  rw [h]
  dsimp only
  rw [strip_no _ _ _ strip_all, d1, d2]
  dsimp only
  rw [d3]
  simp
theorem make_cut : Try.prog.make = some .cut := make_of headIs
theorem lifts_final : Try.prog.liftsFinal = false := final_of headIs
theorem lays_later : Try.prog.laysLater = false := by kernel_rfl
theorem bears_reflect : Try.prog.bearsReflect = false := by kernel_rfl
theorem door_fits : Try.prog.doorFits [] = true := by kernel_rfl
theorem may_enter : Try.prog.mayEnter = true := enter_of headIs lays_later bears_reflect door_fits
end Go.Proofs.Ytngcbpcfgolifaa.Ev
