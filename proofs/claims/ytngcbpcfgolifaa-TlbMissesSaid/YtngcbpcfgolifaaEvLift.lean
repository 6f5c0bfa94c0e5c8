/- A law of plain arguments that returns true in every call stands in its row. Conditions: none. -/
import Derived.Test.YtngcbpcfgolifaaEvPlain
import Derived.Test.YtngcbpcfgolifaaEvCtx
import Derived.ProofKit
import Derived.OpenShut
import Derived.Below
import Derived.ChangeSame
namespace Go.Proofs.Ytngcbpcfgolifaa.Ev
open Go.RowKit Go.WideShapes Go.ChangeShapes Go.ChangeAt
set_option linter.unusedVariables false
set_option linter.unusedSimpArgs false

section
variable {H : Type} {enc : TypeId × Value → H} {P : Program}
theorem post_of_below {f : Func} {s : ChangeSpec} {apart fresh handsOn again : Bool} {W W' : World} {args : Array Value} {v : Value} {ds gs : List (DataW H)} {before pa pv : List MemPlace}
    (hW : DataW.Whole enc P f.params.toList s.vars apart W args.toList ds gs before)
    (hres : ∀ (b : Nat) (sp : Nat → Bool) (hd : Bool), DataW.TrodAll enc P W' b sp hd f.resultTypes.toList (v.resultList f.resultTypes.size) (s.fn H (ds ++ gs)).results [])
    (hargs : ∀ sp : Nat → Bool, (∀ p ∈ before, sp p.block = true) → DataW.TrodAll enc P W' 0 sp true f.params.toList args.toList (s.fn H (ds ++ gs)).args pa)
    (hvars : ∀ sp : Nat → Bool, (∀ p ∈ before, sp p.block = true) → DataW.TrodVars enc P W' sp s.vars (s.fn H (ds ++ gs)).vars pv)
    (hps : before = pa ++ pv) (hb : Below W.heap.size W W')
    (hok : ∀ (j : Nat) (t : TypeId) (r : Value), f.resultTypes[j]? = some t → (v.resultList f.resultTypes.size)[j]? = some r → Value.okWide P W' .any 0 t r) :
    s.post enc P f apart fresh handsOn again W args v W' := by
  have hlt : ∀ p ∈ before, p.block < W.heap.size := fun p hp => hW.lt p hp
  have hold : ∀ p ∈ before, (fun b => decide (b < W.heap.size)) p.block = true := fun p hp => by simpa using hlt p hp
  refine ⟨ds, gs, before, [], pa, pv, hW, hres _ _ _, hargs _ hold, hvars _ hold, World.keptBut_mono (fun p hp => ⟨hp, ?_⟩) (hb.frame (· ∈ before)), fun _ => ?_⟩
  · rw [hps, List.mem_append] at hp
    exact Or.inr hp
  · obtain ⟨_, _, _, _, _, hz, hn⟩ := hW
    refine ⟨hok, _, _, ([] ++ pa) ++ pv, ⟨[] ++ pa, pv, trodAll_append (hargs _ (fun _ _ => rfl)) (hres _ _ _), hvars _ (fun _ _ => rfl), rfl, ?_, ?_⟩, ?_⟩
    · intro b off hp
      have hin : MemPlace.cell b off ∈ before := by rw [hps]; simpa using hp
      rw [hb.frozen (hlt _ hin)]
      exact hz b off hin
    · intro ha
      have := hn ha
      rw [hps] at this
      simpa using this
    · intro p hp _
      rw [hps]
      simpa using hp
end

/-- The kind of a plain argument. -/
inductive PA where
  | one (k : LK)
  | agg (ks : List LK)

def PA.ok : PA → Value → Prop
  | .one k, v => k.ok v
  | .agg ks, v => ∃ cs : List Value, v = .agg cs.toArray ∧ CellsOk ks cs

def ArgsOk : List PA → List Value → Prop
  | [], vs => vs = []
  | k :: ks, vs => ∃ v vs', vs = v :: vs' ∧ k.ok v ∧ ArgsOk ks vs'

def kindOf (P : Program) (t : TypeId) : Option PA := match P.underlying t with
  | some (.int k) => some (.one (.int k))
  | some .bool => some (.one .bool)
  | some (.struct _) => (plainK P 20 t).map .agg
  | some (.array _ _) => (plainK P 20 t).map .agg
  | _ => none
def kindsOf (P : Program) : List TypeId → Option (List PA)
  | [] => some []
  | t :: ts => match kindOf P t, kindsOf P ts with
    | some k, some ks => some (k :: ks)
    | _, _ => none

/-- What a cell, and a plain argument, is to the evaluator. -/
def absC : Value → AV DC
  | .int k n => .int k (.sym n)
  | .bool b => .bool (.sym b)
  | _ => .dead
def absV : Value → AV DC
  | .agg cs => .agg (cs.toList.map absC)
  | v => absC v

theorem absC_rel {ρ : List Rb} (v : Value) : VRel ρ (absC v) v := by
  cases v <;> simp [absC, VRel] <;> rfl
theorem absCs_rel {ρ : List Rb} : ∀ vs : List Value, VRels ρ (vs.map absC) vs
  | [] => rfl
  | v :: vs => ⟨v, vs, rfl, absC_rel v, absCs_rel vs⟩
theorem absV_rel {ρ : List Rb} (v : Value) : VRel ρ (absV v) v := by
  cases v with
  | agg cs => exact ⟨cs, rfl, absCs_rel _⟩
  | _ => simp only [absV]; exact absC_rel _
theorem absVs_rel {ρ : List Rb} : ∀ vs : List Value, VRels ρ (vs.map absV) vs
  | [] => rfl
  | v :: vs => ⟨v, vs, rfl, absV_rel v, absVs_rel vs⟩

section
variable {H : Type} {enc : TypeId × Value → H} {P : Program}

theorem plain_agg {w : World} {b : Nat} {sp : Nat → Bool} {held : Bool} {t : TypeId} {cs : Array Value} {d : DataW H} {p : List MemPlace} {pk : PA} (hk : (plainK P 20 t).map PA.agg = some pk) (hd : DataW.Trod enc P w b sp held t (.agg cs) d p) :
    p = [] ∧ pk.ok (.agg cs) ∧ ∀ (w' : World) (b' : Nat) (sp' : Nat → Bool) (held' : Bool), DataW.Trod enc P w' b' sp' held' t (.agg cs) d [] := by
  obtain ⟨ks, hks, rfl⟩ := Option.map_eq_some_iff.1 hk
  obtain ⟨fuel, hf⟩ := hd
  obtain ⟨h1, h2, h3⟩ := plain_open 20 fuel t ks hks _ _ hf
  refine ⟨h2, ⟨cs.toList, by simp, h1⟩, fun w' b' sp' held' => ⟨fuel, ?_⟩⟩
  rw [h3 w' b' sp' held']
  simp only [] at h2
  rw [h2]

theorem arg_open {w : World} {base b : Nat} {sp : Nat → Bool} {held : Bool} {t : TypeId} {v : Value} {d : DataW H} {p : List MemPlace} {pk : PA} (hk : kindOf P t = some pk) (hval : Value.okWide P w .any base t v) (hd : DataW.Trod enc P w b sp held t v d p) :
    p = [] ∧ pk.ok v ∧ ∀ (w' : World) (b' : Nat) (sp' : Nat → Bool) (held' : Bool), DataW.Trod enc P w' b' sp' held' t v d [] := by
  unfold kindOf at hk
  cases hu : P.underlying t with
  | none => rw [hu] at hk; cases hk
  | some T =>
    rw [hu] at hk
    cases T <;> simp only [] at hk <;> first | (cases hk; done) | skip
    · cases hk
      obtain ⟨n, rfl, rfl, rfl⟩ := open_bool hu hval hd
      exact ⟨rfl, ⟨n, rfl⟩, fun _ _ _ _ => shut_bool hu n⟩
    · cases hk
      obtain ⟨n, rfl, rfl, rfl, hw⟩ := open_int hu hval hd
      exact ⟨rfl, ⟨n, rfl, hw⟩, fun _ _ _ _ => shut_int hu hw⟩
    · unfold Value.okWide at hval
      rw [hu] at hval
      obtain ⟨cs, rfl, _⟩ := hval
      exact plain_agg hk hd
    · unfold Value.okWide at hval
      rw [hu] at hval
      obtain ⟨cs, rfl, _⟩ := hval
      exact plain_agg hk hd

theorem args_open {w : World} {base b : Nat} {sp : Nat → Bool} {held : Bool} : ∀ (ts : List TypeId) (ks : List PA), kindsOf P ts = some ks → ∀ (vs : List Value) (ds : List (DataW H)) (p : List MemPlace),
    (∀ (j : Nat) t v, ts[j]? = some t → vs[j]? = some v → Value.okWide P w .any base t v) → DataW.TrodAll enc P w b sp held ts vs ds p →
    p = [] ∧ ArgsOk ks vs ∧ ds.length = ts.length ∧ ∀ (w' : World) (b' : Nat) (sp' : Nat → Bool) (held' : Bool), DataW.TrodAll enc P w' b' sp' held' ts vs ds []
  | [], ks, hk, vs, ds, p, hval, hA => by
    obtain ⟨rfl, rfl, rfl⟩ := trodAll_nil hA
    cases hk
    exact ⟨rfl, rfl, rfl, fun _ _ _ _ => rfl⟩
  | t :: ts, ks, hk, vs, ds, p, hval, hA => by
    obtain ⟨v, vs', d, ds', p1, q1, rfl, rfl, rfl, h0, r0⟩ := trodAll_cons hA
    unfold kindsOf at hk
    split at hk
    · rename_i k ks' h1 h2
      cases hk
      obtain ⟨rfl, g2, g3⟩ := arg_open h1 (hval 0 t v rfl rfl) h0
      obtain ⟨rfl, g5, g6, g7⟩ := args_open ts ks' h2 vs' ds' q1 (fun j t' v' e1 e2 => hval (j + 1) t' v' e1 e2) r0
      exact ⟨rfl, ⟨v, vs', rfl, g2, g5⟩, by simp [g6], fun w' b' sp' held' => trodAll_cons_mk (p := []) (p' := []) (g3 w' b' sp' held') (g7 w' b' sp' held')⟩
    · cases hk
end

/-- A law whose formula is true returns true. -/
theorem law_true {P : Program} {X : Cx DC} (hX : Ok P X) {n : Nat} {f : FuncId} {vs : List Value} {b : Bool} (hr : (call P X n f (vs.map absV) []).pick.map (·.1) = some (.val (.bool (.sym b)))) (hb : b = true) (w : World) (hpn : Pin w [] := by first | assumption | exact fun _ _ h => absurd h (by simp [pins])) :
    Calls P f vs.toArray w fun e w' => e = .returned (.bool true) ∧ Below w.heap.size w w' := by
  obtain ⟨⟨v, l⟩, h1, h2⟩ := Option.map_eq_some_iff.1 hr
  simp only [] at h2
  subst h2
  refine (law_sound hX h1 (vals := vs.toArray) (absVs_rel vs) w).mono fun e w' hp => ?_
  obtain ⟨u, ρ, e1, e2, e3⟩ := hp
  have e2' : u = .bool b := e2
  rw [e1, e2', hb]
  exact ⟨rfl, e3⟩

/-- The row's step of a law of plain arguments. -/
theorem lifted_plain {P : Program} {H : Type} {enc : TypeId × Value → H} {f : FuncId} {fn : Func} {s : ChangeSpec} {apart : Bool} {ks : List PA} {tb : TypeId}
    (hs : s.vars = []) (hn : ∀ ds : List (DataW H), ds.length = fn.params.toList.length → s.fn H ds = { results := [.lit (.bool true)], args := ds })
    (hk : kindsOf P fn.params.toList = some ks) (hr : fn.resultTypes = #[tb]) (ht : P.underlying tb = some .bool)
    (run : ∀ vs, ArgsOk ks vs → ∀ w, Calls P f vs.toArray w fun e w' => e = .returned (.bool true) ∧ Below w.heap.size w w') :
    ∀ W base (args : Array Value) ds gs before, (∀ (j : Nat) t v, fn.params[j]? = some t → args[j]? = some v → Value.okWide P W .any base t v) → DataW.Whole enc P fn.params.toList s.vars apart W args.toList ds gs before →
      Calls P f args W fun e W' => ∃ v, e = .returned v ∧ s.post enc P fn apart true false false W args v W' := by
  intro W base args ds gs before hval hW
  have hW' := hW
  obtain ⟨p, q, hA0, hV, rfl, hfz, hnd⟩ := hW
  rw [hs] at hV
  obtain ⟨rfl, rfl⟩ := trodVars_none hV
  obtain ⟨rfl, h2, h3, h4⟩ := args_open fn.params.toList ks hk args.toList ds p (fun j t v e1 e2 => hval j t v (by simpa using e1) (by simpa using e2)) hA0
  refine (run args.toList h2 W).mono fun e W' hp => ?_
  obtain ⟨he, hb⟩ := hp
  refine ⟨_, he, ?_⟩
  have hd : s.fn H (ds ++ []) = { results := [.lit (.bool true)], args := ds } := by rw [List.append_nil]; exact hn ds h3
  refine post_of_below (pa := []) (pv := []) hW' (fun b sp hd' => ?_) (fun sp _ => ?_) (fun sp _ => ?_) rfl hb ?_
  · rw [hd, hr]
    exact trodAll_cons_mk (p := []) (p' := []) (shut_bool ht _) rfl
  · rw [hd]
    exact h4 _ _ _ _
  · rw [hd, hs]
    rfl
  · exact ok_one hr rfl (okWide_bool_mk ht _)
end Go.Proofs.Ytngcbpcfgolifaa.Ev
