/- Walks of the code and of the reference, as the same terms. Conditions: none. -/
import Derived.Test.YtngcbpcfgolifaaPteSums
namespace Go.Proofs.Ytngcbpcfgolifaa.Ev
open Go.RowKit
set_option linter.unusedVariables false
set_option linter.unusedSimpArgs false

def np (satp : Int) : Bool := !(litCmp .eql (litBin .shr .u64 satp 60) 8)
def root (satp : Int) : Int := litBin .and .u64 satp 17592186044415
def rootR (satp : Int) : Int := litBin .rem .u64 satp 17592186044416
theorem root_eq {satp : Int} (h : inU satp) : rootR satp = root satp := by
  unfold rootR root
  rw [rem_emod h]
  exact (and_low h 44 (by decide)).symm
def adr (p va lv : Int) : Int := litBin .add .u64 (litBin .mul .u64 p 4096) (litBin .mul .u64 8 (vpnS va lv))
theorem adr_inU (p va lv : Int) : inU (adr p va lv) := inU.add _ _
/-- The entries of a walk from a root on. -/
def en2 (F : Nat → Int) (N : Nat) (p va : Int) : Int := getS F N (adr p va 2) 8
def en1 (F : Nat → Int) (N : Nat) (p va : Int) : Int := getS F N (adr (pagS (en2 F N p va)) va 1) 8
def en0 (F : Nat → Int) (N : Nat) (p va : Int) : Int := getS F N (adr (pagS (en1 F N p va)) va 0) 8
def k2 (N : Nat) (p va : Int) : Bool := num 8 && okS N (adr p va 2) 8
def k1 (F : Nat → Int) (N : Nat) (p va : Int) : Bool := num 8 && okS N (adr (pagS (en2 F N p va)) va 1) 8
def k0 (F : Nat → Int) (N : Nat) (p va : Int) : Bool := num 8 && okS N (adr (pagS (en1 F N p va)) va 0) 8
def bad (e lv st pr k : Int) : Bool := cond (!(aliS e lv)) true (!(mayS e k pr st))
def gl (e : Int) : Bool := litCmp .neq (litBin .and .u64 e 32) 0
/-- Where a walk ends: without a table, at a page fault, at a fault of the access, at a leaf of level 2, 1, 0. -/
def outP {α : Type} (F : Nat → Int) (N : Nat) (n : Bool) (p st pr k va : Int) (a b c d e f : α) : α :=
  cond n a (cond (!(canS va)) b (cond (!(k2 N p va)) c (cond (leafS (en2 F N p va)) (cond (bad (en2 F N p va) 2 st pr k) b d) (cond (!(tabS (en2 F N p va))) b
    (cond (!(k1 F N p va)) c (cond (leafS (en1 F N p va)) (cond (bad (en1 F N p va) 1 st pr k) b e) (cond (!(tabS (en1 F N p va))) b
      (cond (!(k0 F N p va)) c (cond (leafS (en0 F N p va)) (cond (bad (en0 F N p va) 0 st pr k) b f) b)))))))))
def outW {α : Type} (F : Nat → Int) (N : Nat) (satp st pr k va : Int) (a b c d e f : α) : α := outP F N (np satp) (root satp) st pr k va a b c d e f
def pteW (F : Nat → Int) (N : Nat) (satp st pr k va : Int) : Int := outW F N satp st pr k va 0 0 0 (en2 F N (root satp) va) (en1 F N (root satp) va) (en0 F N (root satp) va)
def lvW (F : Nat → Int) (N : Nat) (satp st pr k va : Int) : Int := outW F N satp st pr k va 0 0 0 2 1 0
def glW (F : Nat → Int) (N : Nat) (satp st pr k va : Int) : Bool := outW F N satp st pr k va false false false (gl (en2 F N (root satp) va)) (cond (gl (en2 F N (root satp) va)) true (gl (en1 F N (root satp) va))) (cond (cond (gl (en2 F N (root satp) va)) true (gl (en1 F N (root satp) va))) true (gl (en0 F N (root satp) va)))
def isW (F : Nat → Int) (N : Nat) (satp st pr k va : Int) : Bool := outW F N satp st pr k va false true true false false false
def cauW (F : Nat → Int) (N : Nat) (satp st pr k va : Int) : Int := outW F N satp st pr k va 0 (cauS k 12 15 13) (cauS k 1 7 5) 0 0 0
def valW (F : Nat → Int) (N : Nat) (satp st pr k va : Int) : Int := outW F N satp st pr k va 0 va va 0 0 0
/-! The code's formulas, and the reference's. -/
noncomputable def tstC (L C N : Nat) (F : Nat → Int) (p satp st pr k va : Int) : Bool := (cond (np satp) true (cond (canS va) ((askM L C N F (adr p va 2) 8) && (cond (!(k2 N p va)) true (cond (leafS (en2 F N p va)) true (cond (!(tabS (en2 F N p va))) true (cond (canS va) ((askM L C N F (adr (pagS (en2 F N p va)) va 1) 8) && (cond (!(k1 F N p va)) true (cond (leafS (en1 F N p va)) true (cond (!(tabS (en1 F N p va))) true (cond (canS va) (askM L C N F (adr (pagS (en1 F N p va)) va 0) 8) true))))) true))))) true))
def wpteC (L C N : Nat) (F : Nat → Int) (p satp st pr k va : Int) : Int := (cond (np satp) 0 (cond (canS va) (cond (!(k2 N p va)) 0 (cond (leafS (en2 F N p va)) (cond (bad (en2 F N p va) 2 st pr k) 0 (en2 F N p va)) (cond (!(tabS (en2 F N p va))) 0 (cond (canS va) (cond (!(k1 F N p va)) 0 (cond (leafS (en1 F N p va)) (cond (bad (en1 F N p va) 1 st pr k) 0 (cond (gl (en2 F N p va)) (en1 F N p va) (en1 F N p va))) (cond (!(tabS (en1 F N p va))) 0 (cond (canS va) (cond (!(k0 F N p va)) 0 (cond (leafS (en0 F N p va)) (cond (bad (en0 F N p va) 0 st pr k) 0 (cond (cond (gl (en2 F N p va)) true (gl (en1 F N p va))) (en0 F N p va) (en0 F N p va))) 0)) 0)))) 0)))) 0))
theorem wpteC_eq (L C N : Nat) (F : Nat → Int) (p satp st pr k va : Int) : wpteC L C N F p satp st pr k va = outP F N (np satp) p st pr k va 0 0 0 (en2 F N p va) (en1 F N p va) (en0 F N p va) := by
  unfold wpteC outP
  generalize k2 N p va = a2
  generalize k1 F N p va = a1
  generalize k0 F N p va = a0
  generalize en2 F N p va = e2
  generalize en1 F N p va = e1
  generalize en0 F N p va = e0
  generalize bad e2 2 st pr k = q2
  generalize bad e1 1 st pr k = q1
  generalize bad e0 0 st pr k = q0
  generalize gl e2 = g2
  generalize gl e1 = g1
  generalize gl e0 = g0
  generalize leafS e2 = l2
  generalize leafS e1 = l1
  generalize leafS e0 = l0
  generalize tabS e2 = t2
  generalize tabS e1 = t1
  generalize tabS e0 = t0
  generalize canS va = cn
  generalize np satp = n
  cases n <;> try rfl
  all_goals (cases cn <;> try rfl)
  all_goals (cases a2 <;> try rfl)
  all_goals (cases l2 <;> try (cases q2 <;> cases g2 <;> rfl))
  all_goals (cases t2 <;> try rfl)
  all_goals (cases a1 <;> try rfl)
  all_goals (cases l1 <;> try (cases q1 <;> cases g2 <;> cases g1 <;> rfl))
  all_goals (cases t1 <;> try rfl)
  all_goals (cases a0 <;> try rfl)
  all_goals (cases l0 <;> try (cases q0 <;> cases g2 <;> cases g1 <;> cases g0 <;> rfl))
  all_goals (try (cases t0 <;> rfl))
def wlvC (L C N : Nat) (F : Nat → Int) (p satp st pr k va : Int) : Int := (cond (np satp) 0 (cond (canS va) (cond (!(k2 N p va)) 0 (cond (leafS (en2 F N p va)) (cond (bad (en2 F N p va) 2 st pr k) 0 2) (cond (!(tabS (en2 F N p va))) 0 (cond (canS va) (cond (!(k1 F N p va)) 0 (cond (leafS (en1 F N p va)) (cond (bad (en1 F N p va) 1 st pr k) 0 1) 0)) 0)))) 0))
theorem wlvC_eq (L C N : Nat) (F : Nat → Int) (p satp st pr k va : Int) : wlvC L C N F p satp st pr k va = outP F N (np satp) p st pr k va 0 0 0 2 1 0 := by
  unfold wlvC outP
  generalize k2 N p va = a2
  generalize k1 F N p va = a1
  generalize k0 F N p va = a0
  generalize en2 F N p va = e2
  generalize en1 F N p va = e1
  generalize en0 F N p va = e0
  generalize bad e2 2 st pr k = q2
  generalize bad e1 1 st pr k = q1
  generalize bad e0 0 st pr k = q0
  generalize gl e2 = g2
  generalize gl e1 = g1
  generalize gl e0 = g0
  generalize leafS e2 = l2
  generalize leafS e1 = l1
  generalize leafS e0 = l0
  generalize tabS e2 = t2
  generalize tabS e1 = t1
  generalize tabS e0 = t0
  generalize canS va = cn
  generalize np satp = n
  cases n <;> try rfl
  all_goals (cases cn <;> try rfl)
  all_goals (cases a2 <;> try rfl)
  all_goals (cases l2 <;> try (cases q2 <;> cases g2 <;> rfl))
  all_goals (cases t2 <;> try rfl)
  all_goals (cases a1 <;> try rfl)
  all_goals (cases l1 <;> try (cases q1 <;> cases g2 <;> cases g1 <;> rfl))
  all_goals (cases t1 <;> try rfl)
  all_goals (cases a0 <;> try rfl)
  all_goals (cases l0 <;> try (cases q0 <;> cases g2 <;> cases g1 <;> cases g0 <;> rfl))
  all_goals (try (cases t0 <;> rfl))
def wglC (L C N : Nat) (F : Nat → Int) (p satp st pr k va : Int) : Bool := (cond (np satp) false (cond (canS va) (cond (!(k2 N p va)) false (cond (leafS (en2 F N p va)) (cond (bad (en2 F N p va) 2 st pr k) false (gl (en2 F N p va))) (cond (!(tabS (en2 F N p va))) false (cond (canS va) (cond (!(k1 F N p va)) false (cond (leafS (en1 F N p va)) (cond (bad (en1 F N p va) 1 st pr k) false (cond (gl (en2 F N p va)) true (gl (en1 F N p va)))) (cond (!(tabS (en1 F N p va))) false (cond (canS va) (cond (!(k0 F N p va)) false (cond (leafS (en0 F N p va)) (cond (bad (en0 F N p va) 0 st pr k) false (cond (cond (gl (en2 F N p va)) true (gl (en1 F N p va))) true (gl (en0 F N p va)))) false)) false)))) false)))) false))
theorem wglC_eq (L C N : Nat) (F : Nat → Int) (p satp st pr k va : Int) : wglC L C N F p satp st pr k va = outP F N (np satp) p st pr k va false false false (gl (en2 F N p va)) (cond (gl (en2 F N p va)) true (gl (en1 F N p va))) (cond (cond (gl (en2 F N p va)) true (gl (en1 F N p va))) true (gl (en0 F N p va))) := by
  unfold wglC outP
  generalize k2 N p va = a2
  generalize k1 F N p va = a1
  generalize k0 F N p va = a0
  generalize en2 F N p va = e2
  generalize en1 F N p va = e1
  generalize en0 F N p va = e0
  generalize bad e2 2 st pr k = q2
  generalize bad e1 1 st pr k = q1
  generalize bad e0 0 st pr k = q0
  generalize gl e2 = g2
  generalize gl e1 = g1
  generalize gl e0 = g0
  generalize leafS e2 = l2
  generalize leafS e1 = l1
  generalize leafS e0 = l0
  generalize tabS e2 = t2
  generalize tabS e1 = t1
  generalize tabS e0 = t0
  generalize canS va = cn
  generalize np satp = n
  cases n <;> try rfl
  all_goals (cases cn <;> try rfl)
  all_goals (cases a2 <;> try rfl)
  all_goals (cases l2 <;> try (cases q2 <;> cases g2 <;> rfl))
  all_goals (cases t2 <;> try rfl)
  all_goals (cases a1 <;> try rfl)
  all_goals (cases l1 <;> try (cases q1 <;> cases g2 <;> cases g1 <;> rfl))
  all_goals (cases t1 <;> try rfl)
  all_goals (cases a0 <;> try rfl)
  all_goals (cases l0 <;> try (cases q0 <;> cases g2 <;> cases g1 <;> cases g0 <;> rfl))
  all_goals (try (cases t0 <;> rfl))
def wisC (L C N : Nat) (F : Nat → Int) (p satp st pr k va : Int) : Bool := (cond (np satp) false (cond (canS va) (cond (!(k2 N p va)) true (cond (leafS (en2 F N p va)) (bad (en2 F N p va) 2 st pr k) (cond (!(tabS (en2 F N p va))) true (cond (canS va) (cond (!(k1 F N p va)) true (cond (leafS (en1 F N p va)) (bad (en1 F N p va) 1 st pr k) (cond (!(tabS (en1 F N p va))) true (cond (canS va) (cond (!(k0 F N p va)) true (cond (leafS (en0 F N p va)) (bad (en0 F N p va) 0 st pr k) true)) true)))) true)))) true))
theorem wisC_eq (L C N : Nat) (F : Nat → Int) (p satp st pr k va : Int) : wisC L C N F p satp st pr k va = outP F N (np satp) p st pr k va false true true false false false := by
  unfold wisC outP
  generalize k2 N p va = a2
  generalize k1 F N p va = a1
  generalize k0 F N p va = a0
  generalize en2 F N p va = e2
  generalize en1 F N p va = e1
  generalize en0 F N p va = e0
  generalize bad e2 2 st pr k = q2
  generalize bad e1 1 st pr k = q1
  generalize bad e0 0 st pr k = q0
  generalize gl e2 = g2
  generalize gl e1 = g1
  generalize gl e0 = g0
  generalize leafS e2 = l2
  generalize leafS e1 = l1
  generalize leafS e0 = l0
  generalize tabS e2 = t2
  generalize tabS e1 = t1
  generalize tabS e0 = t0
  generalize canS va = cn
  generalize np satp = n
  cases n <;> try rfl
  all_goals (cases cn <;> try rfl)
  all_goals (cases a2 <;> try rfl)
  all_goals (cases l2 <;> try (cases q2 <;> cases g2 <;> rfl))
  all_goals (cases t2 <;> try rfl)
  all_goals (cases a1 <;> try rfl)
  all_goals (cases l1 <;> try (cases q1 <;> cases g2 <;> cases g1 <;> rfl))
  all_goals (cases t1 <;> try rfl)
  all_goals (cases a0 <;> try rfl)
  all_goals (cases l0 <;> try (cases q0 <;> cases g2 <;> cases g1 <;> cases g0 <;> rfl))
  all_goals (try (cases t0 <;> rfl))
def wcauC (L C N : Nat) (F : Nat → Int) (p satp st pr k va : Int) : Int := (cond (np satp) 0 (cond (canS va) (cond (!(k2 N p va)) (cauS k 1 7 5) (cond (leafS (en2 F N p va)) (cond (bad (en2 F N p va) 2 st pr k) (cauS k 12 15 13) 0) (cond (!(tabS (en2 F N p va))) (cauS k 12 15 13) (cond (canS va) (cond (!(k1 F N p va)) (cauS k 1 7 5) (cond (leafS (en1 F N p va)) (cond (bad (en1 F N p va) 1 st pr k) (cauS k 12 15 13) 0) (cond (!(tabS (en1 F N p va))) (cauS k 12 15 13) (cond (canS va) (cond (!(k0 F N p va)) (cauS k 1 7 5) (cond (leafS (en0 F N p va)) (cond (bad (en0 F N p va) 0 st pr k) (cauS k 12 15 13) 0) (cauS k 12 15 13))) (cauS k 12 15 13))))) (cauS k 12 15 13))))) (cauS k 12 15 13)))
theorem wcauC_eq (L C N : Nat) (F : Nat → Int) (p satp st pr k va : Int) : wcauC L C N F p satp st pr k va = outP F N (np satp) p st pr k va 0 (cauS k 12 15 13) (cauS k 1 7 5) 0 0 0 := by
  unfold wcauC outP
  generalize k2 N p va = a2
  generalize k1 F N p va = a1
  generalize k0 F N p va = a0
  generalize en2 F N p va = e2
  generalize en1 F N p va = e1
  generalize en0 F N p va = e0
  generalize bad e2 2 st pr k = q2
  generalize bad e1 1 st pr k = q1
  generalize bad e0 0 st pr k = q0
  generalize gl e2 = g2
  generalize gl e1 = g1
  generalize gl e0 = g0
  generalize leafS e2 = l2
  generalize leafS e1 = l1
  generalize leafS e0 = l0
  generalize tabS e2 = t2
  generalize tabS e1 = t1
  generalize tabS e0 = t0
  generalize canS va = cn
  generalize np satp = n
  cases n <;> try rfl
  all_goals (cases cn <;> try rfl)
  all_goals (cases a2 <;> try rfl)
  all_goals (cases l2 <;> try (cases q2 <;> cases g2 <;> rfl))
  all_goals (cases t2 <;> try rfl)
  all_goals (cases a1 <;> try rfl)
  all_goals (cases l1 <;> try (cases q1 <;> cases g2 <;> cases g1 <;> rfl))
  all_goals (cases t1 <;> try rfl)
  all_goals (cases a0 <;> try rfl)
  all_goals (cases l0 <;> try (cases q0 <;> cases g2 <;> cases g1 <;> cases g0 <;> rfl))
  all_goals (try (cases t0 <;> rfl))
def wvalC (L C N : Nat) (F : Nat → Int) (p satp st pr k va : Int) : Int := (cond (np satp) 0 (cond (canS va) (cond (!(k2 N p va)) va (cond (leafS (en2 F N p va)) (cond (bad (en2 F N p va) 2 st pr k) va 0) (cond (!(tabS (en2 F N p va))) va (cond (canS va) (cond (!(k1 F N p va)) va (cond (leafS (en1 F N p va)) (cond (bad (en1 F N p va) 1 st pr k) va 0) (cond (!(tabS (en1 F N p va))) va (cond (canS va) (cond (!(k0 F N p va)) va (cond (leafS (en0 F N p va)) (cond (bad (en0 F N p va) 0 st pr k) va 0) va)) va)))) va)))) va))
theorem wvalC_eq (L C N : Nat) (F : Nat → Int) (p satp st pr k va : Int) : wvalC L C N F p satp st pr k va = outP F N (np satp) p st pr k va 0 va va 0 0 0 := by
  unfold wvalC outP
  generalize k2 N p va = a2
  generalize k1 F N p va = a1
  generalize k0 F N p va = a0
  generalize en2 F N p va = e2
  generalize en1 F N p va = e1
  generalize en0 F N p va = e0
  generalize bad e2 2 st pr k = q2
  generalize bad e1 1 st pr k = q1
  generalize bad e0 0 st pr k = q0
  generalize gl e2 = g2
  generalize gl e1 = g1
  generalize gl e0 = g0
  generalize leafS e2 = l2
  generalize leafS e1 = l1
  generalize leafS e0 = l0
  generalize tabS e2 = t2
  generalize tabS e1 = t1
  generalize tabS e0 = t0
  generalize canS va = cn
  generalize np satp = n
  cases n <;> try rfl
  all_goals (cases cn <;> try rfl)
  all_goals (cases a2 <;> try rfl)
  all_goals (cases l2 <;> try (cases q2 <;> cases g2 <;> rfl))
  all_goals (cases t2 <;> try rfl)
  all_goals (cases a1 <;> try rfl)
  all_goals (cases l1 <;> try (cases q1 <;> cases g2 <;> cases g1 <;> rfl))
  all_goals (cases t1 <;> try rfl)
  all_goals (cases a0 <;> try rfl)
  all_goals (cases l0 <;> try (cases q0 <;> cases g2 <;> cases g1 <;> cases g0 <;> rfl))
  all_goals (try (cases t0 <;> rfl))
noncomputable def tstR (L C N : Nat) (F : Nat → Int) (p satp st pr k va : Int) : Bool := (cond (np satp) true ((yes (inU va)) && (cond (!(canS va)) true (((yes (inU va)) && (askM L C N F (adr p va 2) 8)) && (cond (!(k2 N p va)) true ((yes (inU (en2 F N p va))) && ((yes (inU (en2 F N p va))) && (cond (leafS (en2 F N p va)) ((yes (inU (en2 F N p va))) && (yes (inU (en2 F N p va) ∧ inU st))) (cond (!(tabS (en2 F N p va))) true ((yes (inU (en2 F N p va))) && (((yes (inU va)) && (askM L C N F (adr (pagS (en2 F N p va)) va 1) 8)) && (cond (!(k1 F N p va)) true ((yes (inU (en1 F N p va))) && ((yes (inU (en1 F N p va))) && (cond (leafS (en1 F N p va)) ((yes (inU (en1 F N p va))) && (yes (inU (en1 F N p va) ∧ inU st))) (cond (!(tabS (en1 F N p va))) true ((yes (inU (en1 F N p va))) && (((yes (inU va)) && (askM L C N F (adr (pagS (en1 F N p va)) va 0) 8)) && (cond (!(k0 F N p va)) true ((yes (inU (en0 F N p va))) && ((yes (inU (en0 F N p va))) && (cond (leafS (en0 F N p va)) ((yes (inU (en0 F N p va))) && (yes (inU (en0 F N p va) ∧ inU st))) (cond (!(tabS (en0 F N p va))) true (yes (inU (en0 F N p va))))))))))))))))))))))))))
def wpteR (L C N : Nat) (F : Nat → Int) (p satp st pr k va : Int) : Int := (cond (np satp) 0 (cond (!(canS va)) 0 (cond (!(k2 N p va)) 0 (cond (leafS (en2 F N p va)) (cond (bad (en2 F N p va) 2 st pr k) 0 (en2 F N p va)) (cond (!(tabS (en2 F N p va))) 0 (cond (!(k1 F N p va)) 0 (cond (leafS (en1 F N p va)) (cond (bad (en1 F N p va) 1 st pr k) 0 (en1 F N p va)) (cond (!(tabS (en1 F N p va))) 0 (cond (!(k0 F N p va)) 0 (cond (leafS (en0 F N p va)) (cond (bad (en0 F N p va) 0 st pr k) 0 (en0 F N p va)) 0))))))))))
theorem wpteR_eq (L C N : Nat) (F : Nat → Int) (p satp st pr k va : Int) : wpteR L C N F p satp st pr k va = outP F N (np satp) p st pr k va 0 0 0 (en2 F N p va) (en1 F N p va) (en0 F N p va) := by
  unfold wpteR outP
  generalize k2 N p va = a2
  generalize k1 F N p va = a1
  generalize k0 F N p va = a0
  generalize en2 F N p va = e2
  generalize en1 F N p va = e1
  generalize en0 F N p va = e0
  generalize bad e2 2 st pr k = q2
  generalize bad e1 1 st pr k = q1
  generalize bad e0 0 st pr k = q0
  generalize gl e2 = g2
  generalize gl e1 = g1
  generalize gl e0 = g0
  generalize leafS e2 = l2
  generalize leafS e1 = l1
  generalize leafS e0 = l0
  generalize tabS e2 = t2
  generalize tabS e1 = t1
  generalize tabS e0 = t0
  generalize canS va = cn
  generalize np satp = n
  cases n <;> try rfl
  all_goals (cases cn <;> try rfl)
  all_goals (cases a2 <;> try rfl)
  all_goals (cases l2 <;> try (cases q2 <;> cases g2 <;> rfl))
  all_goals (cases t2 <;> try rfl)
  all_goals (cases a1 <;> try rfl)
  all_goals (cases l1 <;> try (cases q1 <;> cases g2 <;> cases g1 <;> rfl))
  all_goals (cases t1 <;> try rfl)
  all_goals (cases a0 <;> try rfl)
  all_goals (cases l0 <;> try (cases q0 <;> cases g2 <;> cases g1 <;> cases g0 <;> rfl))
  all_goals (try (cases t0 <;> rfl))
def wlvR (L C N : Nat) (F : Nat → Int) (p satp st pr k va : Int) : Int := (cond (np satp) 0 (cond (!(canS va)) 0 (cond (!(k2 N p va)) 0 (cond (leafS (en2 F N p va)) (cond (bad (en2 F N p va) 2 st pr k) 0 2) (cond (!(tabS (en2 F N p va))) 0 (cond (!(k1 F N p va)) 0 (cond (leafS (en1 F N p va)) (cond (bad (en1 F N p va) 1 st pr k) 0 1) 0)))))))
theorem wlvR_eq (L C N : Nat) (F : Nat → Int) (p satp st pr k va : Int) : wlvR L C N F p satp st pr k va = outP F N (np satp) p st pr k va 0 0 0 2 1 0 := by
  unfold wlvR outP
  generalize k2 N p va = a2
  generalize k1 F N p va = a1
  generalize k0 F N p va = a0
  generalize en2 F N p va = e2
  generalize en1 F N p va = e1
  generalize en0 F N p va = e0
  generalize bad e2 2 st pr k = q2
  generalize bad e1 1 st pr k = q1
  generalize bad e0 0 st pr k = q0
  generalize gl e2 = g2
  generalize gl e1 = g1
  generalize gl e0 = g0
  generalize leafS e2 = l2
  generalize leafS e1 = l1
  generalize leafS e0 = l0
  generalize tabS e2 = t2
  generalize tabS e1 = t1
  generalize tabS e0 = t0
  generalize canS va = cn
  generalize np satp = n
  cases n <;> try rfl
  all_goals (cases cn <;> try rfl)
  all_goals (cases a2 <;> try rfl)
  all_goals (cases l2 <;> try (cases q2 <;> cases g2 <;> rfl))
  all_goals (cases t2 <;> try rfl)
  all_goals (cases a1 <;> try rfl)
  all_goals (cases l1 <;> try (cases q1 <;> cases g2 <;> cases g1 <;> rfl))
  all_goals (cases t1 <;> try rfl)
  all_goals (cases a0 <;> try rfl)
  all_goals (cases l0 <;> try (cases q0 <;> cases g2 <;> cases g1 <;> cases g0 <;> rfl))
  all_goals (try (cases t0 <;> rfl))
def wglR (L C N : Nat) (F : Nat → Int) (p satp st pr k va : Int) : Bool := (cond (np satp) false (cond (!(canS va)) false (cond (!(k2 N p va)) false (cond (leafS (en2 F N p va)) (cond (bad (en2 F N p va) 2 st pr k) false (cond (leafS (en2 F N p va)) (gl (en2 F N p va)) (cond (tabS (en2 F N p va)) (gl (en2 F N p va)) false))) (cond (!(tabS (en2 F N p va))) false (cond (!(k1 F N p va)) false (cond (leafS (en1 F N p va)) (cond (bad (en1 F N p va) 1 st pr k) false (cond (cond (leafS (en2 F N p va)) (gl (en2 F N p va)) (cond (tabS (en2 F N p va)) (gl (en2 F N p va)) false)) true (cond (leafS (en1 F N p va)) (gl (en1 F N p va)) (cond (tabS (en1 F N p va)) (gl (en1 F N p va)) false)))) (cond (!(tabS (en1 F N p va))) false (cond (!(k0 F N p va)) false (cond (leafS (en0 F N p va)) (cond (bad (en0 F N p va) 0 st pr k) false (cond (cond (cond (leafS (en2 F N p va)) (gl (en2 F N p va)) (cond (tabS (en2 F N p va)) (gl (en2 F N p va)) false)) true (cond (leafS (en1 F N p va)) (gl (en1 F N p va)) (cond (tabS (en1 F N p va)) (gl (en1 F N p va)) false))) true (cond (leafS (en0 F N p va)) (gl (en0 F N p va)) (cond (tabS (en0 F N p va)) (gl (en0 F N p va)) false)))) false))))))))))
theorem wglR_eq (L C N : Nat) (F : Nat → Int) (p satp st pr k va : Int) : wglR L C N F p satp st pr k va = outP F N (np satp) p st pr k va false false false (gl (en2 F N p va)) (cond (gl (en2 F N p va)) true (gl (en1 F N p va))) (cond (cond (gl (en2 F N p va)) true (gl (en1 F N p va))) true (gl (en0 F N p va))) := by
  unfold wglR outP
  generalize k2 N p va = a2
  generalize k1 F N p va = a1
  generalize k0 F N p va = a0
  generalize en2 F N p va = e2
  generalize en1 F N p va = e1
  generalize en0 F N p va = e0
  generalize bad e2 2 st pr k = q2
  generalize bad e1 1 st pr k = q1
  generalize bad e0 0 st pr k = q0
  generalize gl e2 = g2
  generalize gl e1 = g1
  generalize gl e0 = g0
  generalize leafS e2 = l2
  generalize leafS e1 = l1
  generalize leafS e0 = l0
  generalize tabS e2 = t2
  generalize tabS e1 = t1
  generalize tabS e0 = t0
  generalize canS va = cn
  generalize np satp = n
  cases n <;> try rfl
  all_goals (cases cn <;> try rfl)
  all_goals (cases a2 <;> try rfl)
  all_goals (cases l2 <;> try (cases q2 <;> cases g2 <;> rfl))
  all_goals (cases t2 <;> try rfl)
  all_goals (cases a1 <;> try rfl)
  all_goals (cases l1 <;> try (cases q1 <;> cases g2 <;> cases g1 <;> rfl))
  all_goals (cases t1 <;> try rfl)
  all_goals (cases a0 <;> try rfl)
  all_goals (cases l0 <;> try (cases q0 <;> cases g2 <;> cases g1 <;> cases g0 <;> rfl))
  all_goals (try (cases t0 <;> rfl))
def wisR (L C N : Nat) (F : Nat → Int) (p satp st pr k va : Int) : Bool := (cond (np satp) false (cond (!(canS va)) true (cond (!(k2 N p va)) true (cond (leafS (en2 F N p va)) (bad (en2 F N p va) 2 st pr k) (cond (!(tabS (en2 F N p va))) true (cond (!(k1 F N p va)) true (cond (leafS (en1 F N p va)) (bad (en1 F N p va) 1 st pr k) (cond (!(tabS (en1 F N p va))) true (cond (!(k0 F N p va)) true (cond (leafS (en0 F N p va)) (bad (en0 F N p va) 0 st pr k) true))))))))))
theorem wisR_eq (L C N : Nat) (F : Nat → Int) (p satp st pr k va : Int) : wisR L C N F p satp st pr k va = outP F N (np satp) p st pr k va false true true false false false := by
  unfold wisR outP
  generalize k2 N p va = a2
  generalize k1 F N p va = a1
  generalize k0 F N p va = a0
  generalize en2 F N p va = e2
  generalize en1 F N p va = e1
  generalize en0 F N p va = e0
  generalize bad e2 2 st pr k = q2
  generalize bad e1 1 st pr k = q1
  generalize bad e0 0 st pr k = q0
  generalize gl e2 = g2
  generalize gl e1 = g1
  generalize gl e0 = g0
  generalize leafS e2 = l2
  generalize leafS e1 = l1
  generalize leafS e0 = l0
  generalize tabS e2 = t2
  generalize tabS e1 = t1
  generalize tabS e0 = t0
  generalize canS va = cn
  generalize np satp = n
  cases n <;> try rfl
  all_goals (cases cn <;> try rfl)
  all_goals (cases a2 <;> try rfl)
  all_goals (cases l2 <;> try (cases q2 <;> cases g2 <;> rfl))
  all_goals (cases t2 <;> try rfl)
  all_goals (cases a1 <;> try rfl)
  all_goals (cases l1 <;> try (cases q1 <;> cases g2 <;> cases g1 <;> rfl))
  all_goals (cases t1 <;> try rfl)
  all_goals (cases a0 <;> try rfl)
  all_goals (cases l0 <;> try (cases q0 <;> cases g2 <;> cases g1 <;> cases g0 <;> rfl))
  all_goals (try (cases t0 <;> rfl))
def wcauR (L C N : Nat) (F : Nat → Int) (p satp st pr k va : Int) : Int := (cond (np satp) 0 (cond (!(canS va)) (cauS k 12 15 13) (cond (!(k2 N p va)) (cauS k 1 7 5) (cond (leafS (en2 F N p va)) (cond (bad (en2 F N p va) 2 st pr k) (cauS k 12 15 13) 0) (cond (!(tabS (en2 F N p va))) (cauS k 12 15 13) (cond (!(k1 F N p va)) (cauS k 1 7 5) (cond (leafS (en1 F N p va)) (cond (bad (en1 F N p va) 1 st pr k) (cauS k 12 15 13) 0) (cond (!(tabS (en1 F N p va))) (cauS k 12 15 13) (cond (!(k0 F N p va)) (cauS k 1 7 5) (cond (leafS (en0 F N p va)) (cond (bad (en0 F N p va) 0 st pr k) (cauS k 12 15 13) 0) (cond (!(tabS (en0 F N p va))) (cauS k 12 15 13) (cauS k 12 15 13))))))))))))
theorem wcauR_eq (L C N : Nat) (F : Nat → Int) (p satp st pr k va : Int) : wcauR L C N F p satp st pr k va = outP F N (np satp) p st pr k va 0 (cauS k 12 15 13) (cauS k 1 7 5) 0 0 0 := by
  unfold wcauR outP
  generalize k2 N p va = a2
  generalize k1 F N p va = a1
  generalize k0 F N p va = a0
  generalize en2 F N p va = e2
  generalize en1 F N p va = e1
  generalize en0 F N p va = e0
  generalize bad e2 2 st pr k = q2
  generalize bad e1 1 st pr k = q1
  generalize bad e0 0 st pr k = q0
  generalize gl e2 = g2
  generalize gl e1 = g1
  generalize gl e0 = g0
  generalize leafS e2 = l2
  generalize leafS e1 = l1
  generalize leafS e0 = l0
  generalize tabS e2 = t2
  generalize tabS e1 = t1
  generalize tabS e0 = t0
  generalize canS va = cn
  generalize np satp = n
  cases n <;> try rfl
  all_goals (cases cn <;> try rfl)
  all_goals (cases a2 <;> try rfl)
  all_goals (cases l2 <;> try (cases q2 <;> cases g2 <;> rfl))
  all_goals (cases t2 <;> try rfl)
  all_goals (cases a1 <;> try rfl)
  all_goals (cases l1 <;> try (cases q1 <;> cases g2 <;> cases g1 <;> rfl))
  all_goals (cases t1 <;> try rfl)
  all_goals (cases a0 <;> try rfl)
  all_goals (cases l0 <;> try (cases q0 <;> cases g2 <;> cases g1 <;> cases g0 <;> rfl))
  all_goals (try (cases t0 <;> rfl))
def wvalR (L C N : Nat) (F : Nat → Int) (p satp st pr k va : Int) : Int := (cond (np satp) 0 (cond (!(canS va)) va (cond (!(k2 N p va)) va (cond (leafS (en2 F N p va)) (cond (bad (en2 F N p va) 2 st pr k) va 0) (cond (!(tabS (en2 F N p va))) va (cond (!(k1 F N p va)) va (cond (leafS (en1 F N p va)) (cond (bad (en1 F N p va) 1 st pr k) va 0) (cond (!(tabS (en1 F N p va))) va (cond (!(k0 F N p va)) va (cond (leafS (en0 F N p va)) (cond (bad (en0 F N p va) 0 st pr k) va 0) (cond (!(tabS (en0 F N p va))) va va)))))))))))
theorem wvalR_eq (L C N : Nat) (F : Nat → Int) (p satp st pr k va : Int) : wvalR L C N F p satp st pr k va = outP F N (np satp) p st pr k va 0 va va 0 0 0 := by
  unfold wvalR outP
  generalize k2 N p va = a2
  generalize k1 F N p va = a1
  generalize k0 F N p va = a0
  generalize en2 F N p va = e2
  generalize en1 F N p va = e1
  generalize en0 F N p va = e0
  generalize bad e2 2 st pr k = q2
  generalize bad e1 1 st pr k = q1
  generalize bad e0 0 st pr k = q0
  generalize gl e2 = g2
  generalize gl e1 = g1
  generalize gl e0 = g0
  generalize leafS e2 = l2
  generalize leafS e1 = l1
  generalize leafS e0 = l0
  generalize tabS e2 = t2
  generalize tabS e1 = t1
  generalize tabS e0 = t0
  generalize canS va = cn
  generalize np satp = n
  cases n <;> try rfl
  all_goals (cases cn <;> try rfl)
  all_goals (cases a2 <;> try rfl)
  all_goals (cases l2 <;> try (cases q2 <;> cases g2 <;> rfl))
  all_goals (cases t2 <;> try rfl)
  all_goals (cases a1 <;> try rfl)
  all_goals (cases l1 <;> try (cases q1 <;> cases g2 <;> cases g1 <;> rfl))
  all_goals (cases t1 <;> try rfl)
  all_goals (cases a0 <;> try rfl)
  all_goals (cases l0 <;> try (cases q0 <;> cases g2 <;> cases g1 <;> cases g0 <;> rfl))
  all_goals (try (cases t0 <;> rfl))
set_option maxRecDepth 100000 in
theorem walkC (L C N : Nat) (F : Nat → Int) (st c1 c2 c3 c4 c5 c6 c7 c8 satp c10 c11 pr k va : Int) : seeM (hsM 156 L C N F) (call Try.prog cxe 380 46 [.ptr 0 (.lit 0), .agg [.int .u64 (.sym st), .int .u64 (.sym c1), .int .u64 (.sym c2), .int .u64 (.sym c3), .int .u64 (.sym c4), .int .u64 (.sym c5), .int .u64 (.sym c6), .int .u64 (.sym c7), .int .u64 (.sym c8), .int .u64 (.sym satp), .int .u64 (.sym c10), .int .u64 (.sym c11)], .int .i64 (.sym pr), .int .i64 (.sym k), .int .u64 (.sym va)] (hsM 156 L C N F)) [true] =
    some ([tstC L C N F (root satp) satp st pr k va], .val (.tuple [.agg [.int .u64 (.sym (wpteC L C N F (root satp) satp st pr k va)), .int .i64 (.sym (wlvC L C N F (root satp) satp st pr k va)), .bool (.sym (wglC L C N F (root satp) satp st pr k va))], .agg [.bool (.sym (wisC L C N F (root satp) satp st pr k va)), .int .i64 (.sym (wcauC L C N F (root satp) satp st pr k va)), .int .u64 (.sym (wvalC L C N F (root satp) satp st pr k va))]]), hsM 156 L C N F) := by kernel_rfl
set_option maxRecDepth 100000 in
theorem walkR (L C N : Nat) (F : Nat → Int) (st c1 c2 c3 c4 c5 c6 c7 c8 satp c10 c11 pr k va : Int) : seeM (hsM 63 L C N F) (call Try.prog cxe 380 47 [.ptr 0 (.lit 0), .agg [.int .u64 (.sym st), .int .u64 (.sym c1), .int .u64 (.sym c2), .int .u64 (.sym c3), .int .u64 (.sym c4), .int .u64 (.sym c5), .int .u64 (.sym c6), .int .u64 (.sym c7), .int .u64 (.sym c8), .int .u64 (.sym satp), .int .u64 (.sym c10), .int .u64 (.sym c11)], .int .i64 (.sym pr), .int .i64 (.sym k), .int .u64 (.sym va)] (hsM 63 L C N F)) [true] =
    some ([tstR L C N F (rootR satp) satp st pr k va], .val (.tuple [.agg [.int .u64 (.sym (wpteR L C N F (rootR satp) satp st pr k va)), .int .i64 (.sym (wlvR L C N F (rootR satp) satp st pr k va)), .bool (.sym (wglR L C N F (rootR satp) satp st pr k va))], .agg [.bool (.sym (wisR L C N F (rootR satp) satp st pr k va)), .int .i64 (.sym (wcauR L C N F (rootR satp) satp st pr k va)), .int .u64 (.sym (wvalR L C N F (rootR satp) satp st pr k va))]]), hsM 63 L C N F) := by kernel_rfl
/-- What is asked of a walk. -/
noncomputable def askW (L C N : Nat) (F : Nat → Int) (satp st va : Int) : Bool := yes ((L = N ∧ C = N ∧ MemOk N F) ∧ inU satp ∧ inU st ∧ inU va)
theorem askW_of {N : Nat} {F : Nat → Int} {satp st va : Int} (h : MemOk N F) (h1 : inU satp) (h2 : inU st) (h3 : inU va) : askW N N N F satp st va = true := yes_of ⟨⟨rfl, rfl, h⟩, h1, h2, h3⟩
theorem inI8 : inI 8 := by unfold inI; omega
theorem tstC_t {L C N : Nat} {F : Nat → Int} {p satp st pr k va : Int} (h : askW L C N F satp st va = true) : tstC L C N F p satp st pr k va = true := by
  obtain ⟨⟨rfl, rfl, hm⟩, h1, h2, h3⟩ := of_yes h
  unfold tstC
  have a : ∀ p lv, askM C C C F (adr p va lv) 8 = true := fun p lv => askM_of hm (adr_inU _ _ _) inI8
  simp only [a, Bool.true_and, Bool.cond_self, Bool.cond_true_right, Bool.or_true, Bool.and_true, cond_true, Bool.and_self, Bool.not_not, Bool.true_or]
theorem tstR_t {L C N : Nat} {F : Nat → Int} {p satp st pr k va : Int} (h : askW L C N F satp st va = true) : tstR L C N F p satp st pr k va = true := by
  obtain ⟨⟨rfl, rfl, hm⟩, h1, h2, h3⟩ := of_yes h
  unfold tstR
  have a : ∀ p lv, askM C C C F (adr p va lv) 8 = true := fun p lv => askM_of hm (adr_inU _ _ _) inI8
  have b : yes (inU va) = true := yes_of h3
  have c2 : inU (en2 F C p va) := get_inU hm (adr_inU _ _ _)
  have c1 : inU (en1 F C p va) := get_inU hm (adr_inU _ _ _)
  have c0 : inU (en0 F C p va) := get_inU hm (adr_inU _ _ _)
  have d2 := yes_of c2
  have d1 := yes_of c1
  have d0 := yes_of c0
  have f2 := yes_of (⟨c2, h2⟩ : inU (en2 F C p va) ∧ inU st)
  have f1 := yes_of (⟨c1, h2⟩ : inU (en1 F C p va) ∧ inU st)
  have f0 := yes_of (⟨c0, h2⟩ : inU (en0 F C p va) ∧ inU st)
  simp only [a, b, d2, d1, d0, f2, f1, f0, Bool.true_and, Bool.cond_self, Bool.cond_true_right, Bool.or_true, Bool.and_true, cond_true, Bool.and_self, Bool.not_not, Bool.true_or]
noncomputable def gWalk (T0 : TypeId) (args : List (AV DC)) (h : List (AO DC)) : Option (T DC (AV DC × List (W DC))) := match args with
  | [.ptr b (.lit 0), .agg [.int .u64 st, .int .u64 c1, .int .u64 c2, .int .u64 c3, .int .u64 c4, .int .u64 c5, .int .u64 c6, .int .u64 c7, .int .u64 c8, .int .u64 satp, .int .u64 c10, .int .u64 c11], .int .i64 pr, .int .i64 k, .int .u64 va] => match h[b]? with
    | some (.cells t [.slice c (.lit 0) (.rc L 1 0) (.kn (.rc C 1 0))]) => if Nat.beq t T0 then (match h[c]? with
      | some (.arr 5 N [(.int .u8, F)]) => some (.br (askW L C N F satp.den st.den va.den) (.ret (.tuple [.agg [.int .u64 (.sym (pteW F N satp.den st.den pr.den k.den va.den)), .int .i64 (.sym (lvW F N satp.den st.den pr.den k.den va.den)), .bool (.sym (glW F N satp.den st.den pr.den k.den va.den))], .agg [.bool (.sym (isW F N satp.den st.den pr.den k.den va.den)), .int .i64 (.sym (cauW F N satp.den st.den pr.den k.den va.den)), .int .u64 (.sym (valW F N satp.den st.den pr.den k.den va.den))]], [])) .fail)
      | _ => none) else none
    | _ => none
  | _ => none
theorem walk_ok {X : Cx DC} (hX : Ok Try.prog X) {f : FuncId} {T0 : TypeId}
    (hf : ∀ (L C N : Nat) (F : Nat → Int) (st c1 c2 c3 c4 c5 c6 c7 c8 satp c10 c11 pr k va : Int), askW L C N F satp st va = true → ∃ (ds cs : List Bool) (a b d : Int) (g i : Bool) (e : Int), seeM (hsM T0 L C N F) (call Try.prog X 380 f [.ptr 0 (.lit 0), .agg [.int .u64 (.sym st), .int .u64 (.sym c1), .int .u64 (.sym c2), .int .u64 (.sym c3), .int .u64 (.sym c4), .int .u64 (.sym c5), .int .u64 (.sym c6), .int .u64 (.sym c7), .int .u64 (.sym c8), .int .u64 (.sym satp), .int .u64 (.sym c10), .int .u64 (.sym c11)], .int .i64 (.sym pr), .int .i64 (.sym k), .int .u64 (.sym va)] (hsM T0 L C N F)) ds = some (cs, .val (.tuple [.agg [.int .u64 (.sym a), .int .i64 (.sym b), .bool (.sym g)], .agg [.bool (.sym i), .int .i64 (.sym d), .int .u64 (.sym e)]]), hsM T0 L C N F) ∧ cs = ds ∧
      a = pteW F N satp st pr k va ∧ b = lvW F N satp st pr k va ∧ g = glW F N satp st pr k va ∧ i = isW F N satp st pr k va ∧ d = cauW F N satp st pr k va ∧ e = valW F N satp st pr k va)
    {args : List (AV DC)} {h : List (AO DC)} {t : T DC (AV DC × List (W DC))} {r : AV DC × List (W DC)} (ht : gWalk T0 args h = some t) (hp : t.pick = some r) : FnOk Try.prog f args h r := by
  unfold gWalk at ht
  split at ht
  · rename_i b st c1 c2 c3 c4 c5 c6 c7 c8 satp c10 c11 pr k va
    split at ht
    · rename_i t0 c L C hb
      split at ht
      · rename_i hT
        have := Nat.eq_of_beq_eq_true hT
        subst this
        split at ht
        · rename_i N F hc
          cases ht
          obtain ⟨h1, h2⟩ := T.ask hp
          have := T.ret_some h2
          subst this
          obtain ⟨ds, cs, a, b', d, g, i, e, e1, e2, r1, r2, r3, r4, r5, r6⟩ := hf L C N F st.den c1.den c2.den c3.den c4.den c5.den c6.den c7.den c8.den satp.den c10.den c11.den pr.den k.den va.den h1
          exact memF (F2 := F) hX e1 e2 hb hc ⟨⟨⟨rfl, rfl⟩, ⟨rfl, rfl⟩, ⟨rfl, rfl⟩, ⟨rfl, rfl⟩, ⟨rfl, rfl⟩, ⟨rfl, rfl⟩, ⟨rfl, rfl⟩, ⟨rfl, rfl⟩, ⟨rfl, rfl⟩, ⟨rfl, rfl⟩, ⟨rfl, rfl⟩, ⟨rfl, rfl⟩, trivial⟩, ⟨rfl, rfl⟩, ⟨rfl, rfl⟩, ⟨rfl, rfl⟩, trivial⟩ (fun hbc => ⟨⟨⟨rfl, r1⟩, ⟨rfl, r2⟩, r3, trivial⟩, ⟨r4, ⟨rfl, r5⟩, ⟨rfl, r6⟩, trivial⟩, trivial⟩) (.inl ⟨rfl, fun _ _ => rfl⟩)
        · cases ht
      · cases ht
    · cases ht
  · cases ht
noncomputable def cxw1 : Cx DC := cxe.sum 46 (gWalk 156)
theorem cxw1_ok : Ok Try.prog cxw1 := cxe_ok.sum (by kernel_rfl) fun args h t r ht hp => walk_ok cxe_ok (fun L C N F st c1 c2 c3 c4 c5 c6 c7 c8 satp c10 c11 pr k va ha => ⟨[true], _, _, _, _, _, _, _, walkC L C N F st c1 c2 c3 c4 c5 c6 c7 c8 satp c10 c11 pr k va, by rw [tstC_t ha], wpteC_eq L C N F (root satp) satp st pr k va, wlvC_eq L C N F (root satp) satp st pr k va, wglC_eq L C N F (root satp) satp st pr k va, wisC_eq L C N F (root satp) satp st pr k va, wcauC_eq L C N F (root satp) satp st pr k va, wvalC_eq L C N F (root satp) satp st pr k va⟩) ht hp
noncomputable def cxw : Cx DC := cxw1.sum 47 (gWalk 63)
theorem cxw_ok : Ok Try.prog cxw := cxw1_ok.sum (by kernel_rfl) fun args h t r ht hp => walk_ok cxe_ok (fun L C N F st c1 c2 c3 c4 c5 c6 c7 c8 satp c10 c11 pr k va ha => ⟨[true], _, _, _, _, _, _, _, walkR L C N F st c1 c2 c3 c4 c5 c6 c7 c8 satp c10 c11 pr k va, by rw [tstR_t ha], by rw [wpteR_eq, root_eq (of_yes ha).2.1]; rfl, by rw [wlvR_eq, root_eq (of_yes ha).2.1]; rfl, by rw [wglR_eq, root_eq (of_yes ha).2.1]; rfl, by rw [wisR_eq, root_eq (of_yes ha).2.1]; rfl, by rw [wcauR_eq, root_eq (of_yes ha).2.1]; rfl, by rw [wvalR_eq, root_eq (of_yes ha).2.1]; rfl⟩) ht hp
end Go.Proofs.Ytngcbpcfgolifaa.Ev
