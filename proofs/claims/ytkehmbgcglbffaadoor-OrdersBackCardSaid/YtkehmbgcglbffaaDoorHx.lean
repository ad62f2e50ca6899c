/-
  A region that draws its order, taken step by step: an operation whose guard is false is passed; one that yields its value in every world that meets S is taken first; a call comes up alone. Conditions: what each law names.
-/
import Derived.Test.YtkehmbgcglbffaaDoorMm
namespace Go.Proofs.YtkehmbgcglbffaaDoor
open Go.RowKit

section
variable {P : Program} {ops : Array Oper} {Q : Exit → Act → World → Prop} {md : Region.Mode} {S : World → Prop} {fuel : Nat} {listed : Array Bool} {a : Act} {w : World}
/-- passed: its guard is false -/
theorem hx_skip (i : Nat) (d : Option Tmp) (hd : ops[i]?.map (·.dst) = some d) (hw : (ops[i]?.map fun o => Region.wanted o (yielded ops a.tmps)) = some false)
    (hs : Region.noSelect ops = true) (hf : Region.free md ops listed i = true) (hr : (Region.ready md ops listed).contains i = true)
    (hQ : ∀ c a w, Q (.panic c) (a.put d undef) w → Q (.panic c) a w) (hS : S w)
    (h : wpAnyH P md ops Q S fuel (listed.setIfInBounds i true) (a.put d undef) w) : wpAnyH P md ops Q S (fuel + 1) listed a w := by
  cases ho : ops[i]? with
  | none => rw [ho] at hd; simp at hd
  | some o =>
    rw [ho] at hd hw
    simp only [Option.map_some, Option.some.injEq] at hd hw
    subst hd
    exact wpAnyH_take ho hs hf hr hQ (Or.inr ⟨hw, rfl⟩) hS h
/-- taken first: it yields v in every world that meets S -/
theorem hx_take (i : Nat) (d : Option Tmp) (v : Value) (hd : ops[i]?.map (·.dst) = some d) (hw : (ops[i]?.map fun o => Region.wanted o (yielded ops a.tmps)) = some true)
    (hs : Region.noSelect ops = true) (hf : Region.free md ops listed i = true) (hr : (Region.ready md ops listed).contains i = true)
    (hQ : ∀ c a w, Q (.panic c) (a.put d v) w → Q (.panic c) a w) (hS : S w)
    (hy : ∀ o, ops[i]? = some o → ∀ w, S w → (execOp a.eval o).run P w = .ok (.value v) w)
    (h : wpAnyH P md ops Q S fuel (listed.setIfInBounds i true) (a.put d v) w) : wpAnyH P md ops Q S (fuel + 1) listed a w := by
  cases ho : ops[i]? with
  | none => rw [ho] at hd; simp at hd
  | some o =>
    rw [ho] at hd hw
    simp only [Option.map_some, Option.some.injEq] at hd hw
    subst hd
    exact wpAnyH_take ho hs hf hr hQ (Or.inl ⟨hw, hy o ho⟩) hS h
/-- it alone comes up: a call, a store, a block that is made -/
theorem hx_act (i : Nat) (d : Option Tmp) (hr : Region.ready md ops listed = [i]) (hd : ops[i]?.map (·.dst) = some d) (hw : (ops[i]?.map fun o => Region.wanted o (yielded ops a.tmps)) = some true)
    (h : ∀ K' : Act → World → Prop, Shut (∀ v w, S w → (S w → wpAnyH P md ops Q S fuel (listed.setIfInBounds i true) (a.put d v) w) → K' (a.put d v) w) → ∀ o, ops[i]? = some o → Oper.wp P o a w K' Q) : wpAnyH P md ops Q S (fuel + 1) listed a w := by
  cases ho : ops[i]? with
  | none => rw [ho] at hd; simp at hd
  | some o =>
    rw [ho] at hd hw
    simp only [Option.map_some, Option.some.injEq] at hd hw
    refine wpAnyH_ready hr (by simp) (AllReadyH.cons ho (fun K' hK => ?_) AllReadyH.nil)
    rw [if_pos hw]
    exact h K' (fun v w hS hW => hK.out _ w hS hW) o ho
end
end Go.Proofs.YtkehmbgcglbffaaDoor
