/-
  A region that draws its order, taken step by step: two operations that may each be the next; an append where it comes up. Conditions: what each law names.
-/
import Derived.Test.YtecfajnmekpeoaaDoorHx
namespace Go.Proofs.YtecfajnmekpeoaaDoor
open Go.RowKit

section
variable {P : Program} {ops : Array Oper} {Q : Exit → Act → World → Prop} {md : Region.Mode} {S : World → Prop} {fuel : Nat} {listed : Array Bool} {a : Act} {w : World}
/-- two come up: each may be the next -/
theorem hx_act2 (i j : Nat) (di dj : Option Tmp) (hr : Region.ready md ops listed = [i, j]) (hdi : ops[i]?.map (·.dst) = some di) (hwi : (ops[i]?.map fun o => Region.wanted o (yielded ops a.tmps)) = some true)
    (hdj : ops[j]?.map (·.dst) = some dj) (hwj : (ops[j]?.map fun o => Region.wanted o (yielded ops a.tmps)) = some true)
    (h1 : ∀ K' : Act → World → Prop, Shut (∀ v w, S w → (S w → wpAnyH P md ops Q S fuel (listed.setIfInBounds i true) (a.put di v) w) → K' (a.put di v) w) → ∀ o, ops[i]? = some o → Oper.wp P o a w K' Q)
    (h2 : ∀ K' : Act → World → Prop, Shut (∀ v w, S w → (S w → wpAnyH P md ops Q S fuel (listed.setIfInBounds j true) (a.put dj v) w) → K' (a.put dj v) w) → ∀ o, ops[j]? = some o → Oper.wp P o a w K' Q) : wpAnyH P md ops Q S (fuel + 1) listed a w := by
  cases ho : ops[i]? with
  | none => rw [ho] at hdi; simp at hdi
  | some o =>
    cases hp : ops[j]? with
    | none => rw [hp] at hdj; simp at hdj
    | some p =>
      rw [ho] at hdi hwi
      rw [hp] at hdj hwj
      simp only [Option.map_some, Option.some.injEq] at hdi hwi hdj hwj
      refine wpAnyH_ready hr (by simp) (AllReadyH.cons ho (fun K' hK => ?_) (AllReadyH.cons hp (fun K' hK => ?_) AllReadyH.nil))
      · rw [if_pos hwi]
        subst hdi
        exact h1 K' (fun v w hS hW => hK.out _ w hS hW) o ho
      · rw [if_pos hwj]
        subst hdj
        exact h2 K' (fun v w hS hW => hK.out _ w hS hW) p hp
/-- an append, where it comes up -/
theorem hx_app {o : Oper} {K : Act → World → Prop} {Φ : Value → World → Prop} (s x : Operand) (t : TypeId)
    (ho : o.op = .call { callee := .builtin .append, args := #[s, x], argTypes := #[t, t] }) {v u : Value} (hs : a.eval s = v) (hx : a.eval x = u)
    (hrun : ∃ v' w', (Builtin.append_ #[t, t] o.type #[v, u]).run P w = .ok v' w' ∧ Φ v' w')
    (h : ∀ v' w', Φ v' w' → K (a.put o.dst v') w') : Oper.wp P o a w K Q := by
  obtain ⟨v', w', hr, hp⟩ := hrun
  unfold Oper.wp
  simp [execOp, ho, resolve, invoke, builtin, hs, hx, hr, Result.andThen]
  exact h v' w' hp
end
end Go.Proofs.YtecfajnmekpeoaaDoor
