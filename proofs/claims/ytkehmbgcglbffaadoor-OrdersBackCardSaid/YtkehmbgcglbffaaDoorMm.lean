/-
  Memory words for the walks of this seat: growth of the world, kept cells. Conditions: none (small laws on any world).
-/
import Derived.WalkKit
import Derived.WalkSpells
import Derived.WalkLawsBesides
import Derived.BigQuiet
import Derived.Lib.Hide
import Derived.Deep.QuietTactic
import Derived.Deep.RegionHeld3
import Derived.Deep.LoopGhost
import Derived.IntWalk
import Derived.Sort.Grow
namespace Go.Proofs.YtkehmbgcglbffaaDoor
open Go.RowKit

/-- growth, with the cells' rule beside it -/
abbrev GrS (w w' : World) : Prop := Below w.heap.size w w' ∧ (∀ b o, b < w.heap.size → w'.cell? ⟨b, o, none⟩ = w.cell? ⟨b, o, none⟩)
theorem GrS.refl (w : World) : GrS w w := ⟨Below.refl _ _, fun _ _ _ => rfl⟩
theorem GrS.of {w w' : World} (h : Below w.heap.size w w') : GrS w w' := ⟨h, fun b o hb => h.cell (p := ⟨b, o, none⟩) hb⟩
theorem GrS.start {w w1 : World} (h : Below w.heap.size w w1) : GrS w w1.drew := .of h.drew
theorem GrS.call {w w1 w2 : World} (h : GrS w w1) (k : Below w1.heap.size w1 w2) : GrS w w2 := .of (h.1.trans (k.mono h.1.size))
theorem GrS.alloc {w w1 : World} (h : GrS w w1) (o : Obj) : GrS w (w1.alloc o) := .of (h.1.alloc h.1.size o)
theorem GrS.fin {w w' : World} (h : GrS w w') : Below w.heap.size w w' := h.1
theorem grow_trans {w w1 w2 : World} (h : Below w.heap.size w w1) (k : Below w1.heap.size w1 w2) : Below w.heap.size w w2 := h.trans (k.mono h.size)
theorem bcell {W w1 : World} (hb : Below W.heap.size W w1) : (∀ b o, b < W.heap.size → w1.cell? ⟨b, o, none⟩ = W.cell? ⟨b, o, none⟩) ∧ (∀ b o, b < W.heap.size → w1.frozen? ⟨b, o, none⟩ = W.frozen? ⟨b, o, none⟩) :=
  ⟨fun b o h => hb.cell (p := ⟨b, o, none⟩) h, fun b o h => hb.frozen (p := ⟨b, o, none⟩) h⟩
theorem below_alloc (w : World) (o : Obj) : Below w.heap.size w (w.alloc o) := (Below.refl _ _).alloc (Nat.le_refl _) o
theorem below_alloc2 (w : World) (o p : Obj) : Below w.heap.size w ((w.alloc o).alloc p) := (below_alloc w o).alloc (by simp) p
theorem ret_int {k : IntKind} {a b : Int} (h : a = b) : Ending.returned (.int k a) = .returned (.int k b) := by rw [h]
theorem ret_bool {a b : Bool} (h : a = b) : Ending.returned (.bool a) = .returned (.bool b) := by rw [h]
/-- one boxed parameter -/
theorem box1 (w : World) (A : Array Value) (t : TypeId) : ∃ W, w.alloc (.cells A t) = W ∧ Below w.heap.size w W ∧ W.heap.size = w.heap.size + 1 ∧ ∀ i, W.cell? ⟨w.heap.size, i, none⟩ = A[i]? :=
  ⟨_, rfl, below_alloc _ _, by simp, fun i => by simp⟩
/-- two boxed parameters -/
theorem box2 (w : World) (A B : Array Value) (t u : TypeId) : ∃ W, (w.alloc (.cells A t)).alloc (.cells B u) = W ∧ Below w.heap.size w W ∧ W.heap.size = w.heap.size + 2 ∧ (∀ i, W.cell? ⟨w.heap.size, i, none⟩ = A[i]?) ∧ ∀ i, W.cell? ⟨w.heap.size + 1, i, none⟩ = B[i]? :=
  ⟨_, rfl, below_alloc2 _ _ _, by simp, fun i => by rw [World.cell?_alloc_lt _ _ _ (by simp)]; simp, fun i => by have := World.cell?_alloc_new (w.alloc (.cells A t)) B u i; rwa [World.size_alloc] at this⟩
theorem ret_ii {k l : IntKind} {a b c d : Int} (h : a = c) (g : b = d) : Ending.returned (.tuple #[.int k a, .int l b]) = .returned (.tuple #[.int k c, .int l d]) := by rw [h, g]
theorem ret_vi {v : Value} {l : IntKind} {b d : Int} (g : b = d) : Ending.returned (.tuple #[v, .int l b]) = .returned (.tuple #[v, .int l d]) := by rw [g]
theorem ret_ib {k : IntKind} {a c : Int} {b d : Bool} (h : a = c) (g : b = d) : Ending.returned (.tuple #[.int k a, .bool b]) = .returned (.tuple #[.int k c, .bool d]) := by rw [h, g]
/-- growth, and the tape's place moves on only -/
abbrev GrD (w w' : World) : Prop := GrS w w' ∧ w.drawn ≤ w'.drawn
theorem GrD.start {w : World} : GrD w w.drew := ⟨GrS.start (Below.refl _ _), Nat.le_succ _⟩
theorem GrD.alloc {w w1 : World} (h : GrD w w1) (o : Obj) : GrD w (w1.alloc o) := ⟨h.1.alloc o, h.2⟩
theorem GrD.fin {w w' : World} (h : GrD w w') : Below w.heap.size w w' ∧ w.drawn ≤ w'.drawn := ⟨h.1.1, h.2⟩
/-- .. so it is draws, and new blocks -/
theorem grown_of {w w' : World} (h : Below w.heap.size w w') (hd : w.drawn ≤ w'.drawn) : ∃ q os, w' = Sort.grow (w.drewN q) os := by
  refine ⟨w'.drawn - w.drawn, w'.heap.extract w.heap.size w'.heap.size, ?_⟩
  obtain ⟨hp, tp, dr, os, out⟩ := w
  obtain ⟨hp', tp', dr', os', out'⟩ := w'
  obtain ⟨h1, h2, h3, h4, h5⟩ := h
  dsimp only at h1 h2 h3 h4 h5 hd
  subst h1; subst h2; subst h3
  simp only [Sort.grow, World.drewN, World.mk.injEq, and_true, true_and]
  refine ⟨Array.ext_getElem? fun i => ?_, by omega⟩
  by_cases hi : i < hp.size
  · rw [Array.getElem?_append_left hi, h5 i hi]
  · rw [Array.getElem?_append_right (by omega), Array.getElem?_extract]
    by_cases h6 : i < hp'.size
    · rw [if_pos (by omega)]; congr 1; omega
    · rw [if_neg (by omega), Array.getElem?_eq_none (by omega)]
theorem eqne (a b : Int) : ((a == b) = true ∧ (a != b) = false) ∨ ((a == b) = false ∧ (a != b) = true) := by
  by_cases h : a = b
  · exact Or.inl ⟨by simp [h], by simp [h]⟩
  · exact Or.inr ⟨by simp [h], by simp [h]⟩
end Go.Proofs.YtkehmbgcglbffaaDoor
