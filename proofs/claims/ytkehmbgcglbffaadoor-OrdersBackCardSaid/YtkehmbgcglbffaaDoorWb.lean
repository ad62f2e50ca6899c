/-
  What the laws' standing example comes to (layer 22), in plain Lean.
-/
import Derived.Test.YtkehmbgcglbffaaDoorWa
namespace Go.Proofs.YtkehmbgcglbffaaDoor
open Go.RowKit Go.PlainAid

def wkA : Evt := ⟨3, 11, [1, 2, 1, 1, 10, 5], []⟩
def wkB : Evt := ⟨3, 11, [2, 1, 1, 2, 10, 3], []⟩
def wkC : Evt := ⟨3, 13, [2, 1, 10, 3, 0], []⟩
def wkD : Evt := ⟨3, 12, [2], []⟩
def wkE : Evt := ⟨3, 13, [1, 1, 10, 1, 0], []⟩
theorem wk1 : runF [wkA, wkB, wkC] = ([⟨2, 1, 1, 1, 10, 2⟩], [], 0) := by kernel_rfl
theorem wk2 : (runF [wkA, wkB, wkC, wkD]).2.2 = 5 := by kernel_rfl
theorem wk3 : (runF [wkA, wkB, wkC, wkE]).2.2 = 1 := by kernel_rfl
end Go.Proofs.YtkehmbgcglbffaaDoor
