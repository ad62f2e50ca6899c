/-
  A slice that is made, all of it zero. Conditions: what each law names.
-/
import Derived.Test.YtkehmbgcglbffaaDoorSl
import Derived.Laws.OwnMore
namespace Go.Proofs.YtkehmbgcglbffaaDoor
open Go.RowKit

theorem below_none {w w' : World} (h : w.grownBy w' none) : Below w.heap.size w w' := ⟨h.os, h.tape, h.output, h.size, fun q hq => h.block q hq (by simp)⟩
section
variable {α : Type} {enc : α → List Value} {k nb : Nat} {P : Program} {n : Nat} {l : Fr} {w : World} {Q : Exit → Act → World → Prop} {ops : Array Oper} {os : List Oper} {d : Nat} {ty : TypeId} {pos : String} {af : Array Edge} {S T : TypeId} {x y : Operand}
/-- make([]T, m) -/
theorem lw_make (E : ElemT P S T k nb) {m : Nat} (xs : List α) (hd : Nat.blt d n = true) (hx : ev l x = some (.int .i64 (m : Int))) (hy : ev l y = some (.int .i64 (m : Int))) (hm : Nat.ble m 65536 = true) (hl : xs.length = m)
    (hz : ((P.info? T).bind fun i => i.zero.map fun z => (madeCells z.cells (m * k)).toList) = some (xs.flatMap enc)) (hk : Nat.ble k 64 = true) (hnb : Nat.ble nb 65536 = true)
    (h : ∀ w', Own enc k T w.heap.size w' (.slice (some ⟨w.heap.size, 0, none⟩) m m) xs → Below w.heap.size w w' → LW P n ops Q os ((d, .slice (some ⟨w.heap.size, 0, none⟩) m m) :: l) w') :
    LW P n ops Q (⟨some d, .makeSlice S x y, ty, pos, af, none⟩ :: os) l w := by
  obtain ⟨i, z, hi, hzi, hsz, hby, hzs⟩ := E.info
  rw [hi, Option.bind_some, hzi, Option.map_some, Option.some.injEq] at hz
  have hm' : m ≤ 65536 := by simpa using hm
  have hk' : k ≤ 64 := by simpa using hk
  have hnb' : nb ≤ 65536 := by simpa using hnb
  have hb : i.bytes ≤ 65536 := by omega
  obtain ⟨w', r1, r2, r3⟩ := run_makeSlice_full (P := P) w w.heap.size S T i z k E.sl hi hzi hsz .i64 .i64 m (by have := Nat.mul_le_mul hm' hk'; omega) (by have := Nat.mul_le_mul hb hm'; omega) (by unfold maxLen; omega) (Nat.le_refl _)
  refine lw_eff hd (w' := w') ⟨fun A hA => ?_⟩ (h w' ?_ (below_none r3))
  · simp [execOp, hA.ev hx, hA.ev hy, r1]
  · unfold Own; rw [hl, ← hz]; exact r2
end
end Go.Proofs.YtkehmbgcglbffaaDoor
