/-
  An order in memory: its six cells; a slice that reads as a list of orders. Conditions: none.
-/
import Derived.Test.YtecfajnmekpeoaaDoorRows
import Derived.Test.YtecfajnmekpeoaaDoorMl
import Derived.Test.YtecfajnmekpeoaaDoorBkSp
namespace Go.Proofs.YtecfajnmekpeoaaDoor
open Go.RowKit

def encO (o : Ord) : List Value := [.int .i64 o.id, .int .i64 o.acct, .int .i64 o.inst, .int .u8 o.side, .int .i64 o.price, .int .i64 o.left]
theorem encO_len (o : Ord) : (encO o).length = 6 := rfl
theorem encO_one (o : Ord) : ∀ v ∈ encO o, v.oneCell' = true := by intro v hv; simp [encO] at hv; rcases hv with rfl | rfl | rfl | rfl | rfl | rfl <;> rfl
/-- the six cells of an order at a place -/
structure Cells6 (w : World) (b p : Nat) (o : Ord) : Prop where
  c0 : w.cell? ⟨b, p, none⟩ = some (.int .i64 o.id)
  c1 : w.cell? ⟨b, p + 1, none⟩ = some (.int .i64 o.acct)
  c2 : w.cell? ⟨b, p + 2, none⟩ = some (.int .i64 o.inst)
  c3 : w.cell? ⟨b, p + 3, none⟩ = some (.int .u8 o.side)
  c4 : w.cell? ⟨b, p + 4, none⟩ = some (.int .i64 o.price)
  c5 : w.cell? ⟨b, p + 5, none⟩ = some (.int .i64 o.left)
theorem cells6_of {w : World} {b p : Nat} {o : Ord} (h : ∀ i v, (encO o)[i]? = some v → w.cell? ⟨b, p + i, none⟩ = some v) : Cells6 w b p o :=
  ⟨h 0 _ rfl, h 1 _ rfl, h 2 _ rfl, h 3 _ rfl, h 4 _ rfl, h 5 _ rfl⟩
theorem Cells6.mono {w w' : World} {b p : Nat} {o : Ord} (h : Cells6 w b p o) (hb : Below w.heap.size w w') : Cells6 w' b p o := by
  have hlt : b < w.heap.size := World.block_lt_of_cell? w _ h.c0
  exact ⟨(hb.cell (p := ⟨b, _, none⟩) hlt).trans h.c0, (hb.cell (p := ⟨b, _, none⟩) hlt).trans h.c1, (hb.cell (p := ⟨b, _, none⟩) hlt).trans h.c2, (hb.cell (p := ⟨b, _, none⟩) hlt).trans h.c3, (hb.cell (p := ⟨b, _, none⟩) hlt).trans h.c4, (hb.cell (p := ⟨b, _, none⟩) hlt).trans h.c5⟩
abbrev SlO (w : World) (a : Option Addr) (cap : Nat) (xs : List Ord) : Prop := SlR encO 6 w a cap xs
abbrev OwnO (base : Nat) (w : World) (v : Value) (xs : List Ord) : Prop := Own encO 6 23 base w v xs
theorem SlR.cells6 {w : World} {a : Option Addr} {cap : Nat} {xs : List Ord} (h : SlO w a cap xs) (h0 : xs ≠ []) : ∃ b off, a = some ⟨b, off, none⟩ ∧ b < w.heap.size ∧ ∀ j x, xs[j]? = some x → Cells6 w b (off + j * 6) x := by
  obtain ⟨b, off, h1, h2, h3⟩ := h.at h0
  exact ⟨b, off, h1, h2, fun j x hx => cells6_of (h3 j x hx)⟩

end Go.Proofs.YtecfajnmekpeoaaDoor
