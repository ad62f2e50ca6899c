/-
  For the rows of layer 23: positions opened. Conditions: none.
-/
import Derived.Test.YtemngicaoacfaaaGreatDoorQo
import Derived.Test.YtemngicaoacfaaaGreatDoorUe
namespace Go.Proofs.YtemngicaoacfaaaGreatDoor
open Go.ChangeShapes Go.WideShapes Go.ChangeAt Go.RowKit Go.Deep Go.WideElems Go.Joins
section
variable {H : Type} {enc : TypeId × Value → H} {W : World} {base : Nat} {sp : Nat → Bool} {held : Bool} {b0 : Nat} {v : Value} {d : DataW H} {p : List MemPlace}
set_option maxRecDepth 20000 in
theorem pos_dec (n : Nat) (cs : List Value) (y : DataW H × List MemPlace) (h : DataW.trod enc Tryz.prog W base sp held n 39 cs = some y) : ∃ r : Pos, cs = encS r ∧ True := by
  obtain ⟨xs, m, _, rfl, hl, hlen, hf⟩ := DataW.trod_struct Tryz.underlying39 h
  rw [show Tryz.prog.cellsOf 39 = 6 by kernel_rfl] at hl
  match xs, hlen, cs, hl with
  | [y0, y1, y2, y3, y4, y5], _, [c0, c1, c2, c3, c4, c5], _ =>
    obtain ⟨a, rfl, _⟩ := trod_i64 (c := c0) Tryz.underlying3 (hf 0 _ rfl)
    obtain ⟨b, rfl, _⟩ := trod_i64 (c := c1) Tryz.underlying3 (hf 1 _ rfl)
    obtain ⟨i, rfl, _⟩ := trod_i64 (c := c2) Tryz.underlying2 (hf 2 _ rfl)
    obtain ⟨s, rfl, _⟩ := trod_i64 (c := c3) Tryz.underlying2 (hf 3 _ rfl)
    obtain ⟨q, rfl, _⟩ := trod_i64 (c := c4) Tryz.underlying2 (hf 4 _ rfl)
    obtain ⟨l, rfl, _⟩ := trod_i64 (c := c5) Tryz.underlying2 (hf 5 _ rfl)
    exact ⟨⟨a, b, i, s, q, l⟩, rfl, trivial⟩
set_option maxRecDepth 20000 in
theorem poss_open (hv : Value.okWide Tryz.prog W .any b0 22 v) (h : DataW.Trod enc Tryz.prog W base sp held 22 v d p) : ∃ a cap, ∃ xs : List Pos, v = .slice a xs.length cap ∧ SlR encS 6 W a cap xs ∧ ∀ x ∈ xs, True :=
  open_slP encS 6 (fun _ => True) encS_len Tryz.underlying22 (by kernel_rfl) pos_dec hv h
end
end Go.Proofs.YtemngicaoacfaaaGreatDoor
