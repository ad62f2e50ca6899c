/-
  For the rows of this seat: an argument that is a slice of structs reads as a list (SlR). Conditions: none.
-/
import Derived.Test.YtecfajnmekpeoaaDoorRk
import Derived.Test.YtecfajnmekpeoaaDoorMl
import Derived.Deep.Slices
namespace Go.Proofs.YtecfajnmekpeoaaDoor
open Go.ChangeShapes Go.WideShapes Go.ChangeAt Go.RowKit Go.Deep Go.WideElems Go.Joins

section
variable {H : Type} {enc : TypeId × Value → H} {P : Program} {w : World} {base : Nat} {spare : Nat → Bool} {held : Bool}
theorem okWide_slice_ok {r : Reach} {b0 : Nat} {t e : TypeId} {v : Value} (ht : P.underlying t = some (.slice e)) (h : Value.okWide P w r b0 t v) :
    v = .slice none 0 0 ∨ ∃ a len cap, v = .slice (some a) len cap ∧ len ≤ cap ∧ cap ≤ 9223372036854775807 ∧ a.spot = none ∧ a.block < w.heap.size := by
  obtain ⟨a, len, cap, rfl⟩ := okWide_slice ht h
  simp only [Value.okWide, ht, Cell.okWide] at h
  cases a with
  | none =>
    left
    by_cases h1 : len = 0
    · by_cases h2 : cap = 0
      · rw [h1, h2]
      · subst h1
        cases cap with
        | zero => exact absurd rfl h2
        | succ c => simp [Cell.ok, ht] at h
    · cases len with
      | zero => exact absurd rfl h1
      | succ c => simp [Cell.ok, ht] at h
  | some a =>
    right
    simp only [Cell.ok, ht] at h
    obtain ⟨h1, h2, h3, h4, row, cells, h5, _⟩ := h
    refine ⟨a, len, cap, rfl, h1, by have : IntKind.i64.max = 9223372036854775807 := rfl; omega, h4, ?_⟩
    refine Nat.lt_of_not_le fun hle => ?_
    have h6 : w.heap[a.block]? = none := Array.getElem?_eq_none hle
    simp [World.shape?, h6] at h5
theorem open_slR {α : Type} (encE : α → List Value) (k : Nat) {r : Reach} {b0 : Nat} {t e : TypeId} {v : Value} {d : DataW H} {p : List MemPlace} (hk : ∀ x, (encE x).length = k) (ht : P.underlying t = some (.slice e)) (hC : P.cellsOf e = k)
    (hdec : ∀ n cs y, DataW.trod enc P w base spare held n e cs = some y → ∃ x : α, cs = encE x)
    (hv : Value.okWide P w r b0 t v) (h : DataW.Trod enc P w base spare held t v d p) : ∃ a cap, ∃ xs : List α, v = .slice a xs.length cap ∧ SlR encE k w a cap xs := by
  rcases okWide_slice_ok ht hv with rfl | ⟨a, len, cap, rfl, hlc, hmax, hsp, hlt⟩
  · exact ⟨none, 0, [], rfl, SlR.nil w⟩
  · obtain ⟨fuel, hf⟩ := h
    rcases open_slice ht hf with ⟨h0, _⟩ | ⟨a', len', cap', m, n, D, Pl, hcs, hb, hl, hm, hmm, hx, hi⟩
    · simp [Value.cells] at h0
    · simp only [Value.cells, List.cons.injEq, Value.slice.injEq, Option.some.injEq, and_true] at hcs
      obtain ⟨rfl, rfl, rfl⟩ := hcs
      have hlm : len ≤ m := by rw [hmm]; split <;> omega
      have hE : ∀ i, i < len → ∃ x : α, w.cells? base (a.add (i * P.cellsOf e)) (P.cellsOf e) = some (encE x) := fun i h => by
        obtain ⟨cs', h1, h2⟩ := hi i (by omega)
        obtain ⟨x, rfl⟩ := hdec _ _ _ h2
        exact ⟨x, h1⟩
      have hL : ∀ m, m ≤ len → ∃ xs : List α, xs.length = m ∧ ∀ j x, xs[j]? = some x → w.cells? base (a.add (j * P.cellsOf e)) (P.cellsOf e) = some (encE x) := by
        intro m hm
        induction m with
        | zero => exact ⟨[], rfl, fun j x hx => by simp at hx⟩
        | succ m ih =>
          obtain ⟨xs, h1, h2⟩ := ih (by omega)
          obtain ⟨x, hx⟩ := hE m (by omega)
          refine ⟨xs ++ [x], by simp [h1], fun j y hy => ?_⟩
          by_cases hj : j < xs.length
          · rw [List.getElem?_append_left hj] at hy; exact h2 j y hy
          · rw [List.getElem?_append_right (by omega)] at hy
            have : j - xs.length = 0 := by
              have := (List.getElem?_eq_some_iff.1 hy).1; simp at this; omega
            rw [this] at hy; simp at hy; subst hy
            have : j = m := by omega
            subst this; exact hx
      obtain ⟨xs, hlen, hxs⟩ := hL len (Nat.le_refl _)
      refine ⟨some a, cap, xs, by rw [hlen], ⟨by omega, hmax, (fun h => by cases h), fun ad had => ?_⟩⟩
      cases had
      refine ⟨hsp, hlt, fun j x hx i v hv => ?_⟩
      obtain ⟨_, h1, h2⟩ := World.cells?_some (hxs j x hx)
      have hik : i < k := by have := (List.getElem?_eq_some_iff.1 hv).1; rwa [hk] at this
      have h3 := h2 i (by rw [hC]; exact hik)
      rw [hv] at h3
      obtain ⟨b, off, sp⟩ := a
      simp only at hsp; subst hsp
      rw [hC] at h3
      rwa [Addr.add_lit, Addr.add_lit] at h3
end
end Go.Proofs.YtecfajnmekpeoaaDoor
