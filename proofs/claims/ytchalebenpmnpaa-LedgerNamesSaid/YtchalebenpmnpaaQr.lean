/-
  For the ledger's rows: lists of rows and of postings opened. Conditions: none.
-/
import Derived.Test.YtchalebenpmnpaaQk
import Derived.Test.YtchalebenpmnpaaGi
namespace Go.Proofs.Ytchalebenpmnpaa
open Go.ChangeShapes Go.WideShapes Go.ChangeAt Go.RowKit Go.Deep Go.WideElems Go.Joins
section
variable {H : Type} {enc : TypeId × Value → H} {W : World} {base : Nat} {sp : Nat → Bool} {held : Bool} {b0 : Nat} {v : Value} {d : DataW H} {p : List MemPlace}
def RIn (r : Row) : Prop := (-9223372036854775808 ≤ r.free ∧ r.free ≤ 9223372036854775807) ∧ (-9223372036854775808 ≤ r.held ∧ r.held ≤ 9223372036854775807)
theorem row_dec (n : Nat) (cs : List Value) (y : DataW H × List MemPlace) (h : DataW.trod enc Try.prog W base sp held n 38 cs = some y) : ∃ r : Row, cs = encR r ∧ RIn r := by
  obtain ⟨c0, c1, c2, c3, y0, y1, y2, y3, n', rfl, h0, h1, h2, h3⟩ := trod_struct4 Try.underlying38 ⟨rfl, rfl, rfl, rfl⟩ ⟨by kernel_rfl, by kernel_rfl, by kernel_rfl, by kernel_rfl⟩ (by kernel_rfl) h
  obtain ⟨a, rfl, _⟩ := trod_i64 Try.underlying3 h0
  obtain ⟨s, rfl, _⟩ := trod_i64 Try.underlying3 h1
  obtain ⟨f, rfl, hf⟩ := trod_i64 Try.underlying2 h2
  obtain ⟨g, rfl, hg⟩ := trod_i64 Try.underlying2 h3
  exact ⟨⟨a, s, f, g⟩, rfl, hf, hg⟩
theorem post_dec (n : Nat) (cs : List Value) (y : DataW H × List MemPlace) (h : DataW.trod enc Try.prog W base sp held n 33 cs = some y) : ∃ r : Row, cs = encR r ∧ RIn r := by
  obtain ⟨c0, c1, c2, c3, y0, y1, y2, y3, n', rfl, h0, h1, h2, h3⟩ := trod_struct4 Try.underlying33 ⟨rfl, rfl, rfl, rfl⟩ ⟨by kernel_rfl, by kernel_rfl, by kernel_rfl, by kernel_rfl⟩ (by kernel_rfl) h
  obtain ⟨a, rfl, _⟩ := trod_i64 Try.underlying3 h0
  obtain ⟨s, rfl, _⟩ := trod_i64 Try.underlying3 h1
  obtain ⟨f, rfl, hf⟩ := trod_i64 Try.underlying2 h2
  obtain ⟨g, rfl, hg⟩ := trod_i64 Try.underlying2 h3
  exact ⟨⟨a, s, f, g⟩, rfl, hf, hg⟩
set_option maxRecDepth 20000 in
theorem rows_open (hv : Value.okWide Try.prog W .any b0 22 v) (h : DataW.Trod enc Try.prog W base sp held 22 v d p) : ∃ a cap, ∃ xs : List Row, v = .slice a xs.length cap ∧ SlL W a cap xs ∧ In64R xs :=
  open_slP encR 4 RIn encR_len Try.underlying22 (by kernel_rfl) row_dec hv h
set_option maxRecDepth 20000 in
theorem posts_open (hv : Value.okWide Try.prog W .any b0 23 v) (h : DataW.Trod enc Try.prog W base sp held 23 v d p) : ∃ a cap, ∃ xs : List Row, v = .slice a xs.length cap ∧ SlL W a cap xs ∧ In64R xs :=
  open_slP encR 4 RIn encR_len Try.underlying23 (by kernel_rfl) post_dec hv h
end
end Go.Proofs.Ytchalebenpmnpaa
