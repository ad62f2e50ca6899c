/-
  For rows without a laid variable: arguments opened (numbers, slices of structs with a property of each), and read behind the call as before. Conditions: none.
-/
import Derived.Test.YtchalebenpmnpaaRows
import Derived.Test.YtchalebenpmnpaaMl
import Derived.Deep.Slices
import Derived.ProofKit
import Derived.OpenShut
import Derived.Laws.IdiomArrays
import Derived.Lib.SmallJoins
namespace Go.Proofs.Ytchalebenpmnpaa
open Go.ChangeShapes Go.WideShapes Go.ChangeAt Go.RowKit Go.Deep Go.WideElems Go.Joins

theorem seatOwn : ownKnob Try.prog.godebug = none := by kernel_rfl
theorem seatLaidOut : laidOutB Try.prog = true := by kernel_rfl
section
variable {H : Type} {enc : TypeId × Value → H} {P : Program} {w : World} {base : Nat} {spare : Nat → Bool} {held : Bool}
theorem okWide_slice_ok {r : Reach} {b0 : Nat} {t e : TypeId} {v : Value} (ht : P.underlying t = some (.slice e)) (h : Value.okWide P w r b0 t v) :
    v = .slice none 0 0 ∨ ∃ a len cap, v = .slice (some a) len cap ∧ len ≤ cap ∧ cap ≤ 9223372036854775807 ∧ a.spot = none ∧ a.block < w.heap.size := by
  obtain ⟨a, len, cap, rfl⟩ := okWide_slice ht h
  simp only [Value.okWide, ht, Cell.okWide] at h
  cases a with
  | none =>
    left
    by_cases h1 : len = 0
    · by_cases h2 : cap = 0
      · rw [h1, h2]
      · subst h1
        cases cap with
        | zero => exact absurd rfl h2
        | succ c => simp [Cell.ok, ht] at h
    · cases len with
      | zero => exact absurd rfl h1
      | succ c => simp [Cell.ok, ht] at h
  | some a =>
    right
    simp only [Cell.ok, ht] at h
    obtain ⟨h1, h2, h3, h4, row, cells, h5, _⟩ := h
    refine ⟨a, len, cap, rfl, h1, by have : IntKind.i64.max = 9223372036854775807 := rfl; omega, h4, ?_⟩
    refine Nat.lt_of_not_le fun hle => ?_
    have h6 : w.heap[a.block]? = none := Array.getElem?_eq_none hle
    simp [World.shape?, h6] at h5
theorem open_slP {α : Type} (encE : α → List Value) (k : Nat) (Pr : α → Prop) {r : Reach} {b0 : Nat} {t e : TypeId} {v : Value} {d : DataW H} {p : List MemPlace} (hk : ∀ x, (encE x).length = k) (ht : P.underlying t = some (.slice e)) (hC : P.cellsOf e = k)
    (hdec : ∀ n cs y, DataW.trod enc P w base spare held n e cs = some y → ∃ x : α, cs = encE x ∧ Pr x)
    (hv : Value.okWide P w r b0 t v) (h : DataW.Trod enc P w base spare held t v d p) : ∃ a cap, ∃ xs : List α, v = .slice a xs.length cap ∧ SlR encE k w a cap xs ∧ ∀ x ∈ xs, Pr x := by
  rcases okWide_slice_ok ht hv with rfl | ⟨a, len, cap, rfl, hlc, hmax, hsp, hlt⟩
  · exact ⟨none, 0, [], rfl, SlR.nil w, by simp⟩
  · obtain ⟨fuel, hf⟩ := h
    rcases open_slice ht hf with ⟨h0, _⟩ | ⟨a', len', cap', m, n, D, Pl, hcs, hb, hl, hm, hmm, hx, hi⟩
    · simp [Value.cells] at h0
    · simp only [Value.cells, List.cons.injEq, Value.slice.injEq, Option.some.injEq, and_true] at hcs
      obtain ⟨rfl, rfl, rfl⟩ := hcs
      have hlm : len ≤ m := by rw [hmm]; split <;> omega
      have hE : ∀ i, i < len → ∃ x : α, w.cells? base (a.add (i * P.cellsOf e)) (P.cellsOf e) = some (encE x) ∧ Pr x := fun i h => by
        obtain ⟨cs', h1, h2⟩ := hi i (by omega)
        obtain ⟨x, rfl, hp⟩ := hdec _ _ _ h2
        exact ⟨x, h1, hp⟩
      have hL : ∀ m, m ≤ len → ∃ xs : List α, xs.length = m ∧ (∀ j x, xs[j]? = some x → w.cells? base (a.add (j * P.cellsOf e)) (P.cellsOf e) = some (encE x)) ∧ ∀ x ∈ xs, Pr x := by
        intro m hm
        induction m with
        | zero => exact ⟨[], rfl, fun j x hx => by simp at hx, by simp⟩
        | succ m ih =>
          obtain ⟨xs, h1, h2, h3⟩ := ih (by omega)
          obtain ⟨x, hx, hp⟩ := hE m (by omega)
          refine ⟨xs ++ [x], by simp [h1], fun j y hy => ?_, fun y hy => ?_⟩
          · by_cases hj : j < xs.length
            · rw [List.getElem?_append_left hj] at hy; exact h2 j y hy
            · rw [List.getElem?_append_right (by omega)] at hy
              have : j - xs.length = 0 := by
                have := (List.getElem?_eq_some_iff.1 hy).1; simp at this; omega
              rw [this] at hy; simp at hy; subst hy
              have : j = m := by omega
              subst this; exact hx
          · rcases List.mem_append.1 hy with hy | hy
            · exact h3 y hy
            · simp at hy; subst hy; exact hp
      obtain ⟨xs, hlen, hxs, hpr⟩ := hL len (Nat.le_refl _)
      refine ⟨some a, cap, xs, by rw [hlen], ⟨by omega, hmax, (fun h => by cases h), fun ad had _ => ?_⟩, hpr⟩
      cases had
      refine ⟨hsp, hlt, fun j x hx i v hv => ?_⟩
      obtain ⟨_, h1, h2⟩ := World.cells?_some (hxs j x hx)
      have hik : i < k := by have := (List.getElem?_eq_some_iff.1 hv).1; rwa [hk] at this
      have h3 := h2 i (by rw [hC]; exact hik)
      rw [hv] at h3
      obtain ⟨b, off, sp⟩ := a
      simp only at hsp; subst hsp
      rw [hC] at h3
      rwa [Addr.add_lit, Addr.add_lit] at h3
/-- a number of 64 bits among the cells -/
theorem trod_i64 {fuel : Nat} {t : TypeId} {c : Value} {x : DataW H × List MemPlace} (ht : P.underlying t = some (.int .i64)) (h : DataW.trod enc P w base spare held fuel t [c] = some x) : ∃ n : Int, c = .int .i64 n ∧ -9223372036854775808 ≤ n ∧ n ≤ 9223372036854775807 := by
  obtain ⟨n, e, _, hw⟩ := DataW.trod_int (k := .i64) ht h
  simp only [List.cons.injEq, and_true] at e
  simp only [Lit.wf, Bool.and_eq_true, decide_eq_true_eq] at hw
  exact ⟨n, e, hw⟩
theorem trod_struct4 {t : TypeId} {f0 f1 f2 f3 : Field} {fuel : Nat} {cs : List Value} {x : DataW H × List MemPlace} (ht : P.underlying t = some (.struct #[f0, f1, f2, f3])) (ho : f0.offset = 0 ∧ f1.offset = 1 ∧ f2.offset = 2 ∧ f3.offset = 3) (hc : P.cellsOf f0.type = 1 ∧ P.cellsOf f1.type = 1 ∧ P.cellsOf f2.type = 1 ∧ P.cellsOf f3.type = 1) (hC : P.cellsOf t = 4) (h : DataW.trod enc P w base spare held fuel t cs = some x) :
    ∃ c0 c1 c2 c3 y0 y1 y2 y3 n, cs = [c0, c1, c2, c3] ∧ DataW.trod enc P w base spare held n f0.type [c0] = some y0 ∧ DataW.trod enc P w base spare held n f1.type [c1] = some y1 ∧ DataW.trod enc P w base spare held n f2.type [c2] = some y2 ∧ DataW.trod enc P w base spare held n f3.type [c3] = some y3 := by
  obtain ⟨xs, n, _, rfl, hl, hlen, hf⟩ := DataW.trod_struct ht h
  rw [hC] at hl
  match xs, hlen, cs, hl with
  | [y0, y1, y2, y3], _, [c0, c1, c2, c3], _ =>
    refine ⟨c0, c1, c2, c3, y0, y1, y2, y3, n, rfl, ?_, ?_, ?_, ?_⟩
    · have := hf 0 f0 rfl; rw [ho.1, hc.1] at this; simpa using this
    · have := hf 1 f1 rfl; rw [ho.2.1, hc.2.1] at this; simpa using this
    · have := hf 2 f2 rfl; rw [ho.2.2.1, hc.2.2.1] at this; simpa using this
    · have := hf 3 f3 rfl; rw [ho.2.2.2, hc.2.2.2] at this; simpa using this
end
section
variable {H : Type} {enc : TypeId × Value → H} {W : World} {base : Nat} {sp : Nat → Bool} {held : Bool} {b0 : Nat} {v : Value} {d : DataW H} {p : List MemPlace}
set_option maxRecDepth 20000 in
theorem int_open {k : IntKind} {t : TypeId} (ht : Try.prog.underlying t = some (.int k)) (hv : Value.okWide Try.prog W .any b0 t v) (h : DataW.Trod enc Try.prog W base sp held t v d p) : ∃ n : Int, v = .int k n ∧ k.min ≤ n ∧ n ≤ k.max := by
  obtain ⟨n, rfl⟩ := okWide_int ht hv
  simp only [Value.okWide, ht, Cell.okWide, Cell.ok, IntKind.has] at hv
  exact ⟨n, rfl, hv.2⟩
set_option maxRecDepth 20000 in
theorem i64_open {t : TypeId} (ht : Try.prog.underlying t = some (.int .i64)) (hv : Value.okWide Try.prog W .any b0 t v) (h : DataW.Trod enc Try.prog W base sp held t v d p) : ∃ n : Int, v = .int .i64 n ∧ -9223372036854775808 ≤ n ∧ n ≤ 9223372036854775807 := by
  obtain ⟨n, e, h1, h2⟩ := int_open ht hv h
  rw [show IntKind.i64.min = -9223372036854775808 from rfl] at h1
  rw [show IntKind.i64.max = 9223372036854775807 from rfl] at h2
  exact ⟨n, e, h1, h2⟩
theorem below_trodAll {W' : World} (hb : Below W.heap.size W W') : ∀ {ts : List TypeId} {vs : List Value} {ds : List (DataW H)} {ps : List MemPlace}, (∀ t ∈ ts, Try.prog.readableRec t = true ∧ t < Try.prog.types.size) → DataW.TrodAll enc Try.prog W 0 (fun _ => true) true ts vs ds ps → DataW.TrodAll enc Try.prog W' 0 (fun b => decide (b < W.heap.size)) true ts vs ds ps := by
  intro ts
  induction ts with
  | nil =>
    intro vs ds ps _ h
    obtain ⟨rfl, rfl, rfl⟩ := trodAll_nil h
    exact rfl
  | cons t ts ih =>
    intro vs ds ps hr h
    have hlt := h.lt
    obtain ⟨v, vs', d, ds', p, q, rfl, rfl, rfl, h0, h1⟩ := trodAll_cons h
    refine ⟨p, q, Below.trod seatLaidOut (hr t (by simp)).1 (hr t (by simp)).2 h0 hb (fun x hx => hlt x (by simp [hx])), ih (fun u hu => hr u (by simp [hu])) h1, rfl⟩
end
end Go.Proofs.Ytchalebenpmnpaa
