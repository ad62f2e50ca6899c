/-
  For the rows of this seat: the arguments opened (orders by value, lists of orders), and read behind the call as before. Conditions: none.
-/
import Derived.Test.YtecfajnmekpeoaaDoorRl
import Derived.Test.YtecfajnmekpeoaaDoorEo
namespace Go.Proofs.YtecfajnmekpeoaaDoor
open Go.ChangeShapes Go.WideShapes Go.ChangeAt Go.RowKit Go.Deep Go.WideElems Go.Joins

theorem seatOwn : ownKnob Tryd.prog.godebug = none := by kernel_rfl
theorem seatLaidOut : laidOutB Tryd.prog = true := by kernel_rfl
section
variable {H : Type} {enc : TypeId × Value → H} {W : World} {base : Nat} {sp : Nat → Bool} {held : Bool} {b0 : Nat} {v : Value} {d : DataW H} {p : List MemPlace}
theorem order_dec (n : Nat) (cs : List Value) (y : DataW H × List MemPlace) (h : DataW.trod enc Tryd.prog W base sp held n 23 cs = some y) : ∃ o : Ord, cs = encO o := by
  obtain ⟨y0, y1, y2, y3, y4, y5, n', _, hlen, h0, h1, h2, h3, h4, h5⟩ := trod_struct6 Tryd.underlying23 h
  have hlen6 : cs.length = 6 := hlen.trans (by kernel_rfl)
  match cs, hlen6 with
  | [c0, c1, c2, c3, c4, c5], _ =>
    obtain ⟨k0, e0, _, _⟩ := DataW.trod_int (k := .i64) Tryd.underlying2 h0
    obtain ⟨k1, e1, _, _⟩ := DataW.trod_int (k := .i64) Tryd.underlying3 h1
    obtain ⟨k2, e2, _, _⟩ := DataW.trod_int (k := .i64) Tryd.underlying3 h2
    obtain ⟨k3, e3, _, _⟩ := DataW.trod_int (k := .u8) Tryd.underlying5 h3
    obtain ⟨k4, e4, _, _⟩ := DataW.trod_int (k := .i64) Tryd.underlying2 h4
    obtain ⟨k5, e5, _, _⟩ := DataW.trod_int (k := .i64) Tryd.underlying2 h5
    have q0 : [c0] = [Value.int .i64 k0] := e0
    have q1 : [c1] = [Value.int .i64 k1] := e1
    have q2 : [c2] = [Value.int .i64 k2] := e2
    have q3 : [c3] = [Value.int .u8 k3] := e3
    have q4 : [c4] = [Value.int .i64 k4] := e4
    have q5 : [c5] = [Value.int .i64 k5] := e5
    simp only [List.cons.injEq, and_true] at q0 q1 q2 q3 q4 q5
    subst q0; subst q1; subst q2; subst q3; subst q4; subst q5
    exact ⟨⟨k0, k1, k2, k3, k4, k5⟩, rfl⟩
theorem order_open (hv : Value.okWide Tryd.prog W .any b0 23 v) (h : DataW.Trod enc Tryd.prog W base sp held 23 v d p) : ∃ o : Ord, v = (.agg #[.int .i64 o.id, .int .i64 o.acct, .int .i64 o.inst, .int .u8 o.side, .int .i64 o.price, .int .i64 o.left]) := by
  obtain ⟨cs, rfl, hsz⟩ := okWide_struct Tryd.underlying23 hv
  obtain ⟨fuel, hf⟩ := h
  obtain ⟨o, ho⟩ := order_dec _ _ _ hf
  obtain ⟨l⟩ := cs
  have : l = encO o := by simpa [Value.cells] using ho
  subst this
  exact ⟨o, rfl⟩
theorem orders_open (hv : Value.okWide Tryd.prog W .any b0 31 v) (h : DataW.Trod enc Tryd.prog W base sp held 31 v d p) : ∃ a cap, ∃ xs : List Ord, v = .slice a xs.length cap ∧ SlO W a cap xs :=
  open_slR encO 6 encO_len Tryd.underlying31 (by kernel_rfl) order_dec hv h
theorem int_open {k : IntKind} {t : TypeId} (ht : Tryd.prog.underlying t = some (.int k)) (hv : Value.okWide Tryd.prog W .any b0 t v) (h : DataW.Trod enc Tryd.prog W base sp held t v d p) : ∃ n : Int, v = .int k n ∧ k.min ≤ n ∧ n ≤ k.max := by
  obtain ⟨n, rfl⟩ := okWide_int ht hv
  simp only [Value.okWide, ht, Cell.okWide, Cell.ok, IntKind.has] at hv
  exact ⟨n, rfl, hv.2⟩
theorem below_trodAll {W' : World} (hb : Below W.heap.size W W') : ∀ {ts : List TypeId} {vs : List Value} {ds : List (DataW H)} {ps : List MemPlace}, (∀ t ∈ ts, Tryd.prog.readableRec t = true ∧ t < Tryd.prog.types.size) → DataW.TrodAll enc Tryd.prog W 0 (fun _ => true) true ts vs ds ps → DataW.TrodAll enc Tryd.prog W' 0 (fun b => decide (b < W.heap.size)) true ts vs ds ps := by
  intro ts
  induction ts with
  | nil =>
    intro vs ds ps _ h
    obtain ⟨rfl, rfl, rfl⟩ := trodAll_nil h
    exact rfl
  | cons t ts ih =>
    intro vs ds ps hr h
    have hlt := h.lt
    obtain ⟨v, vs', d, ds', p, q, rfl, rfl, rfl, h0, h1⟩ := trodAll_cons h
    refine ⟨p, q, Below.trod seatLaidOut (hr t (by simp)).1 (hr t (by simp)).2 h0 hb (fun x hx => hlt x (by simp [hx])), ih (fun u hu => hr u (by simp [hu])) h1, rfl⟩
end
end Go.Proofs.YtecfajnmekpeoaaDoor
