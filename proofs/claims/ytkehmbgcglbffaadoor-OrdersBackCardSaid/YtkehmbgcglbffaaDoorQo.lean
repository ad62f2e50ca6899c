/-
  For the rows of layer 22: open orders, lots, an event opened. Conditions: the event's texts are bounded elsewhere.
-/
import Derived.Test.YtkehmbgcglbffaaDoorQk
import Derived.Test.YtkehmbgcglbffaaDoorEv
namespace Go.Proofs.YtkehmbgcglbffaaDoor
open Go.ChangeShapes Go.WideShapes Go.ChangeAt Go.RowKit Go.Deep Go.WideElems Go.Joins
section
variable {H : Type} {enc : TypeId × Value → H} {W : World} {base : Nat} {sp : Nat → Bool} {held : Bool} {b0 : Nat} {v : Value} {d : DataW H} {p : List MemPlace}
theorem trod_u8 {P : Program} {w : World} {spare : Nat → Bool} {fuel : Nat} {t : TypeId} {c : Value} {x : DataW H × List MemPlace} (ht : P.underlying t = some (.int .u8)) (h : DataW.trod enc P w base spare held fuel t [c] = some x) : ∃ n : Int, c = .int .u8 n ∧ 0 ≤ n ∧ n ≤ 255 := by
  obtain ⟨n, e, _, hw⟩ := DataW.trod_int (k := .u8) ht h
  simp only [List.cons.injEq, and_true] at e
  simp only [Lit.wf, Bool.and_eq_true, decide_eq_true_eq] at hw
  exact ⟨n, e, hw⟩
theorem lot_dec (n : Nat) (cs : List Value) (y : DataW H × List MemPlace) (h : DataW.trod enc Tryd.prog W base sp held n 36 cs = some y) : ∃ r : Lt, cs = encL r ∧ True := by
  obtain ⟨c0, c1, c2, c3, y0, y1, y2, y3, n', rfl, h0, h1, h2, h3⟩ := trod_struct4 Tryd.underlying36 ⟨rfl, rfl, rfl, rfl⟩ ⟨by kernel_rfl, by kernel_rfl, by kernel_rfl, by kernel_rfl⟩ (by kernel_rfl) h
  obtain ⟨a, rfl, _⟩ := trod_i64 Tryd.underlying2 h0
  obtain ⟨s, rfl, _⟩ := trod_i64 Tryd.underlying3 h1
  obtain ⟨f, rfl, _⟩ := trod_i64 Tryd.underlying3 h2
  obtain ⟨g, rfl, _⟩ := trod_i64 Tryd.underlying2 h3
  exact ⟨⟨a, s, f, g⟩, rfl, trivial⟩
set_option maxRecDepth 20000 in
theorem open_dec (n : Nat) (cs : List Value) (y : DataW H × List MemPlace) (h : DataW.trod enc Tryd.prog W base sp held n 34 cs = some y) : ∃ r : Opn, cs = encP r ∧ True := by
  obtain ⟨xs, m, _, rfl, hl, hlen, hf⟩ := DataW.trod_struct Tryd.underlying34 h
  rw [show Tryd.prog.cellsOf 34 = 6 by kernel_rfl] at hl
  match xs, hlen, cs, hl with
  | [y0, y1, y2, y3, y4, y5], _, [c0, c1, c2, c3, c4, c5], _ =>
    obtain ⟨a, rfl, _⟩ := trod_i64 (c := c0) Tryd.underlying3 (hf 0 _ rfl)
    obtain ⟨b, rfl, _⟩ := trod_i64 (c := c1) Tryd.underlying2 (hf 1 _ rfl)
    obtain ⟨i, rfl, _⟩ := trod_i64 (c := c2) Tryd.underlying3 (hf 2 _ rfl)
    obtain ⟨s, rfl, _⟩ := trod_u8 (c := c3) Tryd.underlying5 (hf 3 _ rfl)
    obtain ⟨q, rfl, _⟩ := trod_i64 (c := c4) Tryd.underlying2 (hf 4 _ rfl)
    obtain ⟨l, rfl, _⟩ := trod_i64 (c := c5) Tryd.underlying2 (hf 5 _ rfl)
    exact ⟨⟨a, b, i, s, q, l⟩, rfl, trivial⟩
theorem int_dec (n : Nat) (cs : List Value) (y : DataW H × List MemPlace) (h : DataW.trod enc Tryd.prog W base sp held n 2 cs = some y) : ∃ r : Int, cs = encI r ∧ True := by
  obtain ⟨a, e, _⟩ := DataW.trod_int (k := .i64) Tryd.underlying2 h
  exact ⟨a, e, trivial⟩
theorem txt_dec (n : Nat) (cs : List Value) (y : DataW H × List MemPlace) (h : DataW.trod enc Tryd.prog W base sp held n 9 cs = some y) : ∃ r : ByteArray, cs = encT r ∧ y.1 = .lit (.string r.data.toList) := by
  obtain ⟨s, e, x, _⟩ := DataW.trod_string Tryd.underlying9 h
  exact ⟨s, e, by rw [x]⟩
set_option maxRecDepth 20000 in
theorem lots_open (hv : Value.okWide Tryd.prog W .any b0 29 v) (h : DataW.Trod enc Tryd.prog W base sp held 29 v d p) : ∃ a cap, ∃ xs : List Lt, v = .slice a xs.length cap ∧ SlR encL 4 W a cap xs ∧ ∀ x ∈ xs, True :=
  open_slP encL 4 (fun _ => True) encL_len Tryd.underlying29 (by kernel_rfl) lot_dec hv h
set_option maxRecDepth 20000 in
theorem opens_open (hv : Value.okWide Tryd.prog W .any b0 28 v) (h : DataW.Trod enc Tryd.prog W base sp held 28 v d p) : ∃ a cap, ∃ xs : List Opn, v = .slice a xs.length cap ∧ SlR encP 6 W a cap xs ∧ ∀ x ∈ xs, True :=
  open_slP encP 6 (fun _ => True) encP_len Tryd.underlying28 (by kernel_rfl) open_dec hv h
end
section
variable {H : Type} {enc : TypeId × Value → H} {P : Program} {w : World} {base : Nat} {spare : Nat → Bool} {held : Bool}
theorem open_slQ {α : Type} (encE : α → List Value) (k : Nat) (Pr : α → DataW H → Prop) {r : Reach} {b0 : Nat} {t e : TypeId} {v : Value} {d : DataW H} {p : List MemPlace} (hk : ∀ x, (encE x).length = k) (ht : P.underlying t = some (.slice e)) (hC : P.cellsOf e = k)
    (hdec : ∀ n cs y, DataW.trod enc P w base spare held n e cs = some y → ∃ x : α, cs = encE x ∧ Pr x y.1)
    (hv : Value.okWide P w r b0 t v) (h : DataW.Trod enc P w base spare held t v d p) : ∃ a cap, ∃ xs : List α, v = .slice a xs.length cap ∧ SlR encE k w a cap xs ∧ ∀ x ∈ xs, ∃ ds rest, d = .slice ds rest ∧ ∃ y ∈ ds, Pr x y := by
  rcases okWide_slice_ok ht hv with rfl | ⟨a, len, cap, rfl, hlc, hmax, hsp, hlt⟩
  · exact ⟨none, 0, [], rfl, SlR.nil w, by simp⟩
  · obtain ⟨fuel, hf⟩ := h
    rcases open_slice ht hf with ⟨h0, _⟩ | ⟨a', len', cap', m, n, D, Pl, hcs, hb, hl, hm, hmm, hx, hi⟩
    · simp [Value.cells] at h0
    · simp only [Value.cells, List.cons.injEq, Value.slice.injEq, Option.some.injEq, and_true] at hcs
      obtain ⟨rfl, rfl, rfl⟩ := hcs
      have hlm : len ≤ m := by rw [hmm]; split <;> omega
      have hE : ∀ i, i < len → ∃ x : α, w.cells? base (a.add (i * P.cellsOf e)) (P.cellsOf e) = some (encE x) ∧ Pr x (D i) := fun i h => by
        obtain ⟨cs', h1, h2⟩ := hi i (by omega)
        obtain ⟨x, rfl, hp⟩ := hdec _ _ _ h2
        exact ⟨x, h1, hp⟩
      have hL : ∀ m, m ≤ len → ∃ xs : List α, xs.length = m ∧ (∀ j x, xs[j]? = some x → w.cells? base (a.add (j * P.cellsOf e)) (P.cellsOf e) = some (encE x)) ∧ ∀ x ∈ xs, ∃ i, i < len ∧ Pr x (D i) := by
        intro m hm
        induction m with
        | zero => exact ⟨[], rfl, fun j x hx => by simp at hx, by simp⟩
        | succ m ih =>
          obtain ⟨xs, h1, h2, h3⟩ := ih (by omega)
          obtain ⟨x, hx, hp⟩ := hE m (by omega)
          refine ⟨xs ++ [x], by simp [h1], fun j y hy => ?_, fun y hy => ?_⟩
          · by_cases hj : j < xs.length
            · rw [List.getElem?_append_left hj] at hy; exact h2 j y hy
            · rw [List.getElem?_append_right (by omega)] at hy
              have : j - xs.length = 0 := by
                have := (List.getElem?_eq_some_iff.1 hy).1; simp at this; omega
              rw [this] at hy; simp at hy; subst hy
              have : j = m := by omega
              subst this; exact hx
          · rcases List.mem_append.1 hy with hy | hy
            · exact h3 y hy
            · simp at hy; subst hy; exact ⟨m, by omega, hp⟩
      obtain ⟨xs, hlen, hxs, hpr⟩ := hL len (Nat.le_refl _)
      refine ⟨some a, cap, xs, by rw [hlen], ⟨by omega, hmax, (fun h => by cases h), fun ad had _ => ?_⟩, fun x hx2 => ?_⟩
      · cases had
        refine ⟨hsp, hlt, fun j x hx i v hv => ?_⟩
        obtain ⟨_, h1, h2⟩ := World.cells?_some (hxs j x hx)
        have hik : i < k := by have := (List.getElem?_eq_some_iff.1 hv).1; rwa [hk] at this
        have h3 := h2 i (by rw [hC]; exact hik)
        rw [hv] at h3
        obtain ⟨b, off, sp⟩ := a
        simp only at hsp; subst hsp
        rw [hC] at h3
        rwa [Addr.add_lit, Addr.add_lit] at h3
      · obtain ⟨i, hi2, hp⟩ := hpr x hx2
        simp only [Prod.mk.injEq] at hx
        exact ⟨_, _, hx.1, D i, List.mem_map.2 ⟨i, List.mem_range.2 hi2, rfl⟩, hp⟩
theorem mem_weightsAll {e : TypeId} {n : Nat} {y : DataW H} (hn : n ∈ DataW.weights P e y) : ∀ {ds : List (DataW H)}, y ∈ ds → n ∈ DataW.weightsAll P e ds
  | [], h => by cases h
  | d :: r, h => by
    rw [DataW.weightsAll]
    rcases List.mem_cons.1 h with rfl | h
    · exact List.mem_append_left _ hn
    · exact List.mem_append_right _ (mem_weightsAll hn h)
end
section
variable {H : Type} {enc : TypeId × Value → H} {W : World} {base : Nat} {sp : Nat → Bool} {held : Bool} {b0 : Nat} {v : Value} {d : DataW H} {p : List MemPlace}
set_option maxRecDepth 20000 in
theorem nums_open (hv : Value.okWide Tryd.prog W .any b0 23 v) (h : DataW.Trod enc Tryd.prog W base sp held 23 v d p) : ∃ a cap, ∃ xs : List Int, v = .slice a xs.length cap ∧ SlR encI 1 W a cap xs ∧ ∀ x ∈ xs, True :=
  open_slP encI 1 (fun _ => True) encI_len Tryd.underlying23 (by kernel_rfl) int_dec hv h
set_option maxRecDepth 20000 in
theorem texts_open (hv : Value.okWide Tryd.prog W .any b0 24 v) (h : DataW.Trod enc Tryd.prog W base sp held 24 v d p) : ∃ a cap, ∃ xs : List ByteArray, v = .slice a xs.length cap ∧ SlR encT 1 W a cap xs ∧ ∀ x ∈ xs, x.size ∈ DataW.weights Tryd.prog 24 d := by
  obtain ⟨a, cap, xs, h1, h2, h3⟩ := open_slQ encT 1 (fun x y => y = .lit (.string x.data.toList)) (fun _ => rfl) Tryd.underlying24 (by kernel_rfl) txt_dec hv h
  refine ⟨a, cap, xs, h1, h2, fun x hx => ?_⟩
  obtain ⟨ds, rest, rfl, y, hy, rfl⟩ := h3 x hx
  rw [DataW.weights, Tryd.underlying24]
  refine List.mem_cons_of_mem _ (List.mem_append_left _ (mem_weightsAll ?_ hy))
  rw [DataW.weights]
  exact List.mem_singleton.2 Array.length_toList.symm
set_option maxRecDepth 20000 in
theorem ev_open (hv : Value.okWide Tryd.prog W .any b0 26 v) (h : DataW.Trod enc Tryd.prog W base sp held 26 v d p) (hwt : ∀ n ∈ DataW.weights Tryd.prog 26 d, n ≤ reachBytes) : ∃ x e, v = .agg (encV x).toArray ∧ EvR W x e := by
  obtain ⟨⟨cs⟩, rfl, hsz⟩ := okWide_struct Tryd.underlying26 hv
  have hrow : Row.okWide Tryd.prog W .any b0 26 ⟨cs⟩ := by
    have hv2 := hv
    simp only [Value.okWide, Tryd.underlying26] at hv2
    obtain ⟨cs2, h1, _, h3⟩ := hv2
    injection h1 with h1
    rw [h1]; exact h3
  obtain ⟨ts, hts, -, hcell⟩ := hrow
  obtain rfl := Option.some.inj ((show Tryd.prog.cellTypes Tryd.prog.depth 26 = some [5, 5, 23, 24] by kernel_rfl).symm.trans hts)
  obtain ⟨fuel, hf⟩ := h
  obtain ⟨xs, m, _, hx, hl, hlen, hfi⟩ := DataW.trod_struct Tryd.underlying26 hf
  rw [show Tryd.prog.cellsOf 26 = 4 by kernel_rfl] at hl
  have hl2 : cs.length = 4 := hl
  match xs, hlen, cs, hl2 with
  | [y0, y1, y2, y3], _, [c0, c1, c2, c3], _ =>
    obtain ⟨a, rfl, _⟩ := trod_u8 (c := c0) Tryd.underlying5 (hfi 0 _ rfl)
    obtain ⟨b, rfl, hb1, hb2⟩ := trod_u8 (c := c1) Tryd.underlying5 (hfi 1 _ rfl)
    simp only [Prod.mk.injEq] at hx
    obtain ⟨rfl, -⟩ := hx
    have k2 : Value.okWide Tryd.prog W .any b0 23 c2 := by
      obtain ⟨u, hu, hc⟩ := hcell 2 c2 rfl
      obtain rfl := Option.some.inj (show some 23 = some u from hu)
      simp only [Value.okWide, Tryd.underlying23]; exact hc
    have k3 : Value.okWide Tryd.prog W .any b0 24 c3 := by
      obtain ⟨u, hu, hc⟩ := hcell 3 c3 rfl
      obtain rfl := Option.some.inj (show some 24 = some u from hu)
      simp only [Value.okWide, Tryd.underlying24]; exact hc
    have g2 : DataW.trod enc Tryd.prog W base sp held m 23 [c2] = some y2 := hfi 2 _ rfl
    have g3 : DataW.trod enc Tryd.prog W base sp held m 24 [c3] = some y3 := hfi 3 _ rfl
    obtain ⟨i2, j2, m2, rfl⟩ := okWide_slice Tryd.underlying23 k2
    obtain ⟨i3, j3, m3, rfl⟩ := okWide_slice Tryd.underlying24 k3
    obtain ⟨a2, q2, ns, e2, S2, -⟩ := nums_open (d := y2.1) (p := y2.2) k2 ⟨m, g2⟩
    obtain ⟨a3, q3, tx, e3, S3, w3⟩ := texts_open (d := y3.1) (p := y3.2) k3 ⟨m, g3⟩
    injection e2 with e4 e5 e6
    injection e3 with e7 e8 e9
    subst e4 e5 e6 e7 e8 e9
    refine ⟨⟨a, b, _, _, _, _, _, _⟩, ⟨a, b, ns, tx⟩, rfl, ⟨rfl, rfl, rfl, rfl, S2, S3, ⟨hb1, hb2⟩, fun s hs => ?_⟩⟩
    have h5 := hwt s.size (by
      rw [DataW.weights, Tryd.underlying26]
      have h6 := w3 s hs
      simp only [List.map_cons, List.map_nil, DataW.weightsEach]
      exact List.mem_append_right _ (List.mem_append_right _ (List.mem_append_right _ (List.mem_append_left _ h6))))
    have h7 : reachBytes ≤ 140737488355328 := by decide
    exact Nat.le_trans h5 h7
end
end Go.Proofs.YtkehmbgcglbffaaDoor
