/-
  For the rows: a slice opened by what it reads as alone; a list of events opened. Conditions: the events' texts are bounded elsewhere.
-/
import Derived.Test.YtkehmbgcglbffaaGreatDoorQo
import Derived.Test.YtkehmbgcglbffaaGreatDoorWa
namespace Go.Proofs.YtkehmbgcglbffaaGreatDoor
open Go.ChangeShapes Go.WideShapes Go.ChangeAt Go.RowKit Go.Deep Go.WideElems Go.Joins
section
variable {H : Type} {enc : TypeId × Value → H} {P : Program} {w : World} {base : Nat} {held : Bool}
theorem cell_in {a : Addr} {v : Value} (h : w.cell? a = some v) : a.spot = none ∧ a.block < w.heap.size := by
  unfold World.cell? at h
  cases hb : w.heap[a.block]? with
  | none => rw [hb] at h; cases h
  | some o =>
    refine ⟨?_, (Array.getElem?_eq_some_iff.1 hb).1⟩
    rw [hb] at h
    cases o <;> first | (cases h; done) | (cases hs : a.spot with | none => rfl | some s => rw [hs] at h; simp at h)
theorem open_slT {α : Type} (encE : α → List Value) (k : Nat) (Pr : α → DataW H → Prop) {t e : TypeId} {fuel : Nat} {c : Value} {x : DataW H × List MemPlace} (hk : ∀ x, (encE x).length = k) (hk0 : 0 < k) (ht : P.underlying t = some (.slice e)) (hC : P.cellsOf e = k)
    (hdec : ∀ n cs y, DataW.trod enc P w base (fun _ => true) held n e cs = some y → ∃ x : α, cs = encE x ∧ Pr x y.1)
    (h : DataW.trod enc P w base (fun _ => true) held fuel t [c] = some x) : ∃ a cap, ∃ xs : List α, c = .slice a xs.length cap ∧ SlR encE k w a cap xs ∧ ∀ z ∈ xs, ∃ ds rest, x.1 = .slice ds rest ∧ ∃ y ∈ ds, Pr z y := by
  rcases open_slice ht h with ⟨h0, _⟩ | ⟨a, len, cap, m, n, D, Pl, hcs, hb, hl, hm, hmm, hx, hi⟩
  · simp only [List.cons.injEq, and_true] at h0
    exact ⟨none, 0, [], h0, SlR.nil w, by simp⟩
  · simp only [List.cons.injEq, and_true] at hcs
    subst hcs
    simp only [if_true] at hmm
    subst hmm
    have hE : ∀ i, i < len → ∃ x : α, w.cells? base (a.add (i * P.cellsOf e)) (P.cellsOf e) = some (encE x) ∧ Pr x (D i) := fun i h => by
      obtain ⟨cs', h1, h2⟩ := hi i (by omega)
      obtain ⟨x, rfl, hp⟩ := hdec _ _ _ h2
      exact ⟨x, h1, hp⟩
    have hL : ∀ m, m ≤ len → ∃ xs : List α, xs.length = m ∧ (∀ j x, xs[j]? = some x → w.cells? base (a.add (j * P.cellsOf e)) (P.cellsOf e) = some (encE x)) ∧ ∀ x ∈ xs, ∃ i, i < len ∧ Pr x (D i) := by
      intro m hm
      induction m with
      | zero => exact ⟨[], rfl, fun j x hx => by simp at hx, by simp⟩
      | succ m ih =>
        obtain ⟨xs, h1, h2, h3⟩ := ih (by omega)
        obtain ⟨x, hx, hp⟩ := hE m (by omega)
        refine ⟨xs ++ [x], by simp [h1], fun j y hy => ?_, fun y hy => ?_⟩
        · by_cases hj : j < xs.length
          · rw [List.getElem?_append_left hj] at hy; exact h2 j y hy
          · rw [List.getElem?_append_right (by omega)] at hy
            have : j - xs.length = 0 := by
              have := (List.getElem?_eq_some_iff.1 hy).1; simp at this; omega
            rw [this] at hy; simp at hy; subst hy
            have : j = m := by omega
            subst this; exact hx
        · rcases List.mem_append.1 hy with hy | hy
          · exact h3 y hy
          · simp at hy; subst hy; exact ⟨m, by omega, hp⟩
    obtain ⟨xs, hlen, hxs, hpr⟩ := hL len (Nat.le_refl _)
    refine ⟨some a, _, xs, by rw [hlen], ⟨by omega, by simpa [maxLen] using hm, (fun h => by cases h), fun ad had hc => ?_⟩, fun x hx2 => ?_⟩
    · cases had
      obtain ⟨cs0, h1, _⟩ := hi 0 hc
      obtain ⟨_, h2, h3⟩ := World.cells?_some h1
      have h4 := h3 0 (by rw [hC]; exact hk0)
      rw [List.getElem?_eq_getElem (by rw [h2, hC]; exact hk0)] at h4
      obtain ⟨hsp, hlt⟩ := cell_in h4
      obtain ⟨b, off, sp⟩ := a
      have e0 : ((⟨b, off, sp⟩ : Addr).add (0 * P.cellsOf e)).add 0 = ⟨b, off, sp⟩ := by simp [Addr.add]
      rw [e0] at hsp hlt
      have hsp0 : sp = none := hsp
      subst hsp0
      refine ⟨rfl, hlt, fun j x hx i v hv => ?_⟩
      obtain ⟨_, h1, h2⟩ := World.cells?_some (hxs j x hx)
      have hik : i < k := by have := (List.getElem?_eq_some_iff.1 hv).1; rwa [hk] at this
      have h3 := h2 i (by rw [hC]; exact hik)
      rw [hv] at h3
      rw [hC] at h3
      rwa [Addr.add_lit, Addr.add_lit] at h3
    · obtain ⟨i, hi2, hp⟩ := hpr x hx2
      subst hx
      exact ⟨_, _, rfl, D i, List.mem_map.2 ⟨i, List.mem_range.2 hi2, rfl⟩, hp⟩
theorem SlR.map_fst {α β : Type} {encE : α → List Value} {k : Nat} {a : Option Addr} {cap : Nat} {xs : List β} (f : β → α) (h : SlR (fun x => encE (f x)) k w a cap xs) : SlR encE k w a cap (xs.map f) := by
  refine ⟨by rw [List.length_map]; exact h.le, h.max, fun hn => ?_, fun ad had hc => ?_⟩
  · obtain ⟨h1, h2⟩ := h.ofNone hn; exact ⟨by rw [h1]; rfl, h2⟩
  · obtain ⟨h1, h2, h3⟩ := h.ofSome ad had hc
    refine ⟨h1, h2, fun j x hx i v hv => ?_⟩
    rw [List.getElem?_map] at hx
    cases hq : xs[j]? with
    | none => rw [hq] at hx; cases hx
    | some z => rw [hq, Option.map_some] at hx; injection hx with hx; subst hx; exact h3 j z hq i v hv
end
section
variable {H : Type} {enc : TypeId × Value → H} {W : World} {base : Nat} {held : Bool} {b0 : Nat} {v : Value} {d : DataW H} {p : List MemPlace}
abbrev bndW (t : TypeId) (d : DataW H) : Prop := ∀ n ∈ DataW.weights Tryz.prog t d, n ≤ reachBytes
set_option maxRecDepth 20000 in
theorem ev_decT (n : Nat) (cs : List Value) (y : DataW H × List MemPlace) (h : DataW.trod enc Tryz.prog W base (fun _ => true) held n 27 cs = some y) : ∃ r : EvC × Evt, cs = encV r.1 ∧ (bndW 27 y.1 → EvR W r.1 r.2) := by
  obtain ⟨xs, m, _, hx, hl, hlen, hfi⟩ := DataW.trod_struct Tryz.underlying27 h
  rw [show Tryz.prog.cellsOf 27 = 4 by kernel_rfl] at hl
  have hl2 : cs.length = 4 := hl
  match xs, hlen, cs, hl2 with
  | [y0, y1, y2, y3], _, [c0, c1, c2, c3], _ =>
    obtain ⟨a, rfl, _⟩ := trod_u8 (c := c0) Tryz.underlying5 (hfi 0 _ rfl)
    obtain ⟨b, rfl, hb1, hb2⟩ := trod_u8 (c := c1) Tryz.underlying5 (hfi 1 _ rfl)
    have g2 : DataW.trod enc Tryz.prog W base (fun _ => true) held m 24 [c2] = some y2 := hfi 2 _ rfl
    have g3 : DataW.trod enc Tryz.prog W base (fun _ => true) held m 25 [c3] = some y3 := hfi 3 _ rfl
    obtain ⟨a2, q2, ns, rfl, S2, -⟩ := open_slT encI 1 (fun _ _ => True) encI_len (by omega) Tryz.underlying24 (by kernel_rfl) (fun n cs y h => int_dec n cs y h) g2
    obtain ⟨a3, q3, tx, rfl, S3, w3⟩ := open_slT encT 1 (fun x y => y = .lit (.string x.data.toList)) (fun _ => rfl) (by omega) Tryz.underlying25 (by kernel_rfl) (fun n cs y h => txt_dec n cs y h) g3
    refine ⟨⟨⟨a, b, _, _, _, _, _, _⟩, ⟨a, b, ns, tx⟩⟩, rfl, fun hwt => ⟨rfl, rfl, rfl, rfl, S2, S3, ⟨hb1, hb2⟩, fun s hs => ?_⟩⟩
    obtain ⟨ds, rest, e3, yy, hy, rfl⟩ := w3 s hs
    have h5 := hwt s.size (by
      rw [hx, DataW.weights, Tryz.underlying27]
      simp only [List.map_cons, List.map_nil, DataW.weightsEach]
      refine List.mem_append_right _ (List.mem_append_right _ (List.mem_append_right _ (List.mem_append_left _ ?_)))
      rw [e3, DataW.weights, Tryz.underlying25]
      refine List.mem_cons_of_mem _ (List.mem_append_left _ (mem_weightsAll ?_ hy))
      rw [DataW.weights]
      exact List.mem_singleton.2 Array.length_toList.symm)
    have h7 : reachBytes ≤ 140737488355328 := by decide
    exact Nat.le_trans h5 h7
set_option maxRecDepth 20000 in
theorem evs_open (hv : Value.okWide Tryz.prog W .any b0 42 v) (h : DataW.Trod enc Tryz.prog W base (fun _ => true) held 42 v d p) (hwt : bndW 42 d) : ∃ a cap xs es, v = .slice a xs.length cap ∧ SlR encV 4 W a cap xs ∧ EvsR W xs es := by
  obtain ⟨i, j, k, rfl⟩ := okWide_slice Tryz.underlying42 hv
  obtain ⟨fuel, hf⟩ := h
  obtain ⟨a, cap, zs, e1, S1, h1⟩ := open_slT (fun x : EvC × Evt => encV x.1) 4 (fun x y => bndW 27 y → EvR W x.1 x.2) (fun _ => rfl) (by omega) Tryz.underlying42 (by kernel_rfl) ev_decT hf
  refine ⟨a, cap, zs.map (·.1), zs.map (·.2), by rw [List.length_map]; exact e1, SlR.map_fst _ S1, by simp, fun q x e hx he => ?_⟩
  rw [List.getElem?_map] at hx he
  cases hq : zs[q]? with
  | none => rw [hq] at hx; cases hx
  | some z =>
    rw [hq, Option.map_some] at hx he
    injection hx with hx; injection he with he
    subst hx he
    obtain ⟨ds, rest, e2, y, hy, hp⟩ := h1 z (List.mem_of_getElem? hq)
    refine hp fun n hn => hwt n ?_
    dsimp only at e2
    rw [e2, DataW.weights, Tryz.underlying42]
    exact List.mem_cons_of_mem _ (List.mem_append_left _ (mem_weightsAll hn hy))
end
end Go.Proofs.YtkehmbgcglbffaaGreatDoor
