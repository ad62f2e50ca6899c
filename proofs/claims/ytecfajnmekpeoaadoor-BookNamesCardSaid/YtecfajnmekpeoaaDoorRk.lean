/-
  For the rows of this seat: a struct of six one-cell fields opened and shut; the laid table of functions gives PrW. Conditions: none.
-/
import Derived.Test.YtecfajnmekpeoaaDoorBkW
import Derived.Test.YtecfajnmekpeoaaDoorRows
import Derived.ProofKit
import Derived.LaidMore
import Derived.LaidOnce
import Derived.LaidHandle
import Derived.Laws.IdiomArrays
import Derived.Lib.SmallJoins
namespace Go.Proofs.YtecfajnmekpeoaaDoor
open Go.ChangeShapes Go.WideShapes Go.ChangeAt Go.RowKit Go.Deep Go.WideElems Go.Joins

section
variable {H : Type} {enc : TypeId × Value → H} {P : Program} {w : World} {base : Nat} {spare : Nat → Bool} {held : Bool}
theorem array6 {α : Type} {cs : Array α} (h : cs.size = 6) : ∃ c0 c1 c2 c3 c4 c5, cs = #[c0, c1, c2, c3, c4, c5] := by
  obtain ⟨l⟩ := cs
  match l, h with
  | [c0, c1, c2, c3, c4, c5], _ => exact ⟨c0, c1, c2, c3, c4, c5, rfl⟩
theorem trod_struct6 {t : TypeId} {f0 f1 f2 f3 f4 f5 : Field} {fuel : Nat} {cs : List Value} {x : DataW H × List MemPlace} (ht : P.underlying t = some (.struct #[f0, f1, f2, f3, f4, f5])) (h : DataW.trod enc P w base spare held fuel t cs = some x) :
    ∃ y0 y1 y2 y3 y4 y5 n, x = (.agg [y0.1, y1.1, y2.1, y3.1, y4.1, y5.1], y0.2 ++ (y1.2 ++ (y2.2 ++ (y3.2 ++ (y4.2 ++ y5.2))))) ∧ cs.length = P.cellsOf t ∧ DataW.trod enc P w base spare held n f0.type ((cs.drop f0.offset).take (P.cellsOf f0.type)) = some y0 ∧ DataW.trod enc P w base spare held n f1.type ((cs.drop f1.offset).take (P.cellsOf f1.type)) = some y1 ∧ DataW.trod enc P w base spare held n f2.type ((cs.drop f2.offset).take (P.cellsOf f2.type)) = some y2 ∧ DataW.trod enc P w base spare held n f3.type ((cs.drop f3.offset).take (P.cellsOf f3.type)) = some y3 ∧ DataW.trod enc P w base spare held n f4.type ((cs.drop f4.offset).take (P.cellsOf f4.type)) = some y4 ∧ DataW.trod enc P w base spare held n f5.type ((cs.drop f5.offset).take (P.cellsOf f5.type)) = some y5 := by
  obtain ⟨xs, n, _, rfl, hl, hlen, hf⟩ := DataW.trod_struct ht h
  match xs, hlen with
  | [y0, y1, y2, y3, y4, y5], _ => exact ⟨y0, y1, y2, y3, y4, y5, n, by simp, hl, by simpa using hf 0 f0 rfl, by simpa using hf 1 f1 rfl, by simpa using hf 2 f2 rfl, by simpa using hf 3 f3 rfl, by simpa using hf 4 f4 rfl, by simpa using hf 5 f5 rfl⟩
theorem open_agg6 {r : Reach} {b0 : Nat} {t : TypeId} {f0 f1 f2 f3 f4 f5 : Field} {v : Value} {d : DataW H} {p : List MemPlace} (hs : P.underlying t = some (.struct #[f0, f1, f2, f3, f4, f5])) (hone : oneCellFields P #[f0, f1, f2, f3, f4, f5] = true) (hC : P.cellsOf t = 6)
    (hv : Value.okWide P w r b0 t v) (h : DataW.Trod enc P w base spare held t v d p) :
    ∃ (v0 v1 v2 v3 v4 v5 : Value) (y0 y1 y2 y3 y4 y5 : DataW H × List MemPlace) (n : Nat), v = .agg #[v0, v1, v2, v3, v4, v5] ∧ d = .agg [y0.1, y1.1, y2.1, y3.1, y4.1, y5.1] ∧ p = y0.2 ++ (y1.2 ++ (y2.2 ++ (y3.2 ++ (y4.2 ++ y5.2)))) ∧ DataW.trod enc P w base spare held n f0.type [v0] = some y0 ∧ DataW.trod enc P w base spare held n f1.type [v1] = some y1 ∧ DataW.trod enc P w base spare held n f2.type [v2] = some y2 ∧ DataW.trod enc P w base spare held n f3.type [v3] = some y3 ∧ DataW.trod enc P w base spare held n f4.type [v4] = some y4 ∧ DataW.trod enc P w base spare held n f5.type [v5] = some y5 := by
  obtain ⟨cs, rfl, hsz⟩ := okWide_struct hs hv
  obtain ⟨c0, c1, c2, c3, c4, c5, rfl⟩ := array6 (hsz.trans hC)
  obtain ⟨fuel, hf⟩ := h
  obtain ⟨y0, y1, y2, y3, y4, y5, n, hx, _, h0, h1, h2, h3, h4, h5⟩ := trod_struct6 hs hf
  obtain ⟨o0, k0⟩ := hone_of hone 0 f0 rfl
  obtain ⟨o1, k1⟩ := hone_of hone 1 f1 rfl
  obtain ⟨o2, k2⟩ := hone_of hone 2 f2 rfl
  obtain ⟨o3, k3⟩ := hone_of hone 3 f3 rfl
  obtain ⟨o4, k4⟩ := hone_of hone 4 f4 rfl
  obtain ⟨o5, k5⟩ := hone_of hone 5 f5 rfl
  simp only [Prod.mk.injEq] at hx
  exact ⟨c0, c1, c2, c3, c4, c5, y0, y1, y2, y3, y4, y5, n, rfl, hx.1, hx.2, by simpa [Value.cells, o0, k0] using h0, by simpa [Value.cells, o1, k1] using h1, by simpa [Value.cells, o2, k2] using h2, by simpa [Value.cells, o3, k3] using h3, by simpa [Value.cells, o4, k4] using h4, by simpa [Value.cells, o5, k5] using h5⟩
end
theorem door_met (os : Os) (args : Array Value) : laidMetH Tryd.prog Rows.bookHoldsRow.laid ((World.doorLaid Tryd.prog 14 os).forCall (fun _ _ => 0) ⟨#[], args, []⟩).memory :=
  laidMetH_of_parts3 (fuel := 8) (laidMet_of_run' 8 (by kernel_rfl) (by kernel_rfl)) (by kernel_rfl) (by kernel_rfl)
theorem prW_of_laid {W : World} (h : laidMetH Tryd.prog Rows.bookHoldsRow.laid W) : PrW W := by
  obtain ⟨g, t, cs, fuel, p, hg, ht, hv, hd⟩ := h.funcs (n := Rows.bookHoldsRow.named.getD 0 default) (List.mem_cons_self ..)
  obtain rfl := Option.some.inj ((show Tryd.prog.globalNamed (Rows.bookHoldsRow.named.getD 0 default) = some 0 by kernel_rfl).symm.trans hg)
  obtain rfl := Option.some.inj ((show (Tryd.prog.globals[0]?).map (·.type) = some 55 by kernel_rfl).symm.trans ht)
  have hcell := fun i => World.var?_cell hg hv i
  obtain ⟨l⟩ := cs
  have hd' : DataW.trod (funcToken Tryd.prog) Tryd.prog W 0 (fun _ => true) true fuel 55 l = some (.agg [.nil, .held [115, 111, 117, 107, 47, 98, 111, 111, 107, 46, 112, 114, 105, 99, 101, 115, 36, 49], .held [115, 111, 117, 107, 47, 98, 111, 111, 107, 46, 112, 114, 105, 99, 101, 115, 36, 50]], p) := hd
  have hl : l.length = 3 := by
    cases fuel with
    | zero => simp [DataW.trod] at hd'
    | succ n =>
      unfold DataW.trod at hd'
      rw [show Tryd.prog.underlying 55 = some (.array 3 54) by kernel_rfl] at hd'
      simp [show Tryd.prog.cellsOf 54 = 1 by kernel_rfl] at hd'
      exact hd'.1.trans (by kernel_rfl)
  match l, hl with
  | [c0, c1, c2], _ =>
    obtain ⟨y0, y1, y2, n, hx, h0, h1, h2⟩ := trod_array3 (show Tryd.prog.underlying 55 = some (.array 3 54) by kernel_rfl) (by kernel_rfl) hd'
    simp only [Prod.mk.injEq, DataW.agg.injEq, List.cons.injEq] at hx
    obtain ⟨⟨e0, e1, e2, _⟩, _⟩ := hx
    obtain ⟨z1, q1⟩ := y1
    obtain ⟨z2, q2⟩ := y2
    dsimp only at e1 e2
    subst e1; subst e2
    have w1 := func_of_trod (f0 := 92) (show Tryd.prog.underlying 54 = some (.func #[2, 2] #[3] false) by kernel_rfl) (by kernel_rfl) h1
    have w2 := func_of_trod (f0 := 93) (show Tryd.prog.underlying 54 = some (.func #[2, 2] #[3] false) by kernel_rfl) (by kernel_rfl) h2
    subst w1; subst w2
    refine ⟨?_, by simpa using hcell 1, by simpa using hcell 2⟩
    refine Nat.lt_of_not_le fun hle => ?_
    have h9 := hcell 1
    have h8 : W.heap[0]? = none := Array.getElem?_eq_none hle
    simp [World.cell?, h8] at h9
end Go.Proofs.YtecfajnmekpeoaaDoor
