/-
  The table of kinds, as a row lays it, stands in memory: KnW. Conditions: none.
-/
import Derived.Test.YtkehmbgcglbffaaDoorEs
import Derived.Test.YtkehmbgcglbffaaDoorRows
import Derived.ProofKit
import Derived.OpenShut
import Derived.ChangeArms
import Derived.FnData
import Derived.LaidMore
import Derived.LaidOnce
import Derived.LaidHandle
import Derived.Laws.IdiomArrays
namespace Go.Proofs.YtkehmbgcglbffaaDoor
open Go.ChangeShapes Go.WideShapes Go.ChangeAt Go.RowKit

theorem str_back (s : ByteArray) : (⟨s.data.toList.toArray⟩ : ByteArray) = s := by cases s; simp
set_option maxRecDepth 20000 in
theorem krow_dec {W : World} {n : Nat} {cs : List Value} {y : DataW Unit × List MemPlace} (h : DataW.trod (fun _ => ()) Tryd.prog W 0 (fun _ => true) false n 82 cs = some y) : cs = encK (krowOf y.1) := by
  obtain ⟨xs, m, _, rfl, hl, hlen, hf⟩ := DataW.trod_struct Tryd.underlying82 h
  have hstr : Tryd.prog.underlying 9 = some .string := Tryd.underlying9
  rw [show Tryd.prog.cellsOf 82 = 5 by kernel_rfl] at hl
  match xs, hlen, cs, hl with
  | [y0, y1, y2], _, [c0, c1, c2, c3, c4], _ =>
    have h0 := hf 0 _ rfl
    have h1 := hf 1 _ rfl
    have h2 := hf 2 _ rfl
    obtain ⟨s, e0, x0, _⟩ := DataW.trod_string hstr h0
    obtain ⟨z0, z1, z2, n', hx, g0, g1, g2⟩ := trod_array3 (c0 := c1) (c1 := c2) (c2 := c3) Tryd.underlying80 (by kernel_rfl) h1
    obtain ⟨s0, f0, w0, _⟩ := DataW.trod_string hstr g0
    obtain ⟨s1, f1, w1, _⟩ := DataW.trod_string hstr g1
    obtain ⟨s2, f2, w2, _⟩ := DataW.trod_string hstr g2
    obtain ⟨b, e4, x4⟩ := DataW.trod_bool Tryd.underlying4 h2
    have e0' : c0 = .string s := by
      have : [c0] = [Value.string s] := e0
      injection this
    have e4' : c4 = .bool b := by
      have : [c4] = [Value.bool b] := e4
      injection this
    injection f0 with f0
    injection f1 with f1
    injection f2 with f2
    subst e0' e4' f0 f1 f2 w0 w1 w2 hx x0 x4
    simp [krowOf, encK]
set_option maxRecDepth 20000 in
theorem knW_of {W : World} (h : laidMetH Tryd.prog [("souk/schema.kinds", Rows.laid_souk_schema_kinds)] W) : KnW W := by
  have h1 : laidMet Tryd.prog [("souk/schema.kinds", Rows.laid_souk_schema_kinds)] W := h
  obtain ⟨ps, ⟨g, t, cs, fuel, p, q, hg, ht, hv, hd, -, -⟩, -, -⟩ := h1
  obtain rfl := Option.some.inj ((show Tryd.prog.globalNamed "souk/schema.kinds" = some 0 by kernel_rfl).symm.trans hg)
  obtain rfl := Option.some.inj ((show (Tryd.prog.globals[0]?).map (·.type) = some 110 by kernel_rfl).symm.trans ht)
  have hcell := fun i => World.var?_cell hg hv i
  obtain ⟨xs, m, _, hx, hl, hlen, hf⟩ := DataW.trod_array Tryd.underlying110 hd
  injection hx with hx1 hx2
  have hk : kindsT = xs.map (fun y => krowOf y.1) := by
    unfold kindsT
    rw [hx1]
    simp [partsOf]
  have hC : Tryd.prog.cellsOf 82 = 5 := by kernel_rfl
  have hCt : Tryd.prog.cellsOf 110 = 115 := by kernel_rfl
  rw [hCt] at hl
  have hlt : 0 < W.heap.size := by
    refine Nat.lt_of_not_le fun hle => ?_
    have h9 := hcell 0
    have h8 : W.heap[0]? = none := Array.getElem?_eq_none hle
    have h7 : cs[0]? ≠ none := by
      rw [← Array.getElem?_toList]
      intro h; have := List.getElem?_eq_none_iff.1 h; omega
    rw [← h9] at h7
    simp [World.cell?, h8] at h7
  refine ⟨⟨by rw [kindsT_len]; omega, by omega, (fun h => by cases h), fun ad had _ => ?_⟩⟩
  cases had
  refine ⟨rfl, hlt, fun j x hj i v hi => ?_⟩
  rw [hk, List.getElem?_map, Option.map_eq_some_iff] at hj
  obtain ⟨y, hy, rfl⟩ := hj
  have hj23 : j < 23 := by have := (List.getElem?_eq_some_iff.1 hy).1; omega
  have hfj := hf j hj23
  rw [hy, hC] at hfj
  have he := krow_dec hfj
  have hi5 : i < 5 := by have := (List.getElem?_eq_some_iff.1 hi).1; rw [encK_len] at this; exact this
  rw [hcell, ← Array.getElem?_toList]
  rw [← he, List.getElem?_take, if_pos hi5, List.getElem?_drop] at hi
  rw [show (0 + j * 5 + i) = j * 5 + i by omega]
  exact hi
theorem wt_in {H : Type} {P : Program} {n : Nat} : ∀ {ts : List TypeId} {ds : List (DataW H)} {j : Nat} {t : TypeId} {d : DataW H}, ts[j]? = some t → ds[j]? = some d → n ∈ DataW.weights P t d → n ∈ DataW.weightsEach P ts ds
  | t :: ts, d :: ds, 0, _, _, h1, h2, hn => by
    simp at h1 h2; subst h1 h2
    rw [DataW.weightsEach]; exact List.mem_append_left _ hn
  | t :: ts, d :: ds, j + 1, _, _, h1, h2, hn => by
    rw [DataW.weightsEach]; exact List.mem_append_right _ (wt_in (by simpa using h1) (by simpa using h2) hn)
  | [], _, _, _, _, h1, _, _ => by simp at h1
  | _ :: _, [], _, _, _, _, h2, _ => by simp at h2
theorem wt_of {H : Type} {P : Program} {ts us : List TypeId} {ds gs : List (DataW H)} (hZ : ((DataW.weightsEach P (ts ++ us) (ds ++ gs)).all fun x => decide (x ≤ reachBytes)) = true) {j : Nat} {t : TypeId} {d : DataW H} (ht : ts[j]? = some t) (hd : ds[j]? = some d) : ∀ n ∈ DataW.weights P t d, n ≤ reachBytes := fun n hn => by
  have h1 : (ts ++ us)[j]? = some t := by rw [List.getElem?_append_left (List.getElem?_eq_some_iff.1 ht).1]; exact ht
  have h2 : (ds ++ gs)[j]? = some d := by rw [List.getElem?_append_left (List.getElem?_eq_some_iff.1 hd).1]; exact hd
  exact of_decide_eq_true (List.all_eq_true.1 hZ n (wt_in h1 h2 hn))
set_option maxRecDepth 100000 in
theorem door_met (os : Os) (args : Array Value) : laidMetH Tryd.prog [("souk/schema.kinds", Rows.laid_souk_schema_kinds)] ((World.doorLaid Tryd.prog 200 os).forCall (fun _ _ => 0) ⟨#[], args, []⟩).memory :=
  laidMetH_of_parts (laidMet_of_run' 8 (by kernel_rfl) (by kernel_rfl)) (by kernel_rfl)
end Go.Proofs.YtkehmbgcglbffaaDoor
