/-
  Contract of souklaw16.BookRow: true, in every world. Condition: the table 'prices' holds its two functions (PrW).
-/
import Derived.Test.YtecfajnmekpeoaaDoorBkK
namespace Go.Proofs.YtecfajnmekpeoaaDoor
open Go.RowKit

theorem less_v (a b : Ord) (r : Bool) (h : less a b = r) (w : World) (hp : PrW w) :
    Calls Tryd.prog 14 #[(.agg #[.int .i64 a.id, .int .i64 a.acct, .int .i64 a.inst, .int .u8 a.side, .int .i64 a.price, .int .i64 a.left]), (.agg #[.int .i64 b.id, .int .i64 b.acct, .int .i64 b.inst, .int .u8 b.side, .int .i64 b.price, .int .i64 b.left])] w fun e w' => e = .returned (.bool r) ∧ Below w.heap.size w w' := by
  rw [← h]; exact less_c a b w hp
theorem mayOne_v (o : Ord) (r : Bool) (h : mayOne o = r) (w : World) :
    Calls Tryd.prog 13 #[(.agg #[.int .i64 o.id, .int .i64 o.acct, .int .i64 o.inst, .int .u8 o.side, .int .i64 o.price, .int .i64 o.left])] w fun e w' => e = .returned (.bool r) ∧ Below w.heap.size w w' := by
  rw [← h]; exact mayOne_c o w
theorem below_alloc3 (w : World) (o p q : Obj) : Below w.heap.size w (((w.alloc o).alloc p).alloc q) := (below_alloc2 w o p).alloc (by simp; try omega) q
theorem box3 (w : World) (A B C : Array Value) (t : TypeId) : ∃ W, ((w.alloc (.cells A t)).alloc (.cells B t)).alloc (.cells C t) = W ∧ Below w.heap.size w W ∧ W.heap.size = w.heap.size + 3 ∧ (∀ i, W.cell? ⟨w.heap.size, i, none⟩ = A[i]?) ∧ (∀ i, W.cell? ⟨w.heap.size + 1, i, none⟩ = B[i]?) ∧ ∀ i, W.cell? ⟨w.heap.size + 1 + 1, i, none⟩ = C[i]? := by
  refine ⟨_, rfl, below_alloc3 _ _ _ _, by simp, fun i => ?_, fun i => ?_, fun i => ?_⟩
  · rw [World.cell?_alloc_lt _ _ _ (by simp; try omega), World.cell?_alloc_lt _ _ _ (by simp)]; exact World.cell?_alloc_new _ _ _ _
  · rw [World.cell?_alloc_lt _ _ _ (by simp)]
    have := World.cell?_alloc_new (w.alloc (.cells A t)) B t i; rwa [World.size_alloc] at this
  · have := World.cell?_alloc_new ((w.alloc (.cells A t)).alloc (.cells B t)) C t i; rwa [World.size_alloc, World.size_alloc] at this

theorem less_irr (a : Ord) : less a a = false := by
  rw [Bool.eq_false_iff, ne_eq, less_iff]; intro ⟨_, _, _, _, h⟩
  rw [rowLt_iff] at h; omega
theorem less_anti {a b : Ord} (h : less a b = true) : less b a = false := by
  rw [Bool.eq_false_iff, ne_eq, less_iff]; intro ⟨_, _, _, h4, h5⟩
  obtain ⟨_, _, _, g4, g5⟩ := less_iff.1 h
  rw [rowLt_iff] at h5 g5; omega
theorem less_trans {a b c : Ord} (h : less a b = true) (g : less b c = true) : less a c = true := by
  obtain ⟨h1, h2, h3, h4, h5⟩ := less_iff.1 h
  obtain ⟨g1, g2, g3, g4, g5⟩ := less_iff.1 g
  refine less_iff.2 ⟨h1, g2, by omega, by omega, ?_⟩
  rw [rowLt_iff] at *; omega
theorem less_total {a b : Ord} (h1 : mayOne a = true) (h2 : mayOne b = true) (h3 : a.inst = b.inst) (h4 : a.side = b.side) (x : less a b = false) (y : less b a = false) : a.id = b.id ∧ a.price = b.price := by
  rw [Bool.eq_false_iff, ne_eq, less_iff] at x y
  have x' : ¬ rowLt a b = true := fun h => x ⟨h1, h2, h3, h4, h⟩
  have y' : ¬ rowLt b a = true := fun h => y ⟨h2, h1, h3.symm, h4.symm, h⟩
  rw [rowLt_iff] at x' y'; omega

set_option maxHeartbeats 4000000 in
theorem lawRow_1 (a b c : Ord) (w : World) (hp : PrW w) (hab : less a b = true) (hba : less b a = false) (haa : less a a = false) (hbc : less b c = true) (hac : less a c = true) (hma : mayOne a = true) (hmb : mayOne b = true) (e1 : (a.inst != b.inst) = false) (e2 : (a.side != b.side) = false) :
    Calls Tryd.prog 4 #[(.agg #[.int .i64 a.id, .int .i64 a.acct, .int .i64 a.inst, .int .u8 a.side, .int .i64 a.price, .int .i64 a.left]), (.agg #[.int .i64 b.id, .int .i64 b.acct, .int .i64 b.inst, .int .u8 b.side, .int .i64 b.price, .int .i64 b.left]), (.agg #[.int .i64 c.id, .int .i64 c.acct, .int .i64 c.inst, .int .u8 c.side, .int .i64 c.price, .int .i64 c.left])] w fun e w' => e = .returned (.bool true) ∧ Below w.heap.size w w' := by
  obtain ⟨W, hW, hWb, hWs, hA, hB, hC⟩ := box3 w #[.int .i64 a.id, .int .i64 a.acct, .int .i64 a.inst, .int .u8 a.side, .int .i64 a.price, .int .i64 a.left] #[.int .i64 b.id, .int .i64 b.acct, .int .i64 b.inst, .int .u8 b.side, .int .i64 b.price, .int .i64 b.left] #[.int .i64 c.id, .int .i64 c.acct, .int .i64 c.inst, .int .u8 c.side, .int .i64 c.price, .int .i64 c.left] 23
  have HWb := Lib.hid hWb; clear hWb
  have HG := Lib.hid (GrS.refl W)
  have HP := Lib.hid (hp.mono HWb.out); clear hp
  go_enter Tryd.func4, Tryd.ntmps4
  go_wp2_with (first
    | (go_at_call 14; (first | (with_reducible refine (less_v a b _ hab _ (HP.out.mono HG.out.1)).mono ?_) | (with_reducible refine (less_v b a _ hba _ (HP.out.mono HG.out.1)).mono ?_) | (with_reducible refine (less_v a a _ haa _ (HP.out.mono HG.out.1)).mono ?_) | (with_reducible refine (less_v b c _ hbc _ (HP.out.mono HG.out.1)).mono ?_) | (with_reducible refine (less_v a c _ hac _ (HP.out.mono HG.out.1)).mono ?_)); rintro e w1 ⟨rfl, hb1⟩; replace HG := Lib.hid (GrS.call HG.out hb1); clear hb1; (try clear hG); have hG := HG.out)
    | (go_at_call 13; (first | (with_reducible refine (mayOne_v a _ hma _).mono ?_) | (with_reducible refine (mayOne_v b _ hmb _).mono ?_)); rintro e w1 ⟨rfl, hb1⟩; replace HG := Lib.hid (GrS.call HG.out hb1); clear hb1; (try clear hG); have hG := HG.out)
    | (go_at_call 11; (with_reducible refine (works_c _ (HP.out.mono HG.out.1)).mono ?_); rintro e w1 ⟨rfl, hb1⟩; replace HG := Lib.hid (GrS.call HG.out hb1); clear hb1; (try clear hG); have hG := HG.out))
  clear hW
  go_region_held3 (fun w' => GrS W w') (first | exact GrS.start HG.out.1 | exact GrS.call (by assumption) hb1 | exact GrS.alloc (by assumption) _ | assumption) ((first
    | (go_at_call 14; (first | (with_reducible refine (less_v a b _ hab _ (HP.out.mono (GrS.fin (by assumption)))).mono ?_) | (with_reducible refine (less_v b a _ hba _ (HP.out.mono (GrS.fin (by assumption)))).mono ?_) | (with_reducible refine (less_v a a _ haa _ (HP.out.mono (GrS.fin (by assumption)))).mono ?_) | (with_reducible refine (less_v b c _ hbc _ (HP.out.mono (GrS.fin (by assumption)))).mono ?_) | (with_reducible refine (less_v a c _ hac _ (HP.out.mono (GrS.fin (by assumption)))).mono ?_)); rintro e w1 ⟨rfl, hb1⟩; skip)
    | (go_at_call 13; (first | (with_reducible refine (mayOne_v a _ hma _).mono ?_) | (with_reducible refine (mayOne_v b _ hmb _).mono ?_)); rintro e w1 ⟨rfl, hb1⟩; skip)
    | (go_at_call 11; (with_reducible refine (works_c _ (HP.out.mono (GrS.fin (by assumption)))).mono ?_); rintro e w1 ⟨rfl, hb1⟩; skip)))
  replace HG := Lib.hid (show GrS W _ from by assumption)
  go_wp2_with (first
    | (go_at_call 14; (first | (with_reducible refine (less_v a b _ hab _ (HP.out.mono HG.out.1)).mono ?_) | (with_reducible refine (less_v b a _ hba _ (HP.out.mono HG.out.1)).mono ?_) | (with_reducible refine (less_v a a _ haa _ (HP.out.mono HG.out.1)).mono ?_) | (with_reducible refine (less_v b c _ hbc _ (HP.out.mono HG.out.1)).mono ?_) | (with_reducible refine (less_v a c _ hac _ (HP.out.mono HG.out.1)).mono ?_)); rintro e w1 ⟨rfl, hb1⟩; replace HG := Lib.hid (GrS.call HG.out hb1); clear hb1; (try clear hG); have hG := HG.out)
    | (go_at_call 13; (first | (with_reducible refine (mayOne_v a _ hma _).mono ?_) | (with_reducible refine (mayOne_v b _ hmb _).mono ?_)); rintro e w1 ⟨rfl, hb1⟩; replace HG := Lib.hid (GrS.call HG.out hb1); clear hb1; (try clear hG); have hG := HG.out)
    | (go_at_call 11; (with_reducible refine (works_c _ (HP.out.mono HG.out.1)).mono ?_); rintro e w1 ⟨rfl, hb1⟩; replace HG := Lib.hid (GrS.call HG.out hb1); clear hb1; (try clear hG); have hG := HG.out))
  go_ret
  exact ⟨rfl, grow_trans HWb.out HG.out.1⟩
set_option maxHeartbeats 4000000 in
theorem lawRow_2 (a b c : Ord) (w : World) (hp : PrW w) (hab : less a b = true) (hba : less b a = false) (haa : less a a = false) (hbc : less b c = false) (hma : mayOne a = true) (hmb : mayOne b = true) (e1 : (a.inst != b.inst) = false) (e2 : (a.side != b.side) = false) :
    Calls Tryd.prog 4 #[(.agg #[.int .i64 a.id, .int .i64 a.acct, .int .i64 a.inst, .int .u8 a.side, .int .i64 a.price, .int .i64 a.left]), (.agg #[.int .i64 b.id, .int .i64 b.acct, .int .i64 b.inst, .int .u8 b.side, .int .i64 b.price, .int .i64 b.left]), (.agg #[.int .i64 c.id, .int .i64 c.acct, .int .i64 c.inst, .int .u8 c.side, .int .i64 c.price, .int .i64 c.left])] w fun e w' => e = .returned (.bool true) ∧ Below w.heap.size w w' := by
  have hac : True := trivial
  obtain ⟨W, hW, hWb, hWs, hA, hB, hC⟩ := box3 w #[.int .i64 a.id, .int .i64 a.acct, .int .i64 a.inst, .int .u8 a.side, .int .i64 a.price, .int .i64 a.left] #[.int .i64 b.id, .int .i64 b.acct, .int .i64 b.inst, .int .u8 b.side, .int .i64 b.price, .int .i64 b.left] #[.int .i64 c.id, .int .i64 c.acct, .int .i64 c.inst, .int .u8 c.side, .int .i64 c.price, .int .i64 c.left] 23
  have HWb := Lib.hid hWb; clear hWb
  have HG := Lib.hid (GrS.refl W)
  have HP := Lib.hid (hp.mono HWb.out); clear hp
  go_enter Tryd.func4, Tryd.ntmps4
  go_wp2_with (first
    | (go_at_call 14; (first | (with_reducible refine (less_v a b _ hab _ (HP.out.mono HG.out.1)).mono ?_) | (with_reducible refine (less_v b a _ hba _ (HP.out.mono HG.out.1)).mono ?_) | (with_reducible refine (less_v a a _ haa _ (HP.out.mono HG.out.1)).mono ?_) | (with_reducible refine (less_v b c _ hbc _ (HP.out.mono HG.out.1)).mono ?_) | (with_reducible refine (less_v a c _ hac _ (HP.out.mono HG.out.1)).mono ?_)); rintro e w1 ⟨rfl, hb1⟩; replace HG := Lib.hid (GrS.call HG.out hb1); clear hb1; (try clear hG); have hG := HG.out)
    | (go_at_call 13; (first | (with_reducible refine (mayOne_v a _ hma _).mono ?_) | (with_reducible refine (mayOne_v b _ hmb _).mono ?_)); rintro e w1 ⟨rfl, hb1⟩; replace HG := Lib.hid (GrS.call HG.out hb1); clear hb1; (try clear hG); have hG := HG.out)
    | (go_at_call 11; (with_reducible refine (works_c _ (HP.out.mono HG.out.1)).mono ?_); rintro e w1 ⟨rfl, hb1⟩; replace HG := Lib.hid (GrS.call HG.out hb1); clear hb1; (try clear hG); have hG := HG.out))
  clear hW
  go_region_held3 (fun w' => GrS W w') (first | exact GrS.start HG.out.1 | exact GrS.call (by assumption) hb1 | exact GrS.alloc (by assumption) _ | assumption) ((first
    | (go_at_call 14; (first | (with_reducible refine (less_v a b _ hab _ (HP.out.mono (GrS.fin (by assumption)))).mono ?_) | (with_reducible refine (less_v b a _ hba _ (HP.out.mono (GrS.fin (by assumption)))).mono ?_) | (with_reducible refine (less_v a a _ haa _ (HP.out.mono (GrS.fin (by assumption)))).mono ?_) | (with_reducible refine (less_v b c _ hbc _ (HP.out.mono (GrS.fin (by assumption)))).mono ?_) | (with_reducible refine (less_v a c _ hac _ (HP.out.mono (GrS.fin (by assumption)))).mono ?_)); rintro e w1 ⟨rfl, hb1⟩; skip)
    | (go_at_call 13; (first | (with_reducible refine (mayOne_v a _ hma _).mono ?_) | (with_reducible refine (mayOne_v b _ hmb _).mono ?_)); rintro e w1 ⟨rfl, hb1⟩; skip)
    | (go_at_call 11; (with_reducible refine (works_c _ (HP.out.mono (GrS.fin (by assumption)))).mono ?_); rintro e w1 ⟨rfl, hb1⟩; skip)))
  replace HG := Lib.hid (show GrS W _ from by assumption)
  go_wp2_with (first
    | (go_at_call 14; (first | (with_reducible refine (less_v a b _ hab _ (HP.out.mono HG.out.1)).mono ?_) | (with_reducible refine (less_v b a _ hba _ (HP.out.mono HG.out.1)).mono ?_) | (with_reducible refine (less_v a a _ haa _ (HP.out.mono HG.out.1)).mono ?_) | (with_reducible refine (less_v b c _ hbc _ (HP.out.mono HG.out.1)).mono ?_) | (with_reducible refine (less_v a c _ hac _ (HP.out.mono HG.out.1)).mono ?_)); rintro e w1 ⟨rfl, hb1⟩; replace HG := Lib.hid (GrS.call HG.out hb1); clear hb1; (try clear hG); have hG := HG.out)
    | (go_at_call 13; (first | (with_reducible refine (mayOne_v a _ hma _).mono ?_) | (with_reducible refine (mayOne_v b _ hmb _).mono ?_)); rintro e w1 ⟨rfl, hb1⟩; replace HG := Lib.hid (GrS.call HG.out hb1); clear hb1; (try clear hG); have hG := HG.out)
    | (go_at_call 11; (with_reducible refine (works_c _ (HP.out.mono HG.out.1)).mono ?_); rintro e w1 ⟨rfl, hb1⟩; replace HG := Lib.hid (GrS.call HG.out hb1); clear hb1; (try clear hG); have hG := HG.out))
  go_ret
  exact ⟨rfl, grow_trans HWb.out HG.out.1⟩
set_option maxHeartbeats 4000000 in
theorem lawRow_3 (a b c : Ord) (w : World) (hp : PrW w) (hab : less a b = false) (hba : less b a = true) (haa : less a a = false) (hma : mayOne a = true) (hmb : mayOne b = true) (e1 : (a.inst != b.inst) = false) (e2 : (a.side != b.side) = false) :
    Calls Tryd.prog 4 #[(.agg #[.int .i64 a.id, .int .i64 a.acct, .int .i64 a.inst, .int .u8 a.side, .int .i64 a.price, .int .i64 a.left]), (.agg #[.int .i64 b.id, .int .i64 b.acct, .int .i64 b.inst, .int .u8 b.side, .int .i64 b.price, .int .i64 b.left]), (.agg #[.int .i64 c.id, .int .i64 c.acct, .int .i64 c.inst, .int .u8 c.side, .int .i64 c.price, .int .i64 c.left])] w fun e w' => e = .returned (.bool true) ∧ Below w.heap.size w w' := by
  have hac : True := trivial
  have hbc : True := trivial
  obtain ⟨W, hW, hWb, hWs, hA, hB, hC⟩ := box3 w #[.int .i64 a.id, .int .i64 a.acct, .int .i64 a.inst, .int .u8 a.side, .int .i64 a.price, .int .i64 a.left] #[.int .i64 b.id, .int .i64 b.acct, .int .i64 b.inst, .int .u8 b.side, .int .i64 b.price, .int .i64 b.left] #[.int .i64 c.id, .int .i64 c.acct, .int .i64 c.inst, .int .u8 c.side, .int .i64 c.price, .int .i64 c.left] 23
  have HWb := Lib.hid hWb; clear hWb
  have HG := Lib.hid (GrS.refl W)
  have HP := Lib.hid (hp.mono HWb.out); clear hp
  go_enter Tryd.func4, Tryd.ntmps4
  go_wp2_with (first
    | (go_at_call 14; (first | (with_reducible refine (less_v a b _ hab _ (HP.out.mono HG.out.1)).mono ?_) | (with_reducible refine (less_v b a _ hba _ (HP.out.mono HG.out.1)).mono ?_) | (with_reducible refine (less_v a a _ haa _ (HP.out.mono HG.out.1)).mono ?_) | (with_reducible refine (less_v b c _ hbc _ (HP.out.mono HG.out.1)).mono ?_) | (with_reducible refine (less_v a c _ hac _ (HP.out.mono HG.out.1)).mono ?_)); rintro e w1 ⟨rfl, hb1⟩; replace HG := Lib.hid (GrS.call HG.out hb1); clear hb1; (try clear hG); have hG := HG.out)
    | (go_at_call 13; (first | (with_reducible refine (mayOne_v a _ hma _).mono ?_) | (with_reducible refine (mayOne_v b _ hmb _).mono ?_)); rintro e w1 ⟨rfl, hb1⟩; replace HG := Lib.hid (GrS.call HG.out hb1); clear hb1; (try clear hG); have hG := HG.out)
    | (go_at_call 11; (with_reducible refine (works_c _ (HP.out.mono HG.out.1)).mono ?_); rintro e w1 ⟨rfl, hb1⟩; replace HG := Lib.hid (GrS.call HG.out hb1); clear hb1; (try clear hG); have hG := HG.out))
  clear hW
  go_region_held3 (fun w' => GrS W w') (first | exact GrS.start HG.out.1 | exact GrS.call (by assumption) hb1 | exact GrS.alloc (by assumption) _ | assumption) ((first
    | (go_at_call 14; (first | (with_reducible refine (less_v a b _ hab _ (HP.out.mono (GrS.fin (by assumption)))).mono ?_) | (with_reducible refine (less_v b a _ hba _ (HP.out.mono (GrS.fin (by assumption)))).mono ?_) | (with_reducible refine (less_v a a _ haa _ (HP.out.mono (GrS.fin (by assumption)))).mono ?_) | (with_reducible refine (less_v b c _ hbc _ (HP.out.mono (GrS.fin (by assumption)))).mono ?_) | (with_reducible refine (less_v a c _ hac _ (HP.out.mono (GrS.fin (by assumption)))).mono ?_)); rintro e w1 ⟨rfl, hb1⟩; skip)
    | (go_at_call 13; (first | (with_reducible refine (mayOne_v a _ hma _).mono ?_) | (with_reducible refine (mayOne_v b _ hmb _).mono ?_)); rintro e w1 ⟨rfl, hb1⟩; skip)
    | (go_at_call 11; (with_reducible refine (works_c _ (HP.out.mono (GrS.fin (by assumption)))).mono ?_); rintro e w1 ⟨rfl, hb1⟩; skip)))
  replace HG := Lib.hid (show GrS W _ from by assumption)
  go_wp2_with (first
    | (go_at_call 14; (first | (with_reducible refine (less_v a b _ hab _ (HP.out.mono HG.out.1)).mono ?_) | (with_reducible refine (less_v b a _ hba _ (HP.out.mono HG.out.1)).mono ?_) | (with_reducible refine (less_v a a _ haa _ (HP.out.mono HG.out.1)).mono ?_) | (with_reducible refine (less_v b c _ hbc _ (HP.out.mono HG.out.1)).mono ?_) | (with_reducible refine (less_v a c _ hac _ (HP.out.mono HG.out.1)).mono ?_)); rintro e w1 ⟨rfl, hb1⟩; replace HG := Lib.hid (GrS.call HG.out hb1); clear hb1; (try clear hG); have hG := HG.out)
    | (go_at_call 13; (first | (with_reducible refine (mayOne_v a _ hma _).mono ?_) | (with_reducible refine (mayOne_v b _ hmb _).mono ?_)); rintro e w1 ⟨rfl, hb1⟩; replace HG := Lib.hid (GrS.call HG.out hb1); clear hb1; (try clear hG); have hG := HG.out)
    | (go_at_call 11; (with_reducible refine (works_c _ (HP.out.mono HG.out.1)).mono ?_); rintro e w1 ⟨rfl, hb1⟩; replace HG := Lib.hid (GrS.call HG.out hb1); clear hb1; (try clear hG); have hG := HG.out))
  go_ret
  exact ⟨rfl, grow_trans HWb.out HG.out.1⟩
set_option maxHeartbeats 4000000 in
theorem lawRow_4 (a b c : Ord) (w : World) (hp : PrW w) (hab : less a b = false) (hba : less b a = false) (haa : less a a = false) (hma : mayOne a = true) (hmb : mayOne b = true) (e1 : (a.inst != b.inst) = false) (e2 : (a.side != b.side) = false) (e3 : (a.id == b.id) = true) (e4 : (a.price == b.price) = true) :
    Calls Tryd.prog 4 #[(.agg #[.int .i64 a.id, .int .i64 a.acct, .int .i64 a.inst, .int .u8 a.side, .int .i64 a.price, .int .i64 a.left]), (.agg #[.int .i64 b.id, .int .i64 b.acct, .int .i64 b.inst, .int .u8 b.side, .int .i64 b.price, .int .i64 b.left]), (.agg #[.int .i64 c.id, .int .i64 c.acct, .int .i64 c.inst, .int .u8 c.side, .int .i64 c.price, .int .i64 c.left])] w fun e w' => e = .returned (.bool true) ∧ Below w.heap.size w w' := by
  have hac : True := trivial
  have hbc : True := trivial
  obtain ⟨W, hW, hWb, hWs, hA, hB, hC⟩ := box3 w #[.int .i64 a.id, .int .i64 a.acct, .int .i64 a.inst, .int .u8 a.side, .int .i64 a.price, .int .i64 a.left] #[.int .i64 b.id, .int .i64 b.acct, .int .i64 b.inst, .int .u8 b.side, .int .i64 b.price, .int .i64 b.left] #[.int .i64 c.id, .int .i64 c.acct, .int .i64 c.inst, .int .u8 c.side, .int .i64 c.price, .int .i64 c.left] 23
  have HWb := Lib.hid hWb; clear hWb
  have HG := Lib.hid (GrS.refl W)
  have HP := Lib.hid (hp.mono HWb.out); clear hp
  go_enter Tryd.func4, Tryd.ntmps4
  go_wp2_with (first
    | (go_at_call 14; (first | (with_reducible refine (less_v a b _ hab _ (HP.out.mono HG.out.1)).mono ?_) | (with_reducible refine (less_v b a _ hba _ (HP.out.mono HG.out.1)).mono ?_) | (with_reducible refine (less_v a a _ haa _ (HP.out.mono HG.out.1)).mono ?_) | (with_reducible refine (less_v b c _ hbc _ (HP.out.mono HG.out.1)).mono ?_) | (with_reducible refine (less_v a c _ hac _ (HP.out.mono HG.out.1)).mono ?_)); rintro e w1 ⟨rfl, hb1⟩; replace HG := Lib.hid (GrS.call HG.out hb1); clear hb1; (try clear hG); have hG := HG.out)
    | (go_at_call 13; (first | (with_reducible refine (mayOne_v a _ hma _).mono ?_) | (with_reducible refine (mayOne_v b _ hmb _).mono ?_)); rintro e w1 ⟨rfl, hb1⟩; replace HG := Lib.hid (GrS.call HG.out hb1); clear hb1; (try clear hG); have hG := HG.out)
    | (go_at_call 11; (with_reducible refine (works_c _ (HP.out.mono HG.out.1)).mono ?_); rintro e w1 ⟨rfl, hb1⟩; replace HG := Lib.hid (GrS.call HG.out hb1); clear hb1; (try clear hG); have hG := HG.out))
  clear hW
  go_region_held3 (fun w' => GrS W w') (first | exact GrS.start HG.out.1 | exact GrS.call (by assumption) hb1 | exact GrS.alloc (by assumption) _ | assumption) ((first
    | (go_at_call 14; (first | (with_reducible refine (less_v a b _ hab _ (HP.out.mono (GrS.fin (by assumption)))).mono ?_) | (with_reducible refine (less_v b a _ hba _ (HP.out.mono (GrS.fin (by assumption)))).mono ?_) | (with_reducible refine (less_v a a _ haa _ (HP.out.mono (GrS.fin (by assumption)))).mono ?_) | (with_reducible refine (less_v b c _ hbc _ (HP.out.mono (GrS.fin (by assumption)))).mono ?_) | (with_reducible refine (less_v a c _ hac _ (HP.out.mono (GrS.fin (by assumption)))).mono ?_)); rintro e w1 ⟨rfl, hb1⟩; skip)
    | (go_at_call 13; (first | (with_reducible refine (mayOne_v a _ hma _).mono ?_) | (with_reducible refine (mayOne_v b _ hmb _).mono ?_)); rintro e w1 ⟨rfl, hb1⟩; skip)
    | (go_at_call 11; (with_reducible refine (works_c _ (HP.out.mono (GrS.fin (by assumption)))).mono ?_); rintro e w1 ⟨rfl, hb1⟩; skip)))
  replace HG := Lib.hid (show GrS W _ from by assumption)
  go_wp2_with (first
    | (go_at_call 14; (first | (with_reducible refine (less_v a b _ hab _ (HP.out.mono HG.out.1)).mono ?_) | (with_reducible refine (less_v b a _ hba _ (HP.out.mono HG.out.1)).mono ?_) | (with_reducible refine (less_v a a _ haa _ (HP.out.mono HG.out.1)).mono ?_) | (with_reducible refine (less_v b c _ hbc _ (HP.out.mono HG.out.1)).mono ?_) | (with_reducible refine (less_v a c _ hac _ (HP.out.mono HG.out.1)).mono ?_)); rintro e w1 ⟨rfl, hb1⟩; replace HG := Lib.hid (GrS.call HG.out hb1); clear hb1; (try clear hG); have hG := HG.out)
    | (go_at_call 13; (first | (with_reducible refine (mayOne_v a _ hma _).mono ?_) | (with_reducible refine (mayOne_v b _ hmb _).mono ?_)); rintro e w1 ⟨rfl, hb1⟩; replace HG := Lib.hid (GrS.call HG.out hb1); clear hb1; (try clear hG); have hG := HG.out)
    | (go_at_call 11; (with_reducible refine (works_c _ (HP.out.mono HG.out.1)).mono ?_); rintro e w1 ⟨rfl, hb1⟩; replace HG := Lib.hid (GrS.call HG.out hb1); clear hb1; (try clear hG); have hG := HG.out))
  go_ret
  exact ⟨rfl, grow_trans HWb.out HG.out.1⟩
set_option maxHeartbeats 4000000 in
theorem lawRow_5 (a b c : Ord) (w : World) (hp : PrW w) (hab : less a b = false) (hba : less b a = false) (haa : less a a = false) (hma : mayOne a = false) :
    Calls Tryd.prog 4 #[(.agg #[.int .i64 a.id, .int .i64 a.acct, .int .i64 a.inst, .int .u8 a.side, .int .i64 a.price, .int .i64 a.left]), (.agg #[.int .i64 b.id, .int .i64 b.acct, .int .i64 b.inst, .int .u8 b.side, .int .i64 b.price, .int .i64 b.left]), (.agg #[.int .i64 c.id, .int .i64 c.acct, .int .i64 c.inst, .int .u8 c.side, .int .i64 c.price, .int .i64 c.left])] w fun e w' => e = .returned (.bool true) ∧ Below w.heap.size w w' := by
  have hac : True := trivial
  have hbc : True := trivial
  have hmb : True := trivial
  obtain ⟨W, hW, hWb, hWs, hA, hB, hC⟩ := box3 w #[.int .i64 a.id, .int .i64 a.acct, .int .i64 a.inst, .int .u8 a.side, .int .i64 a.price, .int .i64 a.left] #[.int .i64 b.id, .int .i64 b.acct, .int .i64 b.inst, .int .u8 b.side, .int .i64 b.price, .int .i64 b.left] #[.int .i64 c.id, .int .i64 c.acct, .int .i64 c.inst, .int .u8 c.side, .int .i64 c.price, .int .i64 c.left] 23
  have HWb := Lib.hid hWb; clear hWb
  have HG := Lib.hid (GrS.refl W)
  have HP := Lib.hid (hp.mono HWb.out); clear hp
  go_enter Tryd.func4, Tryd.ntmps4
  go_wp2_with (first
    | (go_at_call 14; (first | (with_reducible refine (less_v a b _ hab _ (HP.out.mono HG.out.1)).mono ?_) | (with_reducible refine (less_v b a _ hba _ (HP.out.mono HG.out.1)).mono ?_) | (with_reducible refine (less_v a a _ haa _ (HP.out.mono HG.out.1)).mono ?_) | (with_reducible refine (less_v b c _ hbc _ (HP.out.mono HG.out.1)).mono ?_) | (with_reducible refine (less_v a c _ hac _ (HP.out.mono HG.out.1)).mono ?_)); rintro e w1 ⟨rfl, hb1⟩; replace HG := Lib.hid (GrS.call HG.out hb1); clear hb1; (try clear hG); have hG := HG.out)
    | (go_at_call 13; (first | (with_reducible refine (mayOne_v a _ hma _).mono ?_) | (with_reducible refine (mayOne_v b _ hmb _).mono ?_)); rintro e w1 ⟨rfl, hb1⟩; replace HG := Lib.hid (GrS.call HG.out hb1); clear hb1; (try clear hG); have hG := HG.out)
    | (go_at_call 11; (with_reducible refine (works_c _ (HP.out.mono HG.out.1)).mono ?_); rintro e w1 ⟨rfl, hb1⟩; replace HG := Lib.hid (GrS.call HG.out hb1); clear hb1; (try clear hG); have hG := HG.out))
  clear hW
  go_region_held3 (fun w' => GrS W w') (first | exact GrS.start HG.out.1 | exact GrS.call (by assumption) hb1 | exact GrS.alloc (by assumption) _ | assumption) ((first
    | (go_at_call 14; (first | (with_reducible refine (less_v a b _ hab _ (HP.out.mono (GrS.fin (by assumption)))).mono ?_) | (with_reducible refine (less_v b a _ hba _ (HP.out.mono (GrS.fin (by assumption)))).mono ?_) | (with_reducible refine (less_v a a _ haa _ (HP.out.mono (GrS.fin (by assumption)))).mono ?_) | (with_reducible refine (less_v b c _ hbc _ (HP.out.mono (GrS.fin (by assumption)))).mono ?_) | (with_reducible refine (less_v a c _ hac _ (HP.out.mono (GrS.fin (by assumption)))).mono ?_)); rintro e w1 ⟨rfl, hb1⟩; skip)
    | (go_at_call 13; (first | (with_reducible refine (mayOne_v a _ hma _).mono ?_) | (with_reducible refine (mayOne_v b _ hmb _).mono ?_)); rintro e w1 ⟨rfl, hb1⟩; skip)
    | (go_at_call 11; (with_reducible refine (works_c _ (HP.out.mono (GrS.fin (by assumption)))).mono ?_); rintro e w1 ⟨rfl, hb1⟩; skip)))
  replace HG := Lib.hid (show GrS W _ from by assumption)
  go_wp2_with (first
    | (go_at_call 14; (first | (with_reducible refine (less_v a b _ hab _ (HP.out.mono HG.out.1)).mono ?_) | (with_reducible refine (less_v b a _ hba _ (HP.out.mono HG.out.1)).mono ?_) | (with_reducible refine (less_v a a _ haa _ (HP.out.mono HG.out.1)).mono ?_) | (with_reducible refine (less_v b c _ hbc _ (HP.out.mono HG.out.1)).mono ?_) | (with_reducible refine (less_v a c _ hac _ (HP.out.mono HG.out.1)).mono ?_)); rintro e w1 ⟨rfl, hb1⟩; replace HG := Lib.hid (GrS.call HG.out hb1); clear hb1; (try clear hG); have hG := HG.out)
    | (go_at_call 13; (first | (with_reducible refine (mayOne_v a _ hma _).mono ?_) | (with_reducible refine (mayOne_v b _ hmb _).mono ?_)); rintro e w1 ⟨rfl, hb1⟩; replace HG := Lib.hid (GrS.call HG.out hb1); clear hb1; (try clear hG); have hG := HG.out)
    | (go_at_call 11; (with_reducible refine (works_c _ (HP.out.mono HG.out.1)).mono ?_); rintro e w1 ⟨rfl, hb1⟩; replace HG := Lib.hid (GrS.call HG.out hb1); clear hb1; (try clear hG); have hG := HG.out))
  go_ret
  exact ⟨rfl, grow_trans HWb.out HG.out.1⟩
set_option maxHeartbeats 4000000 in
theorem lawRow_6 (a b c : Ord) (w : World) (hp : PrW w) (hab : less a b = false) (hba : less b a = false) (haa : less a a = false) (hma : mayOne a = true) (hmb : mayOne b = false) :
    Calls Tryd.prog 4 #[(.agg #[.int .i64 a.id, .int .i64 a.acct, .int .i64 a.inst, .int .u8 a.side, .int .i64 a.price, .int .i64 a.left]), (.agg #[.int .i64 b.id, .int .i64 b.acct, .int .i64 b.inst, .int .u8 b.side, .int .i64 b.price, .int .i64 b.left]), (.agg #[.int .i64 c.id, .int .i64 c.acct, .int .i64 c.inst, .int .u8 c.side, .int .i64 c.price, .int .i64 c.left])] w fun e w' => e = .returned (.bool true) ∧ Below w.heap.size w w' := by
  have hac : True := trivial
  have hbc : True := trivial
  obtain ⟨W, hW, hWb, hWs, hA, hB, hC⟩ := box3 w #[.int .i64 a.id, .int .i64 a.acct, .int .i64 a.inst, .int .u8 a.side, .int .i64 a.price, .int .i64 a.left] #[.int .i64 b.id, .int .i64 b.acct, .int .i64 b.inst, .int .u8 b.side, .int .i64 b.price, .int .i64 b.left] #[.int .i64 c.id, .int .i64 c.acct, .int .i64 c.inst, .int .u8 c.side, .int .i64 c.price, .int .i64 c.left] 23
  have HWb := Lib.hid hWb; clear hWb
  have HG := Lib.hid (GrS.refl W)
  have HP := Lib.hid (hp.mono HWb.out); clear hp
  go_enter Tryd.func4, Tryd.ntmps4
  go_wp2_with (first
    | (go_at_call 14; (first | (with_reducible refine (less_v a b _ hab _ (HP.out.mono HG.out.1)).mono ?_) | (with_reducible refine (less_v b a _ hba _ (HP.out.mono HG.out.1)).mono ?_) | (with_reducible refine (less_v a a _ haa _ (HP.out.mono HG.out.1)).mono ?_) | (with_reducible refine (less_v b c _ hbc _ (HP.out.mono HG.out.1)).mono ?_) | (with_reducible refine (less_v a c _ hac _ (HP.out.mono HG.out.1)).mono ?_)); rintro e w1 ⟨rfl, hb1⟩; replace HG := Lib.hid (GrS.call HG.out hb1); clear hb1; (try clear hG); have hG := HG.out)
    | (go_at_call 13; (first | (with_reducible refine (mayOne_v a _ hma _).mono ?_) | (with_reducible refine (mayOne_v b _ hmb _).mono ?_)); rintro e w1 ⟨rfl, hb1⟩; replace HG := Lib.hid (GrS.call HG.out hb1); clear hb1; (try clear hG); have hG := HG.out)
    | (go_at_call 11; (with_reducible refine (works_c _ (HP.out.mono HG.out.1)).mono ?_); rintro e w1 ⟨rfl, hb1⟩; replace HG := Lib.hid (GrS.call HG.out hb1); clear hb1; (try clear hG); have hG := HG.out))
  clear hW
  go_region_held3 (fun w' => GrS W w') (first | exact GrS.start HG.out.1 | exact GrS.call (by assumption) hb1 | exact GrS.alloc (by assumption) _ | assumption) ((first
    | (go_at_call 14; (first | (with_reducible refine (less_v a b _ hab _ (HP.out.mono (GrS.fin (by assumption)))).mono ?_) | (with_reducible refine (less_v b a _ hba _ (HP.out.mono (GrS.fin (by assumption)))).mono ?_) | (with_reducible refine (less_v a a _ haa _ (HP.out.mono (GrS.fin (by assumption)))).mono ?_) | (with_reducible refine (less_v b c _ hbc _ (HP.out.mono (GrS.fin (by assumption)))).mono ?_) | (with_reducible refine (less_v a c _ hac _ (HP.out.mono (GrS.fin (by assumption)))).mono ?_)); rintro e w1 ⟨rfl, hb1⟩; skip)
    | (go_at_call 13; (first | (with_reducible refine (mayOne_v a _ hma _).mono ?_) | (with_reducible refine (mayOne_v b _ hmb _).mono ?_)); rintro e w1 ⟨rfl, hb1⟩; skip)
    | (go_at_call 11; (with_reducible refine (works_c _ (HP.out.mono (GrS.fin (by assumption)))).mono ?_); rintro e w1 ⟨rfl, hb1⟩; skip)))
  replace HG := Lib.hid (show GrS W _ from by assumption)
  go_wp2_with (first
    | (go_at_call 14; (first | (with_reducible refine (less_v a b _ hab _ (HP.out.mono HG.out.1)).mono ?_) | (with_reducible refine (less_v b a _ hba _ (HP.out.mono HG.out.1)).mono ?_) | (with_reducible refine (less_v a a _ haa _ (HP.out.mono HG.out.1)).mono ?_) | (with_reducible refine (less_v b c _ hbc _ (HP.out.mono HG.out.1)).mono ?_) | (with_reducible refine (less_v a c _ hac _ (HP.out.mono HG.out.1)).mono ?_)); rintro e w1 ⟨rfl, hb1⟩; replace HG := Lib.hid (GrS.call HG.out hb1); clear hb1; (try clear hG); have hG := HG.out)
    | (go_at_call 13; (first | (with_reducible refine (mayOne_v a _ hma _).mono ?_) | (with_reducible refine (mayOne_v b _ hmb _).mono ?_)); rintro e w1 ⟨rfl, hb1⟩; replace HG := Lib.hid (GrS.call HG.out hb1); clear hb1; (try clear hG); have hG := HG.out)
    | (go_at_call 11; (with_reducible refine (works_c _ (HP.out.mono HG.out.1)).mono ?_); rintro e w1 ⟨rfl, hb1⟩; replace HG := Lib.hid (GrS.call HG.out hb1); clear hb1; (try clear hG); have hG := HG.out))
  go_ret
  exact ⟨rfl, grow_trans HWb.out HG.out.1⟩
set_option maxHeartbeats 4000000 in
theorem lawRow_7 (a b c : Ord) (w : World) (hp : PrW w) (hab : less a b = false) (hba : less b a = false) (haa : less a a = false) (hma : mayOne a = true) (hmb : mayOne b = true) (e1 : (a.inst != b.inst) = true) :
    Calls Tryd.prog 4 #[(.agg #[.int .i64 a.id, .int .i64 a.acct, .int .i64 a.inst, .int .u8 a.side, .int .i64 a.price, .int .i64 a.left]), (.agg #[.int .i64 b.id, .int .i64 b.acct, .int .i64 b.inst, .int .u8 b.side, .int .i64 b.price, .int .i64 b.left]), (.agg #[.int .i64 c.id, .int .i64 c.acct, .int .i64 c.inst, .int .u8 c.side, .int .i64 c.price, .int .i64 c.left])] w fun e w' => e = .returned (.bool true) ∧ Below w.heap.size w w' := by
  have hac : True := trivial
  have hbc : True := trivial
  obtain ⟨W, hW, hWb, hWs, hA, hB, hC⟩ := box3 w #[.int .i64 a.id, .int .i64 a.acct, .int .i64 a.inst, .int .u8 a.side, .int .i64 a.price, .int .i64 a.left] #[.int .i64 b.id, .int .i64 b.acct, .int .i64 b.inst, .int .u8 b.side, .int .i64 b.price, .int .i64 b.left] #[.int .i64 c.id, .int .i64 c.acct, .int .i64 c.inst, .int .u8 c.side, .int .i64 c.price, .int .i64 c.left] 23
  have HWb := Lib.hid hWb; clear hWb
  have HG := Lib.hid (GrS.refl W)
  have HP := Lib.hid (hp.mono HWb.out); clear hp
  go_enter Tryd.func4, Tryd.ntmps4
  go_wp2_with (first
    | (go_at_call 14; (first | (with_reducible refine (less_v a b _ hab _ (HP.out.mono HG.out.1)).mono ?_) | (with_reducible refine (less_v b a _ hba _ (HP.out.mono HG.out.1)).mono ?_) | (with_reducible refine (less_v a a _ haa _ (HP.out.mono HG.out.1)).mono ?_) | (with_reducible refine (less_v b c _ hbc _ (HP.out.mono HG.out.1)).mono ?_) | (with_reducible refine (less_v a c _ hac _ (HP.out.mono HG.out.1)).mono ?_)); rintro e w1 ⟨rfl, hb1⟩; replace HG := Lib.hid (GrS.call HG.out hb1); clear hb1; (try clear hG); have hG := HG.out)
    | (go_at_call 13; (first | (with_reducible refine (mayOne_v a _ hma _).mono ?_) | (with_reducible refine (mayOne_v b _ hmb _).mono ?_)); rintro e w1 ⟨rfl, hb1⟩; replace HG := Lib.hid (GrS.call HG.out hb1); clear hb1; (try clear hG); have hG := HG.out)
    | (go_at_call 11; (with_reducible refine (works_c _ (HP.out.mono HG.out.1)).mono ?_); rintro e w1 ⟨rfl, hb1⟩; replace HG := Lib.hid (GrS.call HG.out hb1); clear hb1; (try clear hG); have hG := HG.out))
  clear hW
  go_region_held3 (fun w' => GrS W w') (first | exact GrS.start HG.out.1 | exact GrS.call (by assumption) hb1 | exact GrS.alloc (by assumption) _ | assumption) ((first
    | (go_at_call 14; (first | (with_reducible refine (less_v a b _ hab _ (HP.out.mono (GrS.fin (by assumption)))).mono ?_) | (with_reducible refine (less_v b a _ hba _ (HP.out.mono (GrS.fin (by assumption)))).mono ?_) | (with_reducible refine (less_v a a _ haa _ (HP.out.mono (GrS.fin (by assumption)))).mono ?_) | (with_reducible refine (less_v b c _ hbc _ (HP.out.mono (GrS.fin (by assumption)))).mono ?_) | (with_reducible refine (less_v a c _ hac _ (HP.out.mono (GrS.fin (by assumption)))).mono ?_)); rintro e w1 ⟨rfl, hb1⟩; skip)
    | (go_at_call 13; (first | (with_reducible refine (mayOne_v a _ hma _).mono ?_) | (with_reducible refine (mayOne_v b _ hmb _).mono ?_)); rintro e w1 ⟨rfl, hb1⟩; skip)
    | (go_at_call 11; (with_reducible refine (works_c _ (HP.out.mono (GrS.fin (by assumption)))).mono ?_); rintro e w1 ⟨rfl, hb1⟩; skip)))
  replace HG := Lib.hid (show GrS W _ from by assumption)
  go_wp2_with (first
    | (go_at_call 14; (first | (with_reducible refine (less_v a b _ hab _ (HP.out.mono HG.out.1)).mono ?_) | (with_reducible refine (less_v b a _ hba _ (HP.out.mono HG.out.1)).mono ?_) | (with_reducible refine (less_v a a _ haa _ (HP.out.mono HG.out.1)).mono ?_) | (with_reducible refine (less_v b c _ hbc _ (HP.out.mono HG.out.1)).mono ?_) | (with_reducible refine (less_v a c _ hac _ (HP.out.mono HG.out.1)).mono ?_)); rintro e w1 ⟨rfl, hb1⟩; replace HG := Lib.hid (GrS.call HG.out hb1); clear hb1; (try clear hG); have hG := HG.out)
    | (go_at_call 13; (first | (with_reducible refine (mayOne_v a _ hma _).mono ?_) | (with_reducible refine (mayOne_v b _ hmb _).mono ?_)); rintro e w1 ⟨rfl, hb1⟩; replace HG := Lib.hid (GrS.call HG.out hb1); clear hb1; (try clear hG); have hG := HG.out)
    | (go_at_call 11; (with_reducible refine (works_c _ (HP.out.mono HG.out.1)).mono ?_); rintro e w1 ⟨rfl, hb1⟩; replace HG := Lib.hid (GrS.call HG.out hb1); clear hb1; (try clear hG); have hG := HG.out))
  go_ret
  exact ⟨rfl, grow_trans HWb.out HG.out.1⟩
set_option maxHeartbeats 4000000 in
theorem lawRow_8 (a b c : Ord) (w : World) (hp : PrW w) (hab : less a b = false) (hba : less b a = false) (haa : less a a = false) (hma : mayOne a = true) (hmb : mayOne b = true) (e1 : (a.inst != b.inst) = false) (e2 : (a.side != b.side) = true) :
    Calls Tryd.prog 4 #[(.agg #[.int .i64 a.id, .int .i64 a.acct, .int .i64 a.inst, .int .u8 a.side, .int .i64 a.price, .int .i64 a.left]), (.agg #[.int .i64 b.id, .int .i64 b.acct, .int .i64 b.inst, .int .u8 b.side, .int .i64 b.price, .int .i64 b.left]), (.agg #[.int .i64 c.id, .int .i64 c.acct, .int .i64 c.inst, .int .u8 c.side, .int .i64 c.price, .int .i64 c.left])] w fun e w' => e = .returned (.bool true) ∧ Below w.heap.size w w' := by
  have hac : True := trivial
  have hbc : True := trivial
  obtain ⟨W, hW, hWb, hWs, hA, hB, hC⟩ := box3 w #[.int .i64 a.id, .int .i64 a.acct, .int .i64 a.inst, .int .u8 a.side, .int .i64 a.price, .int .i64 a.left] #[.int .i64 b.id, .int .i64 b.acct, .int .i64 b.inst, .int .u8 b.side, .int .i64 b.price, .int .i64 b.left] #[.int .i64 c.id, .int .i64 c.acct, .int .i64 c.inst, .int .u8 c.side, .int .i64 c.price, .int .i64 c.left] 23
  have HWb := Lib.hid hWb; clear hWb
  have HG := Lib.hid (GrS.refl W)
  have HP := Lib.hid (hp.mono HWb.out); clear hp
  go_enter Tryd.func4, Tryd.ntmps4
  go_wp2_with (first
    | (go_at_call 14; (first | (with_reducible refine (less_v a b _ hab _ (HP.out.mono HG.out.1)).mono ?_) | (with_reducible refine (less_v b a _ hba _ (HP.out.mono HG.out.1)).mono ?_) | (with_reducible refine (less_v a a _ haa _ (HP.out.mono HG.out.1)).mono ?_) | (with_reducible refine (less_v b c _ hbc _ (HP.out.mono HG.out.1)).mono ?_) | (with_reducible refine (less_v a c _ hac _ (HP.out.mono HG.out.1)).mono ?_)); rintro e w1 ⟨rfl, hb1⟩; replace HG := Lib.hid (GrS.call HG.out hb1); clear hb1; (try clear hG); have hG := HG.out)
    | (go_at_call 13; (first | (with_reducible refine (mayOne_v a _ hma _).mono ?_) | (with_reducible refine (mayOne_v b _ hmb _).mono ?_)); rintro e w1 ⟨rfl, hb1⟩; replace HG := Lib.hid (GrS.call HG.out hb1); clear hb1; (try clear hG); have hG := HG.out)
    | (go_at_call 11; (with_reducible refine (works_c _ (HP.out.mono HG.out.1)).mono ?_); rintro e w1 ⟨rfl, hb1⟩; replace HG := Lib.hid (GrS.call HG.out hb1); clear hb1; (try clear hG); have hG := HG.out))
  clear hW
  go_region_held3 (fun w' => GrS W w') (first | exact GrS.start HG.out.1 | exact GrS.call (by assumption) hb1 | exact GrS.alloc (by assumption) _ | assumption) ((first
    | (go_at_call 14; (first | (with_reducible refine (less_v a b _ hab _ (HP.out.mono (GrS.fin (by assumption)))).mono ?_) | (with_reducible refine (less_v b a _ hba _ (HP.out.mono (GrS.fin (by assumption)))).mono ?_) | (with_reducible refine (less_v a a _ haa _ (HP.out.mono (GrS.fin (by assumption)))).mono ?_) | (with_reducible refine (less_v b c _ hbc _ (HP.out.mono (GrS.fin (by assumption)))).mono ?_) | (with_reducible refine (less_v a c _ hac _ (HP.out.mono (GrS.fin (by assumption)))).mono ?_)); rintro e w1 ⟨rfl, hb1⟩; skip)
    | (go_at_call 13; (first | (with_reducible refine (mayOne_v a _ hma _).mono ?_) | (with_reducible refine (mayOne_v b _ hmb _).mono ?_)); rintro e w1 ⟨rfl, hb1⟩; skip)
    | (go_at_call 11; (with_reducible refine (works_c _ (HP.out.mono (GrS.fin (by assumption)))).mono ?_); rintro e w1 ⟨rfl, hb1⟩; skip)))
  replace HG := Lib.hid (show GrS W _ from by assumption)
  go_wp2_with (first
    | (go_at_call 14; (first | (with_reducible refine (less_v a b _ hab _ (HP.out.mono HG.out.1)).mono ?_) | (with_reducible refine (less_v b a _ hba _ (HP.out.mono HG.out.1)).mono ?_) | (with_reducible refine (less_v a a _ haa _ (HP.out.mono HG.out.1)).mono ?_) | (with_reducible refine (less_v b c _ hbc _ (HP.out.mono HG.out.1)).mono ?_) | (with_reducible refine (less_v a c _ hac _ (HP.out.mono HG.out.1)).mono ?_)); rintro e w1 ⟨rfl, hb1⟩; replace HG := Lib.hid (GrS.call HG.out hb1); clear hb1; (try clear hG); have hG := HG.out)
    | (go_at_call 13; (first | (with_reducible refine (mayOne_v a _ hma _).mono ?_) | (with_reducible refine (mayOne_v b _ hmb _).mono ?_)); rintro e w1 ⟨rfl, hb1⟩; replace HG := Lib.hid (GrS.call HG.out hb1); clear hb1; (try clear hG); have hG := HG.out)
    | (go_at_call 11; (with_reducible refine (works_c _ (HP.out.mono HG.out.1)).mono ?_); rintro e w1 ⟨rfl, hb1⟩; replace HG := Lib.hid (GrS.call HG.out hb1); clear hb1; (try clear hG); have hG := HG.out))
  go_ret
  exact ⟨rfl, grow_trans HWb.out HG.out.1⟩
theorem lawRow_c (a b c : Ord) (w : World) (hp : PrW w) : Calls Tryd.prog 4 #[(.agg #[.int .i64 a.id, .int .i64 a.acct, .int .i64 a.inst, .int .u8 a.side, .int .i64 a.price, .int .i64 a.left]), (.agg #[.int .i64 b.id, .int .i64 b.acct, .int .i64 b.inst, .int .u8 b.side, .int .i64 b.price, .int .i64 b.left]), (.agg #[.int .i64 c.id, .int .i64 c.acct, .int .i64 c.inst, .int .u8 c.side, .int .i64 c.price, .int .i64 c.left])] w fun e w' => e = .returned (.bool true) ∧ Below w.heap.size w w' := by
  have haa := less_irr a
  cases hab : less a b with
  | true =>
    obtain ⟨h1, h2, h3, h4, _⟩ := less_iff.1 hab
    have e1 : (a.inst != b.inst) = false := by simp [h3]
    have e2 : (a.side != b.side) = false := by simp [h4]
    cases hbc : less b c with
    | true => exact lawRow_1 a b c w hp hab (less_anti hab) haa hbc (less_trans hab hbc) h1 h2 e1 e2
    | false => exact lawRow_2 a b c w hp hab (less_anti hab) haa hbc h1 h2 e1 e2
  | false =>
    cases hba : less b a with
    | true =>
      obtain ⟨h1, h2, h3, h4, _⟩ := less_iff.1 hba
      exact lawRow_3 a b c w hp hab hba haa h2 h1 (by simp [h3]) (by simp [h4])
    | false =>
      cases h1 : mayOne a with
      | false => exact lawRow_5 a b c w hp hab hba haa h1
      | true =>
        cases h2 : mayOne b with
        | false => exact lawRow_6 a b c w hp hab hba haa h1 h2
        | true =>
          by_cases h3 : a.inst = b.inst
          · by_cases h4 : a.side = b.side
            · obtain ⟨g1, g2⟩ := less_total h1 h2 h3 h4 hab hba
              exact lawRow_4 a b c w hp hab hba haa h1 h2 (by simp [h3]) (by simp [h4]) (by simp [g1]) (by simp [g2])
            · exact lawRow_8 a b c w hp hab hba haa h1 h2 (by simp [h3]) (by simp [h4])
          · exact lawRow_7 a b c w hp hab hba haa h1 h2 (by simp [h3])
end Go.Proofs.YtecfajnmekpeoaaDoor
