/-
  Contracts of layer 16 (book): row. Condition of each: the table 'prices' holds its two functions (PrW).
-/
import Derived.Test.YtecfajnmekpeoaaDoorBkL
namespace Go.Proofs.YtecfajnmekpeoaaDoor
open Go.RowKit

/-- the table of functions: nothing, the Buy side's, the Sell side's -/
structure PrW (w : World) : Prop where
  lt : 0 < w.heap.size
  c1 : w.cell? ⟨0, 1, none⟩ = some (.func (.func 92) #[] #[])
  c2 : w.cell? ⟨0, 2, none⟩ = some (.func (.func 93) #[] #[])
theorem PrW.mono {w w' : World} (h : PrW w) (hb : Below w.heap.size w w') : PrW w' :=
  ⟨Nat.lt_of_lt_of_le h.lt hb.size, (hb.cell (p := ⟨_, _, _⟩) h.lt).trans h.c1, (hb.cell (p := ⟨_, _, _⟩) h.lt).trans h.c2⟩

theorem or_new (a b : Int) (t : TypeId) (w : World) :
    Calls Tryd.prog 51 #[.slice (some ⟨w.heap.size, 0, none⟩) 2 2] (w.alloc (.cells #[.int .i64 a, .int .i64 b] t)) fun e w' => e = .returned (.int .i64 (orI a b)) ∧ w.alloc (.cells #[.int .i64 a, .int .i64 b] t) = w' :=
  or_c a b _ _ (by simp) (by simp)

set_option maxHeartbeats 2000000 in
theorem row_c (a b : Ord) (w : World) (hp : PrW w) (hs : a.side = 1 ∨ a.side = 2) :
    Calls Tryd.prog 41 #[(.agg #[.int .i64 a.id, .int .i64 a.acct, .int .i64 a.inst, .int .u8 a.side, .int .i64 a.price, .int .i64 a.left]), (.agg #[.int .i64 b.id, .int .i64 b.acct, .int .i64 b.inst, .int .u8 b.side, .int .i64 b.price, .int .i64 b.left])] w fun e w' => e = .returned (.int .i64 (rowC a b)) ∧ Below w.heap.size w w' ∧ w.drawn ≤ w'.drawn := by
  rcases hs with hs | hs
  · have Hc : Hid (rowC a b = orI (cmpI b.price a.price) (cmpI a.id b.id)) := Lib.hid (by simp [rowC, cmpP, hs])
    obtain ⟨id, acct, inst, side, price, left⟩ := a
    dsimp only at *
    subst hs
    obtain ⟨W, hW, hWb, hWs, hA, hB⟩ := box2 w #[.int .i64 id, .int .i64 acct, .int .i64 inst, .int .u8 1, .int .i64 price, .int .i64 left] #[.int .i64 b.id, .int .i64 b.acct, .int .i64 b.inst, .int .u8 b.side, .int .i64 b.price, .int .i64 b.left] 23 23
    obtain ⟨p0, p1, p2⟩ := hp.mono hWb
    clear hp
    have HWb := Lib.hid hWb; clear hWb
    have HD : Hid (w.drawn ≤ W.drawn) := Lib.hid (by rw [← hW]; simp)
    go_enter Tryd.func41, Tryd.ntmps41
    go_wp2_with fail
    clear hW
    go_region_held3 (fun w' => GrS W w') (first | exact GrS.start (Below.refl _ _) | exact GrS.alloc (by assumption) _ | exact GrS.call (by assumption) hb1 | assumption) (first
      | (go_at_call 92; (with_reducible refine (prices1_c _ _ _).mono ?_); rintro e w1 ⟨rfl, rfl⟩)
      | (go_at_call 44; refine (byID_d ⟨id, acct, inst, 1, price, left⟩ b _).mono ?_; rintro e w1 ⟨rfl, hb1, hd1⟩)
      | (go_at_call 51; refine (or_new _ _ _ _).mono ?_; rintro e w2 ⟨rfl, rfl⟩))
    go_wp2
    go_ret
    have hd : w.drawn ≤ W.drawn := HD.out
    exact ⟨ret_int Hc.out.symm, grow_trans HWb.out (GrS.fin (by assumption)), Nat.le_trans hd (by simp at hd1 ⊢; omega)⟩
  · have Hc : Hid (rowC a b = orI (cmpI a.price b.price) (cmpI a.id b.id)) := Lib.hid (by simp [rowC, cmpP, hs])
    obtain ⟨id, acct, inst, side, price, left⟩ := a
    dsimp only at *
    subst hs
    obtain ⟨W, hW, hWb, hWs, hA, hB⟩ := box2 w #[.int .i64 id, .int .i64 acct, .int .i64 inst, .int .u8 2, .int .i64 price, .int .i64 left] #[.int .i64 b.id, .int .i64 b.acct, .int .i64 b.inst, .int .u8 b.side, .int .i64 b.price, .int .i64 b.left] 23 23
    obtain ⟨p0, p1, p2⟩ := hp.mono hWb
    clear hp
    have HWb := Lib.hid hWb; clear hWb
    have HD : Hid (w.drawn ≤ W.drawn) := Lib.hid (by rw [← hW]; simp)
    go_enter Tryd.func41, Tryd.ntmps41
    go_wp2_with fail
    clear hW
    go_region_held3 (fun w' => GrS W w') (first | exact GrS.start (Below.refl _ _) | exact GrS.alloc (by assumption) _ | exact GrS.call (by assumption) hb1 | assumption) (first
      | (go_at_call 93; (with_reducible refine (prices2_c _ _ _).mono ?_); rintro e w1 ⟨rfl, rfl⟩)
      | (go_at_call 44; refine (byID_d ⟨id, acct, inst, 2, price, left⟩ b _).mono ?_; rintro e w1 ⟨rfl, hb1, hd1⟩)
      | (go_at_call 51; refine (or_new _ _ _ _).mono ?_; rintro e w2 ⟨rfl, rfl⟩))
    go_wp2
    go_ret
    have hd : w.drawn ≤ W.drawn := HD.out
    exact ⟨ret_int Hc.out.symm, grow_trans HWb.out (GrS.fin (by assumption)), Nat.le_trans hd (by simp at hd1 ⊢; omega)⟩
end Go.Proofs.YtecfajnmekpeoaaDoor
