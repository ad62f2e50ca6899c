/-
  Contracts of layer 16 (book): Less, Crosses. Condition of each: the table 'prices' holds its two functions (PrW).
-/
import Derived.Test.YtecfajnmekpeoaaDoorBkW
namespace Go.Proofs.YtecfajnmekpeoaaDoor
open Go.RowKit

theorem row_b (a b : Ord) (w : World) (hp : PrW w) (hs : a.side = 1 ∨ a.side = 2) :
    Calls Tryd.prog 41 #[(.agg #[.int .i64 a.id, .int .i64 a.acct, .int .i64 a.inst, .int .u8 a.side, .int .i64 a.price, .int .i64 a.left]), (.agg #[.int .i64 b.id, .int .i64 b.acct, .int .i64 b.inst, .int .u8 b.side, .int .i64 b.price, .int .i64 b.left])] w fun e w' => e = .returned (.int .i64 (rowC a b)) ∧ Below w.heap.size w w' :=
  (row_c a b w hp hs).mono fun _ _ ⟨he, hb, _⟩ => ⟨he, hb⟩

set_option maxHeartbeats 2000000 in
theorem less_c (a b : Ord) (w : World) (hp : PrW w) :
    Calls Tryd.prog 14 #[(.agg #[.int .i64 a.id, .int .i64 a.acct, .int .i64 a.inst, .int .u8 a.side, .int .i64 a.price, .int .i64 a.left]), (.agg #[.int .i64 b.id, .int .i64 b.acct, .int .i64 b.inst, .int .u8 b.side, .int .i64 b.price, .int .i64 b.left])] w fun e w' => e = .returned (.bool (less a b)) ∧ Below w.heap.size w w' := by
  obtain ⟨W, hW, hWb, hWs, hA, hB⟩ := box2 w #[.int .i64 a.id, .int .i64 a.acct, .int .i64 a.inst, .int .u8 a.side, .int .i64 a.price, .int .i64 a.left] #[.int .i64 b.id, .int .i64 b.acct, .int .i64 b.inst, .int .u8 b.side, .int .i64 b.price, .int .i64 b.left] 23 23
  have HWb := Lib.hid hWb; clear hWb
  have HG := Lib.hid (GrS.refl W)
  have HP := Lib.hid (hp.mono HWb.out); clear hp
  rcases eqne (a.inst) (b.inst) with ⟨e1, e1'⟩ | ⟨e1, e1'⟩ <;> rcases eqne (a.side) (b.side) with ⟨e2, e2'⟩ | ⟨e2, e2'⟩
  all_goals
    go_enter Tryd.func14, Tryd.ntmps14
    go_wp2_with (first | (go_at_call 13; first | (go_at_call 13; (with_reducible refine (mayOne_c a _).mono ?_); rintro e w1 ⟨rfl, hb1⟩; replace HG := Lib.hid (GrS.call HG.out hb1); clear hb1; (try clear hG); have hG := HG.out) | (go_at_call 13; (with_reducible refine (mayOne_c b _).mono ?_); rintro e w1 ⟨rfl, hb1⟩; replace HG := Lib.hid (GrS.call HG.out hb1); clear hb1; (try clear hG); have hG := HG.out)) | (go_at_call 41; (with_reducible refine (row_b a b _ (HP.out.mono HG.out.1) (side_of (by assumption))).mono ?_); rintro e w1 ⟨rfl, hb1⟩; replace HG := Lib.hid (GrS.call HG.out hb1); clear hb1; (try clear hG); have hG := HG.out))
    all_goals
      go_ret
      exact ⟨ret_bool (by simp_all [less, rowLt]), grow_trans HWb.out HG.out.1⟩

set_option maxHeartbeats 2000000 in
theorem crosses_c (a b : Ord) (w : World) (hp : PrW w) :
    Calls Tryd.prog 15 #[(.agg #[.int .i64 a.id, .int .i64 a.acct, .int .i64 a.inst, .int .u8 a.side, .int .i64 a.price, .int .i64 a.left]), (.agg #[.int .i64 b.id, .int .i64 b.acct, .int .i64 b.inst, .int .u8 b.side, .int .i64 b.price, .int .i64 b.left])] w fun e w' => e = .returned (.bool (crosses a b)) ∧ Below w.heap.size w w' := by
  by_cases hm : mayOne a = true ∧ mayOne b = true ∧ a.inst = b.inst ∧ a.side ≠ b.side
  · obtain ⟨m1, m2, d1, d2⟩ := hm
    have hs := side_of m1
    have Hr : Hid (crosses a b = decide (cmpP a.side a.price b.price ≤ 0)) := Lib.hid (by simp_all [crosses])
    have e1 : (a.inst != b.inst) = false := by simp [d1]
    have e2 : (a.side == b.side) = false := by simp [d2]
    clear d1 d2
    rcases hs with hs | hs
    · have Hc : Hid (cmpP a.side a.price b.price = cmpI b.price a.price) := Lib.hid (by simp [cmpP, hs])
      obtain ⟨id, acct, inst, side, price, left⟩ := a
      dsimp only at *
      subst hs
      obtain ⟨W, hW, hWb, hWs, hA, hB⟩ := box2 w #[.int .i64 id, .int .i64 acct, .int .i64 inst, .int .u8 1, .int .i64 price, .int .i64 left] #[.int .i64 b.id, .int .i64 b.acct, .int .i64 b.inst, .int .u8 b.side, .int .i64 b.price, .int .i64 b.left] 23 23
      have HP := Lib.hid (hp.mono hWb); clear hp
      have HWb := Lib.hid hWb; clear hWb
      have HG := Lib.hid (GrS.refl W)
      go_enter Tryd.func15, Tryd.ntmps15
      go_wp2_with (first | (go_at_call 13; first | (go_at_call 13; (with_reducible refine (mayOne_c ⟨id, acct, inst, 1, price, left⟩ _).mono ?_); rintro e w1 ⟨rfl, hb1⟩; replace HG := Lib.hid (GrS.call HG.out hb1); clear hb1; (try clear hG); have hG := HG.out) | (go_at_call 13; (with_reducible refine (mayOne_c b _).mono ?_); rintro e w1 ⟨rfl, hb1⟩; replace HG := Lib.hid (GrS.call HG.out hb1); clear hb1; (try clear hG); have hG := HG.out)))
      have q0 := HP.out.lt
      have q1 := HP.out.c1
      clear hW hG
      go_region_held3 (fun w' => GrS W w') (first | exact GrS.start HG.out.1 | exact GrS.call (by assumption) hb1 | exact GrS.alloc (by assumption) _ | assumption) (first | (go_at_call 92; (with_reducible refine (prices1_c _ _ _).mono ?_); rintro e w1 ⟨rfl, rfl⟩))
      go_wp2
      go_ret
      exact ⟨ret_bool (by rw [Hr.out, Hc.out]), grow_trans HWb.out (GrS.fin (by assumption))⟩
    · have Hc : Hid (cmpP a.side a.price b.price = cmpI a.price b.price) := Lib.hid (by simp [cmpP, hs])
      obtain ⟨id, acct, inst, side, price, left⟩ := a
      dsimp only at *
      subst hs
      obtain ⟨W, hW, hWb, hWs, hA, hB⟩ := box2 w #[.int .i64 id, .int .i64 acct, .int .i64 inst, .int .u8 2, .int .i64 price, .int .i64 left] #[.int .i64 b.id, .int .i64 b.acct, .int .i64 b.inst, .int .u8 b.side, .int .i64 b.price, .int .i64 b.left] 23 23
      have HP := Lib.hid (hp.mono hWb); clear hp
      have HWb := Lib.hid hWb; clear hWb
      have HG := Lib.hid (GrS.refl W)
      go_enter Tryd.func15, Tryd.ntmps15
      go_wp2_with (first | (go_at_call 13; first | (go_at_call 13; (with_reducible refine (mayOne_c ⟨id, acct, inst, 2, price, left⟩ _).mono ?_); rintro e w1 ⟨rfl, hb1⟩; replace HG := Lib.hid (GrS.call HG.out hb1); clear hb1; (try clear hG); have hG := HG.out) | (go_at_call 13; (with_reducible refine (mayOne_c b _).mono ?_); rintro e w1 ⟨rfl, hb1⟩; replace HG := Lib.hid (GrS.call HG.out hb1); clear hb1; (try clear hG); have hG := HG.out)))
      have q0 := HP.out.lt
      have q1 := HP.out.c2
      clear hW hG
      go_region_held3 (fun w' => GrS W w') (first | exact GrS.start HG.out.1 | exact GrS.call (by assumption) hb1 | exact GrS.alloc (by assumption) _ | assumption) (first | (go_at_call 93; (with_reducible refine (prices2_c _ _ _).mono ?_); rintro e w1 ⟨rfl, rfl⟩))
      go_wp2
      go_ret
      exact ⟨ret_bool (by rw [Hr.out, Hc.out]), grow_trans HWb.out (GrS.fin (by assumption))⟩
  · have Hr : Hid (crosses a b = false) := Lib.hid (by rw [Bool.eq_false_iff]; intro hc; obtain ⟨c1, c2, c3, c4, _⟩ := crosses_iff.1 hc; exact hm ⟨c1, c2, c3, c4⟩)
    have hcs : mayOne a = false ∨ (mayOne a = true ∧ mayOne b = false) ∨ (mayOne a = true ∧ mayOne b = true ∧ (a.inst != b.inst) = true) ∨ (mayOne a = true ∧ mayOne b = true ∧ (a.inst != b.inst) = false ∧ (a.side == b.side) = true) := by
      cases h1 : mayOne a <;> cases h2 : mayOne b <;> by_cases h3 : a.inst = b.inst <;> by_cases h4 : a.side = b.side <;> simp_all
    clear hm
    obtain ⟨W, hW, hWb, hWs, hA, hB⟩ := box2 w #[.int .i64 a.id, .int .i64 a.acct, .int .i64 a.inst, .int .u8 a.side, .int .i64 a.price, .int .i64 a.left] #[.int .i64 b.id, .int .i64 b.acct, .int .i64 b.inst, .int .u8 b.side, .int .i64 b.price, .int .i64 b.left] 23 23
    have HWb := Lib.hid hWb; clear hWb
    have HG := Lib.hid (GrS.refl W)
    clear hp
    rcases hcs with m1 | ⟨m1, m2⟩ | ⟨m1, m2, e1⟩ | ⟨m1, m2, e1, e2⟩
    all_goals
      go_enter Tryd.func15, Tryd.ntmps15
      go_wp2_with (first | (go_at_call 13; first | (go_at_call 13; (with_reducible refine (mayOne_c a _).mono ?_); rintro e w1 ⟨rfl, hb1⟩; replace HG := Lib.hid (GrS.call HG.out hb1); clear hb1; (try clear hG); have hG := HG.out) | (go_at_call 13; (with_reducible refine (mayOne_c b _).mono ?_); rintro e w1 ⟨rfl, hb1⟩; replace HG := Lib.hid (GrS.call HG.out hb1); clear hb1; (try clear hG); have hG := HG.out)))
      go_ret
      exact ⟨ret_bool Hr.out.symm, grow_trans HWb.out HG.out.1⟩

end Go.Proofs.YtecfajnmekpeoaaDoor
