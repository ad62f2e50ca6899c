/-
  Contracts of the small functions of layer 16 (book): between, cmp.Compare, cmp.Or, byID, prices, MayOne. Conditions: none, but those that each theorem names.
-/
import Derived.Test.YtecfajnmekpeoaaDoorRows
import Derived.Test.YtecfajnmekpeoaaDoorMm
import Derived.Test.YtecfajnmekpeoaaDoorBkSp
namespace Go.Proofs.YtecfajnmekpeoaaDoor
open Go.RowKit

set_option maxHeartbeats 1000000 in
theorem between64_c (n m : Int) (w : World) :
    Calls Tryd.prog 39 #[.int .i64 n, .int .i64 m] w fun e w' => e = .returned (.bool (btw n m)) ∧ w = w' := by
  unfold btw
  go_enter Tryd.func39, Tryd.ntmps39
  go_wp2
  · have h : 1 ≤ n := by assumption
    go_ret; exact ⟨ret_bool (by simp [h]), rfl⟩
  · have h : n < 1 := by assumption
    go_ret; exact ⟨ret_bool (by simp; omega), rfl⟩
set_option maxHeartbeats 1000000 in
theorem betweenI_c (n m : Int) (w : World) :
    Calls Tryd.prog 40 #[.int .i64 n, .int .i64 m] w fun e w' => e = .returned (.bool (btw n m)) ∧ w = w' := by
  unfold btw
  go_enter Tryd.func40, Tryd.ntmps40
  go_wp2
  · have h : 1 ≤ n := by assumption
    go_ret; exact ⟨ret_bool (by simp [h]), rfl⟩
  · have h : n < 1 := by assumption
    go_ret; exact ⟨ret_bool (by simp; omega), rfl⟩

set_option maxHeartbeats 1000000 in
theorem compare64_c (n m : Int) (w : World) :
    Calls Tryd.prog 53 #[.int .i64 n, .int .i64 m] w fun e w' => e = .returned (.int .i64 (cmpI n m)) ∧ w = w' := by
  by_cases h1 : n < m
  · have Hc := Lib.hid (cmpI_lt h1)
    go_enter Tryd.func53, Tryd.ntmps53
    go_wp2
    go_ret; exact ⟨ret_int Hc.out.symm, rfl⟩
  · by_cases h2 : m < n
    · have Hc := Lib.hid (cmpI_gt h2)
      go_enter Tryd.func53, Tryd.ntmps53
      go_wp2
      go_ret; exact ⟨ret_int Hc.out.symm, rfl⟩
    · have Hc : Hid (cmpI n m = 0) := Lib.hid (cmpI_zero.2 (by omega))
      go_enter Tryd.func53, Tryd.ntmps53
      go_wp2
      go_ret; exact ⟨ret_int Hc.out.symm, rfl⟩

set_option maxHeartbeats 1000000 in
theorem byID_x (a b : Ord) (w : World) :
    Calls Tryd.prog 44 #[(.agg #[.int .i64 a.id, .int .i64 a.acct, .int .i64 a.inst, .int .u8 a.side, .int .i64 a.price, .int .i64 a.left]), (.agg #[.int .i64 b.id, .int .i64 b.acct, .int .i64 b.inst, .int .u8 b.side, .int .i64 b.price, .int .i64 b.left])] w fun e w' => e = .returned (.int .i64 (cmpI a.id b.id)) ∧ (w.alloc (.cells #[.int .i64 a.id, .int .i64 a.acct, .int .i64 a.inst, .int .u8 a.side, .int .i64 a.price, .int .i64 a.left] 23)).alloc (.cells #[.int .i64 b.id, .int .i64 b.acct, .int .i64 b.inst, .int .u8 b.side, .int .i64 b.price, .int .i64 b.left] 23) = w' := by
  go_enter Tryd.func44, Tryd.ntmps44
  go_wp2_with (go_at_call 53; (with_reducible refine (compare64_c _ _ _).mono ?_); rintro e w1 ⟨rfl, rfl⟩)
  go_ret
  exact ⟨rfl, rfl⟩
theorem byID_d (a b : Ord) (w : World) :
    Calls Tryd.prog 44 #[(.agg #[.int .i64 a.id, .int .i64 a.acct, .int .i64 a.inst, .int .u8 a.side, .int .i64 a.price, .int .i64 a.left]), (.agg #[.int .i64 b.id, .int .i64 b.acct, .int .i64 b.inst, .int .u8 b.side, .int .i64 b.price, .int .i64 b.left])] w fun e w' => e = .returned (.int .i64 (cmpI a.id b.id)) ∧ Below w.heap.size w w' ∧ w.drawn ≤ w'.drawn :=
  (byID_x a b w).mono fun _ _ ⟨he, hw⟩ => ⟨he, hw ▸ below_alloc2 _ _ _, hw ▸ Nat.le_refl _⟩
theorem byID_c (a b : Ord) (w : World) :
    Calls Tryd.prog 44 #[(.agg #[.int .i64 a.id, .int .i64 a.acct, .int .i64 a.inst, .int .u8 a.side, .int .i64 a.price, .int .i64 a.left]), (.agg #[.int .i64 b.id, .int .i64 b.acct, .int .i64 b.inst, .int .u8 b.side, .int .i64 b.price, .int .i64 b.left])] w fun e w' => e = .returned (.int .i64 (cmpI a.id b.id)) ∧ Below w.heap.size w w' :=
  (byID_x a b w).mono fun _ _ ⟨he, hw⟩ => ⟨he, hw ▸ below_alloc2 _ _ _⟩
set_option maxHeartbeats 1000000 in
theorem prices1_c (a b : Int) (w : World) :
    Calls Tryd.prog 92 #[.int .i64 a, .int .i64 b] w fun e w' => e = .returned (.int .i64 (cmpI b a)) ∧ w = w' := by
  go_enter Tryd.func92, Tryd.ntmps92
  go_wp2_with (go_at_call 53; (with_reducible refine (compare64_c _ _ _).mono ?_); rintro e w1 ⟨rfl, rfl⟩)
  go_ret
  exact ⟨rfl, rfl⟩
set_option maxHeartbeats 1000000 in
theorem prices2_c (a b : Int) (w : World) :
    Calls Tryd.prog 93 #[.int .i64 a, .int .i64 b] w fun e w' => e = .returned (.int .i64 (cmpI a b)) ∧ w = w' := by
  go_enter Tryd.func93, Tryd.ntmps93
  go_wp2_with (go_at_call 53; (with_reducible refine (compare64_c _ _ _).mono ?_); rintro e w1 ⟨rfl, rfl⟩)
  go_ret
  exact ⟨rfl, rfl⟩

set_option maxHeartbeats 1000000 in
theorem or_c (a b : Int) (B : Nat) (w : World) (h0 : w.cell? ⟨B, 0, none⟩ = some (.int .i64 a)) (h1 : w.cell? ⟨B, 1, none⟩ = some (.int .i64 b)) :
    Calls Tryd.prog 51 #[.slice (some ⟨B, 0, none⟩) 2 2] w fun e w' => e = .returned (.int .i64 (orI a b)) ∧ w = w' := by
  by_cases ha : a = 0
  · have hb0 : (b != 0) = true ∨ (b != 0) = false := by cases (b != 0) <;> simp
    have Hc : Hid (orI a b = b) := Lib.hid (by simp [orI, ha])
    have ga : (a != 0) = false := by simp [ha]
    have HA := Lib.hid ha; clear ha
    have HB : Hid (b = 0 ∨ (b != 0) = true) := Lib.hid (by by_cases h : b = 0 <;> simp [h])
    rcases hb0 with gb | gb
    · go_enter Tryd.func51, Tryd.ntmps51
      go_wp2
      refine wp_loop_rounds 3 ?_
      rw [rounds_succ]
      go_wp2
      rw [rounds_succ]
      go_wp2
      go_ret
      exact ⟨ret_int Hc.out.symm, rfl⟩
    · go_enter Tryd.func51, Tryd.ntmps51
      go_wp2
      refine wp_loop_rounds 3 ?_
      rw [rounds_succ]
      go_wp2
      rw [rounds_succ]
      go_wp2
      rw [rounds_succ]
      go_wp2
      go_ret
      exact ⟨ret_int (by rw [Hc.out]; rcases HB.out with h | h; (exact h.symm); (rw [gb] at h; cases h)), rfl⟩
  · have Hc : Hid (orI a b = a) := Lib.hid (by simp [orI, ha])
    have ga : (a != 0) = true := by simp [ha]
    clear ha
    go_enter Tryd.func51, Tryd.ntmps51
    go_wp2
    refine wp_loop_rounds 1 ?_
    rw [rounds_succ]
    go_wp2
    go_ret
    exact ⟨ret_int Hc.out.symm, rfl⟩

set_option maxHeartbeats 2000000 in
theorem mayOne_c (o : Ord) (w : World) :
    Calls Tryd.prog 13 #[(.agg #[.int .i64 o.id, .int .i64 o.acct, .int .i64 o.inst, .int .u8 o.side, .int .i64 o.price, .int .i64 o.left])] w fun e w' => e = .returned (.bool (mayOne o)) ∧ Below w.heap.size w w' := by
  have e1 : (o.side == 1) = true ∨ (o.side == 1) = false := by cases (o.side == 1) <;> simp
  go_enter Tryd.func13, Tryd.ntmps13
  go_wp2_with (first | (go_at_call 39; (with_reducible refine (between64_c _ _ _).mono ?_); rintro e w1 ⟨rfl, rfl⟩) | (go_at_call 40; (with_reducible refine (betweenI_c _ _ _).mono ?_); rintro e w1 ⟨rfl, rfl⟩))
  all_goals
    go_ret
    exact ⟨ret_bool (by simp_all [mayOne]), below_alloc _ _⟩
set_option maxHeartbeats 2000000 in
theorem may1_c (o : Ord) (w : World) :
    Calls Tryd.prog 43 #[(.agg #[.int .i64 o.id, .int .i64 o.acct, .int .i64 o.inst, .int .u8 o.side, .int .i64 o.price, .int .i64 o.left])] w fun e w' => e = .returned (.bool (!mayOne o)) ∧ Below w.heap.size w w' := by
  go_enter Tryd.func43, Tryd.ntmps43
  go_wp2_with (go_at_call 13; (with_reducible refine (mayOne_c _ _).mono ?_); rintro e w1 ⟨rfl, hb1⟩)
  go_ret
  exact ⟨rfl, grow_trans (below_alloc _ _) hb1⟩
end Go.Proofs.YtecfajnmekpeoaaDoor
