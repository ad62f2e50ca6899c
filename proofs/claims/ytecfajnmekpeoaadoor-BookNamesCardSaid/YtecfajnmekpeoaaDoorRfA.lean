/-
  Contracts of the document's own layer 16 (soukref16): MayOne, Less, Crosses, Holds, May. Conditions: none, but that slices read as lists.
-/
import Derived.Test.YtecfajnmekpeoaaDoorLFi
namespace Go.Proofs.YtecfajnmekpeoaaDoor
open Go.RowKit

set_option maxHeartbeats 2000000 in
theorem rMayOne_c (o : Ord) (w : World) :
    Calls Tryd.prog 19 #[(.agg #[.int .i64 o.id, .int .i64 o.acct, .int .i64 o.inst, .int .u8 o.side, .int .i64 o.price, .int .i64 o.left])] w fun e w' => e = .returned (.bool (mayOne o)) ∧ Below w.heap.size w w' := by
  generalize hr : mayOne o = r
  have HR := Lib.hid hr; clear hr
  rcases Bool.eq_false_or_eq_true (o.side == 1) with e1 | e1
  · go_enter Tryd.func19, Tryd.ntmps19
    go_wp2
    all_goals
      go_ret
      exact ⟨ret_bool (by rw [← HR.out, Bool.eq_iff_iff, mayOne_iff]; simp at *; omega), below_alloc _ _⟩
  · rcases Bool.eq_false_or_eq_true (o.side == 2) with e2 | e2
    all_goals
      go_enter Tryd.func19, Tryd.ntmps19
      go_wp2
      all_goals
        go_ret
        exact ⟨ret_bool (by rw [← HR.out, Bool.eq_iff_iff, mayOne_iff]; simp at *; omega), below_alloc _ _⟩
theorem rMayOne_v (o : Ord) (r : Bool) (h : mayOne o = r) (w : World) :
    Calls Tryd.prog 19 #[(.agg #[.int .i64 o.id, .int .i64 o.acct, .int .i64 o.inst, .int .u8 o.side, .int .i64 o.price, .int .i64 o.left])] w fun e w' => e = .returned (.bool r) ∧ Below w.heap.size w w' := by
  rw [← h]; exact rMayOne_c o w

theorem less_form (a b : Ord) : less a b = (mayOne a && mayOne b && a.inst == b.inst && a.side == b.side && (if a.price = b.price then decide (a.id < b.id) else if a.side = 1 then decide (b.price < a.price) else decide (a.price < b.price))) := by
  rw [Bool.eq_iff_iff, less_iff, rowLt_iff]
  by_cases h1 : a.price = b.price <;> by_cases h2 : a.side = 1 <;> simp [h1, h2, and_assoc] <;> (intros; omega)
set_option maxHeartbeats 2000000 in
theorem rLess_c (a b : Ord) (w : World) :
    Calls Tryd.prog 21 #[(.agg #[.int .i64 a.id, .int .i64 a.acct, .int .i64 a.inst, .int .u8 a.side, .int .i64 a.price, .int .i64 a.left]), (.agg #[.int .i64 b.id, .int .i64 b.acct, .int .i64 b.inst, .int .u8 b.side, .int .i64 b.price, .int .i64 b.left])] w fun e w' => e = .returned (.bool (less a b)) ∧ Below w.heap.size w w' := by
  obtain ⟨W, hW, hWb, hWs, hA, hB⟩ := box2 w #[.int .i64 a.id, .int .i64 a.acct, .int .i64 a.inst, .int .u8 a.side, .int .i64 a.price, .int .i64 a.left] #[.int .i64 b.id, .int .i64 b.acct, .int .i64 b.inst, .int .u8 b.side, .int .i64 b.price, .int .i64 b.left] 23 23
  have HWb := Lib.hid hWb; clear hWb
  have HG := Lib.hid (GrS.refl W)
  have HF := Lib.hid (less_form a b)
  rcases eqne (a.inst) (b.inst) with ⟨e1, e1'⟩ | ⟨e1, e1'⟩ <;> rcases eqne (a.side) (b.side) with ⟨e2, e2'⟩ | ⟨e2, e2'⟩ <;> rcases eqne (a.price) (b.price) with ⟨e3, e3'⟩ | ⟨e3, e3'⟩ <;> rcases eqne (a.side) (1) with ⟨e4, e4'⟩ | ⟨e4, e4'⟩
  all_goals
    go_enter Tryd.func21, Tryd.ntmps21
    go_wp2_with (go_at_call 19; first | (go_at_call 19; (with_reducible refine (rMayOne_c a _).mono ?_); rintro e w1 ⟨rfl, hb1⟩; replace HG := Lib.hid (GrS.call HG.out hb1); clear hb1; (try clear hG); have hG := HG.out) | (go_at_call 19; (with_reducible refine (rMayOne_c b _).mono ?_); rintro e w1 ⟨rfl, hb1⟩; replace HG := Lib.hid (GrS.call HG.out hb1); clear hb1; (try clear hG); have hG := HG.out))
    all_goals
      go_ret
      exact ⟨ret_bool (by rw [HF.out]; simp_all), grow_trans HWb.out HG.out.1⟩

theorem crosses_form (a b : Ord) : crosses a b = true ↔ mayOne a = true ∧ mayOne b = true ∧ a.inst = b.inst ∧ ((a.side = 1 ∧ b.side = 2 ∧ b.price ≤ a.price) ∨ (a.side = 2 ∧ b.side = 1 ∧ a.price ≤ b.price)) := by
  rw [crosses_iff]
  constructor
  · rintro ⟨h1, h2, h3, h4, h5, h6⟩
    have s1 := side_of h1; have s2 := side_of h2
    refine ⟨h1, h2, h3, ?_⟩
    rcases s1 with s1 | s1
    · left; exact ⟨s1, by omega, h5 s1⟩
    · right; exact ⟨s1, by omega, h6 (by omega)⟩
  · rintro ⟨h1, h2, h3, h4⟩
    exact ⟨h1, h2, h3, by omega, fun _ => by omega, fun _ => by omega⟩
set_option maxHeartbeats 4000000 in
theorem rCrosses_c (a b : Ord) (w : World) :
    Calls Tryd.prog 22 #[(.agg #[.int .i64 a.id, .int .i64 a.acct, .int .i64 a.inst, .int .u8 a.side, .int .i64 a.price, .int .i64 a.left]), (.agg #[.int .i64 b.id, .int .i64 b.acct, .int .i64 b.inst, .int .u8 b.side, .int .i64 b.price, .int .i64 b.left])] w fun e w' => e = .returned (.bool (crosses a b)) ∧ Below w.heap.size w w' := by
  generalize hr : crosses a b = r
  have HR := Lib.hid hr; clear hr
  obtain ⟨W, hW, hWb, hWs, hA, hB⟩ := box2 w #[.int .i64 a.id, .int .i64 a.acct, .int .i64 a.inst, .int .u8 a.side, .int .i64 a.price, .int .i64 a.left] #[.int .i64 b.id, .int .i64 b.acct, .int .i64 b.inst, .int .u8 b.side, .int .i64 b.price, .int .i64 b.left] 23 23
  have HWb := Lib.hid hWb; clear hWb
  have HG := Lib.hid (GrS.refl W)
  cases hma : mayOne a with
  | false =>
    have HF : Hid (r = false) := Lib.hid (by rw [← HR.out, Bool.eq_false_iff, ne_eq, crosses_form]; simp [hma])
    go_enter Tryd.func22, Tryd.ntmps22
    go_wp2_with (go_at_call 19; (with_reducible refine (rMayOne_v a _ hma _).mono ?_); rintro e w1 ⟨rfl, hb1⟩; replace HG := Lib.hid (GrS.call HG.out hb1); clear hb1; (try clear hG); have hG := HG.out)
    go_ret
    exact ⟨ret_bool HF.out.symm, grow_trans HWb.out HG.out.1⟩
  | true =>
    cases hmb : mayOne b with
    | false =>
      have HF : Hid (r = false) := Lib.hid (by rw [← HR.out, Bool.eq_false_iff, ne_eq, crosses_form]; simp [hmb])
      go_enter Tryd.func22, Tryd.ntmps22
      go_wp2_with (go_at_call 19; first | (go_at_call 19; (with_reducible refine (rMayOne_v a _ hma _).mono ?_); rintro e w1 ⟨rfl, hb1⟩; replace HG := Lib.hid (GrS.call HG.out hb1); clear hb1; (try clear hG); have hG := HG.out) | (go_at_call 19; (with_reducible refine (rMayOne_v b _ hmb _).mono ?_); rintro e w1 ⟨rfl, hb1⟩; replace HG := Lib.hid (GrS.call HG.out hb1); clear hb1; (try clear hG); have hG := HG.out))
      go_ret
      exact ⟨ret_bool HF.out.symm, grow_trans HWb.out HG.out.1⟩
    | true =>
      have HF : Hid (r = true ↔ (a.inst = b.inst ∧ ((a.side = 1 ∧ b.side = 2 ∧ b.price ≤ a.price) ∨ (a.side = 2 ∧ b.side = 1 ∧ a.price ≤ b.price)))) := Lib.hid (by rw [← HR.out, crosses_form]; simp [hma, hmb])
      rcases eqne (a.inst) (b.inst) with ⟨e1, e1'⟩ | ⟨e1, e1'⟩
      · have hin : Hid (a.inst = b.inst) := Lib.hid (by simpa using e1)
        go_enter Tryd.func22, Tryd.ntmps22
        go_wp2_with (go_at_call 19; first | (go_at_call 19; (with_reducible refine (rMayOne_v a _ hma _).mono ?_); rintro e w1 ⟨rfl, hb1⟩; replace HG := Lib.hid (GrS.call HG.out hb1); clear hb1; (try clear hG); have hG := HG.out) | (go_at_call 19; (with_reducible refine (rMayOne_v b _ hmb _).mono ?_); rintro e w1 ⟨rfl, hb1⟩; replace HG := Lib.hid (GrS.call HG.out hb1); clear hb1; (try clear hG); have hG := HG.out))
        all_goals
          go_ret
          refine ⟨ret_bool ?_, grow_trans HWb.out HG.out.1⟩
          have hq := HF.out; have hq2 := hin.out
          simp only [beq_iff_eq] at *
          first
            | (cases r <;> simp at hq ⊢ <;> omega)
            | (cases r <;> simp at hq <;> simp <;> omega)
      · have HF2 : Hid (r = false) := Lib.hid (by
          cases r with
          | false => rfl
          | true => obtain ⟨q1, _⟩ := HF.out.1 rfl; rw [q1] at e1; simp at e1)
        clear HF
        go_enter Tryd.func22, Tryd.ntmps22
        go_wp2_with (go_at_call 19; first | (go_at_call 19; (with_reducible refine (rMayOne_v a _ hma _).mono ?_); rintro e w1 ⟨rfl, hb1⟩; replace HG := Lib.hid (GrS.call HG.out hb1); clear hb1; (try clear hG); have hG := HG.out) | (go_at_call 19; (with_reducible refine (rMayOne_v b _ hmb _).mono ?_); rintro e w1 ⟨rfl, hb1⟩; replace HG := Lib.hid (GrS.call HG.out hb1); clear hb1; (try clear hG); have hG := HG.out))
        go_ret
        exact ⟨ret_bool HF2.out.symm, grow_trans HWb.out HG.out.1⟩
end Go.Proofs.YtecfajnmekpeoaaDoor
