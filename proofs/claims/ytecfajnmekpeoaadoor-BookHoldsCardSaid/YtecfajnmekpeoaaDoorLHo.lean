/-
  Contract of souklaw16.BookHolds: true, in every world. Condition: the table 'prices' holds its two functions (PrW).
-/
import Derived.Test.YtecfajnmekpeoaaDoorBkK
namespace Go.Proofs.YtecfajnmekpeoaaDoor
open Go.RowKit

theorem holds_parts {o : Ord} (hm : mayOne o = true) {q : Int} (h1 : 1 ≤ q) (h2 : q < o.left) :
    holdsA { o with left := q } = holdsA o ∧ holdsA { o with left := o.left - q } = holdsA o ∧ holdsN { o with left := q } + holdsN { o with left := o.left - q } = holdsN o ∧ 0 < holdsN { o with left := q } ∧ 0 < holdsN { o with left := o.left - q } ∧ holdsN o ≤ 1125899906842624 := by
  obtain ⟨id, acct, inst, side, price, left⟩ := o
  have hm' := hm
  simp only [mayOne, btw, Bool.and_eq_true, Bool.or_eq_true, decide_eq_true_eq, beq_iff_eq] at hm'
  dsimp only at *
  obtain ⟨⟨⟨⟨⟨a1, a2⟩, a3⟩, a4⟩, a5⟩, a6⟩ := hm'
  have m1 : mayOne ⟨id, acct, inst, side, price, q⟩ = true := by
    simp only [mayOne, btw, Bool.and_eq_true, Bool.or_eq_true, decide_eq_true_eq, beq_iff_eq]; omega
  have m2 : mayOne ⟨id, acct, inst, side, price, left - q⟩ = true := by
    simp only [mayOne, btw, Bool.and_eq_true, Bool.or_eq_true, decide_eq_true_eq, beq_iff_eq]; omega
  have p1 : price * q + price * (left - q) = price * left := by rw [← Int.mul_add]; congr 1; omega
  have p2 : 0 < price * q := Int.mul_pos (by omega) (by omega)
  have p3 : 0 < price * (left - q) := Int.mul_pos (by omega) (by omega)
  have p4 : price * left ≤ 1073741824 * 1048576 := Int.mul_le_mul a5.2 a6.2 (by omega) (by omega)
  unfold holdsA holdsN
  rw [m1, m2, hm]
  rcases a4 with rfl | rfl
  · simp; omega
  · simp; omega

theorem box2d (w : World) (A B : Array Value) (t : TypeId) : ∃ X, ((w.alloc (.cells A t)).alloc (.cells B t)).drew.drew = X ∧ Below w.heap.size w X ∧ X.heap.size = w.heap.size + 2 ∧ (∀ i, X.cell? ⟨w.heap.size, i, none⟩ = A[i]?) ∧ ∀ i, X.cell? ⟨w.heap.size + 1, i, none⟩ = B[i]? := by
  obtain ⟨W, hW, h1, h2, h3, h4⟩ := box2 w A B t t
  exact ⟨_, rfl, by rw [hW]; exact h1.drew.drew, by rw [hW]; exact h2, by rw [hW]; exact h3, by rw [hW]; exact h4⟩
set_option maxHeartbeats 4000000 in
theorem lawHolds_c (o : Ord) (q : Int) (w : World) (hp : PrW w) : Calls Tryd.prog 3 #[(.agg #[.int .i64 o.id, .int .i64 o.acct, .int .i64 o.inst, .int .u8 o.side, .int .i64 o.price, .int .i64 o.left]), .int .i64 q] w fun e w' => e = .returned (.bool true) ∧ Below w.heap.size w w' := by
  by_cases hm : mayOne o = true
  · by_cases hq : 1 ≤ q ∧ q < o.left
    · obtain ⟨hq1, hq2⟩ := hq
      have hl := holds_parts hm hq1 hq2
      have q1 : decide (q < 1) = false := by simp; omega
      have q2 : decide (q ≥ o.left) = false := by simp; omega
      have hle : o.left ≤ 1048576 := by simp only [mayOne, btw, Bool.and_eq_true, Bool.or_eq_true, decide_eq_true_eq, beq_iff_eq] at hm; omega
      have q3 : IntKind.i64.wrap (o.left - q) = o.left - q := IntWalk.i64_in _ (by omega)
      have HL := Lib.hid hl
      clear hq1 hq2 hl hle
      obtain ⟨W, hW, hWb, hWs, hA⟩ := box1 w #[.int .i64 o.id, .int .i64 o.acct, .int .i64 o.inst, .int .u8 o.side, .int .i64 o.price, .int .i64 o.left] 23
      have HWb := Lib.hid hWb; clear hWb
      have HG := Lib.hid (GrS.refl W)
      have HP := Lib.hid (hp.mono HWb.out); clear hp
      go_enter Tryd.func3, Tryd.ntmps3
      go_wp2_with (first | (go_at_call 11; (with_reducible refine (works_c _ (HP.out.mono HG.out.1)).mono ?_); rintro e w1 ⟨rfl, hb1⟩; replace HG := Lib.hid (GrS.call HG.out hb1); clear hb1; (try clear hG); have hG := HG.out) | (go_at_call 12; (with_reducible refine (holds_c o _).mono ?_); rintro e w1 ⟨rfl, hb1⟩; replace HG := Lib.hid (GrS.call HG.out hb1); clear hb1; (try clear hG); have hG := HG.out) | (go_at_call 13; (with_reducible refine (mayOne_c o _).mono ?_); rintro e w1 ⟨rfl, hb1⟩; replace HG := Lib.hid (GrS.call HG.out hb1); clear hb1; (try clear hG); have hG := HG.out))
      have hN : w.heap.size < w1.heap.size := by have := HG.out.1.size; omega
      replace hA : ∀ i, w1.cell? ⟨w.heap.size, i, none⟩ = #[.int .i64 o.id, .int .i64 o.acct, .int .i64 o.inst, .int .u8 o.side, .int .i64 o.price, .int .i64 o.left][i]? := fun i => by rw [HG.out.2 _ _ (by omega)]; exact hA i
      clear hG hW hWs
      go_region
      all_goals go_wp2
      all_goals go_region
      all_goals go_wp2_with fail
      · skip
        obtain ⟨X, hX, hXb, hXs, hB, hC⟩ := box2d w1 #[.int .i64 o.id, .int .i64 o.acct, .int .i64 o.inst, .int .u8 o.side, .int .i64 o.price, .int .i64 q] #[.int .i64 o.id, .int .i64 o.acct, .int .i64 o.inst, .int .u8 o.side, .int .i64 o.price, .int .i64 (o.left - q)] 23
        rw [hX]
        clear hX
        refine (holds_c ⟨o.id, o.acct, o.inst, o.side, o.price, q⟩ _).mono ?_
        rintro e w2 ⟨rfl, hb2⟩
        have hG2 := GrS.of hb2
        have HW2 := Lib.hid (grow_trans HWb.out (grow_trans HG.out.1 (grow_trans hXb hb2)))
        replace hB : ∀ i, w2.cell? ⟨w1.heap.size, i, none⟩ = #[.int .i64 o.id, .int .i64 o.acct, .int .i64 o.inst, .int .u8 o.side, .int .i64 o.price, .int .i64 q][i]? := fun i => by rw [hG2.2 _ _ (by omega)]; exact hB i
        replace hC : ∀ i, w2.cell? ⟨w1.heap.size + 1, i, none⟩ = #[.int .i64 o.id, .int .i64 o.acct, .int .i64 o.inst, .int .u8 o.side, .int .i64 o.price, .int .i64 (o.left - q)][i]? := fun i => by rw [hG2.2 _ _ (by omega)]; exact hC i
        clear hG2 hb2 hXb hXs hA hN HG HP HWb
        go_wp2_with (go_at_call 12; (with_reducible refine (holds_c ⟨o.id, o.acct, o.inst, o.side, o.price, o.left - q⟩ _).mono ?_); rintro e w3 ⟨rfl, hb3⟩)
        all_goals obtain ⟨f1, f2, f3, f4, f5, f6⟩ := HL.out
        all_goals have f7 : wrap64 (holdsN ⟨o.id, o.acct, o.inst, o.side, o.price, q⟩ + holdsN ⟨o.id, o.acct, o.inst, o.side, o.price, o.left - q⟩) = holdsN o := by (rw [f3]; first | exact wrap64_id (by omega) (by omega) | exact IntWalk.wrap64_in _ (by omega) | (unfold wrap64; omega) | exact IntWalk.i64_in (holdsN o) (by omega))
        all_goals first | (exfalso; omega) | (go_ret; exact ⟨ret_bool (by first | rfl | exact decide_eq_true f6 | simp [f6]), grow_trans HW2.out hb3⟩)
      · skip
        obtain ⟨X, hX, hXb, hXs, hB, hC⟩ := box2d w1 #[.int .i64 o.id, .int .i64 o.acct, .int .i64 o.inst, .int .u8 o.side, .int .i64 o.price, .int .i64 (o.left - q)] #[.int .i64 o.id, .int .i64 o.acct, .int .i64 o.inst, .int .u8 o.side, .int .i64 o.price, .int .i64 q] 23
        rw [hX]
        clear hX
        refine (holds_c ⟨o.id, o.acct, o.inst, o.side, o.price, q⟩ _).mono ?_
        rintro e w2 ⟨rfl, hb2⟩
        have hG2 := GrS.of hb2
        have HW2 := Lib.hid (grow_trans HWb.out (grow_trans HG.out.1 (grow_trans hXb hb2)))
        replace hB : ∀ i, w2.cell? ⟨w1.heap.size, i, none⟩ = #[.int .i64 o.id, .int .i64 o.acct, .int .i64 o.inst, .int .u8 o.side, .int .i64 o.price, .int .i64 (o.left - q)][i]? := fun i => by rw [hG2.2 _ _ (by omega)]; exact hB i
        replace hC : ∀ i, w2.cell? ⟨w1.heap.size + 1, i, none⟩ = #[.int .i64 o.id, .int .i64 o.acct, .int .i64 o.inst, .int .u8 o.side, .int .i64 o.price, .int .i64 q][i]? := fun i => by rw [hG2.2 _ _ (by omega)]; exact hC i
        clear hG2 hb2 hXb hXs hA hN HG HP HWb
        go_wp2_with (go_at_call 12; (with_reducible refine (holds_c ⟨o.id, o.acct, o.inst, o.side, o.price, o.left - q⟩ _).mono ?_); rintro e w3 ⟨rfl, hb3⟩)
        all_goals obtain ⟨f1, f2, f3, f4, f5, f6⟩ := HL.out
        all_goals have f7 : wrap64 (holdsN ⟨o.id, o.acct, o.inst, o.side, o.price, q⟩ + holdsN ⟨o.id, o.acct, o.inst, o.side, o.price, o.left - q⟩) = holdsN o := by (rw [f3]; first | exact wrap64_id (by omega) (by omega) | exact IntWalk.wrap64_in _ (by omega) | (unfold wrap64; omega) | exact IntWalk.i64_in (holdsN o) (by omega))
        all_goals first | (exfalso; omega) | (go_ret; exact ⟨ret_bool (by first | rfl | exact decide_eq_true f6 | simp [f6]), grow_trans HW2.out hb3⟩)
    · have hq' : (decide (q < 1) = true) ∨ (decide (q < 1) = false ∧ decide (q ≥ o.left) = true) := by simp; omega
      rcases hq' with hq1 | ⟨hq1, hq2⟩
      · skip
        obtain ⟨W, hW, hWb, hWs, hA⟩ := box1 w #[.int .i64 o.id, .int .i64 o.acct, .int .i64 o.inst, .int .u8 o.side, .int .i64 o.price, .int .i64 o.left] 23
        have HWb := Lib.hid hWb; clear hWb
        have HG := Lib.hid (GrS.refl W)
        have HP := Lib.hid (hp.mono HWb.out); clear hp
        go_enter Tryd.func3, Tryd.ntmps3
        go_wp2_with (first | (go_at_call 11; (with_reducible refine (works_c _ (HP.out.mono HG.out.1)).mono ?_); rintro e w1 ⟨rfl, hb1⟩; replace HG := Lib.hid (GrS.call HG.out hb1); clear hb1; (try clear hG); have hG := HG.out) | (go_at_call 12; (with_reducible refine (holds_c o _).mono ?_); rintro e w1 ⟨rfl, hb1⟩; replace HG := Lib.hid (GrS.call HG.out hb1); clear hb1; (try clear hG); have hG := HG.out) | (go_at_call 13; (with_reducible refine (mayOne_c o _).mono ?_); rintro e w1 ⟨rfl, hb1⟩; replace HG := Lib.hid (GrS.call HG.out hb1); clear hb1; (try clear hG); have hG := HG.out))
        go_ret
        exact ⟨rfl, grow_trans HWb.out (GrS.fin (by assumption))⟩
      · skip
        obtain ⟨W, hW, hWb, hWs, hA⟩ := box1 w #[.int .i64 o.id, .int .i64 o.acct, .int .i64 o.inst, .int .u8 o.side, .int .i64 o.price, .int .i64 o.left] 23
        have HWb := Lib.hid hWb; clear hWb
        have HG := Lib.hid (GrS.refl W)
        have HP := Lib.hid (hp.mono HWb.out); clear hp
        go_enter Tryd.func3, Tryd.ntmps3
        go_wp2_with (first | (go_at_call 11; (with_reducible refine (works_c _ (HP.out.mono HG.out.1)).mono ?_); rintro e w1 ⟨rfl, hb1⟩; replace HG := Lib.hid (GrS.call HG.out hb1); clear hb1; (try clear hG); have hG := HG.out) | (go_at_call 12; (with_reducible refine (holds_c o _).mono ?_); rintro e w1 ⟨rfl, hb1⟩; replace HG := Lib.hid (GrS.call HG.out hb1); clear hb1; (try clear hG); have hG := HG.out) | (go_at_call 13; (with_reducible refine (mayOne_c o _).mono ?_); rintro e w1 ⟨rfl, hb1⟩; replace HG := Lib.hid (GrS.call HG.out hb1); clear hb1; (try clear hG); have hG := HG.out))
        go_ret
        exact ⟨rfl, grow_trans HWb.out (GrS.fin (by assumption))⟩
  · have hm' : mayOne o = false := by simpa using hm
    have Hr : holdsA o = 0 ∧ holdsN o = 0 := by simp [holdsA, holdsN, hm']
    obtain ⟨hA0, hN0⟩ := Hr
    clear hm
    obtain ⟨W, hW, hWb, hWs, hA⟩ := box1 w #[.int .i64 o.id, .int .i64 o.acct, .int .i64 o.inst, .int .u8 o.side, .int .i64 o.price, .int .i64 o.left] 23
    have HWb := Lib.hid hWb; clear hWb
    have HG := Lib.hid (GrS.refl W)
    have HP := Lib.hid (hp.mono HWb.out); clear hp
    go_enter Tryd.func3, Tryd.ntmps3
    go_wp2_with (first | (go_at_call 11; (with_reducible refine (works_c _ (HP.out.mono HG.out.1)).mono ?_); rintro e w1 ⟨rfl, hb1⟩; replace HG := Lib.hid (GrS.call HG.out hb1); clear hb1; (try clear hG); have hG := HG.out) | (go_at_call 12; (with_reducible refine (holds_c o _).mono ?_); rintro e w1 ⟨rfl, hb1⟩; replace HG := Lib.hid (GrS.call HG.out hb1); clear hb1; (try clear hG); have hG := HG.out) | (go_at_call 13; (with_reducible refine (mayOne_c o _).mono ?_); rintro e w1 ⟨rfl, hb1⟩; replace HG := Lib.hid (GrS.call HG.out hb1); clear hb1; (try clear hG); have hG := HG.out))
    go_ret
    exact ⟨rfl, grow_trans HWb.out (GrS.fin (by assumption))⟩
end Go.Proofs.YtecfajnmekpeoaaDoor
