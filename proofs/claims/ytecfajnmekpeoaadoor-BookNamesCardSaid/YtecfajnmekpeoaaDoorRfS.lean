/-
  Plain facts for the document's own List of layer 16: what is put in its row, is in its row. Conditions: none.
-/
import Derived.Test.YtecfajnmekpeoaaDoorRfB
namespace Go.Proofs.YtecfajnmekpeoaaDoor

/-- nobody stands ahead of who stands ahead of them -/
def Row (s : Int) (l : List Ord) : Prop := l.Pairwise (fun x y => ahead s y x = false)
section
variable {xs L : List Ord} {x : Ord} {inst side : Int}
theorem less_ahead {a b : Ord} (ha : mayOne a = true) (hb : mayOne b = true) (h1 : a.inst = b.inst) (h2 : a.side = b.side) : less a b = ahead a.side a b := by
  rw [Bool.eq_iff_iff, less_iff, rowLt_ahead]; simp [ha, hb, h1, h2]
theorem put_row (hL : Row side L) (hall : ∀ y ∈ L, mayOne y = true ∧ y.inst = inst ∧ y.side = side) (hx : mayOne x = true ∧ x.inst = inst ∧ x.side = side) {k : Nat} (hk : k ≤ L.length)
    (h1 : ∀ j y, k ≤ j → L[j]? = some y → less x y = true) (h2 : ∀ y, 0 < k → L[k-1]? = some y → less x y = false) : Row side (L.take k ++ x :: L.drop k) := by
  have lx : ∀ y ∈ L, less x y = ahead side x y := fun y hy => by
    obtain ⟨a1, a2, a3⟩ := hall y hy
    rw [less_ahead hx.1 a1 (by omega) (by omega), hx.2.2]
  unfold Row at *
  rw [List.pairwise_append]
  refine ⟨hL.sublist (List.take_sublist _ _), List.pairwise_cons.2 ⟨fun y hy => ?_, hL.sublist (List.drop_sublist _ _)⟩, fun a ha b hb => ?_⟩
  · obtain ⟨t, ht⟩ := List.getElem?_of_mem hy
    rw [List.getElem?_drop] at ht
    have h3 := h1 _ y (by omega) ht
    rw [lx y (List.mem_of_getElem? ht), ahead_iff] at h3
    rw [ahead_not]; omega
  · have hab : b = x ∨ b ∈ L.drop k := List.mem_cons.1 hb
    obtain ⟨t, ht⟩ := List.getElem?_of_mem ha
    rw [List.getElem?_take] at ht
    split at ht
    · rename_i htk
      rcases hab with rfl | hbd
      · have hz : L[k-1]? = some L[k-1] := List.getElem?_eq_getElem (by omega)
        have h3 := h2 _ (by omega) hz
        rw [lx _ (List.mem_of_getElem? hz)] at h3
        by_cases e : t = k - 1
        · subst e; rw [hz] at ht; injection ht with ht; subst ht; exact h3
        · have h4 := List.pairwise_iff_getElem.1 hL t (k-1) (List.getElem?_eq_some_iff.1 ht).1 (by omega) (by omega)
          rw [(List.getElem?_eq_some_iff.1 ht).2] at h4
          rw [ahead_not] at h3 h4 ⊢; omega
      · obtain ⟨u, hu⟩ := List.getElem?_of_mem hbd
        rw [List.getElem?_drop] at hu
        have h4 := List.pairwise_iff_getElem.1 hL t (k+u) (List.getElem?_eq_some_iff.1 ht).1 (List.getElem?_eq_some_iff.1 hu).1 (by omega)
        rw [(List.getElem?_eq_some_iff.1 ht).2, (List.getElem?_eq_some_iff.1 hu).2] at h4
        exact h4
    · cases ht
theorem put_perm {k : Nat} {M : List Ord} (h : L.Perm M) : (L.take k ++ x :: L.drop k).Perm (M ++ [x]) := by
  have h1 : (L.take k ++ x :: L.drop k).Perm (x :: (L.take k ++ L.drop k)) := List.perm_middle
  rw [List.take_append_drop] at h1
  exact h1.trans ((h.cons x).trans (List.perm_append_singleton x M).symm)
theorem filter_step {k : Nat} (hx : xs[k]? = some x) : (xs.take (k + 1)).filter (isOf inst side) = (xs.take k).filter (isOf inst side) ++ if isOf inst side x then [x] else [] := by
  obtain ⟨h1, rfl⟩ := List.getElem?_eq_some_iff.1 hx
  rw [List.take_succ_eq_append_getElem h1, List.filter_append]
  congr 1
  by_cases h : isOf inst side xs[k] = true
  · simp [h]
  · simp [h]
theorem row_end (hm : mayL xs = true) (hr : Row side L) (hp : L.Perm (xs.filter (isOf inst side))) : L = listOf xs inst side := by
  unfold listOf
  rw [if_pos hm]
  exact sorted_one ((mayL_iff.1 hm).2.2.filter _) hp hr
end
end Go.Proofs.YtecfajnmekpeoaaDoor
