/-
  Plain facts for souklaw16.BookNames: the orders at their ends, the list that is full. Conditions: none.
-/
import Derived.Test.YtecfajnmekpeoaaDoorLBa
namespace Go.Proofs.YtecfajnmekpeoaaDoor
open Go.RowKit

def ofO (id : Int) : Ord := ⟨id, 1, 3, 1, 7, 3⟩
def fullTo (k : Nat) : List Ord := (List.range k).map fun i : Nat => ofO (2 * (i : Int) + 2)
def fullL : List Ord := fullTo 128
theorem fullTo_succ (k : Nat) : fullTo (k + 1) = fullTo k ++ [ofO (2 * (k : Int) + 2)] := by simp [fullTo, List.range_succ]
theorem fullTo_len (k : Nat) : (fullTo k).length = k := by simp [fullTo]
theorem full_len : fullL.length = 128 := fullTo_len 128
theorem full_may : mayL fullL = true := by decide +kernel
theorem full_add1 : addO fullL (ofO 1) = ([], 40) := by decide +kernel
theorem full_add2 : addO fullL (ofO 2) = ([], 6) := by decide +kernel
theorem full_add3 : (addO (fullL.drop 1) (ofO 1)).2 = 0 := by decide +kernel
theorem more_may : mayL (ofO 1 :: fullL) = false := by decide +kernel
theorem more_take : takeO (ofO 1 :: fullL) 4 1 = ([], 4) := by decide +kernel
theorem more_drop : dropO (ofO 1 :: fullL) 4 = ([], 4) := by decide +kernel
theorem full_take1 : takeO fullL 3 1 = ([], 5) := by decide +kernel
theorem full_take2 : takeO fullL 4 0 = ([], 1) := by decide +kernel
theorem full_take3 : takeO fullL 4 4 = ([], 1) := by decide +kernel
theorem full_drop : dropO fullL 3 = ([], 5) := by decide +kernel
theorem more_find : findO (ofO 1 :: fullL) 4 = none := by decide +kernel
theorem full_list : listOf fullL 3 2 = [] := by
  have h : fullL.filter (isOf 3 2) = [] := by decide +kernel
  unfold listOf; rw [h]; simp
theorem nil_list : listOf [] 3 1 = [] := by unfold listOf; simp
theorem full_two : mayL [ofO 4, ofO 2] = false := by decide +kernel
theorem full_twice : mayL [ofO 4, ofO 4] = false := by decide +kernel
theorem full_at0 : fullL[0]? = some (ofO 2) := by decide +kernel
theorem full_at1 : fullL[1]? = some (ofO 4) := by decide +kernel
theorem bad_list {x : Ord} (h : mayOne x = false) (i s : Int) : mayL [x] = false ∧ listOf [x] i s = [] ∧ addO [] x = ([], 4) ∧ holdsA x = 0 ∧ holdsN x = 0 := by
  have hm : mayL [x] = false := by rw [Bool.eq_false_iff, ne_eq, mayL_iff]; intro ⟨_, h2, _⟩; rw [h2 x (by simp)] at h; cases h
  exact ⟨hm, by unfold listOf; rw [if_neg (by rw [hm]; simp)], by simp [addO, h], by simp [holdsA, h], by simp [holdsN, h]⟩
theorem bad_less {x : Ord} (h : mayOne x = false) (y : Ord) : less x y = false ∧ crosses y x = false := by
  constructor
  · simp [less, h]
  · simp [crosses, h]
end Go.Proofs.YtecfajnmekpeoaaDoor
