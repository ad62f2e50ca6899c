/-
  Plain words for layer 16 (book): orders as numbers, which orders may be, how they stand; no program is in sight. Conditions: none.
-/
import Derived.PlainAid
namespace Go.Proofs.YtecfajnmekpeoaaDoor

structure Ord where
  id : Int
  acct : Int
  inst : Int
  side : Int
  price : Int
  left : Int
deriving DecidableEq, Inhabited

/-- a number from 1 to another one -/
def btw (n m : Int) : Bool := decide (1 ≤ n) && decide (n ≤ m)
def mayOne (o : Ord) : Bool := btw o.id 1099511627776 && btw o.acct 64 && btw o.inst 16 && (o.side == 1 || o.side == 2) && btw o.price 1073741824 && btw o.left 1048576
/-- cmp.Compare of two numbers -/
def cmpI (a b : Int) : Int := if a < b then -1 else if b < a then 1 else 0
def idLt (a b : Ord) : Prop := a.id < b.id
instance (a b : Ord) : Decidable (idLt a b) := inferInstanceAs (Decidable (a.id < b.id))
def MayL (xs : List Ord) : Prop := xs.length ≤ 128 ∧ (∀ o ∈ xs, mayOne o = true) ∧ xs.Pairwise idLt
instance (xs : List Ord) : Decidable (MayL xs) := inferInstanceAs (Decidable (_ ∧ _ ∧ _))
def mayL (xs : List Ord) : Bool := decide (MayL xs)
/-- prices, by the side: which one is better comes first -/
def cmpP (s a b : Int) : Int := if s = 1 then cmpI b a else cmpI a b
def orI (a b : Int) : Int := if a = 0 then b else a
/-- how two of one side stand -/
def rowC (a b : Ord) : Int := orI (cmpP a.side a.price b.price) (cmpI a.id b.id)
def rowLt (a b : Ord) : Bool := decide (rowC a b < 0)
def less (a b : Ord) : Bool := mayOne a && mayOne b && a.inst == b.inst && a.side == b.side && rowLt a b
def crosses (a b : Ord) : Bool := mayOne a && mayOne b && a.inst == b.inst && a.side != b.side && decide (cmpP a.side a.price b.price ≤ 0)
def holdsA (o : Ord) : Int := if mayOne o && o.side != 1 then o.inst else 0
def holdsN (o : Ord) : Int := if mayOne o then (if o.side = 1 then o.price * o.left else o.left) else 0
def isOf (inst side : Int) (o : Ord) : Bool := o.inst == inst && o.side == side
/-- who of one side s stands ahead of whom -/
def ahead (s : Int) (a b : Ord) : Bool := decide ((s = 1 ∧ b.price < a.price) ∨ (s ≠ 1 ∧ a.price < b.price) ∨ (a.price = b.price ∧ a.id < b.id))
def listOf (xs : List Ord) (inst side : Int) : List Ord := if mayL xs then (xs.filter (isOf inst side)).mergeSort (fun a b => !ahead side b a) else []
def findO (xs : List Ord) (id : Int) : Option Ord := if mayL xs then xs.find? (fun o => o.id == id) else none
/-- the place of an ID: how many are below it -/
def placeOf (xs : List Ord) (id : Int) : Nat := xs.countP (fun o => decide (o.id < id))
def addO (xs : List Ord) (o : Ord) : List Ord × Int :=
  if !mayL xs || !mayOne o then ([], 4) else if (findO xs o.id).isSome then ([], 6) else if xs.length = 128 then ([], 40)
  else (xs.take (placeOf xs o.id) ++ o :: xs.drop (placeOf xs o.id), 0)
/-- so much less left of one; gone, if nothing is -/
def lessLeft (id qty : Int) (x : Ord) : Option Ord := if x.id = id then (if x.left - qty = 0 then none else some { x with left := x.left - qty }) else some x
def takeO (xs : List Ord) (id qty : Int) : List Ord × Int :=
  if !mayL xs then ([], 4) else match findO xs id with
    | none => ([], 5)
    | some o => if qty < 1 ∨ o.left < qty then ([], 1) else (xs.filterMap (lessLeft id qty), 0)
def dropO (xs : List Ord) (id : Int) : List Ord × Int := match findO xs id with
  | none => if mayL xs then ([], 5) else ([], 4)
  | some o => takeO xs id o.left

theorem cmpI_lt {a b : Int} (h : a < b) : cmpI a b = -1 := by simp [cmpI, h]
theorem cmpI_gt {a b : Int} (h : b < a) : cmpI a b = 1 := by unfold cmpI; rw [if_neg (by omega), if_pos h]
theorem cmpI_self (a : Int) : cmpI a a = 0 := by simp [cmpI]
theorem cmpI_neg {a b : Int} : cmpI a b < 0 ↔ a < b := by unfold cmpI; split <;> (try split) <;> omega
theorem cmpI_zero {a b : Int} : cmpI a b = 0 ↔ a = b := by unfold cmpI; split <;> (try split) <;> omega
theorem cmpI_bd (a b : Int) : -1 ≤ cmpI a b ∧ cmpI a b ≤ 1 := by unfold cmpI; split <;> (try split) <;> omega
theorem cmpP_bd (s a b : Int) : -1 ≤ cmpP s a b ∧ cmpP s a b ≤ 1 := by unfold cmpP; split <;> exact cmpI_bd _ _
theorem btw_iff {n m : Int} : btw n m = true ↔ 1 ≤ n ∧ n ≤ m := by simp [btw]
theorem mayOne_iff {o : Ord} : mayOne o = true ↔ (1 ≤ o.id ∧ o.id ≤ 1099511627776) ∧ (1 ≤ o.acct ∧ o.acct ≤ 64) ∧ (1 ≤ o.inst ∧ o.inst ≤ 16) ∧ (o.side = 1 ∨ o.side = 2) ∧ (1 ≤ o.price ∧ o.price ≤ 1073741824) ∧ (1 ≤ o.left ∧ o.left ≤ 1048576) := by
  simp [mayOne, btw_iff, and_assoc]
theorem side_of {o : Ord} (h : mayOne o = true) : o.side = 1 ∨ o.side = 2 := (mayOne_iff.1 h).2.2.2.1
/-- how two of one side stand, said with less words -/
theorem rowLt_iff {a b : Ord} : rowLt a b = true ↔ (a.side = 1 ∧ b.price < a.price) ∨ (a.side ≠ 1 ∧ a.price < b.price) ∨ (a.price = b.price ∧ a.id < b.id) := by
  unfold rowLt rowC orI cmpP cmpI
  by_cases h : a.side = 1 <;> simp [h] <;> (repeat' split) <;> omega
theorem crosses_iff {a b : Ord} : crosses a b = true ↔ mayOne a = true ∧ mayOne b = true ∧ a.inst = b.inst ∧ a.side ≠ b.side ∧ (a.side = 1 → b.price ≤ a.price) ∧ (a.side ≠ 1 → a.price ≤ b.price) := by
  have h1 : ∀ x y, cmpI x y ≤ 0 ↔ x ≤ y := by intro x y; unfold cmpI; split <;> (try split) <;> omega
  unfold crosses cmpP
  by_cases h : a.side = 1 <;> simp [h, and_assoc, h1]
theorem less_iff {a b : Ord} : less a b = true ↔ mayOne a = true ∧ mayOne b = true ∧ a.inst = b.inst ∧ a.side = b.side ∧ rowLt a b = true := by
  simp [less, and_assoc]

theorem ahead_iff {s : Int} {a b : Ord} : ahead s a b = true ↔ (s = 1 ∧ b.price < a.price) ∨ (s ≠ 1 ∧ a.price < b.price) ∨ (a.price = b.price ∧ a.id < b.id) := by simp [ahead]
theorem rowLt_ahead (a b : Ord) : rowLt a b = ahead a.side a b := by
  rw [Bool.eq_iff_iff, rowLt_iff, ahead_iff]
theorem ahead_not {s : Int} {a b : Ord} : ahead s a b = false ↔ ¬ ((s = 1 ∧ b.price < a.price) ∨ (s ≠ 1 ∧ a.price < b.price) ∨ (a.price = b.price ∧ a.id < b.id)) := by
  rw [Bool.eq_false_iff, ne_eq, ahead_iff]

/-! ### lists that rise -/
theorem pw_of_adj : ∀ (xs : List Ord), (∀ j x y, xs[j]? = some x → xs[j+1]? = some y → idLt x y) → xs.Pairwise idLt
  | [], _ => .nil
  | [_], _ => by simp
  | a :: b :: r, h => by
    have ih := pw_of_adj (b :: r) (fun j x y hx hy => h (j + 1) x y (by simpa using hx) (by simpa using hy))
    have h0 : idLt a b := h 0 a b rfl rfl
    refine List.pairwise_cons.2 ⟨fun y hy => ?_, ih⟩
    rcases List.mem_cons.1 hy with rfl | hy
    · exact h0
    · have := (List.pairwise_cons.1 ih).1 y hy
      unfold idLt at *; omega
theorem pw_adj {xs : List Ord} (h : xs.Pairwise idLt) {j : Nat} {x y : Ord} (hx : xs[j]? = some x) (hy : xs[j+1]? = some y) : idLt x y := by
  obtain ⟨h1, rfl⟩ := List.getElem?_eq_some_iff.1 hx
  obtain ⟨h2, rfl⟩ := List.getElem?_eq_some_iff.1 hy
  exact List.pairwise_iff_getElem.1 h j (j+1) h1 h2 (by omega)
theorem pw_at {xs : List Ord} (h : xs.Pairwise idLt) {i j : Nat} {x y : Ord} (hx : xs[i]? = some x) (hy : xs[j]? = some y) (hij : i < j) : x.id < y.id := by
  obtain ⟨h1, rfl⟩ := List.getElem?_eq_some_iff.1 hx
  obtain ⟨h2, rfl⟩ := List.getElem?_eq_some_iff.1 hy
  exact List.pairwise_iff_getElem.1 h i j h1 h2 hij
theorem id_inj {ys : List Ord} (h : ys.Pairwise idLt) {a b : Ord} (ha : a ∈ ys) (hb : b ∈ ys) (e : a.id = b.id) : a = b := by
  obtain ⟨i, hi⟩ := List.getElem?_of_mem ha
  obtain ⟨j, hj⟩ := List.getElem?_of_mem hb
  rcases Nat.lt_trichotomy i j with h1 | h1 | h1
  · have := pw_at h hi hj h1; omega
  · subst h1; rw [hi] at hj; injection hj
  · have := pw_at h hj hi h1; omega
/-- how a list stands, is one list -/
theorem sorted_one {ys l : List Ord} {s : Int} (hpw : ys.Pairwise idLt) (hp : l.Perm ys) (hl : l.Pairwise (fun x y => ahead s y x = false)) : l = ys.mergeSort (fun a b => !ahead s b a) := by
  refine List.Perm.eq_of_pairwise (le := fun x y => (!ahead s y x) = true) ?_ ?_ ?_ (hp.trans (List.mergeSort_perm _ _).symm)
  · intro a b ha hb h1 h2
    simp only [Bool.not_eq_true', ahead_not] at h1 h2
    exact id_inj hpw (hp.mem_iff.1 ha) (List.mem_mergeSort.1 hb) (by omega)
  · exact hl.imp (fun h => by simp [h])
  · refine List.pairwise_mergeSort ?_ ?_ _
    · intro a b c h1 h2
      simp only [Bool.not_eq_true', ahead_not] at h1 h2 ⊢; omega
    · intro a b
      simp only [Bool.or_eq_true, Bool.not_eq_true', ahead_not]; omega
theorem listOf_sorted (xs : List Ord) (inst side : Int) : (listOf xs inst side).Pairwise (fun x y => ahead side y x = false) := by
  unfold listOf; split
  · have h := List.pairwise_mergeSort (le := fun a b => !ahead side b a) (by
      intro a b c h1 h2
      simp only [Bool.not_eq_true', ahead_not] at h1 h2 ⊢; omega) (by
      intro a b
      simp only [Bool.or_eq_true, Bool.not_eq_true', ahead_not]; omega) (xs.filter (isOf inst side))
    exact h.imp (fun h => by simpa using h)
  · exact List.Pairwise.nil
theorem listOf_perm {xs : List Ord} (h : mayL xs = true) (inst side : Int) : (listOf xs inst side).Perm (xs.filter (isOf inst side)) := by
  unfold listOf; rw [if_pos h]; exact List.mergeSort_perm _ _
theorem mayL_iff {xs : List Ord} : mayL xs = true ↔ MayL xs := by simp [mayL]
end Go.Proofs.YtecfajnmekpeoaaDoor
