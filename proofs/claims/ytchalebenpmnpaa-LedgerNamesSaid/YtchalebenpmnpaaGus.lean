/-
  Plain facts for layer 15: which rows may be, row by row, asset by asset. No program is in sight. Conditions: none.
-/
import Derived.Test.YtchalebenpmnpaaGsp
namespace Go.Proofs.Ytchalebenpmnpaa

def RowRef (r : Row) : Prop := there r.acct r.asset = true ∧ ¬ (r.free = 0 ∧ r.held = 0) ∧ ¬ (r.acct = 0 ∧ (r.held ≠ 0 ∨ r.free < -72057594037927936)) ∧ ¬ (0 < r.acct ∧ (r.free < 0 ∨ r.held < 0 ∨ mostA < r.free ∨ mostA - r.free < r.held))
def outA (l : List Row) (a : Int) : Int := l.foldl (fun o r => if r.asset = a ∧ r.acct = 0 then r.free else o) 0
def posA (l : List Row) (a : Int) : Int := ((l.filter fun r => r.asset == a && decide (0 < r.acct)).map fun r => r.free + r.held).sum
theorem outA_take {l : List Row} {k : Nat} {r : Row} (h : l[k]? = some r) (a : Int) : outA (l.take (k + 1)) a = if r.asset = a ∧ r.acct = 0 then r.free else outA (l.take k) a := by
  unfold outA; rw [List.take_add_one, h]; simp [List.foldl_append]
theorem posA_take {l : List Row} {k : Nat} {r : Row} (h : l[k]? = some r) (a : Int) : posA (l.take (k + 1)) a = posA (l.take k) a + if r.asset = a ∧ 0 < r.acct then r.free + r.held else 0 := by
  unfold posA; rw [List.take_add_one, h]
  by_cases h1 : r.asset = a <;> by_cases h2 : 0 < r.acct <;> simp [List.filter_append, h1, h2]
theorem sumA_take {l : List Row} {k : Nat} {r : Row} (h : l[k]? = some r) (a : Int) : sumA (l.take (k + 1)) a = sumA (l.take k) a + if r.asset = a then r.free + r.held else 0 := by
  unfold sumA; rw [List.take_add_one, h]
  by_cases h1 : r.asset = a <;> simp [List.filter_append, h1]
theorem pw_get {l : List Row} (h : l.Pairwise keyLt) {i j : Nat} (hij : i < j) {x y : Row} (hx : l[i]? = some x) (hy : l[j]? = some y) : keyLt x y := by
  obtain ⟨h1, rfl⟩ := List.getElem?_eq_some_iff.1 hx
  obtain ⟨h2, rfl⟩ := List.getElem?_eq_some_iff.1 hy
  exact List.pairwise_iff_getElem.1 h i j h1 h2 hij
theorem pw_snoc {l : List Row} {k : Nat} {r : Row} (h : (l.take k).Pairwise keyLt) (hr : l[k]? = some r) (hk : k = 0 ∨ ∃ q, l[k - 1]? = some q ∧ keyLt q r) : (l.take (k + 1)).Pairwise keyLt := by
  rw [List.take_add_one, hr, List.pairwise_append]
  refine ⟨h, by simp, fun x hx y hy => ?_⟩
  simp at hy; subst hy
  obtain ⟨j, hj⟩ := List.getElem?_of_mem hx
  have hjk : j < k := by have := (List.getElem?_eq_some_iff.1 hj).1; rw [List.length_take] at this; omega
  rcases hk with hk | ⟨q, hq, hlt⟩
  · omega
  · by_cases he : j = k - 1
    · subst he
      rw [List.getElem?_take, if_pos hjk, hq] at hj
      injection hj with hj; subst hj; exact hlt
    · have hq' : (l.take k)[k - 1]? = some q := by rw [List.getElem?_take, if_pos (by omega), hq]
      exact keyLt_trans (pw_get h (show j < k - 1 by omega) hj hq') hlt
theorem mem_of_all {l : List Row} {p : Row → Prop} (h : ∀ j, j < l.length → ∀ r, l[j]? = some r → p r) : ∀ r ∈ l, p r := fun r hr => by
  obtain ⟨j, hj⟩ := List.getElem?_of_mem hr
  exact h j (List.getElem?_eq_some_iff.1 hj).1 r hj
theorem key0_len : ∀ (xs : List Int) (lo : Int), xs.Pairwise (· < ·) → (∀ x ∈ xs, lo ≤ x ∧ x ≤ 64) → lo ≤ 65 → (xs.length : Int) ≤ 65 - lo
  | [], lo, _, _, h => by simp; omega
  | x :: xs, lo, hp, hm, _ => by
    have hx := hm x (by simp)
    rw [List.pairwise_cons] at hp
    have := key0_len xs (x + 1) hp.2 (fun y hy => ⟨by have := hp.1 y hy; omega, (hm y (by simp [hy])).2⟩) (by omega)
    simp only [List.length_cons]; omega
theorem sum_le (m : Int) : ∀ (xs : List Int), (∀ x ∈ xs, 0 ≤ x ∧ x ≤ m) → 0 ≤ xs.sum ∧ xs.sum ≤ m * xs.length
  | [], _ => by simp
  | x :: xs, h => by
    have h1 := h x (by simp)
    have h2 := sum_le m xs (fun y hy => h y (by simp [hy]))
    simp only [List.sum_cons, List.length_cons]
    rw [show ((xs.length + 1 : Nat) : Int) = (xs.length : Int) + 1 by omega, Int.mul_add, Int.mul_one]
    omega
theorem posA_near {l : List Row} (hr : ∀ r ∈ l, RowRef r) (hp : l.Pairwise keyLt) (a : Int) : 0 ≤ posA l a ∧ posA l a ≤ 72057594037927936 := by
  unfold posA
  have hlen : (((l.filter fun r => r.asset == a && decide (0 < r.acct)).map (·.acct)).length : Int) ≤ 65 - 1 := by
    refine key0_len _ 1 ?_ (fun x hx => ?_) (by omega)
    · rw [List.pairwise_map]
      refine ((hp.filter _).imp_of_mem fun {x y} hx hy h => ?_)
      simp only [List.mem_filter, Bool.and_eq_true, beq_iff_eq] at hx hy
      unfold keyLt at h; omega
    · obtain ⟨r, hrm, rfl⟩ := List.mem_map.1 hx
      simp only [List.mem_filter, Bool.and_eq_true, decide_eq_true_eq] at hrm
      have := there_iff.1 (hr r hrm.1).1
      omega
  rw [List.length_map] at hlen
  have := sum_le mostA ((l.filter fun r => r.asset == a && decide (0 < r.acct)).map fun r => r.free + r.held) (fun x hx => by
    obtain ⟨r, hrm, rfl⟩ := List.mem_map.1 hx
    simp only [List.mem_filter, Bool.and_eq_true, decide_eq_true_eq] at hrm
    have := (hr r hrm.1).2.2.2
    omega)
  rw [List.length_map] at this
  unfold mostA at this
  omega
theorem sumA_parts {l : List Row} (h : ∀ r ∈ l, 0 ≤ r.acct) (a : Int) : sumA l a = freeAt l 0 a + heldAt l 0 a + posA l a := by
  induction l with
  | nil => rfl
  | cons r l ih =>
    have hr := h r (by simp)
    have ih := ih (fun x hx => h x (by simp [hx]))
    unfold sumA freeAt heldAt posA at *
    by_cases h1 : r.asset = a
    · by_cases h2 : r.acct = 0
      · have h3 : ¬ 0 < r.acct := by omega
        simp only [List.filter_cons, h1, h2, isKey, beq_self_eq_true, Bool.and_self, if_true, List.map_cons, List.sum_cons, show (decide ((0:Int) < 0)) = false from rfl, Bool.and_false, Bool.false_eq_true, if_false]
        omega
      · have h3 : 0 < r.acct := by omega
        simp only [List.filter_cons, h1, isKey, beq_self_eq_true, Bool.and_true, beq_iff_eq, h2, if_false, h3, decide_true, Bool.and_self, if_true, List.map_cons, List.sum_cons]
        omega
    · simp only [List.filter_cons, isKey, beq_iff_eq, h1, Bool.and_eq_true, and_false, if_false, false_and]
      exact ih
theorem outA_at {l : List Row} (hp : l.Pairwise keyLt) (_h : ∀ r ∈ l, 0 ≤ r.acct) (a : Int) : outA l a = freeAt l 0 a := by
  have key : ∀ k, k ≤ l.length → outA (l.take k) a = freeAt (l.take k) 0 a := by
    intro k
    induction k with
    | zero => intro _; rfl
    | succ k ih =>
      intro hk
      have hx : l[k]? = some l[k] := List.getElem?_eq_getElem (by omega)
      rw [outA_take hx, ih (by omega)]
      rw [List.take_add_one, hx]
      show _ = freeAt (l.take k ++ [l[k]]) 0 a
      rw [freeAt_append]
      by_cases hc : l[k].asset = a ∧ l[k].acct = 0
      · rw [if_pos hc]
        have h0 : freeAt (l.take k) 0 a = 0 := by
          refine (freeAt_none fun r hr he => ?_).1
          obtain ⟨j, hj⟩ := List.getElem?_of_mem hr
          have hjk : j < k := by have := (List.getElem?_eq_some_iff.1 hj).1; rw [List.length_take] at this; omega
          rw [List.getElem?_take, if_pos hjk] at hj
          have := pw_get hp hjk hj hx
          unfold keyLt at this; omega
        have h1 : freeAt [l[k]] 0 a = l[k].free := by simp [freeAt, isKey, hc.1, hc.2]
        omega
      · rw [if_neg hc]
        have h1 : freeAt [l[k]] 0 a = 0 := by
          have : isKey 0 a l[k] = false := by
            rw [Bool.eq_false_iff]; intro e; rw [isKey_iff] at e; exact hc ⟨e.2, e.1⟩
          simp [freeAt, this]
        omega
  have := key l.length (Nat.le_refl _)
  rwa [List.take_length] at this
theorem held0 {l : List Row} (h : ∀ r ∈ l, r.acct = 0 → r.held = 0) (a : Int) : heldAt l 0 a = 0 := by
  unfold heldAt
  have : ∀ xs : List Int, (∀ x ∈ xs, x = 0) → xs.sum = 0 := by
    intro xs
    induction xs with
    | nil => intro _; rfl
    | cons x xs ih => intro h; rw [List.sum_cons, h x (by simp), ih (fun y hy => h y (by simp [hy]))]; rfl
  refine this _ fun x hx => ?_
  obtain ⟨r, hr, rfl⟩ := List.mem_map.1 hx
  simp only [List.mem_filter, isKey_iff] at hr
  exact h r hr.1 hr.2.1
theorem may_ref {l : List Row} : MayR l ↔ (∀ r ∈ l, RowRef r) ∧ l.Pairwise keyLt ∧ ∀ a ∈ List.range 17, outA l (a : Nat) = -posA l (a : Nat) := by
  constructor
  · rintro ⟨h1, h2, h3⟩
    have ha : ∀ r ∈ l, 0 ≤ r.acct := fun r hr => (there_iff.1 (h1 r hr).1).1
    have hz : ∀ r ∈ l, r.acct = 0 → r.held = 0 := fun r hr h => ((h1 r hr).2.2.1 h).1
    -- rows of accounts: their own part of the document's test
    have hpos : ∀ r ∈ l, ¬ (0 < r.acct ∧ (r.free < 0 ∨ r.held < 0 ∨ mostA < r.free ∨ mostA - r.free < r.held)) := fun r hr => by
      have := (h1 r hr).2.2.2
      rintro ⟨h4, h5⟩
      have := this (by omega)
      omega
    have hposn : ∀ a, 0 ≤ posA l a ∧ posA l a ≤ 72057594037927936 := fun a => by
      -- 'posA' goes by the accounts' rows alone
      have e : posA l a = posA (l.filter fun r => decide (0 < r.acct)) a := by
        unfold posA; rw [List.filter_filter]; congr 2; apply List.filter_congr; intro r _
        cases decide (0 < r.acct) <;> simp
      rw [e]
      refine posA_near (fun r hr => ?_) (h2.filter _) a
      simp only [List.mem_filter, decide_eq_true_eq] at hr
      have h4 := (h1 r hr.1)
      exact ⟨h4.1, fun h => by rcases h4.2.1 with h5 | h5 <;> omega, fun h => by omega, hpos r hr.1⟩
    refine ⟨fun r hr => ⟨(h1 r hr).1, fun h => ?_, ?_, hpos r hr⟩, h2, fun a haa => ?_⟩
    · rcases (h1 r hr).2.1 with h5 | h5 <;> omega
    · rintro ⟨h4, h5⟩
      have h6 := there_iff.1 (h1 r hr).1
      have h7 := h3 r.asset.toNat (by rw [List.mem_range]; omega)
      rw [show ((r.asset.toNat : Nat) : Int) = r.asset by omega, sumA_parts ha, held0 hz] at h7
      have h8 := (freeAt_mem h2 hr).1
      rw [h4] at h8
      have h9 := hposn r.asset
      have h10 := hz r hr h4
      rcases h5 with h5 | h5
      · exact h5 h10
      · omega
    · have h7 := h3 a haa
      rw [sumA_parts ha, held0 hz] at h7
      rw [outA_at h2 ha]; omega
  · rintro ⟨h1, h2, h3⟩
    have ha : ∀ r ∈ l, 0 ≤ r.acct := fun r hr => (there_iff.1 (h1 r hr).1).1
    have hz : ∀ r ∈ l, r.acct = 0 → r.held = 0 := fun r hr h => by
      rcases Classical.em (r.held = 0) with h5 | h5
      · exact h5
      · exact absurd ⟨h, Or.inl h5⟩ (h1 r hr).2.2.1
    refine ⟨fun r hr => ⟨(h1 r hr).1, ?_, fun h => ⟨hz r hr h, ?_⟩, fun h => ?_⟩, h2, fun a haa => ?_⟩
    · have := (h1 r hr).2.1; omega
    · have h6 := there_iff.1 (h1 r hr).1
      have h7 := h3 r.asset.toNat (by rw [List.mem_range]; omega)
      rw [show ((r.asset.toNat : Nat) : Int) = r.asset by omega, outA_at h2 ha] at h7
      have h8 := (freeAt_mem h2 hr).1
      rw [h] at h8
      have h9 := posA_near h1 h2 r.asset
      omega
    · have h4 := (h1 r hr).2.2.2
      have h5 := ha r hr
      have : 0 < r.acct := by omega
      omega
    · have h7 := h3 a haa
      rw [outA_at h2 ha] at h7
      rw [sumA_parts ha, held0 hz]; omega
/-- sums on the way are near -/
theorem may_near {l : List Row} (h : MayR l) (k : Nat) (a : Int) : -72057594037927936 ≤ sumA (l.take k) a ∧ sumA (l.take k) a ≤ 72057594037927936 := by
  obtain ⟨h1, h2, _⟩ := may_ref.1 h
  have hsub : ∀ r ∈ l.take k, r ∈ l := fun r hr => List.mem_of_mem_take hr
  have hp : (l.take k).Pairwise keyLt := h2.sublist (List.take_sublist _ _)
  have ha : ∀ r ∈ l.take k, 0 ≤ r.acct := fun r hr => (there_iff.1 (h1 r (hsub r hr)).1).1
  have hz : ∀ r ∈ l.take k, r.acct = 0 → r.held = 0 := fun r hr e => ((h.1 r (hsub r hr)).2.2.1 e).1
  rw [sumA_parts ha, held0 hz]
  have h3 := posA_near (fun r hr => h1 r (hsub r hr)) hp a
  by_cases hk : ∃ r ∈ l.take k, r.acct = 0 ∧ r.asset = a
  · obtain ⟨r, hr, e1, e2⟩ := hk
    have h4 := (freeAt_mem hp hr).1
    rw [e1, e2] at h4
    have h5 := (h1 r (hsub r hr)).2.2.1
    have h6 := ((h.1 r (hsub r hr)).2.2.1 e1).2
    omega
  · have h4 := (freeAt_none (l := l.take k) (a := 0) (s := a) fun r hr e => hk ⟨r, hr, e⟩).1
    omega
end Go.Proofs.Ytchalebenpmnpaa
