/-
  Contracts of the document's put and less (layer 22). Conditions: the slices read as lists.
-/
import Derived.Test.YtkehmbgcglbffaaDoorOr
import Derived.Test.YtkehmbgcglbffaaDoorOp
namespace Go.Proofs.YtkehmbgcglbffaaDoor
open Go.RowKit Go.PlainAid

theorem insP_end {o : Opn} : ∀ {l : List Opn}, (∀ x ∈ l, ¬ keyO o x) → insP l o = l ++ [o]
  | [], _ => rfl
  | x :: r, h => by unfold insP; rw [if_neg (h x (by simp)), insP_end (fun y hy => h y (List.mem_cons_of_mem _ hy))]; rfl
theorem insP_here {o y : Opn} (hk : keyO o y) : ∀ {l : List Opn}, (∀ x ∈ l, ¬ keyO o x) → insP (l ++ [y]) o = l ++ [o] ++ [y]
  | [], _ => by simp [insP, hk]
  | x :: r, h => by
    rw [List.cons_append]; unfold insP
    rw [if_neg (h x (by simp)), insP_here hk (fun y hy => h y (List.mem_cons_of_mem _ hy))]; rfl
theorem insP_past {o y : Opn} : ∀ {l : List Opn}, (∃ x ∈ l, keyO o x) → insP (l ++ [y]) o = insP l o ++ [y]
  | [], h => by obtain ⟨x, hx, _⟩ := h; cases hx
  | x :: r, h => by
    rw [List.cons_append]; unfold insP
    by_cases hk : keyO o x
    · rw [if_pos hk, if_pos hk]; rfl
    · rw [if_neg hk, if_neg hk]
      obtain ⟨z, hz, hkz⟩ := h
      rcases List.mem_cons.1 hz with rfl | hz
      · exact absurd hkz hk
      · rw [insP_past ⟨z, hz, hkz⟩]; rfl
theorem insT_end {o : Lt} : ∀ {l : List Lt}, (∀ x ∈ l, ¬ keyT o x) → insT l o = l ++ [o]
  | [], _ => rfl
  | x :: r, h => by unfold insT; rw [if_neg (h x (by simp)), insT_end (fun y hy => h y (List.mem_cons_of_mem _ hy))]; rfl
theorem insT_here {o y : Lt} (hk : keyT o y) : ∀ {l : List Lt}, (∀ x ∈ l, ¬ keyT o x) → insT (l ++ [y]) o = l ++ [o] ++ [y]
  | [], _ => by simp [insT, hk]
  | x :: r, h => by
    rw [List.cons_append]; unfold insT
    rw [if_neg (h x (by simp)), insT_here hk (fun y hy => h y (List.mem_cons_of_mem _ hy))]; rfl
theorem insT_past {o y : Lt} : ∀ {l : List Lt}, (∃ x ∈ l, keyT o x) → insT (l ++ [y]) o = insT l o ++ [y]
  | [], h => by obtain ⟨x, hx, _⟩ := h; cases hx
  | x :: r, h => by
    rw [List.cons_append]; unfold insT
    by_cases hk : keyT o x
    · rw [if_pos hk, if_pos hk]; rfl
    · rw [if_neg hk, if_neg hk]
      obtain ⟨z, hz, hkz⟩ := h
      rcases List.mem_cons.1 hz with rfl | hz
      · exact absurd hkz hk
      · rw [insT_past ⟨z, hz, hkz⟩]; rfl
theorem take_snoc {α : Type} {l : List α} {k : Nat} {x : α} (h : l[k]? = some x) : l.take (k + 1) = l.take k ++ [x] := by rw [List.take_add_one, h]; rfl
/-- what stands in the list made so far -/
def putI (p : List Opn) (o : Opn) (k : Nat) (done : Bool) (L : List Opn) : Prop := (done = false ∧ L = p.take k ∧ ∀ x ∈ p.take k, ¬ keyO o x) ∨ (done = true ∧ L = insP (p.take k) o ∧ ∃ x ∈ p.take k, keyO o x)
theorem putI.len {p : List Opn} {o : Opn} {k : Nat} {d : Bool} {L : List Opn} (h : putI p o k d L) : L.length ≤ k + 1 := by
  have ht : (p.take k).length ≤ k := by rw [List.length_take]; omega
  rcases h with ⟨_, rfl, _⟩ | ⟨_, rfl, _⟩
  · omega
  · have := (insP_perm o (p.take k)).length_eq
    rw [this, List.length_append]; simp; omega
theorem putI.end_f {p : List Opn} {o : Opn} {L : List Opn} (h : putI p o p.length false L) : L ++ [o] = insP p o := by
  rcases h with ⟨_, rfl, h⟩ | ⟨h, _⟩
  · rw [List.take_length] at h ⊢; exact (insP_end h).symm
  · cases h
theorem putI.end_t {p : List Opn} {o : Opn} {L : List Opn} (h : putI p o p.length true L) : L = insP p o := by
  rcases h with ⟨h, _⟩ | ⟨_, rfl, _⟩
  · cases h
  · rw [List.take_length]
theorem putI.past {p : List Opn} {o x : Opn} {k : Nat} {L : List Opn} (h : putI p o k true L) (hx : p[k]? = some x) : putI p o (k + 1) true (L ++ [x]) := by
  rcases h with ⟨h, _⟩ | ⟨_, rfl, z, hz, hk⟩
  · cases h
  · exact Or.inr ⟨rfl, by rw [take_snoc hx, insP_past ⟨z, hz, hk⟩], z, by rw [take_snoc hx]; exact List.mem_append_left _ hz, hk⟩
theorem putI.here {p : List Opn} {o x : Opn} {k : Nat} {L : List Opn} (h : putI p o k false L) (hx : p[k]? = some x) (hk : keyO o x) : putI p o (k + 1) true (L ++ [o] ++ [x]) := by
  rcases h with ⟨_, rfl, h⟩ | ⟨h, _⟩
  · exact Or.inr ⟨rfl, by rw [take_snoc hx, insP_here hk h], x, by rw [take_snoc hx]; simp, hk⟩
  · cases h
theorem putI.yet {p : List Opn} {o x : Opn} {k : Nat} {L : List Opn} (h : putI p o k false L) (hx : p[k]? = some x) (hk : ¬ keyO o x) : putI p o (k + 1) false (L ++ [x]) := by
  rcases h with ⟨_, rfl, h⟩ | ⟨h, _⟩
  · refine Or.inl ⟨rfl, (take_snoc hx).symm, fun y hy => ?_⟩
    rw [take_snoc hx] at hy
    rcases List.mem_append.1 hy with hy | hy
    · exact h y hy
    · simp at hy; subst hy; exact hk
  · cases h
def putJ (p : List Lt) (o : Lt) (k : Nat) (done : Bool) (L : List Lt) : Prop := (done = false ∧ L = p.take k ∧ ∀ x ∈ p.take k, ¬ keyT o x) ∨ (done = true ∧ L = insT (p.take k) o ∧ ∃ x ∈ p.take k, keyT o x)
theorem putJ.len {p : List Lt} {o : Lt} {k : Nat} {d : Bool} {L : List Lt} (h : putJ p o k d L) : L.length ≤ k + 1 := by
  have ht : (p.take k).length ≤ k := by rw [List.length_take]; omega
  rcases h with ⟨_, rfl, _⟩ | ⟨_, rfl, _⟩
  · omega
  · have := (insT_perm o (p.take k)).length_eq
    rw [this, List.length_append]; simp; omega
theorem putJ.end_f {p : List Lt} {o : Lt} {L : List Lt} (h : putJ p o p.length false L) : L ++ [o] = insT p o := by
  rcases h with ⟨_, rfl, h⟩ | ⟨h, _⟩
  · rw [List.take_length] at h ⊢; exact (insT_end h).symm
  · cases h
theorem putJ.end_t {p : List Lt} {o : Lt} {L : List Lt} (h : putJ p o p.length true L) : L = insT p o := by
  rcases h with ⟨h, _⟩ | ⟨_, rfl, _⟩
  · cases h
  · rw [List.take_length]
theorem putJ.past {p : List Lt} {o x : Lt} {k : Nat} {L : List Lt} (h : putJ p o k true L) (hx : p[k]? = some x) : putJ p o (k + 1) true (L ++ [x]) := by
  rcases h with ⟨h, _⟩ | ⟨_, rfl, z, hz, hk⟩
  · cases h
  · exact Or.inr ⟨rfl, by rw [take_snoc hx, insT_past ⟨z, hz, hk⟩], z, by rw [take_snoc hx]; exact List.mem_append_left _ hz, hk⟩
theorem putJ.here {p : List Lt} {o x : Lt} {k : Nat} {L : List Lt} (h : putJ p o k false L) (hx : p[k]? = some x) (hk : keyT o x) : putJ p o (k + 1) true (L ++ [o] ++ [x]) := by
  rcases h with ⟨_, rfl, h⟩ | ⟨h, _⟩
  · exact Or.inr ⟨rfl, by rw [take_snoc hx, insT_here hk h], x, by rw [take_snoc hx]; simp, hk⟩
  · cases h
theorem putJ.yet {p : List Lt} {o x : Lt} {k : Nat} {L : List Lt} (h : putJ p o k false L) (hx : p[k]? = some x) (hk : ¬ keyT o x) : putJ p o (k + 1) false (L ++ [x]) := by
  rcases h with ⟨_, rfl, h⟩ | ⟨h, _⟩
  · refine Or.inl ⟨rfl, (take_snoc hx).symm, fun y hy => ?_⟩
    rw [take_snoc hx] at hy
    rcases List.mem_append.1 hy with hy | hy
    · exact h y hy
    · simp at hy; subst hy; exact hk
  · cases h
theorem less_take {p : List Opn} {k : Nat} {x : Opn} (id q : Int) (h : p[k]? = some x) : lessP (p.take (k + 1)) id q = lessP (p.take k) id q ++ if 0 < (cutP id q x).left then [cutP id q x] else [] := by
  unfold lessP
  rw [take_snoc h, List.map_append, List.filter_append]
  congr 1
  by_cases hl : 0 < (cutP id q x).left <;> simp [hl]
theorem less_len (p : List Opn) (id q : Int) : (lessP p id q).length ≤ p.length := by
  unfold lessP
  exact Nat.le_trans (List.length_filter_le _ _) (by simp)
end Go.Proofs.YtkehmbgcglbffaaDoor
