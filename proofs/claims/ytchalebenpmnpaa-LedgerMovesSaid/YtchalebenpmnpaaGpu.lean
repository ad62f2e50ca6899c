/-
  Plain laws of layer 15: rows with one in its place, as the document puts it; the document's Post is the program's. No program is in sight. Conditions: none.
-/
import Derived.Test.YtchalebenpmnpaaGpl
namespace Go.Proofs.Ytchalebenpmnpaa

def nzL (r : Row) : List Row := if nzB r then [r] else []
/-- rows with one in its place, or without it -/
def putL (l : List Row) (r : Row) : List Row := l.filter (fun x => decide (keyLt x r)) ++ nzL r ++ l.filter (fun x => decide (keyLt r x))
/-- has one been met that stands at its place, or behind? -/
def doneP (l : List Row) (r : Row) : Bool := l.any fun x => !decide (keyLt x r)
def outP (l : List Row) (r : Row) : List Row := if doneP l r then putL l r else l
/-- .. and with it -/
def midP (l : List Row) (x r : Row) : List Row := if ¬ keyLt x r ∧ doneP l r = false then outP l r ++ nzL r else outP l r
theorem behind_iff (x r : Row) : ¬ keyLt x r ↔ (r.acct < x.acct ∨ (x.acct = r.acct ∧ r.asset ≤ x.asset)) := by unfold keyLt; omega
theorem doneP_snoc (l : List Row) (x r : Row) : doneP (l ++ [x]) r = (doneP l r || !decide (keyLt x r)) := by simp [doneP]
theorem outP_len (l : List Row) (r : Row) : (outP l r).length ≤ 2 * l.length + 1 := by
  have h1 : (l.filter fun x => decide (keyLt x r)).length ≤ l.length := List.length_filter_le _ _
  have h2 : (l.filter fun x => decide (keyLt r x)).length ≤ l.length := List.length_filter_le _ _
  have h3 : (nzL r).length ≤ 1 := by unfold nzL; split <;> simp
  unfold outP putL
  split
  · simp only [List.length_append]; omega
  · omega
theorem nzL_len (r : Row) : (nzL r).length ≤ 1 := by unfold nzL; split <;> simp
theorem not_done {l : List Row} {r : Row} (h : doneP l r = false) : ∀ x ∈ l, keyLt x r := by
  intro x hx
  unfold doneP at h
  rw [List.any_eq_false] at h
  have := h x hx
  simpa using this
theorem outP_take {l : List Row} {k : Nat} {x r : Row} (hl : l.Pairwise keyLt) (hx : l[k]? = some x) : outP (l.take (k + 1)) r = if x.acct = r.acct ∧ x.asset = r.asset then midP (l.take k) x r else midP (l.take k) x r ++ [x] := by
  have e : l.take (k + 1) = l.take k ++ [x] := by rw [List.take_add_one, hx]; rfl
  have hb : ∀ y ∈ l.take k, keyLt y x := fun y hy => by
    obtain ⟨j, hj⟩ := List.getElem?_of_mem hy
    have hjk : j < k := by have := (List.getElem?_eq_some_iff.1 hj).1; rw [List.length_take] at this; omega
    rw [List.getElem?_take, if_pos hjk] at hj
    exact pw_get hl hjk hj hx
  rw [e]
  generalize l.take k = m at hb
  unfold midP
  cases hd : doneP m r with
  | true =>
    obtain ⟨y, hy, hyr⟩ : ∃ y ∈ m, ¬ keyLt y r := by
      unfold doneP at hd
      rw [List.any_eq_true] at hd
      obtain ⟨y, hy, h⟩ := hd
      exact ⟨y, hy, by simpa using h⟩
    have hxr : ¬ keyLt x r := fun h => hyr (keyLt_trans (hb y hy) h)
    have hn : ¬ (x.acct = r.acct ∧ x.asset = r.asset) := by
      have := hb y hy
      unfold keyLt at *; omega
    have hrx : keyLt r x := by unfold keyLt at *; omega
    rw [if_neg hn, if_neg (show ¬ (¬ keyLt x r ∧ true = false) from fun h => by cases h.2)]
    unfold outP
    rw [doneP_snoc, hd]
    simp [putL, List.filter_append, hxr, hrx]
  | false =>
    have hm := not_done hd
    have hf : m.filter (fun y => decide (keyLt y r)) = m := List.filter_eq_self.2 fun y hy => by simpa using hm y hy
    have hg : m.filter (fun y => decide (keyLt r y)) = [] := List.filter_eq_nil_iff.2 fun y hy => by simpa using keyLt_asymm (hm y hy)
    by_cases h1 : keyLt x r
    · have hn : ¬ (x.acct = r.acct ∧ x.asset = r.asset) := by unfold keyLt at h1; omega
      rw [if_neg hn, if_neg (show ¬ (¬ keyLt x r ∧ false = false) from fun h => h.1 h1)]
      unfold outP
      rw [doneP_snoc, hd]
      simp [h1]
    · rw [if_pos (show ¬ keyLt x r ∧ false = false from ⟨h1, rfl⟩)]
      unfold outP
      rw [doneP_snoc, hd]
      by_cases h2 : x.acct = r.acct ∧ x.asset = r.asset
      · have h3 : ¬ keyLt r x := by unfold keyLt; omega
        rw [if_pos h2]
        simp [putL, List.filter_append, h1, h3, hf, hg]
      · have h3 : keyLt r x := by unfold keyLt at *; omega
        rw [if_neg h2]
        simp [putL, List.filter_append, h1, h3, hf, hg]
theorem doneP_take {l : List Row} {k : Nat} {x r : Row} (hx : l[k]? = some x) : doneP (l.take (k + 1)) r = (doneP (l.take k) r || !decide (keyLt x r)) := by
  rw [List.take_add_one, hx]; exact doneP_snoc _ _ _
theorem putL_done (l : List Row) (r : Row) : putL l r = if doneP l r then outP l r else outP l r ++ nzL r := by
  unfold outP
  cases hd : doneP l r with
  | true => simp
  | false =>
    have hm := not_done hd
    have hf : l.filter (fun y => decide (keyLt y r)) = l := List.filter_eq_self.2 fun y hy => by simpa using hm y hy
    have hg : l.filter (fun y => decide (keyLt r y)) = [] := List.filter_eq_nil_iff.2 fun y hy => by simpa using keyLt_asymm (hm y hy)
    simp [putL, hf, hg]
theorem putL_mem {l : List Row} {r x : Row} : x ∈ putL l r ↔ (x ∈ l ∧ ¬ (x.acct = r.acct ∧ x.asset = r.asset)) ∨ (x = r ∧ (r.free ≠ 0 ∨ r.held ≠ 0)) := by
  have h1 : x ∈ nzL r ↔ x = r ∧ (r.free ≠ 0 ∨ r.held ≠ 0) := by
    unfold nzL
    by_cases h : nzB r = true
    · rw [if_pos h]; simp [nzB_iff.1 h]
    · rw [if_neg h]; rw [nzB_iff] at h; simp; omega
  unfold putL
  rw [List.mem_append, List.mem_append, h1, List.mem_filter, List.mem_filter, decide_eq_true_eq, decide_eq_true_eq]
  have h2 : (keyLt x r ∨ keyLt r x) ↔ ¬ (x.acct = r.acct ∧ x.asset = r.asset) := by unfold keyLt; omega
  constructor
  · rintro ((⟨a, b⟩ | b) | ⟨a, b⟩)
    · exact Or.inl ⟨a, h2.1 (Or.inl b)⟩
    · exact Or.inr b
    · exact Or.inl ⟨a, h2.1 (Or.inr b)⟩
  · rintro (⟨a, b⟩ | b)
    · rcases h2.2 b with c | c
      · exact Or.inl (Or.inl ⟨a, c⟩)
      · exact Or.inr ⟨a, c⟩
    · exact Or.inl (Or.inr b)
theorem putL_pw {l : List Row} {r : Row} (h : l.Pairwise keyLt) : (putL l r).Pairwise keyLt := by
  have hn : (nzL r).Pairwise keyLt := by unfold nzL; split <;> simp
  have hm : ∀ x ∈ nzL r, x = r := by unfold nzL; split <;> simp
  unfold putL
  rw [List.pairwise_append, List.pairwise_append]
  refine ⟨⟨h.filter _, hn, fun a ha b hb => ?_⟩, h.filter _, fun a ha b hb => ?_⟩
  · rw [hm b hb]; simpa using (List.mem_filter.1 ha).2
  · have h2 : keyLt r b := by simpa using (List.mem_filter.1 hb).2
    rcases List.mem_append.1 ha with ha | ha
    · have h1 : keyLt a r := by simpa using (List.mem_filter.1 ha).2
      exact keyLt_trans h1 h2
    · rw [hm a ha]; exact h2
theorem postL_nil {l : List Row} (h : MayR l) : postL l [] = l := by
  refine Eq.trans ?_ (rowsOf_at h.sorted)
  exact rowsOf_congr fun a s _ => by simp [freeAt, heldAt]
/-- one posting more -/
theorem postL_snoc {l p : List Row} {x : Row} (hx : there x.acct x.asset = true) : putL (postL l p) ⟨x.acct, x.asset, (freeAt l x.acct x.asset + freeAt p x.acct x.asset) + x.free, (heldAt l x.acct x.asset + heldAt p x.acct x.asset) + x.held⟩ = postL l (p ++ [x]) := by
  refine pw_eq (putL_pw (rowsOf_pw _ _)) (rowsOf_pw _ _) fun r => ?_
  unfold postL
  rw [putL_mem, mem_rowsOf, mem_rowsOf, freeAt_append, heldAt_append]
  dsimp only
  have e1 : freeAt [x] r.acct r.asset = if x.acct = r.acct ∧ x.asset = r.asset then x.free else 0 := by
    have := freeAt_cons x [] r.acct r.asset
    rw [this]; simp [freeAt]
  have e2 : heldAt [x] r.acct r.asset = if x.acct = r.acct ∧ x.asset = r.asset then x.held else 0 := by
    have := heldAt_cons x [] r.acct r.asset
    rw [this]; simp [heldAt]
  rw [e1, e2]
  by_cases hk : r.acct = x.acct ∧ r.asset = x.asset
  · obtain ⟨a, s, f, h⟩ := r
    obtain ⟨rfl, rfl⟩ := hk
    rw [if_pos ⟨rfl, rfl⟩, if_pos ⟨rfl, rfl⟩]
    simp only [Row.mk.injEq, true_and]
    constructor
    · rintro (⟨_, h1⟩ | ⟨⟨rfl, rfl⟩, h2⟩)
      · exact absurd trivial h1
      · exact ⟨hx, h2, by omega, by omega⟩
    · rintro ⟨h1, h2, h3, h4⟩
      right; refine ⟨⟨?_, ?_⟩, ?_⟩ <;> omega
  · rw [if_neg (by omega), if_neg (by omega)]
    simp only [hk, not_false_eq_true, and_true, Int.add_zero]
    constructor
    · rintro (h1 | ⟨rfl, h2⟩)
      · exact h1
      · exact absurd ⟨rfl, rfl⟩ hk
    · exact fun h => Or.inl h
theorem postL_take {l p : List Row} {k : Nat} {x : Row} (h : p[k]? = some x) (hx : there x.acct x.asset = true) : putL (postL l (p.take k)) ⟨x.acct, x.asset, (freeAt l x.acct x.asset + freeAt (p.take k) x.acct x.asset) + x.free, (heldAt l x.acct x.asset + heldAt (p.take k) x.acct x.asset) + x.held⟩ = postL l (p.take (k + 1)) := by
  rw [postL_snoc hx, List.take_add_one, h]; rfl
theorem postL_get {l p : List Row} {a s : Int} (h : there a s = true) : getR (postL l p) a s = ⟨a, s, freeAt l a s + freeAt p a s, heldAt l a s + heldAt p a s⟩ := by
  unfold postL
  rw [getR_at (rowsOf_pw _ _), (at_rowsOf h).1, (at_rowsOf h).2]
theorem postL_len (l p : List Row) : (postL l p).length ≤ 1105 := by
  unfold postL rowsOf
  refine Nat.le_trans (List.length_filterMap_le _ _) ?_
  decide +kernel
end Go.Proofs.Ytchalebenpmnpaa
