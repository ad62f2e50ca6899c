/-
  Lists of elements of k cells in memory: what a slice reads as (SlR), what a call owns (Own), a store of one element, the cut. Conditions: none (laws on any world).
-/
import Derived.Test.YtchalebenpmnpaaMm
import Derived.Shelf.SlicesQ.Load
import Derived.Laws.CopyRow
namespace Go.Proofs.Ytchalebenpmnpaa
open Go.RowKit
variable {α : Type}

theorem flat_get (enc : α → List Value) (k : Nat) (hk : ∀ x, (enc x).length = k) : ∀ (xs : List α) (j : Nat) (x : α) (i : Nat) (v : Value), xs[j]? = some x → (enc x)[i]? = some v → (xs.flatMap enc)[j * k + i]? = some v
  | [], j, x, i, v, h, _ => by simp at h
  | y :: r, 0, x, i, v, h, g => by
    simp at h; subst h
    have : i < (enc y).length := (List.getElem?_eq_some_iff.1 g).1
    rw [List.flatMap_cons, Nat.zero_mul, Nat.zero_add, List.getElem?_append_left this]; exact g
  | y :: r, j + 1, x, i, v, h, g => by
    rw [List.flatMap_cons, List.getElem?_append_right (by rw [hk, Nat.add_mul]; omega), hk, show (j + 1) * k + i - k = j * k + i by rw [Nat.add_mul]; omega]
    exact flat_get enc k hk r j x i v (by simpa using h) g
theorem flat_len (enc : α → List Value) (k : Nat) (hk : ∀ x, (enc x).length = k) : ∀ (xs : List α), (xs.flatMap enc).length = xs.length * k
  | [] => by simp
  | y :: r => by rw [List.flatMap_cons, List.length_append, hk, flat_len enc k hk r, List.length_cons, Nat.add_mul]; omega
theorem flat_take (enc : α → List Value) (k : Nat) (hk : ∀ x, (enc x).length = k) : ∀ (xs : List α) (i : Nat), (xs.flatMap enc).take (i * k) = (xs.take i).flatMap enc
  | [], i => by simp
  | y :: r, 0 => by simp
  | y :: r, i + 1 => by
    rw [List.flatMap_cons, List.take_succ_cons, List.flatMap_cons, List.take_append, hk, show (i + 1) * k - k = i * k by rw [Nat.add_mul]; omega, flat_take enc k hk r i, List.take_of_length_le (by rw [hk, Nat.add_mul]; omega)]
theorem flat_drop (enc : α → List Value) (k : Nat) (hk : ∀ x, (enc x).length = k) : ∀ (xs : List α) (i : Nat), (xs.flatMap enc).drop (i * k) = (xs.drop i).flatMap enc
  | [], i => by simp
  | y :: r, 0 => by simp
  | y :: r, i + 1 => by
    rw [List.flatMap_cons, List.drop_succ_cons, List.drop_append, hk, show (i + 1) * k - k = i * k by rw [Nat.add_mul]; omega, flat_drop enc k hk r i, List.drop_of_length_le (by rw [hk, Nat.add_mul]; omega), List.nil_append]

/-- a slice that reads as a list -/
structure SlR (enc : α → List Value) (k : Nat) (w : World) (a : Option Addr) (cap : Nat) (xs : List α) : Prop where
  le : xs.length ≤ cap
  max : cap ≤ 9223372036854775807
  ofNone : a = none → xs = [] ∧ cap = 0
  ofSome : ∀ ad, a = some ad → 0 < cap → ad.spot = none ∧ ad.block < w.heap.size ∧ ∀ j x, xs[j]? = some x → ∀ i v, (enc x)[i]? = some v → w.cell? ⟨ad.block, ad.off + j * k + i, none⟩ = some v
section
variable {enc : α → List Value} {k : Nat} {w : World} {a : Option Addr} {cap : Nat} {xs : List α}
theorem SlR.mono (h : SlR enc k w a cap xs) {w' : World} (hb : Below w.heap.size w w') : SlR enc k w' a cap xs :=
  ⟨h.le, h.max, h.ofNone, fun ad hd hc => let ⟨h1, h2, h3⟩ := h.ofSome ad hd hc; ⟨h1, Nat.lt_of_lt_of_le h2 hb.size, fun j x hx i v hv => (hb.cell (p := ⟨ad.block, ad.off + j * k + i, none⟩) h2).trans (h3 j x hx i v hv)⟩⟩
/-- .. where the block is not the one that is written -/
theorem SlR.grown (h : SlR enc k w a cap xs) {w' : World} {row : Option Nat} (hg : w.grownBy w' row) (hne : ∀ ad, a = some ad → some ad.block ≠ row) : SlR enc k w' a cap xs :=
  ⟨h.le, h.max, h.ofNone, fun ad hd hc => let ⟨h1, h2, h3⟩ := h.ofSome ad hd hc; ⟨h1, Nat.lt_of_lt_of_le h2 hg.size, fun j x hx i v hv => hg.cell (h3 j x hx i v hv) (hne ad hd)⟩⟩
theorem SlR.at (h : SlR enc k w a cap xs) (h0 : xs ≠ []) : ∃ b off, a = some ⟨b, off, none⟩ ∧ b < w.heap.size ∧ ∀ j x, xs[j]? = some x → ∀ i v, (enc x)[i]? = some v → w.cell? ⟨b, off + j * k + i, none⟩ = some v := by
  cases a with
  | none => exact absurd (h.ofNone rfl).1 h0
  | some ad =>
    obtain ⟨b, off, sp⟩ := ad
    obtain ⟨h1, h2, h3⟩ := h.ofSome _ rfl (by have := h.le; have := List.length_pos_iff.2 h0; omega)
    simp only at h1; subst h1
    exact ⟨b, off, rfl, h2, h3⟩
theorem SlR.nil (w : World) : SlR enc k w none 0 ([] : List α) := ⟨Nat.le_refl _, by omega, fun _ => ⟨rfl, rfl⟩, fun _ h _ => by cases h⟩
theorem load_of {b off : Nat} (hk : ∀ x, (enc x).length = k) (hc : ∀ j x, xs[j]? = some x → ∀ i v, (enc x)[i]? = some v → w.cell? ⟨b, off + j * k + i, none⟩ = some v) (P : Program) {j : Nat} {x : α} (hx : xs[j]? = some x) :
    Sem.run P (loadCellsFrom ⟨b, off + j * k, none⟩ 0 k #[]) w = .ok (enc x).toArray w :=
  run_loadCellsFrom_list P w _ (enc x) k (hk x) (fun i v hv => by rw [Addr.add_lit]; exact hc j x hx i v hv)
end

/-- what the call owns from block 'base' on reads as a list -/
def Own (enc : α → List Value) (k : Nat) (T : TypeId) (base : Nat) (w : World) (v : Value) (xs : List α) : Prop := w.ownsRow base T k v xs.length (xs.flatMap enc)
section
variable {enc : α → List Value} {k : Nat} {T : TypeId} {base : Nat} {w : World} {v : Value} {xs : List α}
theorem Own.nil (w : World) : Own enc k T base w (.slice none 0 0) ([] : List α) := World.ownsRow_nil _ _ _ _
theorem Own.weaken (h : Own enc k T base w v xs) {B : Nat} (hB : B ≤ base) : Own enc k T B w v xs := by
  obtain ⟨h1, h2⟩ := h
  refine ⟨h1, ?_⟩
  rcases h2 with h2 | ⟨g, cap, cur, e1, e2, r⟩
  · exact Or.inl h2
  · exact Or.inr ⟨g, cap, cur, e1, Nat.le_trans hB e2, r⟩
theorem Own.slR (hk : ∀ x, (enc x).length = k) (h : Own enc k T base w v xs) : ∃ a cap, v = .slice a xs.length cap ∧ SlR enc k w a cap xs ∧ ∀ ad, a = some ad → base ≤ ad.block ∧ ad.off = 0 := by
  obtain ⟨h1, h2⟩ := h
  rcases h2 with ⟨rfl, h0⟩ | ⟨g, cap, cur, rfl, hb, hg, hle, hmax, hsz, htk⟩
  · have : xs = [] := List.eq_nil_of_length_eq_zero h0
    subst this
    exact ⟨none, 0, rfl, SlR.nil w, fun _ h => by cases h⟩
  · refine ⟨_, cap, rfl, ⟨hle, by simpa [maxLen] using hmax, (fun h => by cases h), fun ad had _ => ?_⟩, (fun ad had => by cases had; exact ⟨hb, rfl⟩)⟩
    cases had
    refine ⟨rfl, (Array.getElem?_eq_some_iff.1 hg).1, fun j x hx i u hu => ?_⟩
    have hj : j < xs.length := (List.getElem?_eq_some_iff.1 hx).1
    have hi : i < k := by have := (List.getElem?_eq_some_iff.1 hu).1; rwa [hk] at this
    have hlt : j * k + i < xs.length * k := by
      have := Nat.mul_le_mul_right k (show j + 1 ≤ xs.length from hj); rw [Nat.add_mul, Nat.one_mul] at this; omega
    have hf := flat_get enc k hk xs j x i u hx hu
    rw [← htk, List.getElem?_take, if_pos hlt] at hf
    simp only [Nat.zero_add]
    rw [cell_of_row w g (j * k + i) cur T (0, 0) hg]
    simpa using hf
/-- kept, where another block is written -/
theorem Own.kept (h : Own enc k T base w v xs) {w' : World} {row : Option Nat} (hg : w.grownBy w' row) (hne : v.ownBlock = none ∨ v.ownBlock ≠ row) : Own enc k T base w' v xs := World.ownsRow.kept h hg hne
theorem Own.lt (h : Own enc k T base w v xs) : ∀ b, v.ownBlock = some b → base ≤ b ∧ b < w.heap.size := World.ownsRow.lt h
/-- kept by a growth: it lies in old memory -/
theorem Own.mono (h : Own enc k T base w v xs) {w' : World} (hb : Below w.heap.size w w') : Own enc k T base w' v xs := by
  obtain ⟨h1, h2⟩ := h
  refine ⟨h1, ?_⟩
  rcases h2 with h2 | ⟨g, cap, cur, e1, e2, hg, r⟩
  · exact Or.inl h2
  · exact Or.inr ⟨g, cap, cur, e1, e2, (hb.block g (Array.getElem?_eq_some_iff.1 hg).1).trans hg, r⟩
/-- the slice cut short -/
theorem Own.cut (hk : ∀ x, (enc x).length = k) {g cap : Nat} (h : Own enc k T base w (.slice (some ⟨g, 0, none⟩) xs.length cap) xs) (i : Nat) (hi : i ≤ xs.length) : Own enc k T base w (.slice (some ⟨g, 0, none⟩) i cap) (xs.take i) := by
  have hl : (xs.take i).length = i := by rw [List.length_take]; omega
  obtain ⟨h1, h2⟩ := h
  rcases h2 with ⟨h2, _⟩ | ⟨g', cap', cur, e1, hb, hg, hle, hmax, hsz, htk⟩
  · cases h2
  · injection e1 with e1 _ e3
    injection e1 with e1; injection e1 with e1
    subst e1; subst e3
    refine ⟨by rw [flat_len enc k hk], Or.inr ⟨g, cap, cur, by rw [hl], hb, hg, by omega, hmax, hsz, ?_⟩⟩
    rw [hl, ← flat_take enc k hk, ← htk, List.take_take, Nat.min_eq_left (Nat.mul_le_mul_right k hi)]
/-- one element is stored -/
theorem Own.store (hk : ∀ x, (enc x).length = k) (h1c : ∀ x, ∀ v ∈ enc x, v.oneCell' = true) {g cap : Nat} (h : Own enc k T base w (.slice (some ⟨g, 0, none⟩) xs.length cap) xs) (P : Program) (i : Nat) (hi : i < xs.length) (u : α) :
    ∃ w', Sem.run P (storeCells ⟨g, i * k, none⟩ (enc u) 0) w = .ok () w' ∧ Own enc k T base w' (.slice (some ⟨g, 0, none⟩) xs.length cap) (xs.set i u) ∧ w.grownBy w' (some g) ∧ w'.heap.size = w.heap.size := by
  obtain ⟨h1, h2⟩ := h
  rcases h2 with ⟨h2, _⟩ | ⟨g', cap', cur, e1, hb, hg, hle, hmax, hsz, htk⟩
  · cases h2
  · injection e1 with e1 _ e3
    injection e1 with e1; injection e1 with e1
    subst e1; subst e3
    have hm : i * k + k ≤ xs.length * k := by
      have := Nat.mul_le_mul_right k (show i + 1 ≤ xs.length from hi); rwa [Nat.add_mul, Nat.one_mul] at this
    have hm2 : xs.length * k ≤ cap * k := Nat.mul_le_mul_right k hle
    have hst := run_storeCells_at (P := P) g (i * k) T (enc u) 0 cur w hg (by rw [hk, hsz]; omega) (h1c u)
    refine ⟨_, hst, ⟨by rw [flat_len enc k hk, List.length_set], Or.inr ⟨g, cap, _, by rw [List.length_set], hb, setRow_heap w g cur _ T _ hg, by rw [List.length_set]; exact hle, hmax, ?_, ?_⟩⟩, ⟨rfl, rfl, rfl, by simp, fun q hq hne => setRow_other w g q _ (fun e => hne (by rw [e]))⟩, by simp⟩
    · simp only [List.size_toArray, List.length_append, List.length_take, List.length_drop, Array.length_toList, hk, Nat.add_zero, hsz]
      omega
    · simp only [Nat.add_zero, hk, List.length_set]
      have e5 : xs.set i u = xs.take i ++ u :: xs.drop (i + 1) := List.set_eq_take_append_cons_drop.trans (by rw [if_pos hi])
      rw [e5, List.flatMap_append, List.flatMap_cons, ← flat_take enc k hk, ← flat_drop enc k hk, ← htk]
      have l1 : (cur.toList.take (i * k)).length = i * k := by rw [List.length_take, Array.length_toList, hsz]; omega
      have key : ∀ (A E D : List Value) (m : Nat), A.length + E.length ≤ m → (A ++ E ++ D).take m = A ++ (E ++ D.take (m - (A.length + E.length))) := fun A E D m hm => by
        rw [List.take_append, List.take_of_length_le (by simp; omega), List.append_assoc, List.length_append]
      rw [key _ _ _ _ (by rw [l1, hk]; omega), l1, hk, List.take_take, Nat.min_eq_left (by omega), List.drop_take, show (i + 1) * k = i * k + k by rw [Nat.add_mul, Nat.one_mul]]
end
/-- a fresh block that an element is stored into -/
theorem store_new (enc : α → List Value) (k : Nat) (hk : ∀ x, (enc x).length = k) (h1c : ∀ x, ∀ v ∈ enc x, v.oneCell' = true) (P : Program) (w : World) (z : Array Value) (hz : z.size = k) (T : TypeId) (u : α) :
    Sem.run P (storeCells ⟨w.heap.size, 0, none⟩ (enc u) 0) (w.alloc (.cells z T)) = .ok () (w.alloc (.cells (enc u).toArray T)) := by
  have h := run_storeCells_at (P := P) w.heap.size 0 T (enc u) 0 z (w.alloc (.cells z T)) (heap_alloc_new w _) (by rw [hk, hz]; omega) (h1c u)
  rw [h]
  congr 1
  have e : (z.toList.take (0 + 0) ++ enc u ++ z.toList.drop (0 + 0 + (enc u).length)).toArray = (enc u).toArray := by
    rw [hk]; simp [← hz]
  rw [e]
  simp only [World.setRow, World.alloc, World.mk.injEq, and_true]
  refine Array.ext_getElem? fun j => ?_
  rw [Array.getElem?_modify, Array.getElem?_push, Array.getElem?_push]
  by_cases hj : w.heap.size = j
  · subst hj; simp
  · rw [if_neg hj, if_neg (Ne.symm hj), if_neg (Ne.symm hj)]
theorem load_new (enc : α → List Value) (k : Nat) (hk : ∀ x, (enc x).length = k) (P : Program) (w w' : World) (T : TypeId) (u : α) (hb : Below (w.heap.size + 1) (w.alloc (.cells (enc u).toArray T)) w') :
    Sem.run P (loadCellsFrom ⟨w.heap.size, 0, none⟩ 0 k #[]) w' = .ok (enc u).toArray w' :=
  run_loadCellsFrom_list P w' _ (enc u) k (hk u) (fun i v hv => by
    rw [Addr.add_lit, hb.cell (p := ⟨w.heap.size, 0 + i, none⟩) (by simp)]; simpa using hv)
end Go.Proofs.Ytchalebenpmnpaa
