/-
  Between a slice that the call owns and the sort's own words on memory. Conditions: none (laws on any world).
-/
import Derived.Test.YtkehmbgcglbffaaDoorMl
import Derived.Shelf.SlSortCmp.WholeK
namespace Go.Proofs.YtkehmbgcglbffaaDoor
open Go.RowKit Go.Sort
variable {α : Type}

theorem Own.heapK {enc : α → List Value} {k : Nat} {T : TypeId} {base : Nat} {w : World} {g cap : Nat} {xs : List α} (h : Own enc k T base w (.slice (some ⟨g, 0, none⟩) xs.length cap) xs) : ∃ cur, base ≤ g ∧ w.heap[g]? = some (.cells cur T (0, 0)) ∧ xs.length ≤ cap ∧ cap ≤ maxLen ∧ cur.size = cap * k ∧ cur.toList.take (xs.length * k) = xs.flatMap enc := by
  obtain ⟨h1, h2⟩ := h
  rcases h2 with ⟨h2, _⟩ | ⟨g', cap', cur, e1, hb, hg, hle, hmax, hsz, htk⟩
  · cases h2
  · injection e1 with e1 _ e3
    injection e1 with e1; injection e1 with e1
    subst e1; subst e3
    exact ⟨cur, hb, hg, hle, hmax, hsz, htk⟩
variable [Inhabited α]

theorem flatK_get (enc : α → List Value) (k : Nat) (hk : ∀ x, (enc x).length = k) (d : Array α) (t : Nat) (ht : t < d.size * k) : (d.toList.flatMap enc)[t]? = some (flatK enc k d)[t]! := by
  have k0 : 0 < k := by rcases Nat.eq_zero_or_pos k with h | h; · subst h; simp at ht
                        · exact h
  have hq : t / k < d.size := Nat.div_lt_of_lt_mul (by rwa [Nat.mul_comm])
  have hr : t % k < k := Nat.mod_lt _ k0
  have hx : d.toList[t / k]? = some d[t / k]! := by rw [getElem!_pos d (t / k) hq]; simp [hq]
  have hv : (enc d[t / k]!)[t % k]? = some (enc d[t / k]!)[t % k]! := by rw [getElem!_pos (enc d[t / k]!) (t % k) (by rw [hk]; exact hr)]; exact List.getElem?_eq_getElem _
  have := flat_get enc k hk d.toList (t / k) _ (t % k) _ hx hv
  rw [Nat.div_add_mod' t k] at this
  rw [get_flatK enc k d t ht]; exact this

theorem Own.holdsK {enc : α → List Value} {k : Nat} (hk : ∀ x, (enc x).length = k) {T : TypeId} {base : Nat} {w : World} {g cap : Nat} {d : Array α} (h : Own enc k T base w (.slice (some ⟨g, 0, none⟩) d.toList.length cap) d.toList) : HoldsK enc k w g 0 d := by
  obtain ⟨cur, _, hg, hle, _, hsz, htk⟩ := Own.heapK h
  intro t ht
  rw [size_flatK] at ht
  have hf := flatK_get enc k hk d t ht
  rw [← htk, List.getElem?_take, if_pos (by simpa using ht)] at hf
  refine ⟨?_, by simp [World.frozen?, hg]⟩
  rw [Nat.zero_add, cell_of_row w g t cur T (0, 0) hg]
  simpa using hf
theorem Own.sorted {enc : α → List Value} {k : Nat} (hk : ∀ x, (enc x).length = k) {T : TypeId} {base : Nat} {w : World} {g cap : Nat} {xs : List α} (h : Own enc k T base w (.slice (some ⟨g, 0, none⟩) xs.length cap) xs) (d' : Array α) (hd : d'.size = xs.length) (n : Nat) (os : Array Obj) :
    Own enc k T base (sortWorldK enc k w g 0 n d' os) (.slice (some ⟨g, 0, none⟩) xs.length cap) d'.toList ∧ w.grownBy (sortWorldK enc k w g 0 n d' os) (some g) := by
  obtain ⟨cur, hb, hg, hle, hmax, hsz, htk⟩ := Own.heapK h
  have hgl : g < w.heap.size := (Array.getElem?_eq_some_iff.1 hg).1
  have hm := Nat.mul_le_mul_right k hle
  have e : (sortWorldK enc k w g 0 n d' os).heap = (w.heap.modify g (onCells (putCells id 0 (flatK enc k d')))) ++ os := rfl
  refine ⟨⟨by rw [flat_len enc k hk], Or.inr ⟨g, cap, putCells id 0 (flatK enc k d') cur, by simp [hd], hb, ?_, by simpa [hd] using hle, hmax, by simp [putCells, hsz], ?_⟩⟩, ⟨rfl, rfl, rfl, ?_, fun q hq hne => ?_⟩⟩
  · rw [e, Array.getElem?_append_left (by simpa using hgl), Array.getElem?_modify, if_pos rfl, hg]; rfl
  · refine List.ext_getElem? fun t => ?_
    rw [List.getElem?_take]
    by_cases ht : t < d'.toList.length * k
    · rw [if_pos ht]
      have ht' : t < d'.size * k := by simpa using ht
      have htc : t < cur.size := by rw [hsz]; rw [hd] at ht'; omega
      rw [flatK_get enc k hk d' t ht']
      simp only [putCells, Array.toList_mapIdx, List.getElem?_mapIdx, Array.getElem?_toList, Array.getElem?_eq_getElem htc, Option.map_some, size_flatK, Nat.zero_le, true_and, Nat.zero_add, Nat.sub_zero, id]
      rw [if_pos ht']
    · rw [if_neg ht, List.getElem?_eq_none (by rw [flat_len enc k hk]; omega)]
  · rw [e]; simp
  · rw [e, Array.getElem?_append_left (by simpa using hq), Array.getElem?_modify, if_neg (fun h => hne (by rw [h]))]
/-- what the sort says, of lists -/
theorem perm_of {d d' : Array α} (h : PermIn 0 d.size d d') : d'.toList.Perm d.toList ∧ d'.size = d.size := by
  obtain ⟨hsz, _, hp⟩ := h
  have e1 : d'.extract 0 d.size = d' := by rw [← hsz]; exact Array.extract_size
  rw [e1, Array.extract_size] at hp
  exact ⟨hp, hsz⟩
theorem sortedList_of {lt : α → α → Bool} {d' : Array α} {n : Nat} (hn : d'.size = n) (h : SortedIn lt 0 n d') : d'.toList.Pairwise (fun x y => lt y x = false) := by
  rw [List.pairwise_iff_getElem]
  intro i j hi hj hij
  have hi' : i < d'.size := by simpa using hi
  have hj' : j < d'.size := by simpa using hj
  have := h i j (Nat.zero_le _) hij (by omega)
  rw [getElem!_pos d' j hj', getElem!_pos d' i hi'] at this
  simpa using this
end Go.Proofs.YtkehmbgcglbffaaDoor
