/-
  Maps over the walker: a map in memory as a list of keys and values, in whatever row; look-up, update, entry, delete, len, range. Conditions: what each law names.
-/
import Derived.Test.YtkehmbgcglbffaaDoorSw
import Derived.Maps.Keyed
import Derived.Maps.RangeRun
import Derived.DeepKeys5
namespace Go.Proofs.YtkehmbgcglbffaaDoor
open Go.RowKit Go.ChangeShapes Go.WideShapes Go.Maps
open Go.ChangeMaps (setBlock)

/-- a key's type, and how keys are values of it -/
structure KeyE (P : Program) (K : TypeId) {κ : Type} (eK : κ → Value) : Prop where
  law : Keyed P K
  key : ∀ k, ∃ l, keyOf P K (eK k) = some l
  inj : ∀ a b, eK a = eK b → a = b
section
variable {κ ν : Type} {eK : κ → Value} {eV : ν → Value} {P : Program} {w : World} {B clk : Nat}
def entE (eK : κ → Value) (eV : ν → Value) (e : κ × ν × Nat) : MapEntry := ⟨eK e.1, eV e.2.1, e.2.2⟩
def prj (e : κ × ν × Nat) : κ × ν := (e.1, e.2.1)
structure MpE (eK : κ → Value) (eV : ν → Value) (w : World) (B : Nat) (es : List (κ × ν × Nat)) (clk : Nat) : Prop where
  heap : w.heap[B]? = some (.map (es.map (entE eK eV)).toArray clk)
  keys : (es.map (·.1)).Nodup
  born : (es.map (·.2.2)).Nodup
  lt : ∀ e ∈ es, e.2.2 < clk
/-- block B is a map that holds these -/
def Mp (eK : κ → Value) (eV : ν → Value) (w : World) (B : Nat) (m : List (κ × ν)) : Prop := ∃ es clk, MpE eK eV w B es clk ∧ es.map prj = m
theorem Mp.nodup {m : List (κ × ν)} (h : Mp eK eV w B m) : (m.map (·.1)).Nodup := by
  obtain ⟨es, clk, h1, rfl⟩ := h
  rw [List.map_map]; exact h1.keys
theorem MpE.lt' {es : List (κ × ν × Nat)} (h : MpE eK eV w B es clk) : B < w.heap.size := (Array.getElem?_eq_some_iff.1 h.heap).1
theorem Mp.bound {m : List (κ × ν)} (h : Mp eK eV w B m) : B < w.heap.size := by obtain ⟨es, clk, h1, _⟩ := h; exact h1.lt'
theorem MpE.mono {es : List (κ × ν × Nat)} (h : MpE eK eV w B es clk) {w' : World} (hb : Below w.heap.size w w') : MpE eK eV w' B es clk := ⟨(hb.block B h.lt').trans h.heap, h.keys, h.born, h.lt⟩
theorem Mp.mono {m : List (κ × ν)} (h : Mp eK eV w B m) {w' : World} (hb : Below w.heap.size w w') : Mp eK eV w' B m := by
  obtain ⟨es, clk, h1, h2⟩ := h; exact ⟨es, clk, h1.mono hb, h2⟩
theorem MpE.kept {es : List (κ × ν × Nat)} (h : MpE eK eV w B es clk) {w' : World} {row : Option Nat} (hg : w.grownBy w' row) (hne : row ≠ some B) : MpE eK eV w' B es clk := ⟨(hg.block B h.lt' (fun e => hne e.symm)).trans h.heap, h.keys, h.born, h.lt⟩
theorem Mp.kept {m : List (κ × ν)} (h : Mp eK eV w B m) {w' : World} {row : Option Nat} (hg : w.grownBy w' row) (hne : row ≠ some B) : Mp eK eV w' B m := by
  obtain ⟨es, clk, h1, h2⟩ := h; exact ⟨es, clk, h1.kept hg hne, h2⟩
theorem Mp.new (eK : κ → Value) (eV : ν → Value) (w : World) : Mp eK eV (w.alloc (.map #[] 0)) w.heap.size [] := ⟨[], 0, ⟨heap_alloc_new w _, List.nodup_nil, List.nodup_nil, fun _ h => by cases h⟩, rfl⟩
variable [DecidableEq κ]
/-- what a map holds at a key -/
def getM (m : List (κ × ν)) (k : κ) : Option ν := (m.find? fun e => decide (e.1 = k)).map (·.2)
def putM (m : List (κ × ν)) (k : κ) (v : ν) : List (κ × ν) := if (getM m k).isSome then m.map fun e => if e.1 = k then (k, v) else e else m ++ [(k, v)]
def touchM (m : List (κ × ν)) (k : κ) (z : ν) : List (κ × ν) := if (getM m k).isSome then m else m ++ [(k, z)]
def delM (m : List (κ × ν)) (k : κ) : List (κ × ν) := m.filter fun e => !decide (e.1 = k)
theorem getM_nil (k : κ) : getM ([] : List (κ × ν)) k = none := rfl
theorem getM_none {m : List (κ × ν)} {k : κ} : getM m k = none ↔ ∀ e ∈ m, e.1 ≠ k := by simp [getM]
theorem getM_some {m : List (κ × ν)} (hn : (m.map (·.1)).Nodup) {k : κ} {v : ν} : getM m k = some v ↔ (k, v) ∈ m := by
  induction m with
  | nil => simp [getM]
  | cons e r ih =>
    obtain ⟨k', v'⟩ := e
    rw [List.map_cons, List.nodup_cons] at hn
    by_cases h : k' = k
    · subst h
      simp only [getM, List.find?_cons, decide_true, Option.map_some, Option.some.injEq, List.mem_cons, Prod.mk.injEq, true_and]
      constructor
      · intro e; exact Or.inl e.symm
      · rintro (e | e)
        · exact e.symm
        · exact absurd (List.mem_map.2 ⟨_, e, rfl⟩) hn.1
    · have : getM ((k', v') :: r) k = getM r k := by simp [getM, h]
      rw [this, ih hn.2]
      simp [Ne.symm h]
theorem getM_mem {m : List (κ × ν)} {k : κ} {v : ν} (h : getM m k = some v) : (k, v) ∈ m := by
  simp only [getM, Option.map_eq_some_iff] at h
  obtain ⟨⟨k', v'⟩, h1, rfl⟩ := h
  have h2 := List.find?_some h1
  simp only [decide_eq_true_eq] at h2
  subst h2
  exact List.mem_of_find?_eq_some h1
theorem getM_append (m m' : List (κ × ν)) (k : κ) : getM (m ++ m') k = (getM m k).or (getM m' k) := by
  simp only [getM, List.find?_append]
  cases List.find? (fun e : κ × ν => decide (e.1 = k)) m <;> simp
theorem getM_cons (e : κ × ν) (r : List (κ × ν)) (k : κ) : getM (e :: r) k = if e.1 = k then some e.2 else getM r k := by
  by_cases h : e.1 = k <;> simp [getM, h]
theorem getM_map (m : List (κ × ν)) (k : κ) (v : ν) (k' : κ) : getM (m.map fun e => if e.1 = k then (k, v) else e) k' = if k' = k then (getM m k).map (fun _ => v) else getM m k' := by
  induction m with
  | nil => simp [getM]
  | cons e r ih =>
    rw [List.map_cons, getM_cons, getM_cons, getM_cons, ih]
    by_cases h1 : e.1 = k
    · by_cases h2 : k' = k
      · subst h2; simp [h1]
      · have h3 : ¬ k = k' := fun e => h2 e.symm
        simp [h1, h2, h3]
    · by_cases h2 : k' = k
      · subst h2; simp [h1]
      · simp [h1, h2]
theorem getM_put (m : List (κ × ν)) (k : κ) (v : ν) (k' : κ) : getM (putM m k v) k' = if k' = k then some v else getM m k' := by
  unfold putM
  cases h : getM m k with
  | some u =>
    simp only [Option.isSome_some, if_true]
    rw [getM_map, h]; simp
  | none =>
    simp only [Option.isSome_none, Bool.false_eq_true, if_false]
    rw [getM_append]
    by_cases h2 : k' = k
    · subst h2; rw [h, if_pos rfl]; simp [getM]
    · rw [if_neg h2]
      have : ¬ k = k' := fun e => h2 e.symm
      simp [getM, this]
theorem getM_touch (m : List (κ × ν)) (k : κ) (z : ν) (k' : κ) : getM (touchM m k z) k' = if k' = k then some ((getM m k).getD z) else getM m k' := by
  unfold touchM
  cases h : getM m k with
  | some u =>
    simp only [Option.isSome_some, if_true, Option.getD_some]
    by_cases h2 : k' = k
    · subst h2; rw [if_pos rfl, h]
    · rw [if_neg h2]
  | none =>
    simp only [Option.isSome_none, Bool.false_eq_true, if_false, Option.getD_none]
    rw [getM_append]
    by_cases h2 : k' = k
    · subst h2; rw [h, if_pos rfl]; simp [getM]
    · rw [if_neg h2]
      have : ¬ k = k' := fun e => h2 e.symm
      simp [getM, this]
theorem getM_del (m : List (κ × ν)) (k : κ) (k' : κ) : getM (delM m k) k' = if k' = k then none else getM m k' := by
  unfold delM
  by_cases h2 : k' = k
  · subst h2; rw [if_pos rfl, getM_none]
    intro e he; simp at he; exact he.2
  · rw [if_neg h2]
    induction m with
    | nil => rfl
    | cons e r ih =>
      by_cases h1 : e.1 = k
      · rw [List.filter_cons_of_neg (by simp [h1]), ih]
        have : ¬ e.1 = k' := fun e' => h2 (by rw [← e', h1])
        simp [getM, this]
      · rw [List.filter_cons_of_pos (by simp [h1])]
        by_cases h4 : e.1 = k'
        · simp [getM, h4]
        · simp only [getM] at ih ⊢
          rw [List.find?_cons, List.find?_cons]
          simp only [h4, decide_false]; exact ih
/-- a key is looked for -/
theorem find_run {K : TypeId} (E : KeyE P K eK) (w : World) (k : κ) {es : List (κ × ν × Nat)} (hn : (es.map (·.1)).Nodup) :
    (getM (es.map prj) k = none ∧ (Instr.findKey K (eK k) (es.map (entE eK eV))).run P w = .ok none w) ∨ ∃ j v b, es[j]? = some (k, v, b) ∧ getM (es.map prj) k = some v ∧ (Instr.findKey K (eK k) (es.map (entE eK eV))).run P w = .ok (some (j, eV v)) w := by
  obtain ⟨lx, hlx⟩ := E.key k
  have hn' : ((es.map prj).map (·.1)).Nodup := by rw [List.map_map]; exact hn
  rcases E.law.find w hlx (es.map (entE eK eV)) (fun e he => by
    obtain ⟨e', _, rfl⟩ := List.mem_map.1 he
    exact E.key e'.1) with ⟨h1, h2⟩ | ⟨j, e, h1, h2, h3⟩
  · refine Or.inl ⟨?_, h1⟩
    rw [getM_none]
    intro e he ek
    obtain ⟨e', he', rfl⟩ := List.mem_map.1 he
    exact h2 (entE eK eV e') (List.mem_map.2 ⟨e', he', rfl⟩) (by show eK e'.1 = eK k; rw [← ek]; rfl)
  · rw [List.getElem?_map, Option.map_eq_some_iff] at h2
    obtain ⟨⟨k', v, b⟩, h4, rfl⟩ := h2
    have hk : k' = k := E.inj _ _ h3
    subst hk
    refine Or.inr ⟨j, v, b, h4, ?_, h1⟩
    rw [getM_some hn']
    exact List.mem_map.2 ⟨_, List.mem_of_getElem? h4, rfl⟩
end
section
variable {κ ν : Type} {eK : κ → Value} {eV : ν → Value} {P : Program} {w : World} {B clk : Nat} {T K V : TypeId}
theorem check_run {K : TypeId} (E : KeyE P K eK) (w : World) (k : κ) (b : Bool) : (Instr.checkKey b 10000 K (eK k)).run P w = .ok () w := by
  obtain ⟨l, hl⟩ := E.key k; exact E.law.check w b hl
end
section
variable {κ ν : Type} [DecidableEq κ] {eK : κ → Value} {eV : ν → Value} {P : Program} {w : World} {B clk : Nat} {T K V : TypeId}
end
section
variable {κ ν : Type} {eK : κ → Value} {eV : ν → Value} {P : Program} {w : World} {B clk : Nat} {T K V : TypeId}
theorem stays_run {K : TypeId} (E : KeyE P K eK) (w : World) (k : κ) : (Instr.keyThatStays (eK k) (eK k)).run P w = .ok (eK k) w := by
  obtain ⟨l, hl⟩ := E.key k; exact E.law.stays w hl
end
section
variable {κ ν : Type} [DecidableEq κ] {eK : κ → Value} {eV : ν → Value} {P : Program} {w : World} {B clk : Nat} {T K V : TypeId}
variable {T K V : TypeId}
theorem run_lookupM (ht : P.underlying T = some (.map K V)) (E : KeyE P K eK) {z : ν} (hz : ∀ w, (zeroValue V).run P w = .ok (eV z) w) {m : List (κ × ν)} (h : Mp eK eV w B m) (k : κ) (c : Bool) :
    (Instr.lookup T (.map (some B)) (eK k) c).run P w = .ok (if c then .tuple #[eV ((getM m k).getD z), .bool (getM m k).isSome] else eV ((getM m k).getD z)) w := by
  obtain ⟨es, clk, hE, rfl⟩ := h
  rcases find_run (eV := eV) E w k hE.keys with ⟨h1, h2⟩ | ⟨j, v, b, h1, h2, h3⟩
  · simp [Instr.lookup, run_underlying ht, MapKept.run_getObj_map hE.heap, check_run E, h2, h1, hz]
  · simp [Instr.lookup, run_underlying ht, MapKept.run_getObj_map hE.heap, check_run E, h3, h2]
end
section
variable {κ ν : Type} {eK : κ → Value} {eV : ν → Value} {P : Program} {w : World} {B clk : Nat} {T K V : TypeId}
theorem run_lookup0 (ht : P.underlying T = some (.map K V)) (E : KeyE P K eK) {z : ν} (hz : ∀ w, (zeroValue V).run P w = .ok (eV z) w) (k : κ) (c : Bool) :
    (Instr.lookup T (.map none) (eK k) c).run P w = .ok (if c then .tuple #[eV z, .bool false] else eV z) w := by
  obtain ⟨lx, hlx⟩ := E.key k
  have h0 : (Instr.findKey K (eK k) ([] : List MapEntry)).run P w = .ok none w := by
    rcases E.law.find w hlx [] (by simp) with ⟨h1, _⟩ | ⟨j, e, _, h2, _⟩
    · exact h1
    · simp at h2
  simp [Instr.lookup, run_underlying ht, check_run E, h0, hz]
end
section
variable {κ ν : Type} [DecidableEq κ] {eK : κ → Value} {eV : ν → Value} {P : Program} {w : World} {B clk : Nat} {T K V : TypeId}
end
section
variable {κ ν : Type} {eK : κ → Value} {eV : ν → Value} {P : Program} {w : World} {B clk : Nat} {T K V : TypeId}
theorem mod_es {es : List (κ × ν × Nat)} {j : Nat} {e e' : κ × ν × Nat} {f : MapEntry → MapEntry} (h : es[j]? = some e) (hf : f (entE eK eV e) = entE eK eV e') : (es.map (entE eK eV)).toArray.modify j f = ((es.set j e').map (entE eK eV)).toArray := by
  apply Array.ext_getElem?
  intro i
  rw [Array.getElem?_modify]
  simp only [List.getElem?_toArray, List.getElem?_map, List.getElem?_set]
  have hlt : j < es.length := (List.getElem?_eq_some_iff.1 h).1
  by_cases hij : j = i
  · subst hij; rw [if_pos rfl, if_pos rfl, if_pos hlt, h]; simp [hf]
  · simp [hij]
end
section
variable {κ ν : Type} [DecidableEq κ] {eK : κ → Value} {eV : ν → Value} {P : Program} {w : World} {B clk : Nat} {T K V : TypeId}
theorem putM_es {es : List (κ × ν × Nat)} (hn : (es.map (·.1)).Nodup) {j : Nat} {k : κ} {u v : ν} {b : Nat} (h : es[j]? = some (k, u, b)) : (es.set j (k, v, b)).map prj = putM (es.map prj) k v := by
  have hn' : ((es.map prj).map (·.1)).Nodup := by rw [List.map_map]; exact hn
  have hg : getM (es.map prj) k = some u := by rw [getM_some hn']; exact List.mem_map.2 ⟨_, List.mem_of_getElem? h, rfl⟩
  unfold putM
  rw [hg]
  simp only [Option.isSome_some, if_true]
  refine List.ext_getElem? fun i => ?_
  rw [List.getElem?_map, List.getElem?_map, List.getElem?_map, List.getElem?_set]
  by_cases hij : j = i
  · subst hij
    have hlt : j < es.length := (List.getElem?_eq_some_iff.1 h).1
    rw [if_pos rfl, if_pos hlt, h]
    simp [prj]
  · rw [if_neg hij]
    cases hi : es[i]? with
    | none => rfl
    | some e =>
      have hne : e.1 ≠ k := fun e' => by
        have h1 : i < (es.map (·.1)).length := by simpa using (List.getElem?_eq_some_iff.1 hi).1
        have h2 : (es.map (·.1))[i]? = (es.map (·.1))[j]? := by simp [hi, h, e']
        exact hij ((List.getElem?_inj h1 hn).1 h2).symm
      simp [prj, hne]
end
section
variable {κ ν : Type} {eK : κ → Value} {eV : ν → Value} {P : Program} {w : World} {B clk : Nat} {T K V : TypeId}
theorem MpE.set {es : List (κ × ν × Nat)} (h : MpE eK eV w B es clk) {j : Nat} {k : κ} {u v : ν} {b : Nat} (hj : es[j]? = some (k, u, b)) : MpE eK eV { w with heap := w.heap.setIfInBounds B (.map ((es.set j (k, v, b)).map (entE eK eV)).toArray clk) } B (es.set j (k, v, b)) clk := by
  have hlt : j < es.length := (List.getElem?_eq_some_iff.1 hj).1
  have e1 : ∀ {β : Type} (f : κ × ν × Nat → β), f (k, v, b) = f (k, u, b) → (es.set j (k, v, b)).map f = es.map f := fun f hf => by
    refine List.ext_getElem? fun i => ?_
    rw [List.getElem?_map, List.getElem?_map, List.getElem?_set]
    by_cases hij : j = i
    · subst hij; rw [if_pos rfl, if_pos hlt, hj]; simp [hf]
    · rw [if_neg hij]
  refine ⟨?_, ?_, ?_, fun e he => ?_⟩
  · show (w.heap.setIfInBounds B _)[B]? = _
    rw [Array.getElem?_setIfInBounds_self_of_lt h.lt']
  · rw [e1 _ rfl]; exact h.keys
  · rw [e1 _ rfl]; exact h.born
  · rcases List.mem_or_eq_of_mem_set he with he | rfl
    · exact h.lt e he
    · exact h.lt (k, u, b) (List.mem_of_getElem? hj)
end
section
variable {κ ν : Type} [DecidableEq κ] {eK : κ → Value} {eV : ν → Value} {P : Program} {w : World} {B clk : Nat} {T K V : TypeId}
theorem MpE.push {es : List (κ × ν × Nat)} (h : MpE eK eV w B es clk) {k : κ} {v : ν} (hk : getM (es.map prj) k = none) : MpE eK eV { w with heap := w.heap.setIfInBounds B (.map ((es ++ [(k, v, clk)]).map (entE eK eV)).toArray (clk + 1)) } B (es ++ [(k, v, clk)]) (clk + 1) := by
  rw [getM_none] at hk
  refine ⟨?_, ?_, ?_, fun e he => ?_⟩
  · show (w.heap.setIfInBounds B _)[B]? = _
    rw [Array.getElem?_setIfInBounds_self_of_lt h.lt']
  · rw [List.map_append, List.nodup_append]
    refine ⟨h.keys, by simp, ?_⟩
    intro a ha b hb e
    simp at hb; subst hb; subst e
    obtain ⟨e, he, rfl⟩ := List.mem_map.1 ha
    exact hk _ (List.mem_map.2 ⟨e, he, rfl⟩) rfl
  · rw [List.map_append, List.nodup_append]
    refine ⟨h.born, by simp, ?_⟩
    intro a ha b hb e
    simp at hb; subst hb; subst e
    obtain ⟨e, he, rfl⟩ := List.mem_map.1 ha
    exact Nat.lt_irrefl _ (h.lt e he)
  · rcases List.mem_append.1 he with he | he
    · exact Nat.lt_succ_of_lt (h.lt e he)
    · simp at he; subst he; exact Nat.lt_succ_self _
theorem grown_set (w : World) (B : Nat) (o : Obj) : w.grownBy { w with heap := w.heap.setIfInBounds B o } (some B) := ⟨rfl, rfl, rfl, by simp, fun q hq hne => by
  show (w.heap.setIfInBounds B o)[q]? = _
  rw [Array.getElem?_setIfInBounds_ne (fun e => hne (by rw [e]))]⟩
theorem putM_new {m : List (κ × ν)} {k : κ} {v : ν} (h : getM m k = none) : putM m k v = m ++ [(k, v)] := by simp [putM, h]
/-- m[k] = v -/
theorem run_updateM (ht : P.underlying T = some (.map K V)) (E : KeyE P K eK) {m : List (κ × ν)} (h : Mp eK eV w B m) (k : κ) (v : ν) :
    ∃ w', (Instr.mapUpdate T (.map (some B)) (eK k) (eV v)).run P w = .ok () w' ∧ Mp eK eV w' B (putM m k v) ∧ w.grownBy w' (some B) ∧ w'.heap.size = w.heap.size := by
  obtain ⟨es, clk, hE, rfl⟩ := h
  simp only [Instr.mapUpdate, Sem.run_bind, run_underlying ht, Result.andThen, MapKept.run_getObj_map hE.heap, check_run E]
  rcases find_run (eV := eV) E w k hE.keys with ⟨h1, h2⟩ | ⟨j, u, b, h1, h2, h3⟩
  · refine ⟨_, ?_, ⟨es ++ [(k, v, clk)], clk + 1, hE.push h1, ?_⟩, grown_set _ _ _, by simp⟩
    · simp only [h2, MapKept.run_setObj_map _ hE.heap]
      simp [entE]
    · rw [putM_new h1, List.map_append]; rfl
  · refine ⟨_, ?_, ⟨es.set j (k, v, b), clk, hE.set h1, putM_es hE.keys h1⟩, grown_set _ _ _, by simp⟩
    have e1 : (((es.map (entE eK eV)).toArray[j]?).map (·.key)).getD (eK k) = eK k := by simp [h1, entE]
    simp only [h3, e1, stays_run E, MapKept.run_setObj_map _ hE.heap, Sem.run_bind, Result.andThen]
    rw [mod_es h1 (e' := (k, v, b)) rfl]
/-- .. and a place for it -/
def MpS (eK : κ → Value) (eV : ν → Value) (w : World) (B : Nat) (m : List (κ × ν)) (k : κ) (n : Nat) : Prop := ∃ es clk, MpE eK eV w B es clk ∧ es.map prj = m ∧ ∃ v, (k, v, n) ∈ es
end
section
variable {κ ν : Type} {eK : κ → Value} {eV : ν → Value} {P : Program} {w : World} {B clk : Nat} {T K V : TypeId}
theorem MpS.mono {m : List (κ × ν)} {k : κ} {n : Nat} (h : MpS eK eV w B m k n) {w' : World} (hb : Below w.heap.size w w') : MpS eK eV w' B m k n := by
  obtain ⟨es, clk, h1, h2⟩ := h; exact ⟨es, clk, h1.mono hb, h2⟩
end
section
variable {κ ν : Type} [DecidableEq κ] {eK : κ → Value} {eV : ν → Value} {P : Program} {w : World} {B clk : Nat} {T K V : TypeId}
end
section
variable {κ ν : Type} {eK : κ → Value} {eV : ν → Value} {P : Program} {w : World} {B clk : Nat} {T K V : TypeId}
theorem MpS.mp {m : List (κ × ν)} {k : κ} {n : Nat} (h : MpS eK eV w B m k n) : Mp eK eV w B m := by
  obtain ⟨es, clk, h1, h2, _⟩ := h; exact ⟨es, clk, h1, h2⟩
end
section
variable {κ ν : Type} [DecidableEq κ] {eK : κ → Value} {eV : ν → Value} {P : Program} {w : World} {B clk : Nat} {T K V : TypeId}
theorem run_entryM (ht : P.underlying T = some (.map K V)) (E : KeyE P K eK) {z : ν} (hz : ∀ w, (zeroValue V).run P w = .ok (eV z) w) {m : List (κ × ν)} (h : Mp eK eV w B m) (k : κ) :
    ∃ w' n, (Instr.mapEntry T (.map (some B)) (eK k)).run P w = .ok (.tuple #[eV ((getM m k).getD z), .int .i64 (n : Nat)]) w' ∧ MpS eK eV w' B (touchM m k z) k n ∧ w.grownBy w' (some B) ∧ w'.heap.size = w.heap.size := by
  obtain ⟨es, clk, hE, rfl⟩ := h
  simp only [Instr.mapEntry, Sem.run_bind, run_underlying ht, Result.andThen, MapKept.run_getObj_map hE.heap, check_run E]
  rcases find_run (eV := eV) E w k hE.keys with ⟨h1, h2⟩ | ⟨j, u, b, h1, h2, h3⟩
  · refine ⟨_, clk, ?_, ⟨es ++ [(k, z, clk)], clk + 1, hE.push h1, ?_, z, by simp⟩, grown_set _ _ _, by simp⟩
    · simp only [h2, hz, MapKept.run_setObj_map _ hE.heap, Sem.run_bind, Result.andThen, h1, Option.getD_none]
      simp [entE, goInt]
    · simp only [touchM, h1, Option.isSome_none, Bool.false_eq_true, if_false, List.map_append]; rfl
  · refine ⟨_, b, ?_, ⟨es.set j (k, u, b), clk, hE.set h1, ?_, u, ?_⟩, grown_set _ _ _, by simp⟩
    · have e1 : (((es.map (entE eK eV)).toArray[j]?).map (·.key)).getD (eK k) = eK k := by simp [h1, entE]
      have e2 : (((es.map (entE eK eV)).toArray[j]?).map (fun x => (x.born : Int))).getD 0 = (b : Int) := by simp [h1, entE]
      simp only [h3, e1, e2, stays_run E, MapKept.run_setObj_map _ hE.heap, Sem.run_bind, Result.andThen, h2, Option.getD_some]
      rw [mod_es h1 (e' := (k, u, b)) rfl]
      simp [goInt]
    · rw [putM_es hE.keys h1]
      simp only [touchM, h2, Option.isSome_some, if_true, putM]
      have hn := Mp.nodup (eK := eK) (eV := eV) (w := w) (B := B) ⟨es, clk, hE, rfl⟩
      conv => rhs; rw [← List.map_id (es.map prj)]
      refine List.map_congr_left fun e he => ?_
      split
      · rename_i hk
        have : getM (es.map prj) k = some e.2 := (getM_some hn).2 (by rw [← hk]; exact he)
        rw [h2] at this; injection this with this
        rw [this, ← hk]; rfl
      · rfl
    · have hlt : j < es.length := (List.getElem?_eq_some_iff.1 h1).1
      exact List.mem_of_getElem? (i := j) (by rw [List.getElem?_set, if_pos rfl, if_pos hlt])
end
section
variable {κ ν : Type} {eK : κ → Value} {eV : ν → Value} {P : Program} {w : World} {B clk : Nat} {T K V : TypeId}
theorem getM_stamp {es : List (κ × ν × Nat)} (hk : (es.map (·.2.2)).Nodup) {j : Nat} {k : κ} {v : ν} {n : Nat} (h : es[j]? = some (k, v, n)) : (es.map (entE eK eV)).toArray.findIdx? (fun e => (e.born : Int) == (n : Nat)) = some j := by
  rw [Array.findIdx?_eq_some_iff_findIdx_eq]
  have hlt : j < es.length := (List.getElem?_eq_some_iff.1 h).1
  refine ⟨by simpa using hlt, ?_⟩
  rw [List.findIdx_toArray, List.findIdx_eq (by simpa using hlt)]
  obtain ⟨_, h2⟩ := List.getElem?_eq_some_iff.1 h
  refine ⟨by simp [entE, h2], fun i hi => ?_⟩
  have h3 : i < es.length := by omega
  simp only [List.getElem_map, entE, beq_eq_false_iff_ne, ne_eq]
  intro e
  have e' : (es[i]).2.2 = n := by omega
  have h4 : (es.map (·.2.2))[i]? = (es.map (·.2.2))[j]? := by simp [h, List.getElem?_eq_getElem h3, e']
  have := (List.getElem?_inj (by simpa using h3) hk).1 h4
  omega
end
section
variable {κ ν : Type} [DecidableEq κ] {eK : κ → Value} {eV : ν → Value} {P : Program} {w : World} {B clk : Nat} {T K V : TypeId}
theorem putM_touch (m : List (κ × ν)) (k : κ) (z v : ν) : putM (touchM m k z) k v = putM m k v := by
  unfold putM
  rw [getM_touch, if_pos rfl]
  unfold touchM
  cases h : getM m k with
  | some u => simp
  | none =>
    simp only [Option.isSome_none, Bool.false_eq_true, if_false, Option.getD_none, Option.isSome_some, if_true, List.map_append]
    congr 1
    · conv => rhs; rw [← List.map_id m]
      exact List.map_congr_left fun e he => by rw [if_neg (getM_none.1 h e he)]; rfl
    · simp
theorem run_entryStoreM (T : TypeId) {m : List (κ × ν)} {k : κ} {n : Nat} (h : MpS eK eV w B m k n) (v : ν) :
    ∃ w', (Instr.entryStore T (.map (some B)) (.int .i64 (n : Nat)) (eV v)).run P w = .ok () w' ∧ Mp eK eV w' B (putM m k v) ∧ w.grownBy w' (some B) ∧ w'.heap.size = w.heap.size := by
  obtain ⟨es, clk, hE, rfl, u, hu⟩ := h
  obtain ⟨j, hj⟩ := List.getElem?_of_mem hu
  refine ⟨_, ?_, ⟨es.set j (k, v, n), clk, hE.set hj, putM_es hE.keys hj⟩, grown_set _ _ _, by simp⟩
  simp only [Instr.entryStore, Sem.run_bind, Result.andThen, MapKept.run_getObj_map hE.heap, asInt, asIntOf, Sem.run_pure, getM_stamp hE.born hj, MapKept.run_setObj_map _ hE.heap]
  rw [mod_es hj (e' := (k, v, n)) rfl]
theorem erase_key : ∀ (es : List (κ × ν × Nat)) (j : Nat) {k : κ} {u : ν} {b : Nat}, (es.map (·.1)).Nodup → es[j]? = some (k, u, b) → (es.eraseIdx j).map prj = (es.map prj).filter fun e => !decide (e.1 = k)
  | [], j, _, _, _, _, h => by simp at h
  | e :: r, 0, k, u, b, hn, h => by
    rw [List.map_cons, List.nodup_cons] at hn
    simp only [List.getElem?_cons_zero, Option.some.injEq] at h
    subst h
    rw [List.eraseIdx_cons_zero, List.map_cons, List.filter_cons_of_neg (by simp [prj])]
    symm
    rw [List.filter_eq_self]
    intro e he
    obtain ⟨e', he', rfl⟩ := List.mem_map.1 he
    have : e'.1 ≠ k := fun e2 => hn.1 (List.mem_map.2 ⟨e', he', e2⟩)
    simp [prj, this]
  | e :: r, j + 1, k, u, b, hn, h => by
    rw [List.map_cons, List.nodup_cons] at hn
    simp only [List.getElem?_cons_succ] at h
    have hne : e.1 ≠ k := fun e2 => hn.1 (List.mem_map.2 ⟨_, List.mem_of_getElem? h, e2.symm⟩)
    rw [List.eraseIdx_cons_succ, List.map_cons, List.map_cons, List.filter_cons_of_pos (by simp [prj, hne]), erase_key r j hn.2 h]
/-- delete(m, k) -/
theorem run_deleteM {ty : TypeId} {ts : Array TypeId} (hts : ts[0]? = some T) (ht : P.underlying T = some (.map K V)) (E : KeyE P K eK) {m : List (κ × ν)} (h : Mp eK eV w B m) (k : κ) :
    ∃ w', (Builtin.delete_ ts ty #[.map (some B), eK k]).run P w = .ok (.tuple #[]) w' ∧ Mp eK eV w' B (delM m k) ∧ w.grownBy w' (some B) ∧ w'.heap.size = w.heap.size := by
  obtain ⟨es, clk, hE, rfl⟩ := h
  have hs0 : (#[Value.map (some B), eK k] : Array Value)[0]? = some (.map (some B)) := rfl
  have hs1 : (#[Value.map (some B), eK k] : Array Value)[1]? = some (eK k) := rfl
  simp only [Builtin.delete_, hts, hs0, hs1, Sem.run_bind, run_underlying ht, Result.andThen, MapKept.run_getObj_map hE.heap, check_run E]
  rcases find_run (eV := eV) E w k hE.keys with ⟨h1, h2⟩ | ⟨j, u, b, h1, h2, h3⟩
  · refine ⟨{ w with heap := w.heap.setIfInBounds B (.map (es.map (entE eK eV)).toArray clk) }, by simp [h2, MapKept.run_setObj_map _ hE.heap], ⟨es, clk, ⟨?_, hE.keys, hE.born, hE.lt⟩, ?_⟩, grown_set _ _ _, by simp⟩
    · show (w.heap.setIfInBounds B _)[B]? = _
      rw [Array.getElem?_setIfInBounds_self_of_lt hE.lt']
    · unfold delM
      symm
      rw [List.filter_eq_self]
      intro e he
      simp [getM_none.1 h1 e he]
  · have hlt : j < es.length := (List.getElem?_eq_some_iff.1 h1).1
    refine ⟨{ w with heap := w.heap.setIfInBounds B (.map ((es.eraseIdx j).map (entE eK eV)).toArray clk) }, by simp [h3, MapKept.run_setObj_map _ hE.heap, ChangeMaps.map_eraseIdx], ⟨es.eraseIdx j, clk, ⟨?_, ?_, ?_, fun e he => hE.lt e (List.mem_of_mem_eraseIdx he)⟩, ?_⟩, grown_set _ _ _, by simp⟩
    · show (w.heap.setIfInBounds B _)[B]? = _
      rw [Array.getElem?_setIfInBounds_self_of_lt hE.lt']
    · rw [ChangeMaps.map_eraseIdx]; exact hE.keys.sublist (List.eraseIdx_sublist _ _)
    · rw [ChangeMaps.map_eraseIdx]; exact hE.born.sublist (List.eraseIdx_sublist _ _)
    · exact erase_key es j hE.keys h1
end
section
variable {κ ν : Type} [DecidableEq κ] {eK : κ → Value} {eV : ν → Value} {P : Program} {n : Nat} {l : Fr} {w : World} {B : Nat} {Q : Exit → Act → World → Prop} {ops : Array Oper} {os : List Oper} {d : Option Nat} {ty : TypeId} {pos : String} {af : Array Edge} {g : Option (Nat × Bool)} {T K V : TypeId} {x y z : Operand}
/-! ### the operations -/
theorem ev_makeMap : Ev P n l ⟨d, .makeMap T none, ty, pos, af, g⟩ (.map (some w.heap.size)) w (w.alloc (.map #[] 0)) := ⟨fun A hA => by
  have h : (Instr.makeMap T none).run P w = .ok (.map (some w.heap.size)) (w.alloc (.map #[] 0)) := rfl
  simp [execOp, h]⟩
end
section
variable {κ ν : Type} {eK : κ → Value} {eV : ν → Value} {P : Program} {n : Nat} {l : Fr} {w : World} {B : Nat} {Q : Exit → Act → World → Prop} {ops : Array Oper} {os : List Oper} {d : Option Nat} {ty : TypeId} {pos : String} {af : Array Edge} {g : Option (Nat × Bool)} {T K V : TypeId} {x y z : Operand}
theorem lw_makeMap (eK : κ → Value) (eV : ν → Value) {d : Nat} (hd : Nat.blt d n = true) (h : ∀ N w', w.heap.size ≤ N → Mp eK eV w' N [] → Below w.heap.size w w' → LW P n ops Q os ((d, .map (some N)) :: l) w') :
    LW P n ops Q (⟨some d, .makeMap T none, ty, pos, af, none⟩ :: os) l w := lw_eff hd ev_makeMap (h _ _ (Nat.le_refl _) (Mp.new eK eV w) (below_alloc _ _))
end
section
variable {κ ν : Type} [DecidableEq κ] {eK : κ → Value} {eV : ν → Value} {P : Program} {n : Nat} {l : Fr} {w : World} {B : Nat} {Q : Exit → Act → World → Prop} {ops : Array Oper} {os : List Oper} {d : Option Nat} {ty : TypeId} {pos : String} {af : Array Edge} {g : Option (Nat × Bool)} {T K V : TypeId} {x y z : Operand}
theorem pv_lookupM (ht : P.underlying T = some (.map K V)) (E : KeyE P K eK) {zv : ν} (hz : ∀ w, (zeroValue V).run P w = .ok (eV zv) w) {m : List (κ × ν)} {k : κ} (hx : ev l x = some (.map (some B))) (hy : ev l y = some (eK k)) (h : Mp eK eV w B m) :
    Pv P n l ⟨d, .lookup T x y false, ty, pos, af, g⟩ (eV ((getM m k).getD zv)) w := ⟨fun A hA => by
  have := run_lookupM (w := w) ht E hz h k false
  simp only [Bool.false_eq_true, if_false] at this
  simp [execOp, hA.ev hx, hA.ev hy, this]⟩
theorem pv_lookupM_ok (ht : P.underlying T = some (.map K V)) (E : KeyE P K eK) {zv : ν} (hz : ∀ w, (zeroValue V).run P w = .ok (eV zv) w) {m : List (κ × ν)} {k : κ} (hx : ev l x = some (.map (some B))) (hy : ev l y = some (eK k)) (h : Mp eK eV w B m) :
    Pv P n l ⟨d, .lookup T x y true, ty, pos, af, g⟩ (.tuple #[eV ((getM m k).getD zv), .bool (getM m k).isSome]) w := ⟨fun A hA => by
  have := run_lookupM (w := w) ht E hz h k true
  simp only [if_true] at this
  simp [execOp, hA.ev hx, hA.ev hy, this]⟩
end
section
variable {κ ν : Type} {eK : κ → Value} {eV : ν → Value} {P : Program} {n : Nat} {l : Fr} {w : World} {B : Nat} {Q : Exit → Act → World → Prop} {ops : Array Oper} {os : List Oper} {d : Option Nat} {ty : TypeId} {pos : String} {af : Array Edge} {g : Option (Nat × Bool)} {T K V : TypeId} {x y z : Operand}
theorem pv_lenM {ts : Array TypeId} (hts : ts[0]? = some T) (ht : P.underlying T = some (.map K V)) {m : List (κ × ν)} (hx : ev l x = some (.map (some B))) (h : Mp eK eV w B m) :
    Pv P n l ⟨d, .call ⟨.builtin .len, #[x], ts⟩, ty, pos, af, g⟩ (.int .i64 (m.length : Nat)) w := ⟨fun A hA => by
  obtain ⟨es, clk, hE, rfl⟩ := h
  simp [execOp, resolve, hA.ev hx, invoke, builtin, Builtin.len_, hts, run_underlying ht, MapKept.run_getObj_map hE.heap, goInt]⟩
end
section
variable {κ ν : Type} [DecidableEq κ] {eK : κ → Value} {eV : ν → Value} {P : Program} {n : Nat} {l : Fr} {w : World} {B : Nat} {Q : Exit → Act → World → Prop} {ops : Array Oper} {os : List Oper} {d : Option Nat} {ty : TypeId} {pos : String} {af : Array Edge} {g : Option (Nat × Bool)} {T K V : TypeId} {x y z : Operand}
theorem lw_skips {op : Op} {Φ : World → Prop} (hv : ∀ a, Holds n l a → ∃ w', (execOp a.eval ⟨none, op, ty, pos, af, none⟩).run P w = .ok .skip w' ∧ Φ w') (h : ∀ w', Φ w' → LW P n ops Q os l w') :
    LW P n ops Q (⟨none, op, ty, pos, af, none⟩ :: os) l w := ⟨fun a ha => wpList_plain rfl fun K hK => by
  obtain ⟨w', h1, h2⟩ := hv a ha
  unfold Oper.wp; rw [h1]; exact hK _ _ ((h w' h2).out _ ha)⟩
theorem act_svs {op : Op} {Z : Value → World → Prop} {Φ : World → Prop} (hv : ∀ a, Holds n l a → ∃ w', (execOp a.eval ⟨d, op, ty, pos, af, g⟩).run P w = .ok .skip w' ∧ Φ w') (h : ∀ w', Φ w' → Z undef w') : Act1 P n l ⟨d, op, ty, pos, af, g⟩ w Z := ⟨fun a ha K Q hK => by
  obtain ⟨w', h1, h2⟩ := hv a ha
  unfold Oper.wp; rw [h1]; exact hK _ _ (h w' h2)⟩
theorem some_updateM (ht : P.underlying T = some (.map K V)) (E : KeyE P K eK) {m : List (κ × ν)} {k : κ} {v : ν} (hx : ev l x = some (.map (some B))) (hy : ev l y = some (eK k)) (hz : ev l z = some (eV v)) (h : Mp eK eV w B m) :
    ∀ a, Holds n l a → ∃ w', (execOp a.eval ⟨d, .mapUpdate T x y z, ty, pos, af, g⟩).run P w = .ok .skip w' ∧ (Mp eK eV w' B (putM m k v) ∧ w.grownBy w' (some B) ∧ w'.heap.size = w.heap.size) := fun A hA => by
  obtain ⟨w', h1, h2⟩ := run_updateM (w := w) ht E h k v
  exact ⟨w', by simp [execOp, hA.ev hx, hA.ev hy, hA.ev hz, h1], h2⟩
theorem lw_updateM (ht : P.underlying T = some (.map K V)) (E : KeyE P K eK) {m : List (κ × ν)} {k : κ} {v : ν} (hx : ev l x = some (.map (some B))) (hy : ev l y = some (eK k)) (hz : ev l z = some (eV v)) (h : Mp eK eV w B m)
    (hc : ∀ w', Mp eK eV w' B (putM m k v) → w.grownBy w' (some B) → w'.heap.size = w.heap.size → LW P n ops Q os l w') : LW P n ops Q (⟨none, .mapUpdate T x y z, ty, pos, af, none⟩ :: os) l w :=
  lw_skips (some_updateM ht E hx hy hz h) fun w' ⟨h1, h2, h3⟩ => hc w' h1 h2 h3
theorem some_entryM (ht : P.underlying T = some (.map K V)) (E : KeyE P K eK) {zv : ν} (hz : ∀ w, (zeroValue V).run P w = .ok (eV zv) w) {m : List (κ × ν)} {k : κ} (hx : ev l x = some (.map (some B))) (hy : ev l y = some (eK k)) (h : Mp eK eV w B m) :
    ∀ a, Holds n l a → ∃ v w', (execOp a.eval ⟨d, .mapEntry T x y, ty, pos, af, g⟩).run P w = .ok (.value v) w' ∧ ∃ s : Nat, v = .tuple #[eV ((getM m k).getD zv), .int .i64 (s : Nat)] ∧ MpS eK eV w' B (touchM m k zv) k s ∧ w.grownBy w' (some B) ∧ w'.heap.size = w.heap.size := fun A hA => by
  obtain ⟨w', s, h1, h2⟩ := run_entryM (w := w) ht E hz h k
  exact ⟨_, w', by simp [execOp, hA.ev hx, hA.ev hy, h1], s, rfl, h2⟩
theorem some_entryStoreM {m : List (κ × ν)} {k : κ} {v : ν} {s : Nat} (hx : ev l x = some (.map (some B))) (hy : ev l y = some (.int .i64 (s : Nat))) (hz : ev l z = some (eV v)) (h : MpS eK eV w B m k s) :
    ∀ a, Holds n l a → ∃ w', (execOp a.eval ⟨d, .entryStore T x y z, ty, pos, af, g⟩).run P w = .ok .skip w' ∧ (Mp eK eV w' B (putM m k v) ∧ w.grownBy w' (some B) ∧ w'.heap.size = w.heap.size) := fun A hA => by
  obtain ⟨w', h1, h2⟩ := run_entryStoreM (P := P) (w := w) T h v
  exact ⟨w', by simp [execOp, hA.ev hx, hA.ev hy, hA.ev hz, h1], h2⟩
theorem some_deleteM {ts : Array TypeId} (hts : ts[0]? = some T) (ht : P.underlying T = some (.map K V)) (E : KeyE P K eK) {m : List (κ × ν)} {k : κ} (hx : ev l x = some (.map (some B))) (hy : ev l y = some (eK k)) (h : Mp eK eV w B m) :
    ∀ a, Holds n l a → ∃ v w', (execOp a.eval ⟨d, .call ⟨.builtin .delete, #[x, y], ts⟩, ty, pos, af, g⟩).run P w = .ok (.value v) w' ∧ (v = .tuple #[] ∧ Mp eK eV w' B (delM m k) ∧ w.grownBy w' (some B) ∧ w'.heap.size = w.heap.size) := fun A hA => by
  obtain ⟨w', h1, h2⟩ := run_deleteM (w := w) (ty := ty) hts ht E h k
  exact ⟨_, w', by simp [execOp, resolve, hA.ev hx, hA.ev hy, invoke, builtin, h1], rfl, h2⟩
/-! ### range -/
/-- an iterator at block I over the map of block B: what is left; which one came last -/
def It (eK : κ → Value) (eV : ν → Value) (w : World) (I B : Nat) (m rest : List (κ × ν)) (cur : Option (κ × ν)) : Prop := ∃ es clk seen c0, MpE eK eV w B es clk ∧ es.map prj = m ∧ w.heap[I]? = some (.mapIter (some B) clk seen c0) ∧ clk ≤ c0 ∧ (es.filter fun e => !seen.contains e.2.2).map prj = rest ∧ (∀ e, cur = some e → ∃ x ∈ es, prj x = e ∧ ∃ s : Array Nat, seen = s.push x.2.2 ∧ c0 = clk)
end
section
variable {κ ν : Type} {eK : κ → Value} {eV : ν → Value} {P : Program} {n : Nat} {l : Fr} {w : World} {B : Nat} {Q : Exit → Act → World → Prop} {ops : Array Oper} {os : List Oper} {d : Option Nat} {ty : TypeId} {pos : String} {af : Array Edge} {g : Option (Nat × Bool)} {T K V : TypeId} {x y z : Operand}
theorem It.mp {I : Nat} {m rest : List (κ × ν)} {cur : Option (κ × ν)} (h : It eK eV w I B m rest cur) : Mp eK eV w B m := by
  obtain ⟨es, clk, _, _, h1, h2, _⟩ := h; exact ⟨es, clk, h1, h2⟩
end
section
variable {κ ν : Type} [DecidableEq κ] {eK : κ → Value} {eV : ν → Value} {P : Program} {n : Nat} {l : Fr} {w : World} {B : Nat} {Q : Exit → Act → World → Prop} {ops : Array Oper} {os : List Oper} {d : Option Nat} {ty : TypeId} {pos : String} {af : Array Edge} {g : Option (Nat × Bool)} {T K V : TypeId} {x y z : Operand}
end
section
variable {κ ν : Type} {eK : κ → Value} {eV : ν → Value} {P : Program} {n : Nat} {l : Fr} {w : World} {B : Nat} {Q : Exit → Act → World → Prop} {ops : Array Oper} {os : List Oper} {d : Option Nat} {ty : TypeId} {pos : String} {af : Array Edge} {g : Option (Nat × Bool)} {T K V : TypeId} {x y z : Operand}
theorem It.mono {I : Nat} {m rest : List (κ × ν)} {cur : Option (κ × ν)} (h : It eK eV w I B m rest cur) {w' : World} (hb : Below w.heap.size w w') : It eK eV w' I B m rest cur := by
  obtain ⟨es, clk, s, c0, h1, h2, h3, h4⟩ := h
  exact ⟨es, clk, s, c0, h1.mono hb, h2, (hb.block I (Array.getElem?_eq_some_iff.1 h3).1).trans h3, h4⟩
end
section
variable {κ ν : Type} [DecidableEq κ] {eK : κ → Value} {eV : ν → Value} {P : Program} {n : Nat} {l : Fr} {w : World} {B : Nat} {Q : Exit → Act → World → Prop} {ops : Array Oper} {os : List Oper} {d : Option Nat} {ty : TypeId} {pos : String} {af : Array Edge} {g : Option (Nat × Bool)} {T K V : TypeId} {x y z : Operand}
end
section
variable {κ ν : Type} {eK : κ → Value} {eV : ν → Value} {P : Program} {n : Nat} {l : Fr} {w : World} {B : Nat} {Q : Exit → Act → World → Prop} {ops : Array Oper} {os : List Oper} {d : Option Nat} {ty : TypeId} {pos : String} {af : Array Edge} {g : Option (Nat × Bool)} {T K V : TypeId} {x y z : Operand}
theorem It.kept {I : Nat} {m rest : List (κ × ν)} {cur : Option (κ × ν)} (h : It eK eV w I B m rest cur) {w' : World} {row : Option Nat} (hg : w.grownBy w' row) (h1 : row ≠ some B) (h2 : row ≠ some I) : It eK eV w' I B m rest cur := by
  obtain ⟨es, clk, s, c0, h3, h4, h5, h6⟩ := h
  exact ⟨es, clk, s, c0, h3.kept hg h1, h4, (hg.block I (Array.getElem?_eq_some_iff.1 h5).1 (fun e => h2 e.symm)).trans h5, h6⟩
end
section
variable {κ ν : Type} [DecidableEq κ] {eK : κ → Value} {eV : ν → Value} {P : Program} {n : Nat} {l : Fr} {w : World} {B : Nat} {Q : Exit → Act → World → Prop} {ops : Array Oper} {os : List Oper} {d : Option Nat} {ty : TypeId} {pos : String} {af : Array Edge} {g : Option (Nat × Bool)} {T K V : TypeId} {x y z : Operand}
end
section
variable {κ ν : Type} {eK : κ → Value} {eV : ν → Value} {P : Program} {n : Nat} {l : Fr} {w : World} {B : Nat} {Q : Exit → Act → World → Prop} {ops : Array Oper} {os : List Oper} {d : Option Nat} {ty : TypeId} {pos : String} {af : Array Edge} {g : Option (Nat × Bool)} {T K V : TypeId} {x y z : Operand}
theorem It.bound {I : Nat} {m rest : List (κ × ν)} {cur : Option (κ × ν)} (h : It eK eV w I B m rest cur) : I < w.heap.size := by
  obtain ⟨es, clk, s, c0, h3, h4, h5, h6⟩ := h; exact (Array.getElem?_eq_some_iff.1 h5).1
end
section
variable {κ ν : Type} [DecidableEq κ] {eK : κ → Value} {eV : ν → Value} {P : Program} {n : Nat} {l : Fr} {w : World} {B : Nat} {Q : Exit → Act → World → Prop} {ops : Array Oper} {os : List Oper} {d : Option Nat} {ty : TypeId} {pos : String} {af : Array Edge} {g : Option (Nat × Bool)} {T K V : TypeId} {x y z : Operand}
end
section
variable {κ ν : Type} {eK : κ → Value} {eV : ν → Value} {P : Program} {n : Nat} {l : Fr} {w : World} {B : Nat} {Q : Exit → Act → World → Prop} {ops : Array Oper} {os : List Oper} {d : Option Nat} {ty : TypeId} {pos : String} {af : Array Edge} {g : Option (Nat × Bool)} {T K V : TypeId} {x y z : Operand}
theorem lw_rangeM (ht : P.underlying T = some (.map K V)) {m : List (κ × ν)} {d : Nat} (hd : Nat.blt d n = true) (hx : ev l x = some (.map (some B))) (h : Mp eK eV w B m)
    (hc : ∀ I w', w.heap.size ≤ I → It eK eV w' I B m m none → Below w.heap.size w w' → LW P n ops Q os ((d, .pointer (some ⟨I, 0, none⟩)) :: l) w') : LW P n ops Q (⟨some d, .range T x, ty, pos, af, none⟩ :: os) l w := by
  obtain ⟨es, clk, hE, rfl⟩ := h
  refine lw_eff hd ⟨fun A hA => ?_⟩ (hc _ _ (Nat.le_refl _) ⟨es, clk, #[], clk, hE.mono (below_alloc w (.mapIter (some B) clk #[] clk)), rfl, heap_alloc_new w _, Nat.le_refl _, by rw [List.filter_eq_self.2 (fun _ _ => by simp)], fun e h => by cases h⟩ (below_alloc _ _))
  simp [execOp, hA.ev hx, run_range_map w T K V B _ clk ht hE.heap]
end
section
variable {κ ν : Type} [DecidableEq κ] {eK : κ → Value} {eV : ν → Value} {P : Program} {n : Nat} {l : Fr} {w : World} {B : Nat} {Q : Exit → Act → World → Prop} {ops : Array Oper} {os : List Oper} {d : Option Nat} {ty : TypeId} {pos : String} {af : Array Edge} {g : Option (Nat × Bool)} {T K V : TypeId} {x y z : Operand}
end
section
variable {κ ν : Type} {eK : κ → Value} {eV : ν → Value} {P : Program} {n : Nat} {l : Fr} {w : World} {B : Nat} {Q : Exit → Act → World → Prop} {ops : Array Oper} {os : List Oper} {d : Option Nat} {ty : TypeId} {pos : String} {af : Array Edge} {g : Option (Nat × Bool)} {T K V : TypeId} {x y z : Operand}
theorem It.next {I : Nat} {m rest : List (κ × ν)} {cur : Option (κ × ν)} (h : It eK eV w I B m rest cur) (ty : TypeId) :
    (rest = [] ∧ (Instr.next (.pointer (some ⟨I, 0, none⟩)) false ty).run P w = .ok (.tuple #[.bool false]) w) ∨
    ∃ k v rest' w', rest.Perm ((k, v) :: rest') ∧ (Instr.next (.pointer (some ⟨I, 0, none⟩)) false ty).run P w = .ok (.tuple #[.bool true, eK k, eV v]) w' ∧ It eK eV w' I B m rest' (some (k, v)) ∧ w.grownBy w' (some I) ∧ w'.heap.size = w.heap.size := by
  obtain ⟨es, clk, seen, c0, hE, rfl, hI, hc, rfl, _⟩ := h
  have hleft : (leftOf (es.map (entE eK eV)).toArray seen).toList = (es.filter fun e => !seen.contains e.2.2).map (entE eK eV) := by
    unfold leftOf
    simp only [List.filter_toArray, List.filter_map]
    rfl
  rcases run_next_at (P := P) w ty I B clk c0 seen _ clk hI hE.heap (fun x hx => by
    simp only [List.mem_map] at hx
    obtain ⟨e, he, rfl⟩ := hx
    exact hE.lt e he) hc with ⟨h1, h2⟩ | ⟨e, he, w1, hw1, hrun⟩
  · refine Or.inl ⟨?_, h2⟩
    have : (leftOf (es.map (entE eK eV)).toArray seen).toList = [] := by rw [List.eq_nil_iff_length_eq_zero]; simpa using h1
    rw [hleft, List.map_eq_nil_iff] at this
    rw [this]; rfl
  · rw [hleft, List.mem_map] at he
    obtain ⟨⟨k, v, b⟩, he, rfl⟩ := he
    have hes : (k, v, b) ∈ es := (List.mem_filter.1 he).1
    have hw1h : w1.heap = w.heap := by rcases hw1 with rfl | rfl <;> rfl
    have hIlt : I < w.heap.size := (Array.getElem?_eq_some_iff.1 hI).1
    have hBI : B ≠ I := fun e => by have := hE.heap; rw [e, hI] at this; injection this with this; cases this
    refine Or.inr ⟨k, v, ((es.filter fun e => !seen.contains e.2.2).filter fun e => !decide (e.2.2 = b)).map prj, _, ?_, hrun, ⟨es, clk, seen.push b, clk, ⟨?_, hE.keys, hE.born, hE.lt⟩, rfl, ?_, Nat.le_refl _, ?_, fun e h => ?_⟩, ⟨?_, ?_, ?_, ?_, ?_⟩, ?_⟩
    · have hnb : ((es.filter fun e => !seen.contains e.2.2).map (·.2.2)).Nodup := hE.born.sublist (List.filter_sublist.map _)
      have key : ∀ (L : List (κ × ν × Nat)), (L.map (·.2.2)).Nodup → (k, v, b) ∈ L → L.Perm ((k, v, b) :: L.filter fun e => !decide (e.2.2 = b)) := by
        intro L
        induction L with
        | nil => intro _ h; cases h
        | cons a L ih =>
          intro hn hm
          rw [List.map_cons, List.nodup_cons] at hn
          rcases List.mem_cons.1 hm with rfl | hm
          · rw [List.filter_cons_of_neg (by simp)]
            refine List.Perm.cons _ ?_
            rw [List.filter_eq_self.2]
            intro e he
            have : e.2.2 ≠ b := fun e2 => hn.1 (List.mem_map.2 ⟨e, he, e2⟩)
            simp [this]
          · have hne : a.2.2 ≠ b := fun e2 => hn.1 (List.mem_map.2 ⟨_, hm, e2.symm⟩)
            rw [List.filter_cons_of_pos (by simp [hne])]
            exact (List.Perm.cons a (ih hn.2 hm)).trans (List.Perm.swap _ _ _)
      exact (key _ hnb he).map prj
    · show (w1.heap.setIfInBounds I _)[B]? = _
      rw [hw1h, Array.getElem?_setIfInBounds_ne hBI.symm]; exact hE.heap
    · show (w1.heap.setIfInBounds I _)[I]? = _
      rw [hw1h, Array.getElem?_setIfInBounds_self_of_lt hIlt]
      rfl
    · rw [List.filter_filter]
      congr 1
      refine List.filter_congr fun e _ => ?_
      simp only [Array.contains_push, Bool.not_or]
      rw [Bool.and_comm]
      rfl
    · injection h with h; subst h
      exact ⟨_, hes, rfl, seen, rfl, rfl⟩
    · rcases hw1 with rfl | rfl <;> rfl
    · rcases hw1 with rfl | rfl <;> rfl
    · rcases hw1 with rfl | rfl <;> rfl
    · show w.heap.size ≤ (w1.heap.setIfInBounds I _).size
      rw [hw1h]; simp
    · intro q hq hne
      show (w1.heap.setIfInBounds I _)[q]? = _
      rw [hw1h, Array.getElem?_setIfInBounds_ne (fun e => hne (by rw [e]))]
    · show (w1.heap.setIfInBounds I _).size = _
      rw [hw1h]; simp
end
section
variable {κ ν : Type} [DecidableEq κ] {eK : κ → Value} {eV : ν → Value} {P : Program} {n : Nat} {l : Fr} {w : World} {B : Nat} {Q : Exit → Act → World → Prop} {ops : Array Oper} {os : List Oper} {d : Option Nat} {ty : TypeId} {pos : String} {af : Array Edge} {g : Option (Nat × Bool)} {T K V : TypeId} {x y z : Operand}
end
section
variable {κ ν : Type} {eK : κ → Value} {eV : ν → Value} {P : Program} {n : Nat} {l : Fr} {w : World} {B : Nat} {Q : Exit → Act → World → Prop} {ops : Array Oper} {os : List Oper} {d : Option Nat} {ty : TypeId} {pos : String} {af : Array Edge} {g : Option (Nat × Bool)} {T K V : TypeId} {x y z : Operand}
theorem lw_nextM {I : Nat} {m rest : List (κ × ν)} {cur : Option (κ × ν)} {d : Nat} (hd : Nat.blt d n = true) (hx : ev l x = some (.pointer (some ⟨I, 0, none⟩))) (h : It eK eV w I B m rest cur)
    (h1 : rest = [] → LW P n ops Q os ((d, .tuple #[.bool false]) :: l) w)
    (h2 : ∀ k v rest' w', rest.Perm ((k, v) :: rest') → It eK eV w' I B m rest' (some (k, v)) → w.grownBy w' (some I) → w'.heap.size = w.heap.size → LW P n ops Q os ((d, .tuple #[.bool true, eK k, eV v]) :: l) w') : LW P n ops Q (⟨some d, .next x false, ty, pos, af, none⟩ :: os) l w := by
  rcases h.next (P := P) ty with ⟨h3, h4⟩ | ⟨k, v, rest', w', h3, h4, h5, h6, h7⟩
  · exact lw_eff hd ⟨fun A hA => by simp [execOp, hA.ev hx, h4]⟩ (h1 h3)
  · exact lw_eff hd ⟨fun A hA => by simp [execOp, hA.ev hx, h4]⟩ (h2 k v rest' w' h3 h5 h6 h7)
end
section
variable {κ ν : Type} [DecidableEq κ] {eK : κ → Value} {eV : ν → Value} {P : Program} {n : Nat} {l : Fr} {w : World} {B : Nat} {Q : Exit → Act → World → Prop} {ops : Array Oper} {os : List Oper} {d : Option Nat} {ty : TypeId} {pos : String} {af : Array Edge} {g : Option (Nat × Bool)} {T K V : TypeId} {x y z : Operand}
end
section
variable {κ ν : Type} {eK : κ → Value} {eV : ν → Value} {P : Program} {n : Nat} {l : Fr} {w : World} {B : Nat} {Q : Exit → Act → World → Prop} {ops : Array Oper} {os : List Oper} {d : Option Nat} {ty : TypeId} {pos : String} {af : Array Edge} {g : Option (Nat × Bool)} {T K V : TypeId} {x y z : Operand}
theorem pv_entryM {I : Nat} {m rest : List (κ × ν)} {k : κ} {v : ν} (hx : ev l x = some (.pointer (some ⟨I, 0, none⟩))) (h : It eK eV w I B m rest (some (k, v))) : Pv P n l ⟨d, .entry x, ty, pos, af, g⟩ (.tuple #[eK k, eV v]) w := ⟨fun A hA => by
  obtain ⟨es, clk, seen, c0, hE, rfl, hI, hc, rfl, hcur⟩ := h
  obtain ⟨e, he, hp, s, rfl, rfl⟩ := hcur _ rfl
  have h1 : (entE eK eV e).key = eK k := by show eK e.1 = _; rw [show e.1 = k from congrArg Prod.fst hp]
  have h2 : (entE eK eV e).val = eV v := by show eV e.2.1 = _; rw [show e.2.1 = v from congrArg Prod.snd hp]
  have := run_entry_at (P := P) w I B c0 s _ c0 (entE eK eV e) hI hE.heap (by simpa using ⟨e.1, e.2.1, e.2.2, he, rfl⟩) (by
    have : ((es.map (entE eK eV)).toArray.toList.map (·.born)) = es.map (·.2.2) := by simp [entE, Function.comp_def]
    rw [this]; exact hE.born)
  rw [h1, h2] at this
  simp [execOp, hA.ev hx, this]⟩
end
section
variable {κ ν : Type} [DecidableEq κ] {eK : κ → Value} {eV : ν → Value} {P : Program} {n : Nat} {l : Fr} {w : World} {B : Nat} {Q : Exit → Act → World → Prop} {ops : Array Oper} {os : List Oper} {d : Option Nat} {ty : TypeId} {pos : String} {af : Array Edge} {g : Option (Nat × Bool)} {T K V : TypeId} {x y z : Operand}
end
end Go.Proofs.YtkehmbgcglbffaaDoor
