/-
  append on lists of elements of k cells: to a list that the call owns; to one that is full; from whatever list. As a run, at a plain region's list, and as a step of a region that draws. Conditions: the sizes that each law names.
-/
import Derived.Test.YtchalebenpmnpaaMl
import Derived.ArgAppend
import Derived.Laws.OwnMore
import Derived.Deep.RegionLaw
namespace Go.Proofs.Ytchalebenpmnpaa
open Go.RowKit
variable {α : Type}

/-- the element's type: its row of the table -/
structure ElemT (P : Program) (S T : TypeId) (k nb : Nat) : Prop where
  sl : P.underlying S = some (.slice T)
  info : ∃ i z, P.info? T = some i ∧ i.zero = some z ∧ i.size = k ∧ i.bytes = nb ∧ z.cells.size = k
  pos : 0 < k
section
variable {enc : α → List Value} {k nb : Nat} {P : Program} {S T : TypeId} {w : World}
theorem flat_one (h1c : ∀ x, ∀ v ∈ enc x, v.oneCell' = true) (ys : List α) : ∀ u ∈ ys.flatMap enc, u.oneCell' = true := fun u hu => by
  obtain ⟨x, _, hx⟩ := List.mem_flatMap.1 hu
  exact h1c x u hx
theorem SlR.flat (hk : ∀ x, (enc x).length = k) {b off c : Nat} {ys : List α} (h : SlR enc k w (some ⟨b, off, none⟩) c ys) : ∀ j u, (ys.flatMap enc)[j]? = some u → w.cell? ((⟨b, off, none⟩ : Addr).add j) = some u := fun j u hu => by
  rw [Addr.add_lit]
  have hj : j < ys.length * k := by have := (List.getElem?_eq_some_iff.1 hu).1; rwa [flat_len enc k hk] at this
  have k0 : 0 < k := by rcases Nat.eq_zero_or_pos k with h | h; · subst h; simp at hj
                        · exact h
  have hq : j / k < ys.length := Nat.div_lt_of_lt_mul (by rwa [Nat.mul_comm])
  have hr : j % k < k := Nat.mod_lt _ k0
  have hx : ys[j / k]? = some ys[j / k] := List.getElem?_eq_getElem hq
  have hv : (enc ys[j / k])[j % k]? = some ((enc ys[j / k])[j % k]'(by rw [hk]; exact hr)) := List.getElem?_eq_getElem _
  have h2 := flat_get enc k hk ys (j / k) _ (j % k) _ hx hv
  rw [Nat.div_add_mod' j k, hu] at h2
  have h3 := (h.ofSome _ rfl (Nat.lt_of_lt_of_le (Nat.lt_of_le_of_lt (Nat.zero_le _) hq) h.le)).2.2 (j / k) _ hx (j % k) _ hv
  rw [h2, ← h3, Nat.add_assoc, Nat.div_add_mod' j k]
/-- a list that the call owns grows -/
theorem app_own (E : ElemT P S T k nb) (hk : ∀ x, (enc x).length = k) (h1c : ∀ x, ∀ v ∈ enc x, v.oneCell' = true) {base : Nat} {v : Value} {xs ys : List α} {a : Option Addr} {c : Nat} (ty : TypeId)
    (ho : Own enc k T base w v xs) (hs : SlR enc k w a c ys) (hb : base ≤ w.heap.size) (hm : (xs.length + ys.length) * nb ≤ 140737488355328) (hx : xs.length + ys.length ≤ maxLen) :
    ∃ v' w', (Builtin.append_ #[S, S] ty #[v, .slice a ys.length c]).run P w = .ok v' w' ∧ Own enc k T base w' v' (xs ++ ys) ∧ w.grownBy w' v.ownBlock := by
  obtain ⟨i, z, hi, hz, hsz, hby, hzs⟩ := E.info
  cases a with
  | none =>
    obtain ⟨rfl, rfl⟩ := hs.ofNone rfl
    refine ⟨v, w, run_append_owned_none w base S ty T i k E.sl hi v _ _ ho, by simpa using ho, ⟨rfl, rfl, rfl, Nat.le_refl _, fun _ _ _ => rfl⟩⟩
  | some ad =>
    obtain ⟨b, off, sp⟩ := ad
    have hfl : sp = none ∨ ys = [] := by
      cases ys with
      | nil => exact Or.inr rfl
      | cons y r => exact Or.inl (hs.ofSome _ rfl (by have := hs.le; simp at this; omega)).1
    have hcell : ∀ j u, (ys.flatMap enc)[j]? = some u → w.cell? ((⟨b, off, sp⟩ : Addr).add j) = some u := by
      rcases hfl with rfl | rfl
      · exact SlR.flat hk hs
      · intro j u h; simp at h
    obtain ⟨v', w', hr, h4, h5, _⟩ := run_append_own (P := P) w base S ty T i z k nb E.sl hi hz hsz hby hzs E.pos v _ _ ho ⟨b, off, sp⟩ ys.length c (ys.flatMap enc) (flat_len enc k hk ys) hcell (flat_one h1c ys) hx hm hb
    exact ⟨v', w', hr, by rw [Own, List.length_append, List.flatMap_append]; exact h4, h5⟩
/-- a list that is full is copied -/
theorem app_full (E : ElemT P S T k nb) (hk : ∀ x, (enc x).length = k) (h1c : ∀ x, ∀ v ∈ enc x, v.oneCell' = true) {xs ys : List α} {a a' : Option Addr} {c c' : Nat} (ty : TypeId)
    (ho : SlR enc k w a' c' xs) (hs : SlR enc k w a c ys) (hf : c' < xs.length + ys.length) (hm : (xs.length + ys.length) * nb ≤ 140737488355328) (hx : xs.length + ys.length ≤ maxLen) :
    ∃ v' w', (Builtin.append_ #[S, S] ty #[.slice a' xs.length c', .slice a ys.length c]).run P w = .ok v' w' ∧ Own enc k T w.heap.size w' v' (xs ++ ys) ∧ w.grownBy w' none := by
  obtain ⟨i, z, hi, hz, hsz, hby, hzs⟩ := E.info
  cases a' with
  | none =>
    obtain ⟨rfl, rfl⟩ := ho.ofNone rfl
    obtain ⟨v', w', h1, h2, h3⟩ := app_own E hk h1c ty (Own.nil (enc := enc) (k := k) (T := T) (base := w.heap.size) w) hs (Nat.le_refl _) hm hx
    exact ⟨v', w', h1, h2, h3⟩
  | some ad' =>
    obtain ⟨b', off', sp'⟩ := ad'
    have hfl' : sp' = none ∨ xs = [] := by
      cases xs with
      | nil => exact Or.inr rfl
      | cons y r => exact Or.inl (ho.ofSome _ rfl (by have := ho.le; simp at this; omega)).1
    have hcell' : ∀ j u, (xs.flatMap enc)[j]? = some u → w.cell? ((⟨b', off', sp'⟩ : Addr).add j) = some u := by
      rcases hfl' with rfl | rfl
      · exact SlR.flat hk ho
      · intro j u h; simp at h
    cases a with
    | none =>
      obtain ⟨rfl, rfl⟩ := hs.ofNone rfl
      have := ho.le
      simp at hf; omega
    | some ad =>
      obtain ⟨b, off, sp⟩ := ad
      have hfl : sp = none ∨ ys = [] := by
        cases ys with
        | nil => exact Or.inr rfl
        | cons y r => exact Or.inl (hs.ofSome _ rfl (by have := hs.le; simp at this; omega)).1
      have hcell : ∀ j u, (ys.flatMap enc)[j]? = some u → w.cell? ((⟨b, off, sp⟩ : Addr).add j) = some u := by
        rcases hfl with rfl | rfl
        · exact SlR.flat hk hs
        · intro j u h; simp at h
      obtain ⟨v', w', hr, h4, h5⟩ := run_append_arg_grows (P := P) w S ty T i z k nb E.sl hi hz hsz hby hzs E.pos ⟨b', off', sp'⟩ xs.length c' (xs.flatMap enc) (flat_len enc k hk xs) hcell' ⟨b, off, sp⟩ ys.length c (ys.flatMap enc) (flat_len enc k hk ys) hcell hf hx hm
      exact ⟨v', w', hr, by rw [Own, List.length_append, List.flatMap_append]; exact h4, h5⟩
end
/-- an append whose run is known, at a plain region's list -/
theorem wpList_app {P : Program} {w : World} {ops : Array Oper} {rest : List Oper} {o : Oper} {a : Act} {Q : Exit → Act → World → Prop} {Φ : Value → World → Prop} (hgd : o.guard = none) (s x : Operand) (t : TypeId)
    (ho : o.op = .call { callee := .builtin .append, args := #[s, x], argTypes := #[t, t] }) {v u : Value} (hs : a.eval s = v) (hx : a.eval x = u)
    (hrun : ∃ v' w', (Builtin.append_ #[t, t] o.type #[v, u]).run P w = .ok v' w' ∧ Φ v' w')
    (h : ∀ v' w', Φ v' w' → wpList P ops Q rest (a.put o.dst v') w') : wpList P ops Q (o :: rest) a w := by
  refine wpList_plain hgd fun K hK => ?_
  obtain ⟨v', w', hr, hp⟩ := hrun
  unfold Oper.wp
  simp [execOp, ho, resolve, invoke, builtin, hs, hx, hr, Result.andThen]
  exact hK _ _ (h v' w' hp)
/-- .. and as a step of a region that draws -/
theorem step_app {P : Program} {ops : Array Oper} {o : Oper} {a : Act} {w : World} {K : Act → World → Prop} {Q : Exit → Act → World → Prop} {E : Prop} {Φ : Value → World → Prop} (hgd : o.guard = none) (s x : Operand) (t : TypeId)
    (ho : o.op = .call { callee := .builtin .append, args := #[s, x], argTypes := #[t, t] }) {v u : Value} (hs : a.eval s = v) (hx : a.eval x = u)
    (hrun : ∃ v' w', (Builtin.append_ #[t, t] o.type #[v, u]).run P w = .ok v' w' ∧ Φ v' w')
    (h : ∀ v' w', Φ v' w' → K (a.put o.dst v') w') :
    if Region.wanted o (yielded ops a.tmps) = true then Oper.wp P o a w K Q else E := by
  have hw : Region.wanted o (yielded ops a.tmps) = true := by simp [Region.wanted, hgd]
  rw [if_pos hw]
  obtain ⟨v', w', hr, hp⟩ := hrun
  unfold Oper.wp
  simp [execOp, ho, resolve, invoke, builtin, hs, hx, hr, Result.andThen]
  exact h v' w' hp
/-- the block of one element, just made -/
theorem SlR.new (enc : α → List Value) (k : Nat) (hk : ∀ x, (enc x).length = k) (w : World) (T : TypeId) (xs : List α) (hm : xs.length ≤ 9223372036854775807) : SlR enc k (w.alloc (.cells (xs.flatMap enc).toArray T)) (some ⟨w.heap.size, 0, none⟩) xs.length xs := by
  refine ⟨Nat.le_refl _, hm, (fun h => by cases h), (fun ad h _ => ?_)⟩
  cases h
  refine ⟨rfl, by simp, fun j x hx i v hv => ?_⟩
  simp only [Nat.zero_add]
  rw [World.cell?_alloc_new]
  simpa using flat_get enc k hk xs j x i v hx hv
/-- cut at both ends -/
theorem SlR.tail {enc : α → List Value} {k : Nat} {w : World} {b off c : Nat} {xs : List α} (h : SlR enc k w (some ⟨b, off, none⟩) c xs) (i : Nat) (hi : i ≤ xs.length) : SlR enc k w (some ⟨b, off + i * k, none⟩) (c - i) (xs.drop i) := by
  refine ⟨by rw [List.length_drop]; have := h.le; omega, by have := h.max; omega, (fun h => by cases h), fun ad had hc => ?_⟩
  cases had
  obtain ⟨h1, h2, h3⟩ := h.ofSome _ rfl (by omega)
  refine ⟨rfl, h2, fun j x hx t v hv => ?_⟩
  rw [List.getElem?_drop] at hx
  have := h3 (i + j) x hx t v hv
  rwa [show off + i * k + j * k + t = off + (i + j) * k + t by rw [Nat.add_mul]; omega]
theorem SlR.head {enc : α → List Value} {k : Nat} {w : World} {a : Option Addr} {c : Nat} {xs : List α} (h : SlR enc k w a c xs) (i c' : Nat) (hi : i ≤ xs.length) (hc : i ≤ c' ∧ c' ≤ c) : SlR enc k w a c' (xs.take i) := by
  refine ⟨by rw [List.length_take]; omega, by have := h.max; omega, fun hn => ?_, fun ad had hc2 => ?_⟩
  · obtain ⟨h1, h2⟩ := h.ofNone hn
    subst h1; subst h2
    exact ⟨by simp, by omega⟩
  · obtain ⟨h1, h2, h3⟩ := h.ofSome ad had (by omega)
    refine ⟨h1, h2, fun j x hx t v hv => h3 j x ?_ t v hv⟩
    rw [List.getElem?_take] at hx
    split at hx
    · exact hx
    · cases hx
end Go.Proofs.Ytchalebenpmnpaa
