/-
  Lists of one's own over the walker: one element written, the rest cleared, a slice held against nil. Conditions: what each law names.
-/
import Derived.Test.YtkehmbgcglbffaaDoorSa
namespace Go.Proofs.YtkehmbgcglbffaaDoor
open Go.RowKit

section
variable {α : Type} {enc : α → List Value} {k nb : Nat} {T S : TypeId} {base : Nat} {w : World} {g cap : Nat} {xs : List α}
theorem Own.heap' (h : Own enc k T base w (.slice (some ⟨g, 0, none⟩) xs.length cap) xs) : ∃ cur, base ≤ g ∧ w.heap[g]? = some (.cells cur T (0, 0)) ∧ xs.length ≤ cap ∧ cap ≤ maxLen ∧ cur.size = cap * k ∧ cur.toList.take (xs.length * k) = xs.flatMap enc := by
  obtain ⟨h1, h2⟩ := h
  rcases h2 with ⟨h2, _⟩ | ⟨g', cap', cur, e1, hb, hg, hle, hmax, hsz, htk⟩
  · cases h2
  · injection e1 with e1 _ e3
    injection e1 with e1; injection e1 with e1
    subst e1; subst e3
    exact ⟨cur, hb, hg, hle, hmax, hsz, htk⟩
/-- cells behind the cut may be whatever -/
theorem Own.tail' (hk : ∀ x, (enc x).length = k) (h : Own enc k T base w (.slice (some ⟨g, 0, none⟩) xs.length cap) xs) {cur : Array Value} (hg : w.heap[g]? = some (.cells cur T (0, 0))) {i : Nat} (hi : i ≤ xs.length) (new : Array Value) (hsz : new.size = cur.size) (htk : new.toList.take (i * k) = cur.toList.take (i * k)) :
    w.grownBy (w.setRow g new) (some g) ∧ Own enc k T base (w.setRow g new) (.slice (some ⟨g, 0, none⟩) i cap) (xs.take i) := by
  obtain ⟨h1, h2⟩ := Own.cut hk h i hi
  have hl : (xs.take i).length = i := by rw [List.length_take]; omega
  refine ⟨⟨rfl, rfl, rfl, by simp, fun q hq hne => setRow_other w g q _ (fun e => hne (by rw [e]))⟩, ⟨h1, ?_⟩⟩
  rcases h2 with ⟨h2, _⟩ | ⟨g', cap', cur', e1, hb, hg', hle, hmax, hsz', htk'⟩
  · cases h2
  · injection e1 with e1 _ e3
    injection e1 with e1; injection e1 with e1
    subst e1; subst e3
    rw [hg] at hg'
    injection hg' with hg'; injection hg' with hg' _ _
    subst hg'
    exact Or.inr ⟨g, cap, new, by rw [hl], hb, setRow_heap w g cur _ T _ hg, hle, hmax, hsz.trans hsz', by rw [← htk', hl, htk]⟩
theorem run_clearK {P : Program} (E : ElemT P S T k nb) (hk : ∀ x, (enc x).length = k) {z : Value} (hzv : ∀ w, (zeroValue T).run P w = .ok z w) (hzk : z.cells.size = k) (hz1 : z.cells.toList.all (·.oneCell') = true) (h : Own enc k T base w (.slice (some ⟨g, 0, none⟩) xs.length cap) xs) {i : Nat} (hi : i < xs.length) :
    ∃ w', (∀ ty, (Builtin.clear_ #[S] ty #[.slice (some ⟨g, i * k, none⟩) (xs.length - i) (cap - i)]).run P w = .ok (.tuple #[]) w') ∧ w.grownBy w' (some g) ∧ Own enc k T base w' (.slice (some ⟨g, 0, none⟩) i cap) (xs.take i) := by
  obtain ⟨cur, _, hg, hle, hmax, hsz, htk⟩ := Own.heap' h
  obtain ⟨m, hm⟩ : ∃ m, xs.length - i = m + 1 := ⟨xs.length - i - 1, by omega⟩
  obtain ⟨Z, hZ⟩ : ∃ Z, Z = (Builtin.zeroCells z.cells (m + 1)).toList := ⟨_, rfl⟩
  have hk0 := E.pos
  have hzl : Z.length = (m + 1) * k := by rw [hZ]; simp [Builtin.zeroCells, hzk]
  have hz1' : ∀ v ∈ Z, v.oneCell' = true := fun v hv => by
    rw [hZ] at hv
    simp only [Builtin.zeroCells, Array.toList_map, List.mem_map] at hv
    obtain ⟨q, _, rfl⟩ := hv
    have hq : q % z.cells.size < z.cells.size := Nat.mod_lt _ (by omega)
    rw [List.all_eq_true] at hz1
    have hmem : z.cells[q % z.cells.size]! ∈ z.cells.toList := by
      rw [getElem!_pos z.cells _ hq]; simp
    simpa using hz1 _ hmem
  have hmul : i * k + (m + 1) * k = xs.length * k := by rw [← Nat.add_mul]; congr 1; omega
  have hmul2 : xs.length * k ≤ cap * k := Nat.mul_le_mul_right k hle
  have hst := run_storeCells_at (P := P) g (i * k) T Z 0 cur w hg (by rw [hzl, hsz]; omega) hz1'
  have ht := Own.tail' hk h hg (Nat.le_of_lt hi) (cur.toList.take (i * k + 0) ++ Z ++ cur.toList.drop (i * k + 0 + Z.length)).toArray
    (by simp only [List.size_toArray, List.length_append, List.length_take, List.length_drop, Array.length_toList, hzl, hsz]; omega)
    (by
      have l1 : (cur.toList.take (i * k)).length = i * k := by rw [List.length_take, Array.length_toList, hsz]; omega
      simp only [Nat.add_zero, List.append_assoc]
      rw [List.take_append, l1, List.take_of_length_le (by rw [l1]; omega), Nat.sub_self, List.take_zero, List.append_nil])
  refine ⟨_, fun ty => ?_, ht.1, ht.2⟩
  rw [hm]
  simp only [Builtin.clear_, List.getElem?_toArray, List.getElem?_cons_zero, Sem.run_bind, run_underlying E.sl, Result.andThen_ok, hzv w, ← hZ, hst]
  rfl
end
section
variable {α : Type} {enc : α → List Value} {k nb : Nat} {P : Program} {n : Nat} {l : Fr} {w : World} {Q : Exit → Act → World → Prop} {ops : Array Oper} {os : List Oper} {d : Option Nat} {ty : TypeId} {pos : String} {af : Array Edge} {gd : Option (Nat × Bool)} {S T t t' : TypeId} {x y : Operand} {base g cap : Nat} {xs : List α}
/-- a step without a slot whose run is known -/
theorem lw_some0 {op : Op} {Φ : World → Prop} (hv : ∀ a, Holds n l a → ∃ v w', (execOp a.eval ⟨none, op, ty, pos, af, none⟩).run P w = .ok (.value v) w' ∧ Φ w') (h : ∀ w', Φ w' → LW P n ops Q os l w') :
    LW P n ops Q (⟨none, op, ty, pos, af, none⟩ :: os) l w := ⟨fun a ha => wpList_plain rfl fun K hK => by
  obtain ⟨v, w', h1, h2⟩ := hv a ha
  unfold Oper.wp; rw [h1]; exact hK _ _ ((h w' h2).out _ ha)⟩
theorem lw_clear (E : ElemT P S T k nb) (hk : ∀ x, (enc x).length = k) {z : Value} (hzv : ∀ w, (zeroValue T).run P w = .ok z w) (hzk : z.cells.size = k) (hz1 : z.cells.toList.all (·.oneCell') = true) {i m c : Nat} {a : Option Addr} (hx : ev l x = some (.slice a m c)) (ha : a = some ⟨g, i * k, none⟩) (hm : m = xs.length - i) (hc : c = cap - i) (hO : Own enc k T base w (.slice (some ⟨g, 0, none⟩) xs.length cap) xs) (hi : i < xs.length)
    (h : ∀ w', w.grownBy w' (some g) → Own enc k T base w' (.slice (some ⟨g, 0, none⟩) i cap) (xs.take i) → LW P n ops Q os l w') : LW P n ops Q (⟨none, .call ⟨.builtin .clear, #[x], #[S]⟩, ty, pos, af, none⟩ :: os) l w := by
  subst ha hm hc
  obtain ⟨w', h1, h2, h3⟩ := run_clearK E hk hzv hzk hz1 hO hi
  refine lw_some0 (Φ := fun u => u = w') (fun A hA => ⟨.tuple #[], w', ?_, rfl⟩) (fun u hu => hu ▸ h w' h2 h3)
  simp [execOp, resolve, hA.ev hx, invoke, builtin, h1]
theorem lw_clear0 (ht : slB P S k = true) {a : Option Addr} {c : Nat} (hx : ev l x = some (.slice a 0 c)) (h : LW P n ops Q os l w) : LW P n ops Q (⟨none, .call ⟨.builtin .clear, #[x], #[S]⟩, ty, pos, af, none⟩ :: os) l w := by
  obtain ⟨q, h1, _⟩ := slB_of ht
  refine lw_some0 (Φ := fun u => u = w) (fun A hA => ⟨.tuple #[], w, ?_, rfl⟩) (fun u hu => hu ▸ h)
  cases a <;> simp [execOp, resolve, hA.ev hx, invoke, builtin, Builtin.clear_, run_underlying h1]
/-- one element of a list of one's own is written -/
theorem lw_storeO (ht : sizeB P t k = true) (hk : ∀ x, (enc x).length = k) (h1c : ∀ x, ∀ v ∈ enc x, v.oneCell' = true) {i : Nat} {v : Value} {u : α} {o : Nat} (hx : ev l x = some (.pointer (some ⟨g, o, none⟩))) (ho : o = i * k) (hy : ev l y = some v) (hv : v.cells.toList = enc u) (hO : Own enc k T base w (.slice (some ⟨g, 0, none⟩) xs.length cap) xs) (hi : i < xs.length)
    (h : ∀ w', Own enc k T base w' (.slice (some ⟨g, 0, none⟩) xs.length cap) (xs.set i u) → w.grownBy w' (some g) → w'.heap.size = w.heap.size → LW P n ops Q os l w') : LW P n ops Q (⟨none, .store t x y, ty, pos, af, none⟩ :: os) l w := by
  subst ho
  obtain ⟨w', h1, h2, h3, h4⟩ := Own.store hk h1c hO P i hi u
  refine lw_skip (w' := w') ⟨fun A hA => ?_⟩ (h w' h2 h3 h4)
  have hs : v.cells.size = k := by rw [← hk u, ← hv]; simp
  simp [execOp, hA.ev hx, hA.ev hy, Instr.storeAt, Instr.sureAddr, storeVar, sizeB_run ht, hs, hv, h1]
theorem pv_slnil {a : Option Addr} {m c : Nat} (ht : slB P t k = true) (hx : ev l x = some (.slice a m c)) (hy : ev l y = some (.slice none 0 0)) : Pv P n l ⟨d, .binOp .eql t x y t', ty, pos, af, gd⟩ (.bool a.isNone) w := ⟨fun A hA => by
  obtain ⟨q, h1, _⟩ := slB_of ht
  have h : (Op.equalIn 10000 t (.slice a m c) (.slice none 0 0)).run P w = .ok a.isNone w := by
    rw [show (10000 : Nat) = 9999 + 1 from rfl, Op.equalIn]
    cases a <;> simp [run_underlying h1]
  have h2 : (binOp .eql t (.slice a m c) (.slice none 0 0)).run P w = .ok (.bool a.isNone) w := by
    simp [binOp, Op.equal, Op.maxDepth, h]
  have h3 : (eqGuard .eql t x y (.slice a m c) (.slice none 0 0)).run P w = .ok () w := by
    simp [eqGuard]
  simp [execOp, hA.ev hx, hA.ev hy, h3, h2]⟩
end
end Go.Proofs.YtkehmbgcglbffaaDoor
