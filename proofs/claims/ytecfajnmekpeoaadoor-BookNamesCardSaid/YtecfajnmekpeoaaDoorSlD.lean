/-
  Contract of slices.DeleteFunc at []api.Order, on a slice that the call owns. Conditions: what the theorem names of the function handed over.
-/
import Derived.Test.YtecfajnmekpeoaaDoorSlO
namespace Go.Proofs.YtecfajnmekpeoaaDoor
open Go.RowKit

theorem run_store6 (P : Program) (w : World) (g p : Nat) (v0 v1 v2 v3 v4 v5 : Value) (u0 u1 u2 u3 u4 u5 : Value)
    (h0 : w.cell? ⟨g, p, none⟩ = some u0) (h1 : w.cell? ⟨g, p + 1, none⟩ = some u1) (h2 : w.cell? ⟨g, p + 2, none⟩ = some u2) (h3 : w.cell? ⟨g, p + 3, none⟩ = some u3) (h4 : w.cell? ⟨g, p + 4, none⟩ = some u4) (h5 : w.cell? ⟨g, p + 5, none⟩ = some u5)
    (f : ∀ o, w.frozen? ⟨g, o, none⟩ = false) (o0 : v0.oneCell' = true) (o1 : v1.oneCell' = true) (o2 : v2.oneCell' = true) (o3 : v3.oneCell' = true) (o4 : v4.oneCell' = true) (o5 : v5.oneCell' = true) :
    Sem.run P (storeCells ⟨g, p, none⟩ [v0, v1, v2, v3, v4, v5] 0) w = .ok () ((((((w.setCell ⟨g, p, none⟩ v0).setCell ⟨g, p + 1, none⟩ v1).setCell ⟨g, p + 2, none⟩ v2).setCell ⟨g, p + 3, none⟩ v3).setCell ⟨g, p + 4, none⟩ v4).setCell ⟨g, p + 5, none⟩ v5) := by
  have a0 : (⟨g, p, none⟩ : Addr).add 0 = ⟨g, p, none⟩ := by simp [Addr.add]
  have a1 : ∀ c, (⟨g, p, none⟩ : Addr).add (c + 1) = ⟨g, p + (c + 1), none⟩ := fun c => by simp [Addr.add]
  have far : ∀ (w : World) (q c : Nat) (v : Value), q < c → (w.setCell ⟨g, q, none⟩ v).cell? ⟨g, c, none⟩ = w.cell? ⟨g, c, none⟩ := fun w q c v h => World.cell?_setCell_other w _ _ v (fun e => by injection e with _ e2; omega)
  simp only [storeCells, Sem.run_bind, a0, a1, Nat.zero_add, Nat.reduceAdd, run_store _ _ _ _ _ o0, run_store _ _ _ _ _ o1, run_store _ _ _ _ _ o2, run_store _ _ _ _ _ o3, run_store _ _ _ _ _ o4, run_store _ _ _ _ _ o5, h0, f, Result.andThen_ok, World.frozen?_setCell, Bool.false_eq_true, if_false]
  rw [far _ p (p + 1) _ (by omega), h1]
  simp only [Result.andThen_ok, World.frozen?_setCell, f, Bool.false_eq_true, if_false]
  rw [far _ (p + 1) (p + 2) _ (by omega), far _ p (p + 2) _ (by omega), h2]
  simp only [Result.andThen_ok, World.frozen?_setCell, f, Bool.false_eq_true, if_false]
  rw [far _ (p + 2) (p + 3) _ (by omega), far _ (p + 1) (p + 3) _ (by omega), far _ p (p + 3) _ (by omega), h3]
  simp only [Result.andThen_ok, World.frozen?_setCell, f, Bool.false_eq_true, if_false]
  rw [far _ (p + 3) (p + 4) _ (by omega), far _ (p + 2) (p + 4) _ (by omega), far _ (p + 1) (p + 4) _ (by omega), far _ p (p + 4) _ (by omega), h4]
  simp only [Result.andThen_ok, World.frozen?_setCell, f, Bool.false_eq_true, if_false]
  rw [far _ (p + 4) (p + 5) _ (by omega), far _ (p + 3) (p + 5) _ (by omega), far _ (p + 2) (p + 5) _ (by omega), far _ (p + 1) (p + 5) _ (by omega), far _ p (p + 5) _ (by omega), h5]
  rfl

theorem Own.heap {base : Nat} {w : World} {g cap : Nat} {xs : List Ord} (h : OwnO base w (.slice (some ⟨g, 0, none⟩) xs.length cap) xs) : ∃ cur, w.heap[g]? = some (.cells cur 23 (0, 0)) ∧ xs.length ≤ cap ∧ cap ≤ 9223372036854775807 ∧ cur.size = cap * 6 ∧ cur.toList.take (xs.length * 6) = xs.flatMap encO := by
  obtain ⟨h1, h2⟩ := h
  rcases h2 with ⟨h2, _⟩ | ⟨g', cap', cur, e1, hb, hg, hle, hmax, hsz, htk⟩
  · cases h2
  · injection e1 with e1 _ e3
    injection e1 with e1; injection e1 with e1
    subst e1; subst e3
    exact ⟨cur, hg, hle, by simpa [maxLen] using hmax, hsz, htk⟩
theorem Own.free {base : Nat} {w : World} {g cap : Nat} {xs : List Ord} (h : OwnO base w (.slice (some ⟨g, 0, none⟩) xs.length cap) xs) (o : Nat) : w.frozen? ⟨g, o, none⟩ = false := by
  obtain ⟨cur, hg, _⟩ := Own.heap h
  simp [World.frozen?, hg]
theorem Own.cells6 {base : Nat} {w : World} {g cap : Nat} {xs : List Ord} (h : OwnO base w (.slice (some ⟨g, 0, none⟩) xs.length cap) xs) {j : Nat} {x : Ord} (hx : xs[j]? = some x) : Cells6 w g (j * 6) x := by
  obtain ⟨a, c, e1, hs, _⟩ := Own.slR encO_len h
  injection e1 with e1 _ _
  have := (hs.ofSome _ e1.symm).2.2 j x hx
  simp only [Nat.zero_add] at this
  exact cells6_of this
/-- one order is stored, as the walk writes it -/
theorem Own.store6 {base : Nat} {w : World} {g cap : Nat} {xs : List Ord} (h : OwnO base w (.slice (some ⟨g, 0, none⟩) xs.length cap) xs) {i : Nat} (hi : i < xs.length) (u : Ord) (w' : World)
    (hw : w' = (((((w.setCell ⟨g, i * 6, none⟩ (.int .i64 u.id)).setCell ⟨g, i * 6 + 1, none⟩ (.int .i64 u.acct)).setCell ⟨g, i * 6 + 2, none⟩ (.int .i64 u.inst)).setCell ⟨g, i * 6 + 3, none⟩ (.int .u8 u.side)).setCell ⟨g, i * 6 + 4, none⟩ (.int .i64 u.price)).setCell ⟨g, i * 6 + 5, none⟩ (.int .i64 u.left)) :
    OwnO base w' (.slice (some ⟨g, 0, none⟩) xs.length cap) (xs.set i u) ∧ w.grownBy w' (some g) ∧ w'.heap.size = w.heap.size := by
  obtain ⟨c0, c1, c2, c3, c4, c5⟩ := Own.cells6 h (List.getElem?_eq_getElem hi)
  have hf := Own.free h
  obtain ⟨w2, hst, ho, hg, hz⟩ := Own.store encO_len encO_one h Tryd.prog i hi u
  have := run_store6 Tryd.prog w g (i * 6) (.int .i64 u.id) (.int .i64 u.acct) (.int .i64 u.inst) (.int .u8 u.side) (.int .i64 u.price) (.int .i64 u.left) _ _ _ _ _ _ c0 c1 c2 c3 c4 c5 hf rfl rfl rfl rfl rfl rfl
  have e : Sem.run Tryd.prog (storeCells ⟨g, i * 6, none⟩ (encO u) 0) w = _ := this
  rw [hst] at e
  injection e with _ e
  rw [hw, ← e]
  exact ⟨ho, hg, hz⟩
/-- what stands behind the cut is written over -/
theorem Own.tail {base : Nat} {w : World} {g cap : Nat} {xs : List Ord} (h : OwnO base w (.slice (some ⟨g, 0, none⟩) xs.length cap) xs) {cur : Array Value} (hg : w.heap[g]? = some (.cells cur 23 (0, 0))) {i : Nat} (hi : i ≤ xs.length) (new : Array Value) (hsz : new.size = cur.size) (htk : new.toList.take (i * 6) = cur.toList.take (i * 6)) :
    w.grownBy (w.setRow g new) (some g) ∧ OwnO base (w.setRow g new) (.slice (some ⟨g, 0, none⟩) i cap) (xs.take i) := by
  obtain ⟨h1, h2⟩ := Own.cut encO_len h i hi
  have hl : (xs.take i).length = i := by rw [List.length_take]; omega
  refine ⟨⟨rfl, rfl, rfl, by simp, fun q hq hne => setRow_other w g q _ (fun e => hne (by rw [e]))⟩, ⟨h1, ?_⟩⟩
  rcases h2 with ⟨h2, _⟩ | ⟨g', cap', cur', e1, hb, hg', hle, hmax, hsz', htk'⟩
  · cases h2
  · injection e1 with e1 _ e3
    injection e1 with e1; injection e1 with e1
    subst e1; subst e3
    rw [hg] at hg'
    injection hg' with hg'; injection hg' with hg' _ _
    subst hg'
    exact Or.inr ⟨g, cap, new, by rw [hl], hb, setRow_heap w g cur _ 23 _ hg, hle, hmax, hsz.trans hsz', by rw [← htk', hl, htk]⟩
/-- zero orders behind the cut -/
theorem run_clearO {base : Nat} {w : World} {g cap : Nat} {xs : List Ord} (h : OwnO base w (.slice (some ⟨g, 0, none⟩) xs.length cap) xs) {i : Nat} (hi : i < xs.length) :
    ∃ w', (∀ ty, (Builtin.clear_ #[31] ty #[.slice (some ⟨g, i * 6, none⟩) (xs.length - i) (cap - i)]).run Tryd.prog w = .ok (.tuple #[]) w') ∧ w.grownBy w' (some g) ∧ OwnO base w' (.slice (some ⟨g, 0, none⟩) i cap) (xs.take i) := by
  obtain ⟨cur, hg, hle, hmax, hsz, htk⟩ := Own.heap h
  obtain ⟨m, hm⟩ : ∃ m, xs.length - i = m + 1 := ⟨xs.length - i - 1, by omega⟩
  obtain ⟨Z, hZ⟩ : ∃ Z, Z = (Builtin.zeroCells #[Value.int .i64 0, .int .i64 0, .int .i64 0, .int .u8 0, .int .i64 0, .int .i64 0] (m + 1)).toList := ⟨_, rfl⟩
  have hzl : Z.length = (m + 1) * 6 := by rw [hZ]; simp [Builtin.zeroCells]
  have hz1 : ∀ v ∈ Z, v.oneCell' = true := fun v hv => by
    rw [hZ] at hv
    simp only [Builtin.zeroCells, Array.toList_map, List.mem_map] at hv
    obtain ⟨q, _, rfl⟩ := hv
    have : q % 6 < 6 := Nat.mod_lt _ (by omega)
    simp only [List.size_toArray, List.length_cons, List.length_nil, Nat.zero_add, Nat.reduceAdd]
    match hq : q % 6, this with
    | 0, _ => rfl
    | 1, _ => rfl
    | 2, _ => rfl
    | 3, _ => rfl
    | 4, _ => rfl
    | 5, _ => rfl
  have hst := run_storeCells_at (P := Tryd.prog) g (i * 6) 23 Z 0 cur w hg (by rw [hzl, hsz]; omega) hz1
  have ht := Own.tail h hg (Nat.le_of_lt hi) (cur.toList.take (i * 6 + 0) ++ Z ++ cur.toList.drop (i * 6 + 0 + Z.length)).toArray
    (by simp only [List.size_toArray, List.length_append, List.length_take, List.length_drop, Array.length_toList, hzl, hsz]; omega)
    (by
      have l1 : (cur.toList.take (i * 6)).length = i * 6 := by rw [List.length_take, Array.length_toList, hsz]; omega
      simp only [Nat.add_zero, List.append_assoc]
      rw [List.take_append, l1, List.take_of_length_le (by rw [l1]; omega), Nat.sub_self, List.take_zero, List.append_nil])
  refine ⟨_, fun ty => ?_, ht.1, ht.2⟩
  have hzv := Tryd.zeroValue23 w
  rw [hm]
  simp only [Builtin.clear_, List.getElem?_toArray, List.getElem?_cons_zero, Sem.run_bind, run_underlying Tryd.underlying31, Result.andThen_ok, hzv, Value.cells, ← hZ, hst]
  rfl
end Go.Proofs.YtecfajnmekpeoaaDoor
