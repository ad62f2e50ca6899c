/-
  One element taken out of a list of one's own: the append onto its own beginning. Conditions: what each law names.
-/
import Derived.Test.YtkehmbgcglbffaaDoorSt
import Derived.Deep.RegionLaw
namespace Go.Proofs.YtkehmbgcglbffaaDoor
open Go.RowKit

theorem gb_trans {w w1 w2 : World} {row : Option Nat} (h : w.grownBy w1 row) (k : w1.grownBy w2 row) : w.grownBy w2 row :=
  ⟨k.os.trans h.os, k.tape.trans h.tape, k.output.trans h.output, Nat.le_trans h.size k.size, fun i hi hn => (k.block i (Nat.lt_of_lt_of_le hi h.size) hn).trans (h.block i hi hn)⟩
theorem gb_of {w w1 : World} (h : Below w.heap.size w w1) (row : Option Nat) : w.grownBy w1 row := ⟨h.os, h.tape, h.output, h.size, fun i hi _ => h.block i hi⟩
theorem gb_below {w w1 w2 : World} {row : Option Nat} (h : w.grownBy w1 row) (k : Below w1.heap.size w1 w2) : w.grownBy w2 row := gb_trans h (gb_of k row)
theorem gb_refl (w : World) (row : Option Nat) : w.grownBy w row := gb_of (Below.refl _ _) row
section
variable {α : Type} {enc : α → List Value} {k nb : Nat} {T S : TypeId} {base : Nat} {w : World} {g cap : Nat} {xs : List α}
/-- what stands behind place i is moved one place down; the last one stands twice -/
theorem Own.shiftK (hk : ∀ x, (enc x).length = k) (h : Own enc k T base w (.slice (some ⟨g, 0, none⟩) xs.length cap) xs) {cur : Array Value} (hg : w.heap[g]? = some (.cells cur T (0, 0))) {i : Nat} (hi : i < xs.length) {last : α} (hl : xs[xs.length - 1]? = some last) {w' : World}
    (hw : w' = w.setRow g (cur.toList.take (i * k) ++ ((xs.drop (i + 1)).flatMap enc ++ cur.toList.drop (i * k + ((xs.drop (i + 1)).flatMap enc).length))).toArray) :
    Own enc k T base w' (.slice (some ⟨g, 0, none⟩) (xs.eraseIdx i ++ [last]).length cap) (xs.eraseIdx i ++ [last]) ∧ w.grownBy w' (some g) := by
  obtain ⟨cur', hb, hg', hle, hmax, hsz, htk⟩ := Own.heap' h
  rw [hg] at hg'
  injection hg' with hg'; injection hg' with hg' _ _
  subst hg'
  obtain ⟨m, hm⟩ : ∃ m, xs.length = i + 1 + m := ⟨xs.length - (i + 1), by omega⟩
  have hln : ((xs.drop (i + 1)).flatMap enc).length = m * k := by rw [flat_len enc k hk, List.length_drop]; congr 1; omega
  have hel : (xs.eraseIdx i ++ [last]).length = xs.length := by rw [List.length_append, List.length_eraseIdx_of_lt hi]; simp; omega
  have hxk : xs.length * k = i * k + k + m * k := by rw [hm, Nat.add_mul, Nat.add_mul, Nat.one_mul]
  have hck : xs.length * k ≤ cap * k := Nat.mul_le_mul_right k hle
  rw [← List.append_assoc] at hw
  subst hw
  refine ⟨⟨by rw [flat_len enc k hk], Or.inr ⟨g, cap, _, rfl, hb, setRow_heap w g cur _ T _ hg, by rw [hel]; exact hle, hmax, ?_, ?_⟩⟩, ⟨rfl, rfl, rfl, by simp, fun q hq hne => setRow_other w g q _ (fun e => hne (by rw [e]))⟩⟩
  · simp only [List.size_toArray, List.length_append, List.length_take, List.length_drop, Array.length_toList, hln, hsz]
    omega
  · rw [hel, hln]
    have l1 : (cur.toList.take (i * k)).length = i * k := by rw [List.length_take, Array.length_toList, hsz]; omega
    have e1 : cur.toList.take (i * k) = (xs.take i).flatMap enc := by rw [← flat_take enc k hk, ← htk, List.take_take, Nat.min_eq_left (by omega)]
    have hlk : (xs.length - 1) * k = i * k + m * k := by rw [show xs.length - 1 = i + m by omega, Nat.add_mul]
    have e2 : (cur.toList.drop (i * k + m * k)).take k = enc last := by
      have h3 := flat_drop enc k hk xs (xs.length - 1)
      rw [← htk, List.drop_take, hlk, hxk] at h3
      have h4 : xs.drop (xs.length - 1) = [last] := by
        obtain ⟨h5, h6⟩ := List.getElem?_eq_some_iff.1 hl
        rw [List.drop_eq_getElem_cons h5, h6, List.drop_of_length_le (by omega)]
      rw [h4, show i * k + k + m * k - (i * k + m * k) = k by omega] at h3
      rw [h3]; simp
    rw [List.take_append, List.take_of_length_le (by rw [List.length_append, l1, hln]; omega), List.length_append, l1, hln, hxk, show i * k + k + m * k - (i * k + m * k) = k by omega, e2, e1]
    rw [List.flatMap_append, List.eraseIdx_eq_take_drop_succ, List.flatMap_append]
    simp
end
section
variable {α : Type} {enc : α → List Value} {k nb : Nat} {P : Program} {n : Nat} {l : Fr} {w : World} {d : Option Nat} {ty : TypeId} {pos : String} {af : Array Edge} {gd : Option (Nat × Bool)} {S T t : TypeId} {x y z z2 : Operand} {base g cap : Nat} {xs : List α} {Z : Value → World → Prop}
/-- append(s[:i], s[i+1:]...) -/
theorem act_appD (E : ElemT P S T k nb) (hk : ∀ x, (enc x).length = k) (h1c : ∀ x, ∀ v ∈ enc x, v.oneCell' = true) {i : Nat} {a : Option Addr} {m c : Nat} (hx : ev l x = some (.slice (some ⟨g, 0, none⟩) i cap)) (hy : ev l y = some (.slice a m c)) (ha : a = some ⟨g, 0 + (i + 1) * k, none⟩ ∨ (cap = i + 1 ∧ a = some ⟨g, 0, none⟩)) (hm : m = xs.length - (i + 1)) (ho : Own enc k T base w (.slice (some ⟨g, 0, none⟩) xs.length cap) xs) (hi : i < xs.length) {last : α} (hl : xs[xs.length - 1]? = some last)
    (h : ∀ w', Own enc k T base w' (.slice (some ⟨g, 0, none⟩) (xs.eraseIdx i ++ [last]).length cap) (xs.eraseIdx i ++ [last]) → w.grownBy w' (some g) → Z (.slice (some ⟨g, 0, none⟩) (i + m) cap) w') :
    Act1 P n l ⟨d, .call ⟨.builtin .append, #[x, y], #[S, S]⟩, ty, pos, af, gd⟩ w Z := by
  obtain ⟨cur, hb, hg, hle, hmax, hsz, htk⟩ := Own.heap' ho
  obtain ⟨inf, z, hif, hz, hisz, _, _⟩ := E.info
  have hln : ((xs.drop (i + 1)).flatMap enc).length = m * k := by rw [flat_len enc k hk, List.length_drop, hm]
  have hcells : ∀ ad, a = some ad → ∀ j u, ((xs.drop (i + 1)).flatMap enc)[j]? = some u → w.cell? (ad.add j) = some u := fun ad had j u hj => by
    have hlt : j < m * k := by rw [← hln]; exact (List.getElem?_eq_some_iff.1 hj).1
    rcases ha with ha | ⟨hc, _⟩
    · rw [had] at ha; injection ha with ha; subst ha
      rw [← flat_drop enc k hk, List.getElem?_drop, ← htk, List.getElem?_take] at hj
      split at hj
      · rw [Addr.add_lit, cell_of_row w g _ cur T (0, 0) hg]; simpa using hj
      · cases hj
    · have : m = 0 := by omega
      rw [this] at hlt; simp at hlt
  obtain ⟨ad, had⟩ : ∃ ad, a = some ad := by rcases ha with ha | ⟨_, ha⟩ <;> exact ⟨_, ha⟩
  have hone : ∀ u ∈ (xs.drop (i + 1)).flatMap enc, u.oneCell' = true := flat_one h1c _
  have hmk : i * k + m * k ≤ cur.size := by
    have h1 : (i + m) * k ≤ cap * k := Nat.mul_le_mul_right k (by omega)
    rw [Nat.add_mul] at h1; omega
  have hrun := run_append_room (P := P) w S ty T inf E.sl hif g i cap cur hg ad m c ((xs.drop (i + 1)).flatMap enc) (by rw [hisz]; exact hln) (hcells ad had) hone (by omega) (by rw [hisz, hln]; exact hmk)
  rw [hisz] at hrun
  obtain ⟨h1, h2⟩ := Own.shiftK hk ho hg hi hl (w' := _) rfl
  subst had
  exact act_ev ⟨fun A hA => by simp [execOp, resolve, hA.ev hx, hA.ev hy, invoke, builtin, hrun]⟩ (h _ h1 h2)
/-- x[i:j:m], its bounds -/
theorem pv_slice_3 {ad : Option Addr} {m c e : Nat} {k1 k2 k3 : IntKind} {i j q : Int} (ht : slB P t e = true) (hx : ev l x = some (.slice ad m c)) (hy : ev l y = some (.int k1 i)) (hz : ev l z = some (.int k2 j)) (hz2 : ev l z2 = some (.int k3 q)) (h : 0 ≤ i ∧ i ≤ j ∧ j ≤ q ∧ q ≤ c) :
    Pv P n l ⟨d, .slice t x (some y) (some z) (some z2), ty, pos, af, gd⟩ (.slice (if q.toNat = i.toNat then ad else ad.map (·.add (i.toNat * e))) (j.toNat - i.toNat) (q.toNat - i.toNat)) w := ⟨fun A hA => by
  obtain ⟨r, h1, h2⟩ := slB_of ht
  have h3 : i ≤ max j 0 := by omega
  have h4 : j ≤ max q 0 := by omega
  have h5 : 0 ≤ j := by omega
  have h6 : 0 ≤ q := by omega
  simp [execOp, hA.ev hx, hA.ev hy, hA.ev hz, hA.ev hz2, Instr.sliceAt, Instr.slice, run_underlying h1, Instr.sliceBounds, Instr.sliceBound, asIntOf, h.1, h.2.2.2, h5, h6, sizeB_run h2]
  rw [if_pos h4, if_pos h3]⟩
end
end Go.Proofs.YtkehmbgcglbffaaDoor
