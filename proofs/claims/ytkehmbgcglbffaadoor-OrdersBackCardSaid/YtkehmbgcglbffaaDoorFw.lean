/-
  Regions that draw their order, whose last operation writes what the others read, with acts before it; a pure step where it comes up alone; one field of an element of a list of one's own. Conditions: what each law names.
-/
import Derived.Test.YtkehmbgcglbffaaDoorSb
import Derived.Test.YtkehmbgcglbffaaDoorSt
namespace Go.Proofs.YtkehmbgcglbffaaDoor
open Go.RowKit

section
variable {n : Nat} {l : Fr} {P : Program} {w : World} {Q : Exit → Act → World → Prop} {ops : Array Oper} {U : World → Prop} {fuel : Nat} {listed : Array Bool} {f : Nat}
theorem fw_act (i : Nat) {o : Oper} (hr : Region.ready .any ops listed = [i]) (ho : ops[i]? = some o) (hg : guardOn ops l o.guard = true) (hd : inD o.dst n = true)
    (h : Act1 P n l o w fun v w' => U w' ∧ (U w' → FW P n ops Q f U fuel (listed.setIfInBounds i true) (putD o.dst v l) w')) : FW P n ops Q f U (fuel + 1) listed l w := ⟨fun a ha => by
  refine ⟨fun h0 => (by rw [hr] at h0; cases h0), fun j hj => ?_⟩
  rw [hr, List.mem_singleton] at hj; subst hj
  unfold wpOp; rw [ho]
  dsimp only
  rw [if_pos (wanted_of ha hg)]
  exact Or.inl (h.out a ha _ _ fun v w' hZ => ⟨fun _ => hZ.1, (hZ.2 hZ.1).out _ (ha.putD hd v)⟩)⟩
theorem act_pv {d : Option Nat} {op : Op} {ty : TypeId} {pos : String} {af : Array Edge} {g : Option (Nat × Bool)} {v : Value} {Z : Value → World → Prop} (hv : Pv P n l ⟨d, op, ty, pos, af, g⟩ v w) (h : Z v w) : Act1 P n l ⟨d, op, ty, pos, af, g⟩ w Z := ⟨fun a ha K Q hK => by
  unfold Oper.wp; rw [hv.out a ha]; exact hK _ _ h⟩
end
theorem own_pt_ne {α : Type} {enc : α → List Value} {k : Nat} {T T' : TypeId} {B : Nat} {w : World} {v : Value} {xs : List α} {N : Nat} {cs : List Value} (h : Own enc k T B w v xs) (hp : PT w N T' cs) (hT : T ≠ T') : v.ownBlock ≠ some N := by
  obtain ⟨_, h2⟩ := h
  rcases h2 with ⟨rfl, _⟩ | ⟨g, cap, cur, rfl, _, hg, _⟩
  · simp [Value.ownBlock]
  · intro e
    have e2 : g = N := by simpa [Value.ownBlock] using e
    subst e2
    unfold PT at hp
    rw [hg] at hp; injection hp with hp; injection hp with _ hp _; exact hT hp
section
variable {α : Type} {enc : α → List Value} {k : Nat} {T t : TypeId} {base : Nat} {w : World} {g cap : Nat} {xs : List α} {P : Program} {n : Nat} {l : Fr} {Q : Exit → Act → World → Prop} {ops : Array Oper} {os : List Oper} {ty : TypeId} {pos : String} {af : Array Edge} {x y : Operand}
theorem flat_set (hk : ∀ x, (enc x).length = k) : ∀ {xs : List α} {i : Nat} {a u : α} {f : Nat} {v : Value}, xs[i]? = some a → enc u = (enc a).set f v → f < k → (xs.set i u).flatMap enc = (xs.flatMap enc).set (i * k + f) v
  | [], _, _, _, _, _, h, _, _ => by simp at h
  | b :: r, 0, a, u, f, v, h, hu, hf => by
    simp at h; subst h
    rw [List.set_cons_zero, List.flatMap_cons, List.flatMap_cons, hu, Nat.zero_mul, Nat.zero_add, List.set_append_left _ _ (by rw [hk]; exact hf)]
  | b :: r, i + 1, a, u, f, v, h, hu, hf => by
    have h' : r[i]? = some a := by simpa using h
    rw [List.set_cons_succ, List.flatMap_cons, List.flatMap_cons, flat_set hk h' hu hf, List.set_append_right _ _ (by rw [hk, Nat.add_mul]; omega), hk]
    congr 2
    rw [Nat.add_mul]; omega
/-- one field of an element -/
theorem lw_storeF (hk : ∀ x, (enc x).length = k) (ht : sizeB P t 1 = true) {i f o : Nat} {v : Value} {a u : α} (hx : ev l x = some (.pointer (some ⟨g, o, none⟩))) (ho : o = i * k + f) (hy : ev l y = some v) (h1 : v.oneCell' = true) (hO : Own enc k T base w (.slice (some ⟨g, 0, none⟩) xs.length cap) xs) (ha : xs[i]? = some a) (hu : enc u = (enc a).set f v) (hf : f < k)
    (h : ∀ w', Own enc k T base w' (.slice (some ⟨g, 0, none⟩) xs.length cap) (xs.set i u) → w.grownBy w' (some g) → w'.heap.size = w.heap.size → LW P n ops Q os l w') : LW P n ops Q (⟨none, .store t x y, ty, pos, af, none⟩ :: os) l w := by
  subst ho
  obtain ⟨cur, hb, hg, hle, hmax, hsz, htk⟩ := Own.heap' hO
  have hi : i < xs.length := (List.getElem?_eq_some_iff.1 ha).1
  have hik : i * k + f < xs.length * k := by
    have := Nat.mul_le_mul_right k (show i + 1 ≤ xs.length from hi); rw [Nat.add_mul, Nat.one_mul] at this; omega
  have hck : xs.length * k ≤ cap * k := Nat.mul_le_mul_right k hle
  have hp : PT w g T cur.toList := by unfold PT; simpa using hg
  obtain ⟨w', a1, b1, c1, e1⟩ := sv_store (P := P) (n := n) (l := l) (d := none) (ty := ty) (pos := pos) (af := af) (g := none) hp ht hx hy h1 (by rw [Array.length_toList, hsz]; omega)
  refine lw_skip a1 (h w' ⟨by rw [flat_len enc k hk, List.length_set], Or.inr ⟨g, cap, (cur.toList.set (i * k + f) v).toArray, by rw [List.length_set], hb, b1, by rw [List.length_set]; exact hle, hmax, by simp [hsz], ?_⟩⟩ c1 e1)
  rw [List.length_set, flat_set hk ha hu hf, ← htk]
  simp only [List.take_set]
end
end Go.Proofs.YtkehmbgcglbffaaDoor
