/-
  Part 1 of the texts of: StateNames: its row: whatever the input: true; the input reads as it did. Conditions: none.
-/
import Derived.Test.YtekomjnjddhfmaaGreatZW0
import Derived.Laws.StructEq
namespace Go.Proofs.YtekomjnjddhfmaaGreat
open Go.RowKit Go.PlainAid

theorem heldL_cons (p : PartT) (l : List PartT) (k : Int × Int) : heldL (p :: l) k = (if p.1 = k then p.2 else 0) + heldL l k := by
  unfold heldL
  by_cases h : p.1 = k
  · rw [List.filter_cons_of_pos (by simp [h]), if_pos h, List.map_cons, List.sum_cons]
  · rw [List.filter_cons_of_neg (by simp [h]), if_neg h, Int.zero_add]
theorem heldL_app (l m : List PartT) (k : Int × Int) : heldL (l ++ m) k = heldL l k + heldL m k := by
  induction l with
  | nil => simp [heldL]
  | cons p l ih => rw [List.cons_append, heldL_cons, heldL_cons, ih]; omega
theorem heldL_none {l : List PartT} {k : Int × Int} (h : ∀ p ∈ l, p.1 ≠ k) : heldL l k = 0 := by
  induction l with
  | nil => rfl
  | cons p l ih => rw [heldL_cons, if_neg (h p List.mem_cons_self), ih (fun q hq => h q (List.mem_cons_of_mem _ hq))]; rfl
def PartIn (p : PartT) : Prop := (1 ≤ p.1.1 ∧ p.1.1 ≤ 64) ∧ (0 ≤ p.1.2 ∧ p.1.2 ≤ 16) ∧ (1 ≤ p.2 ∧ p.2 ≤ 1125899906842624)
theorem heldL_bd {l : List PartT} {k : Int × Int} (h : ∀ p ∈ l, 1 ≤ p.2 ∧ p.2 ≤ 1125899906842624) : 0 ≤ heldL l k ∧ heldL l k ≤ (l.length : Nat) * 1125899906842624 := by
  induction l with
  | nil => exact ⟨Int.le_refl _, Int.le_refl _⟩
  | cons p l ih =>
    have h1 := h p List.mem_cons_self
    have h2 := ih (fun q hq => h q (List.mem_cons_of_mem _ hq))
    rw [heldL_cons, List.length_cons]
    split <;> omega
theorem mul_le_q {a b : Int} (h1 : 1 ≤ a ∧ a ≤ 1073741824) (h2 : 1 ≤ b ∧ b ≤ 1048576) : 1 ≤ a * b ∧ a * b ≤ 1125899906842624 :=
  ⟨by have := Int.mul_le_mul h1.1 h2.1 (by omega) (by omega); omega, by have := Int.mul_le_mul h1.2 h2.2 (by omega) (by omega); omega⟩
theorem holdsN_bd (o : Ord) : 0 ≤ holdsN o ∧ holdsN o ≤ 1125899906842624 := by
  unfold holdsN
  split
  · rename_i h
    have h := mayOne_iff.1 h
    split
    · have := mul_le_q h.2.2.2.2.1 h.2.2.2.2.2; omega
    · omega
  · omega
theorem holdsN_no {o : Ord} (h : mayOne o = false) : holdsN o = 0 ∧ holdsA o = 0 := by simp [holdsN, holdsA, h]
theorem partO_bd {o : Ord} : ∀ p ∈ partO o, 1 ≤ p.2 ∧ p.2 ≤ 1125899906842624 := by
  intro p hp
  unfold partO at hp
  split at hp
  · simp at hp; subst hp; have := holdsN_bd o; exact ⟨by show 1 ≤ holdsN o; omega, this.2⟩
  · cases hp
theorem partO_in {o : Ord} : ∀ p ∈ partO o, PartIn p := by
  intro p hp
  have h1 := partO_bd p hp
  unfold partO at hp
  split at hp
  · rename_i h
    simp at hp; subst hp
    have hm : mayOne o = true := by
      cases hm : mayOne o with
      | true => rfl
      | false => have := holdsN_no hm; omega
    have g := mayOne_iff.1 hm
    refine ⟨g.2.1, ?_, h1⟩
    show 0 ≤ holdsA o ∧ holdsA o ≤ 16
    unfold holdsA; rw [if_pos hm]; split <;> omega
  · cases hp
theorem mayAu_iff {a : Auc} : mayAu a = true ↔ headB a.h = true ∧ mannB a = true ∧ bidsB a.h.seller a.bids = true := by simp [mayAu, and_assoc]
theorem headB_iff {a : AuH} : headB a = true ↔ (1 ≤ a.id ∧ a.id ≤ 1099511627776) ∧ (1 ≤ a.seller ∧ a.seller ≤ 64) ∧ (1 ≤ a.inst ∧ a.inst ≤ 16) ∧ (1 ≤ a.qty ∧ a.qty ≤ 1048576) ∧ (1 ≤ a.reserve ∧ a.reserve ≤ 1125899906842624) ∧ (1 ≤ a.fin ∧ a.fin ≤ 1099511627776) := by simp [headB, btw_iff, and_assoc]
theorem bidB_iff {s : Int} {b : Bid} : bidB s b = true ↔ (1 ≤ b.acct ∧ b.acct ≤ 64) ∧ b.acct ≠ s ∧ (1 ≤ b.amt ∧ b.amt ≤ 1125899906842624) := by simp [bidB, btw_iff, and_assoc]
theorem bidsB_iff {s : Int} {l : List Bid} : bidsB s l = true ↔ (∀ b ∈ l, bidB s b = true) ∧ (l.map (·.acct)).Nodup := by simp [bidsB]
theorem partA_in {a : Auc} : ∀ p ∈ partA a, PartIn p := by
  intro p hp
  unfold partA at hp
  split at hp
  · rename_i h
    obtain ⟨h1, -, h3⟩ := mayAu_iff.1 h
    have g := headB_iff.1 h1
    rcases List.mem_cons.1 hp with rfl | hp
    · exact ⟨g.2.1, ⟨by have := g.2.2.1; show 0 ≤ a.h.inst; omega, g.2.2.1.2⟩, by have := g.2.2.2.1; show 1 ≤ a.h.qty ∧ a.h.qty ≤ 1125899906842624; omega⟩
    · obtain ⟨b, hb, rfl⟩ := List.mem_map.1 hp
      have g := bidB_iff.1 ((bidsB_iff.1 h3).1 b hb)
      exact ⟨g.1, ⟨Int.le_refl _, by show (0 : Int) ≤ 16; omega⟩, g.2.2⟩
  · cases hp
theorem partsP_in {os : List Ord} {us : List Auc} : ∀ p ∈ partsP os us, PartIn p := by
  intro p hp
  unfold partsP at hp
  rcases List.mem_append.1 hp with hp | hp
  · obtain ⟨o, -, ho⟩ := List.mem_flatMap.1 hp; exact partO_in p ho
  · obtain ⟨a, -, ha⟩ := List.mem_flatMap.1 hp; exact partA_in p ha
/-! ### the map of what is held -/
abbrev KeyX := Fin 256 × Fin 256
def kk (a i : Int) : KeyX := (Fin.ofNat 256 a.toNat, Fin.ofNat 256 i.toNat)
theorem kk_inj {a i b j : Int} (ha : 0 ≤ a ∧ a ≤ 255) (hi : 0 ≤ i ∧ i ≤ 255) (hb : 0 ≤ b ∧ b ≤ 255) (hj : 0 ≤ j ∧ j ≤ 255) : kk a i = kk b j ↔ a = b ∧ i = j := by
  unfold kk
  rw [Prod.mk.injEq, Fin.ext_iff, Fin.ext_iff]
  show a.toNat % 256 = b.toNat % 256 ∧ i.toNat % 256 = j.toNat % 256 ↔ _
  omega
structure MapIs (m : List (KeyX × Int)) (l : List PartT) (ks : List (Int × Int)) : Prop where
  nd : (m.map (·.1)).Nodup
  get : ∀ a i : Int, (0 ≤ a ∧ a ≤ 255) → (0 ≤ i ∧ i ≤ 255) → getM m (kk a i) = if (∃ p ∈ l, p.1 = (a, i)) ∧ (a, i) ∉ ks then some (heldL l (a, i)) else none
  keys : ∀ e ∈ m, ∃ p ∈ l, p.1 ∉ ks ∧ e.1 = kk p.1.1 p.1.2
theorem MapIs.nil : MapIs [] [] [] := ⟨List.nodup_nil, fun a i _ _ => by simp [getM], fun e h => by cases h⟩
theorem putM_nd {m : List (KeyX × Int)} {k : KeyX} {v : Int} (h : (m.map (·.1)).Nodup) : ((putM m k v).map (·.1)).Nodup := by
  unfold putM
  split
  · rw [List.map_map]
    have : m.map ((fun e : KeyX × Int => e.1) ∘ fun e => if e.1 = k then (k, v) else e) = m.map (·.1) := List.map_congr_left fun e _ => by
      show (if e.1 = k then (k, v) else e).1 = e.1
      split
      · rename_i h; exact h.symm
      · rfl
    rw [this]; exact h
  · rename_i hn
    rw [List.map_append, List.nodup_append]
    refine ⟨h, by simp, ?_⟩
    intro x hx y hy e
    simp at hy; subst hy
    obtain ⟨q, hq, rfl⟩ := List.mem_map.1 hx
    exact hn (by
      have : getM m y ≠ none := fun g => (getM_none.1 g) q hq e
      cases hg : getM m y with
      | none => exact absurd hg this
      | some v => simp)
theorem putM_keys {m : List (KeyX × Int)} {k : KeyX} {v : Int} : ∀ e ∈ putM m k v, e.1 = k ∨ e ∈ m := by
  intro e he
  unfold putM at he
  split at he
  · obtain ⟨q, hq, rfl⟩ := List.mem_map.1 he
    by_cases h : q.1 = k
    · left; rw [if_pos h]
    · right; rw [if_neg h]; exact hq
  · rcases List.mem_append.1 he with he | he
    · exact Or.inr he
    · simp at he; subst he; exact Or.inl rfl
theorem MapIs.val {m : List (KeyX × Int)} {l : List PartT} {ks : List (Int × Int)} (h : MapIs m l ks) {a i : Int} (ha : 0 ≤ a ∧ a ≤ 255) (hi : 0 ≤ i ∧ i ≤ 255) (hn : (a, i) ∉ ks) : (getM m (kk a i)).getD 0 = heldL l (a, i) := by
  rw [h.get a i ha hi]
  by_cases g : ∃ p ∈ l, p.1 = (a, i)
  · rw [if_pos ⟨g, hn⟩]; rfl
  · rw [if_neg (fun x => g x.1), heldL_none fun p hp e => g ⟨p, hp, e⟩]; rfl
theorem MapIs.add {m : List (KeyX × Int)} {l : List PartT} (h : MapIs m l []) {p : PartT} (hp : PartIn p) : MapIs (putM m (kk p.1.1 p.1.2) ((getM m (kk p.1.1 p.1.2)).getD 0 + p.2)) (l ++ [p]) [] := by
  have g1 := hp.1; have g2 := hp.2.1
  refine ⟨putM_nd h.nd, fun a i ha hi => ?_, fun e he => ?_⟩
  · rw [getM_put, h.val (by omega) (by omega) (by simp)]
    by_cases hk : kk a i = kk p.1.1 p.1.2
    · obtain ⟨rfl, rfl⟩ := (kk_inj ha hi (by omega) (by omega)).1 hk
      rw [if_pos hk, if_pos ⟨⟨p, by simp, rfl⟩, by simp⟩, heldL_app, heldL_cons, if_pos rfl]
      simp [heldL]
    · have hne : p.1 ≠ (a, i) := fun e => hk (by rw [e])
      rw [if_neg hk, h.get a i ha hi, heldL_app, heldL_cons, if_neg hne]
      have : (∃ q ∈ l ++ [p], q.1 = (a, i)) ↔ ∃ q ∈ l, q.1 = (a, i) := by
        constructor
        · rintro ⟨q, hq, e⟩
          rcases List.mem_append.1 hq with hq | hq
          · exact ⟨q, hq, e⟩
          · simp at hq; subst hq; exact absurd e hne
        · rintro ⟨q, hq, e⟩; exact ⟨q, by simp [hq], e⟩
      simp only [this]
      simp [heldL]
  · rcases putM_keys e he with e1 | e1
    · exact ⟨p, by simp, by simp, e1⟩
    · obtain ⟨q, hq, -, h2⟩ := h.keys e e1
      exact ⟨q, by simp [hq], by simp, h2⟩
theorem MapIs.del {m : List (KeyX × Int)} {l : List PartT} {ks : List (Int × Int)} (h : MapIs m l ks) {a i : Int} (ha : 0 ≤ a ∧ a ≤ 255) (hi : 0 ≤ i ∧ i ≤ 255) : MapIs (delM m (kk a i)) l (ks ++ [(a, i)]) := by
  refine ⟨?_, fun b j hb hj => ?_, fun e he => ?_⟩
  · exact (h.nd.sublist (List.Sublist.map _ List.filter_sublist))
  · rw [getM_del]
    by_cases hk : kk b j = kk a i
    · obtain ⟨rfl, rfl⟩ := (kk_inj hb hj ha hi).1 hk
      rw [if_pos hk, if_neg]; simp
    · have hne : (b, j) ≠ (a, i) := fun e => hk (by rw [Prod.mk.injEq] at e; rw [e.1, e.2])
      rw [if_neg hk, h.get b j hb hj]
      have : ((b, j) ∉ ks ++ [(a, i)]) ↔ (b, j) ∉ ks := by simp [hne]
      simp only [this]
  · unfold delM at he
    rw [List.mem_filter] at he
    obtain ⟨q, hq, hn, h2⟩ := h.keys e he.1
    have hne : e.1 ≠ kk a i := by simpa using he.2
    refine ⟨q, hq, ?_, h2⟩
    intro hm
    rcases List.mem_append.1 hm with hm | hm
    · exact hn hm
    · simp at hm; exact hne (by rw [h2, hm])
theorem MapIs.len0 {m : List (KeyX × Int)} {l : List PartT} {ks : List (Int × Int)} (h : MapIs m l ks) (hl : ∀ p ∈ l, PartIn p) : m.length = 0 ↔ ∀ p ∈ l, p.1 ∈ ks := by
  constructor
  · intro hm p hp
    have hm : m = [] := List.length_eq_zero_iff.1 hm
    have g := hl p hp
    have := h.get p.1.1 p.1.2 (by have := g.1; omega) (by have := g.2.1; omega)
    rw [hm, getM_nil] at this
    by_cases hk : p.1 ∈ ks
    · exact hk
    · rw [if_pos ⟨⟨p, hp, rfl⟩, hk⟩] at this; cases this
  · intro hp
    cases m with
    | nil => rfl
    | cons e r => obtain ⟨q, hq, hn, -⟩ := h.keys e List.mem_cons_self; exact absurd (hp q hq) hn

theorem rise_adj {α : Type} (f : α → Int) : ∀ (l : List α), (∀ (j : Nat) x y, l[j]? = some x → l[j + 1]? = some y → f x < f y) → l.Pairwise fun a b => f a < f b := by
  intro l
  induction l with
  | nil => intro _; exact List.Pairwise.nil
  | cons x l ih =>
    intro h
    have h2 := ih (fun j a b h1 h2 => h (j + 1) a b h1 h2)
    refine List.pairwise_cons.2 ⟨fun y hy => ?_, h2⟩
    cases l with
    | nil => cases hy
    | cons z l =>
      have hz := h 0 x z rfl rfl
      rcases List.mem_cons.1 hy with rfl | hy
      · exact hz
      · have := (List.pairwise_cons.1 h2).1 y hy; omega
theorem rise_at {α : Type} {f : α → Int} {l : List α} (h : l.Pairwise fun a b => f a < f b) {i j : Nat} {x y : α} (hx : l[i]? = some x) (hy : l[j]? = some y) (hij : i < j) : f x < f y := by
  obtain ⟨hi, rfl⟩ := List.getElem?_eq_some_iff.1 hx
  obtain ⟨hj, rfl⟩ := List.getElem?_eq_some_iff.1 hy
  exact List.pairwise_iff_getElem.1 h i j hi hj hij
theorem all_get {α : Type} {p : α → Prop} {l : List α} (h : ∀ (j : Nat) x, l[j]? = some x → p x) : ∀ x ∈ l, p x := fun x hx => by
  obtain ⟨j, hj⟩ := List.mem_iff_getElem?.1 hx; exact h j x hj
theorem nodup_get {α β : Type} (f : α → β) {l : List α} : (l.map f).Nodup ↔ ∀ (i j : Nat) x y, i < j → l[i]? = some x → l[j]? = some y → f x ≠ f y := by
  unfold List.Nodup
  rw [List.pairwise_map]
  constructor
  · intro h i j x y hij hx hy
    obtain ⟨hi, rfl⟩ := List.getElem?_eq_some_iff.1 hx
    obtain ⟨hj, rfl⟩ := List.getElem?_eq_some_iff.1 hy
    exact List.pairwise_iff_getElem.1 h i j hi hj hij
  · intro h
    exact List.pairwise_iff_getElem.2 fun i j hi hj hij => h i j _ _ hij (List.getElem?_eq_getElem hi) (List.getElem?_eq_getElem hj)
theorem mayO_no1 {l : List Ord} {j : Nat} {o : Ord} (h : l[j]? = some o) (hm : mayOne o = false) : mayO l = false := by
  unfold mayO; rw [decide_eq_false_iff_not]; intro hM
  have := hM.2.1 o (List.mem_of_getElem? h); rw [hm] at this; cases this
theorem mayO_no2 {l : List Ord} {j : Nat} {o p : Ord} (h : l[j]? = some o) (g : l[j + 1]? = some p) (hm : p.id ≤ o.id) : mayO l = false := by
  unfold mayO; rw [decide_eq_false_iff_not]; intro hM
  have := rise_at (f := Ord.id) hM.2.2 h g (by omega); omega
theorem mayO_no3 {l : List Ord} (h : 128 < l.length) : mayO l = false := by
  unfold mayO; rw [decide_eq_false_iff_not]; intro hM; have := hM.1; omega
theorem mayO_yes {l : List Ord} (h : l.length ≤ 128) (h1 : ∀ o ∈ l, mayOne o = true) (h2 : ∀ (j : Nat) x y, l[j]? = some x → l[j + 1]? = some y → x.id < y.id) : mayO l = true := mayO_iff.2 ⟨h, h1, rise_adj Ord.id l h2⟩
theorem mayAus_iff {l : List Auc} : mayAus l = true ↔ (∀ a ∈ l, mayAu a = true) ∧ (l.Pairwise fun a b => a.h.id < b.h.id) ∧ l.length ≤ 32 := by simp [mayAus, and_assoc]
theorem mayAus_no1 {l : List Auc} {j : Nat} {a : Auc} (h : l[j]? = some a) (hm : mayAu a = false) : mayAus l = false := by
  rw [← Bool.not_eq_true, mayAus_iff]; intro hM
  have := hM.1 a (List.mem_of_getElem? h); rw [hm] at this; cases this
theorem mayAus_no2 {l : List Auc} {j : Nat} {a b : Auc} (h : l[j]? = some a) (g : l[j + 1]? = some b) (hm : b.h.id ≤ a.h.id) : mayAus l = false := by
  rw [← Bool.not_eq_true, mayAus_iff]; intro hM
  have := rise_at (f := fun a : Auc => a.h.id) hM.2.1 h g (by omega); omega
theorem mayAus_end {l : List Auc} (h1 : ∀ (j : Nat) a, l[j]? = some a → mayAu a = true) (h2 : ∀ (j : Nat) x y, l[j]? = some x → l[j + 1]? = some y → x.h.id < y.h.id) : mayAus l = decide (l.length ≤ 32) := by
  rw [Bool.eq_iff_iff, mayAus_iff, decide_eq_true_eq]
  exact ⟨fun h => h.2.2, fun h => ⟨all_get h1, rise_adj (fun a : Auc => a.h.id) l h2, h⟩⟩
/-! names -/
theorem named_no {l : List Acc} {n : ByteArray} (h : ∀ (j : Nat) y, l[j]? = some y → y.name ≠ n) : namedOf l n = 0 := by
  have : l.findIdx? (fun x => decide (x.name = n)) = none := by
    rw [List.findIdx?_eq_none_iff]; intro x hx; have := all_get h x hx; simpa using this
  simp [namedOf, this]
theorem named_at {l : List Acc} {n : ByteArray} {i : Nat} {x : Acc} (h : l[i]? = some x) (he : x.name = n) (hn : ∀ (j : Nat) y, j < i → l[j]? = some y → y.name ≠ n) : namedOf l n = (i : Nat) + 1 := by
  obtain ⟨hi, hx⟩ := List.getElem?_eq_some_iff.1 h
  have : l.findIdx? (fun x => decide (x.name = n)) = some i := by
    rw [List.findIdx?_eq_some_iff_getElem]
    refine ⟨hi, by simp [hx, he], fun j hj => ?_⟩
    have := hn j _ hj (List.getElem?_eq_getElem (by omega)); simpa using this
  simp [namedOf, this]
theorem namesB_iff {l : List ByteArray} : namesB l = true ↔ (∀ x ∈ l, nameR x = true) ∧ l.Nodup := by simp [namesB]
theorem inss_iff {l : List Ins} : inssB l = true ↔ ∀ (i : Nat) x, l[i]? = some x → i < 16 ∧ nameR x.name = true ∧ tickB x = true ∧ ∀ (j : Nat) y, j < i → l[j]? = some y → y.name ≠ x.name := by
  unfold inssB
  rw [Bool.and_eq_true, Bool.and_eq_true, decide_eq_true_eq, namesB_iff, nodup_get, List.all_eq_true]
  constructor
  · rintro ⟨h0, h1, h2, h3⟩ i x hx
    have hi := (List.getElem?_eq_some_iff.1 hx).1
    exact ⟨by omega, h2 _ (List.mem_map.2 ⟨x, List.mem_of_getElem? hx, rfl⟩), h0 x (List.mem_of_getElem? hx), fun j y hj hy => h3 j i y x hj hy hx⟩
  · intro h
    refine ⟨all_get fun j x hx => (h j x hx).2.2.1, ?_, ?_, ?_⟩
    · by_cases hl : l.length ≤ 16
      · exact hl
      · have := (h 16 _ (List.getElem?_eq_getElem (by omega))).1; omega
    · intro n hn
      obtain ⟨x, hx, rfl⟩ := List.mem_map.1 hn
      obtain ⟨j, hj⟩ := List.mem_iff_getElem?.1 hx
      exact (h j x hj).2.1
    · intro i j x y hij hx hy
      exact (h j y hy).2.2.2 i x hij hx
/-! accounts and instruments by number -/
theorem accOf_in {l : List Acc} {a : Int} {x : Acc} (h : 1 ≤ a ∧ a ≤ (l.length : Nat)) (hx : l[(a - 1).toNat]? = some x) : accOf l a = if x.opn then (x, true) else (⟨ByteArray.empty, false⟩, false) := by
  unfold accOf; rw [if_pos h, hx]
theorem accOf_out {l : List Acc} {a : Int} (h : ¬ (1 ≤ a ∧ a ≤ (l.length : Nat))) : accOf l a = (⟨ByteArray.empty, false⟩, false) := by
  unfold accOf; rw [if_neg h]
theorem insOf_in {l : List Ins} {a : Int} {x : Ins} (h : 1 ≤ a ∧ a ≤ (l.length : Nat)) (hx : l[(a - 1).toNat]? = some x) : insOf l a = (x, true) := by
  unfold insOf; rw [if_pos h, hx]
theorem insOf_out {l : List Ins} {a : Int} (h : ¬ (1 ≤ a ∧ a ≤ (l.length : Nat))) : insOf l a = (⟨ByteArray.empty, 0, false⟩, false) := by
  unfold insOf; rw [if_neg h]
theorem insOf_mem {l : List Ins} {a : Int} (h : isB l a = true) : (insOf l a).1 ∈ l := by
  unfold isB insOf at *
  split at h
  · rename_i hc
    rw [if_pos hc]
    cases hx : l[(a - 1).toNat]? with
    | none => rw [hx] at h; cases h
    | some x => exact List.mem_of_getElem? hx
  · cases h

theorem pv_predn {P : Program} {n : Nat} {l : Fr} {w : World} {d : Option Nat} {g : Option (Nat × Bool)} {t t' ty : TypeId} {pos : String} {af : Array Edge} {x y : Operand} {i : Nat} (hx : ev l x = some (.int .i64 ((i : Int) + 1))) (hy : ev l y = some (.int .i64 1)) (h : i < 9223372036854775807) : Pv P n l ⟨d, .binOp .sub t x y t', ty, pos, af, g⟩ (.int .i64 (i : Nat)) w := by
  have h2 := pv_sub (P := P) (n := n) (w := w) (d := d) (g := g) (t := t) (t' := t') (ty := ty) (pos := pos) (af := af) hx hy (by omega)
  rwa [show ((i : Int) + 1 - 1) = (i : Int) by omega] at h2
set_option maxRecDepth 20000 in
set_option maxHeartbeats 4000000 in
theorem acct_c {s : SttC} {t : Stt} {a : Int} {w : World} (hS0 : StR w s t) : Calls Tryz.prog 12 #[(.agg (encS s).toArray), .int .i64 a] w fun e w' => e = .returned (.tuple #[.agg (encA (accOf t.accs a).1).toArray, .bool (accOf t.accs a).2]) ∧ Below w.heap.size w w' := by
  have hE := Ext.refl w
  have hw := Below.refl w.heap.size w
  obtain ⟨c1, c2, c3, c4, pa, ma, ca, pi, mi, ci, pr, mr, cr, po, mo, co, px, mx, cx⟩ := s; obtain ⟨⟨e1, e2, e3, e4⟩, hma, hmi, hmr, hmo, hmx, HA, HI, HR, HO, HXs⟩ := hS0; simp only at e1 e2 e3 e4 hma hmi hmr hmo hmx HA HI HR HO HXs; subst e1 e2 e3 e4 hma hmi hmr hmo hmx
  have hla := HA.le
  have hma := HA.max
  refine fn_enter 32 Tryz.func12 rfl rfl rfl ?_
  repeat' (first | (refine is_cw ?_; first | (refine cw_seq ?_) | (refine cw_region ?_)))
  refine lw_boxN rfl rfl (cs := [.int .i64 t.clock, .int .i64 t.fee, .int .i64 t.nord, .int .i64 t.nauc, .slice pa t.accs.length ca, .slice pi t.inss.length ci, .slice pr t.rows.length cr, .slice po t.ords.length co, .slice px t.aucs.length cx]) rfl ?_; intro N2 wn hN2 HX hb; replace hN2 := Nat.le_trans hw.size hN2; replace hw := grow_trans hw hb; clear hb
  replace hE := hE.mono hw; replace HA := HA.mono hw; clear hw; have hw := Below.refl wn.heap.size wn
  skip
  refine lw_allocN rfl (by first | exact tyv_29 | exact tyv_30 | exact tyv_33 | exact tyv_34 | exact tyv_36 | exact tyv_37 | exact tyv_38 | exact tyv_39 | exact tyv_40 | exact tyv_41 | exact tyv_43 | exact tyv_44 | exact tyv_45 | exact tyv_46 | exact tyv_73 | exact tyv_74 | exact tyv_80 | exact tyv_81 | exact tyv_107 | exact tyv_108 | exact tyv_123 | exact tyv_146 | exact tyv_147 | exact tyv_148 | exact tyv_149) rfl ?_; intro N w1 hN H hb
  replace hw := grow_trans hw hb; clear hb
  have hNE : N2 ≠ N := by have := HX.lt; omega
  have hNw : w.heap.size ≤ N := by have := HX.lt; omega
  replace hE := hE.mono hw; replace HA := HA.mono hw; replace HX := HX.mono hw; clear hw; have hw := Below.refl w1.heap.size w1
  by_cases hc : 1 ≤ a ∧ a ≤ (t.accs.length : Nat)
  · obtain ⟨k, rfl⟩ : ∃ k : Nat, a = (k : Int) + 1 := ⟨(a - 1).toNat, by omega⟩
    have hlt : k < t.accs.length := by omega
    have hxk : t.accs[k]? = some t.accs[k] := List.getElem?_eq_getElem hlt
    generalize t.accs[k] = x at hxk
    rw [accOf_in hc (x := x) (by rw [← hxk]; congr 1; omega)]
    obtain ⟨ab, ao, rfl, -, -⟩ := HA.at (by intro h; rw [h] at hlt; simp at hlt)
    obtain ⟨nm, op⟩ := x
    cases op with
    | true =>
      repeat' (first | (refine lw_pure rfl (pv_move rfl) ?_) | (refine lw_pure rfl (pv_assign rfl) ?_) | (refine is_cw ?_; first | (refine cw_seq ?_) | (refine cw_region ?_) | (refine cw_false rfl rfl ?_) | (refine cw_skip ?_)) | (refine is_qw ?_; first | (with_reducible refine qw_then ?_)) | (refine lw_nil ?_) | (refine is_guarded ?_; first | (refine lw_on rfl rfl rfl ?_) | (refine lw_on rfl rfl (by first | assumption | exact decide_eq_true (by omega) | exact decide_eq_false (by omega) | exact dec_notT (by omega) | exact dec_notF (by omega)) ?_)) | ((refine is_bin ?_; first | (refine lw_pure rfl (pv_predn rfl rfl (by omega)) ?_) | (refine lw_pure rfl (pv_lss rfl rfl) ?_) | (refine lw_pure rfl (pv_gtr rfl rfl) ?_))) | ((refine is_load ?_; first | (refine lw_pure rfl (pv_load (t1 rfl) rfl (by first | exact PT.ld0 (HX.mono hw) rfl | exact PT.ld (HX.mono hw) rfl | exact SlR.ld (HA.mono hw) hxk rfl | exact SlR.ld1 (HA.mono hw) hxk rfl)) ?_) | (refine lw_pure rfl (pv_loada (tA rfl) rfl (by first | exact PT.lda (HX.mono hw) | exact SlR.lda (HA.mono hw) hxk) (by rfl)) ?_))) | ((refine is_fa ?_; first | (refine lw_pure rfl (pv_fa (tF rfl) rfl) ?_))) | ((refine is_ia ?_; first | (refine lw_pure rfl (pv_ian (tS rfl) rfl rfl (by omega)) ?_))) | ((refine is_un ?_; first | (refine lw_pure rfl (pv_not rfl) ?_))) | ((refine is_bi ?_; first | (refine lw_pure rfl (pv_lenl (tS rfl) rfl) ?_))) | (refine is_pk ?_; refine lw_pure rfl (pv_pick_f rfl rfl rfl) ?_) | (refine is_pk ?_; refine lw_pure rfl (pv_pick_f rfl (by first | assumption | exact decide_eq_false (by omega) | exact dec_notF (by omega)) rfl) ?_))
      refine lw_storea (vs := [.string nm, .bool true]) (H.mono hw) (tZ rfl) rfl rfl rfl rfl (by simp [Value.oneCell']) ?_; intro w3 H2 hg hz; replace hE := (hE.mono hw).grown hg (by intro q hq; injection hq with hq; omega)
      clear hw; have hw := Below.refl w3.heap.size w3
      repeat' (first | (refine lw_pure rfl (pv_assign rfl) ?_) | (refine is_cw ?_; first | (refine cw_ret ?_)) | (refine is_qw ?_; first | (with_reducible refine qw_then ?_)) | (refine lw_nil ?_))
      exact qw_retct rfl rfl rfl (agg_ld (tA rfl) rfl (fun i u hu => H2.ld0 hu)) ⟨rfl, hE.b⟩
    | false =>
      repeat' (first | (refine lw_pure rfl (pv_move rfl) ?_) | (refine lw_pure rfl (pv_assign rfl) ?_) | (refine is_cw ?_; first | (refine cw_seq ?_) | (refine cw_region ?_) | (refine cw_true rfl rfl ?_)) | (refine is_qw ?_; first | (with_reducible refine qw_then ?_)) | (refine lw_nil ?_) | (refine is_guarded ?_; first | (refine lw_on rfl rfl rfl ?_) | (refine lw_on rfl rfl (by first | assumption | exact decide_eq_true (by omega) | exact decide_eq_false (by omega) | exact dec_notT (by omega) | exact dec_notF (by omega)) ?_)) | ((refine is_bin ?_; first | (refine lw_pure rfl (pv_predn rfl rfl (by omega)) ?_) | (refine lw_pure rfl (pv_lss rfl rfl) ?_) | (refine lw_pure rfl (pv_gtr rfl rfl) ?_))) | ((refine is_load ?_; first | (refine lw_pure rfl (pv_load (t1 rfl) rfl (by first | exact PT.ld0 (HX.mono hw) rfl | exact PT.ld (HX.mono hw) rfl | exact SlR.ld (HA.mono hw) hxk rfl | exact SlR.ld1 (HA.mono hw) hxk rfl)) ?_))) | ((refine is_fa ?_; first | (refine lw_pure rfl (pv_fa (tF rfl) rfl) ?_))) | ((refine is_ia ?_; first | (refine lw_pure rfl (pv_ian (tS rfl) rfl rfl (by omega)) ?_))) | ((refine is_un ?_; first | (refine lw_pure rfl (pv_not rfl) ?_))) | ((refine is_bi ?_; first | (refine lw_pure rfl (pv_lenl (tS rfl) rfl) ?_))) | ((refine is_bd ?_; first | (refine lw_pure rfl (tyB_34 rfl rfl rfl) ?_))) | (refine is_pk ?_; refine lw_pure rfl (pv_pick_f rfl rfl rfl) ?_) | (refine is_pk ?_; refine lw_pure rfl (pv_pick_f rfl (by first | assumption | exact decide_eq_false (by omega) | exact dec_notF (by omega)) rfl) ?_))
      refine lw_storea (vs := [.string ByteArray.empty, .bool false]) (H.mono hw) (tZ rfl) rfl rfl rfl rfl (by simp [Value.oneCell']) ?_; intro w3 H2 hg hz; replace hE := (hE.mono hw).grown hg (by intro q hq; injection hq with hq; omega)
      clear hw; have hw := Below.refl w3.heap.size w3
      repeat' (first | (refine lw_pure rfl (pv_assign rfl) ?_) | (refine is_cw ?_; first | (refine cw_ret ?_)) | (refine is_qw ?_; first | (with_reducible refine qw_then ?_) | (with_reducible refine qw_then_ret ?_)) | (refine lw_nil ?_))
      exact qw_retct rfl rfl rfl (agg_ld (tA rfl) rfl (fun i u hu => H2.ld0 hu)) ⟨rfl, hE.b⟩
  · rw [accOf_out hc]
    repeat' (first | (refine lw_pure rfl (pv_move rfl) ?_) | (refine lw_pure rfl (pv_assign rfl) ?_) | (refine is_cw ?_; first | (refine cw_seq ?_) | (refine cw_region ?_) | (refine cw_true rfl rfl ?_)) | (refine is_qw ?_; first | (with_reducible refine qw_then ?_)) | (refine lw_nil ?_) | (refine is_guarded ?_; first | (refine lw_not rfl rfl rfl rfl ?_) | (refine lw_on rfl rfl (by first | assumption | exact decide_eq_true (by omega) | exact decide_eq_false (by omega) | exact dec_notT (by omega) | exact dec_notF (by omega)) ?_) | (refine lw_not rfl rfl rfl (by first | assumption | exact decide_eq_true (by omega) | exact decide_eq_false (by omega) | exact dec_notT (by omega) | exact dec_notF (by omega)) ?_) | (refine lw_gs_f rfl rfl rfl (fun hc => ?_) (fun hc => ?_) <;> (first | replace hc := of_decide_eq_true hc | replace hc := of_decide_eq_false hc | replace hc := dec_nT hc | replace hc := dec_nF hc | skip) <;> (try (exfalso; omega)))) | ((refine is_bin ?_; first | (refine lw_pure rfl (pv_lss rfl rfl) ?_) | (refine lw_pure rfl (pv_gtr rfl rfl) ?_))) | ((refine is_load ?_; first | (refine lw_pure rfl (pv_load (t1 rfl) rfl (by first | exact PT.ld0 (HX.mono hw) rfl | exact PT.ld (HX.mono hw) rfl)) ?_))) | ((refine is_fa ?_; first | (refine lw_pure rfl (pv_fa (tF rfl) rfl) ?_))) | ((refine is_bi ?_; first | (refine lw_pure rfl (pv_lenl (tS rfl) rfl) ?_))) | ((refine is_bd ?_; first | (refine lw_pure rfl (tyB_34 rfl rfl rfl) ?_))) | (refine is_pk ?_; refine lw_pure rfl (pv_pick_t rfl rfl rfl) ?_) | (refine is_pk ?_; refine lw_pure rfl (pv_pick_t rfl (by first | assumption | exact decide_eq_true (by omega) | exact dec_notT (by omega)) rfl) ?_) | (refine is_pk ?_; refine lw_pure rfl (pv_pick_f rfl (by first | assumption | exact decide_eq_false (by omega) | exact dec_notF (by omega)) rfl) ?_))
    all_goals (refine lw_storea (vs := [.string ByteArray.empty, .bool false]) (H.mono hw) (tZ rfl) rfl rfl rfl rfl (by simp [Value.oneCell']) ?_; intro w3 H2 hg hz; replace hE := (hE.mono hw).grown hg (by intro q hq; injection hq with hq; omega))
    all_goals (clear hw; have hw := Below.refl w3.heap.size w3)
    all_goals (repeat' (first | (refine lw_pure rfl (pv_assign rfl) ?_) | (refine is_cw ?_; first | (refine cw_ret ?_)) | (refine is_qw ?_; first | (with_reducible refine qw_then ?_) | (with_reducible refine qw_then_ret ?_)) | (refine lw_nil ?_)))
    all_goals (exact qw_retct rfl rfl rfl (agg_ld (tA rfl) rfl (fun i u hu => H2.ld0 hu)) ⟨rfl, hE.b⟩)
set_option maxRecDepth 20000 in
set_option maxHeartbeats 4000000 in
theorem inst_c {s : SttC} {t : Stt} {a : Int} {w : World} (hS0 : StR w s t) : Calls Tryz.prog 13 #[(.agg (encS s).toArray), .int .i64 a] w fun e w' => e = .returned (.tuple #[.agg (encN (insOf t.inss a).1).toArray, .bool (insOf t.inss a).2]) ∧ Below w.heap.size w w' := by
  have hE := Ext.refl w
  have hw := Below.refl w.heap.size w
  obtain ⟨c1, c2, c3, c4, pa, ma, ca, pi, mi, ci, pr, mr, cr, po, mo, co, px, mx, cx⟩ := s; obtain ⟨⟨e1, e2, e3, e4⟩, hma, hmi, hmr, hmo, hmx, HA, HI, HR, HO, HXs⟩ := hS0; simp only at e1 e2 e3 e4 hma hmi hmr hmo hmx HA HI HR HO HXs; subst e1 e2 e3 e4 hma hmi hmr hmo hmx
  have hla := HI.le
  have hma := HI.max
  refine fn_enter 22 Tryz.func13 rfl rfl rfl ?_
  repeat' (first | (refine is_cw ?_; first | (refine cw_seq ?_) | (refine cw_region ?_)))
  refine lw_boxN rfl rfl (cs := [.int .i64 t.clock, .int .i64 t.fee, .int .i64 t.nord, .int .i64 t.nauc, .slice pa t.accs.length ca, .slice pi t.inss.length ci, .slice pr t.rows.length cr, .slice po t.ords.length co, .slice px t.aucs.length cx]) rfl ?_; intro N2 wn hN2 HX hb; replace hN2 := Nat.le_trans hw.size hN2; replace hw := grow_trans hw hb; clear hb
  replace hE := hE.mono hw; replace HI := HI.mono hw; clear hw; have hw := Below.refl wn.heap.size wn
  skip
  refine lw_allocN rfl (by first | exact tyv_29 | exact tyv_30 | exact tyv_33 | exact tyv_34 | exact tyv_36 | exact tyv_37 | exact tyv_38 | exact tyv_39 | exact tyv_40 | exact tyv_41 | exact tyv_43 | exact tyv_44 | exact tyv_45 | exact tyv_46 | exact tyv_73 | exact tyv_74 | exact tyv_80 | exact tyv_81 | exact tyv_107 | exact tyv_108 | exact tyv_123 | exact tyv_146 | exact tyv_147 | exact tyv_148 | exact tyv_149) rfl ?_; intro N w1 hN H hb
  replace hw := grow_trans hw hb; clear hb
  have hNE : N2 ≠ N := by have := HX.lt; omega
  have hNw : w.heap.size ≤ N := by have := HX.lt; omega
  replace hE := hE.mono hw; replace HI := HI.mono hw; replace HX := HX.mono hw; clear hw; have hw := Below.refl w1.heap.size w1
  by_cases hc : 1 ≤ a ∧ a ≤ (t.inss.length : Nat)
  · obtain ⟨k, rfl⟩ : ∃ k : Nat, a = (k : Int) + 1 := ⟨(a - 1).toNat, by omega⟩
    have hlt : k < t.inss.length := by omega
    have hxk : t.inss[k]? = some t.inss[k] := List.getElem?_eq_getElem hlt
    generalize t.inss[k] = x at hxk
    rw [insOf_in hc (x := x) (by rw [← hxk]; congr 1; omega)]
    obtain ⟨ab, ao, rfl, -, -⟩ := HI.at (by intro h; rw [h] at hlt; simp at hlt)
    obtain ⟨nm, tk, ht⟩ := x
    repeat' (first | (refine lw_pure rfl (pv_move rfl) ?_) | (refine lw_pure rfl (pv_assign rfl) ?_) | (refine is_cw ?_; first | (refine cw_seq ?_) | (refine cw_region ?_) | (refine is_cd ?_; refine cw_false rfl (by first | assumption | exact decide_eq_false (by omega) | exact dec_notF (by omega)) ?_) | (refine cw_skip ?_)) | (refine is_qw ?_; first | (with_reducible refine qw_then ?_)) | (refine lw_nil ?_) | (refine is_guarded ?_; first | (refine lw_on rfl rfl rfl ?_)) | ((refine is_bin ?_; first | (refine lw_pure rfl (pv_predn rfl rfl (by omega)) ?_) | (refine lw_pure rfl (pv_lss rfl rfl) ?_) | (refine lw_pure rfl (pv_gtr rfl rfl) ?_))) | ((refine is_load ?_; first | (refine lw_pure rfl (pv_load (t1 rfl) rfl (by first | exact PT.ld0 (HX.mono hw) rfl | exact PT.ld (HX.mono hw) rfl | exact SlR.ld (HI.mono hw) hxk rfl | exact SlR.ld1 (HI.mono hw) hxk rfl)) ?_) | (refine lw_pure rfl (pv_loada (tA rfl) rfl (by first | exact PT.lda (HX.mono hw) | exact SlR.lda (HI.mono hw) hxk) (by rfl)) ?_))) | ((refine is_fa ?_; first | (refine lw_pure rfl (pv_fa (tF rfl) rfl) ?_))) | ((refine is_ia ?_; first | (refine lw_pure rfl (pv_ian (tS rfl) rfl rfl (by omega)) ?_))) | ((refine is_bi ?_; first | (refine lw_pure rfl (pv_lenl (tS rfl) rfl) ?_))) | (refine is_pk ?_; refine lw_pure rfl (pv_pick_f rfl rfl rfl) ?_))
    refine lw_storea (vs := [.string nm, .int .i64 tk, .bool ht]) (H.mono hw) (tZ rfl) rfl rfl rfl rfl (by simp [Value.oneCell']) ?_; intro w3 H2 hg hz; replace hE := (hE.mono hw).grown hg (by intro q hq; injection hq with hq; omega)
    clear hw; have hw := Below.refl w3.heap.size w3
    repeat' (first | (refine lw_pure rfl (pv_assign rfl) ?_) | (refine is_cw ?_; first | (refine cw_ret ?_)) | (refine is_qw ?_; first | (with_reducible refine qw_then ?_)) | (refine lw_nil ?_))
    exact qw_retct rfl rfl rfl (agg_ld (tA rfl) rfl (fun i u hu => H2.ld0 hu)) ⟨rfl, hE.b⟩
  · rw [insOf_out hc]
    repeat' (first | (refine lw_pure rfl (pv_move rfl) ?_) | (refine lw_pure rfl (pv_assign rfl) ?_) | (refine is_cw ?_; first | (refine cw_seq ?_) | (refine cw_region ?_) | (refine cw_true rfl rfl ?_) | (refine is_cd ?_; refine cw_true rfl (by first | assumption | exact decide_eq_true (by omega) | exact dec_notT (by omega)) ?_)) | (refine is_qw ?_; first | (with_reducible refine qw_then ?_)) | (refine lw_nil ?_) | (refine is_guarded ?_; first | (refine lw_on rfl rfl (by first | assumption | exact decide_eq_true (by omega) | exact decide_eq_false (by omega) | exact dec_notT (by omega) | exact dec_notF (by omega)) ?_) | (refine lw_not rfl rfl rfl (by first | assumption | exact decide_eq_true (by omega) | exact decide_eq_false (by omega) | exact dec_notT (by omega) | exact dec_notF (by omega)) ?_) | (refine lw_gs_f rfl rfl rfl (fun hc => ?_) (fun hc => ?_) <;> (first | replace hc := of_decide_eq_true hc | replace hc := of_decide_eq_false hc | replace hc := dec_nT hc | replace hc := dec_nF hc | skip) <;> (try (exfalso; omega)))) | ((refine is_bin ?_; first | (refine lw_pure rfl (pv_lss rfl rfl) ?_) | (refine lw_pure rfl (pv_gtr rfl rfl) ?_))) | ((refine is_load ?_; first | (refine lw_pure rfl (pv_load (t1 rfl) rfl (by first | exact PT.ld0 (HX.mono hw) rfl | exact PT.ld (HX.mono hw) rfl)) ?_))) | ((refine is_fa ?_; first | (refine lw_pure rfl (pv_fa (tF rfl) rfl) ?_))) | ((refine is_bi ?_; first | (refine lw_pure rfl (pv_lenl (tS rfl) rfl) ?_))) | ((refine is_bd ?_; first | (refine lw_pure rfl (tyB_37 rfl rfl rfl) ?_))) | (refine is_pk ?_; refine lw_pure rfl (pv_pick_t rfl (by first | assumption | exact decide_eq_true (by omega) | exact dec_notT (by omega)) rfl) ?_) | (refine is_pk ?_; refine lw_pure rfl (pv_pick_f rfl (by first | assumption | exact decide_eq_false (by omega) | exact dec_notF (by omega)) rfl) ?_))
    all_goals (refine lw_storea (vs := [.string ByteArray.empty, .int .i64 0, .bool false]) (H.mono hw) (tZ rfl) rfl rfl rfl rfl (by simp [Value.oneCell']) ?_; intro w3 H2 hg hz; replace hE := (hE.mono hw).grown hg (by intro q hq; injection hq with hq; omega))
    all_goals (clear hw; have hw := Below.refl w3.heap.size w3)
    all_goals (repeat' (first | (refine lw_pure rfl (pv_assign rfl) ?_) | (refine is_cw ?_; first | (refine cw_ret ?_)) | (refine is_qw ?_; first | (with_reducible refine qw_then ?_) | (with_reducible refine qw_then_ret ?_)) | (refine lw_nil ?_)))
    all_goals (exact qw_retct rfl rfl rfl (agg_ld (tA rfl) rfl (fun i u hu => H2.ld0 hu)) ⟨rfl, hE.b⟩)
set_option maxRecDepth 20000 in
theorem open_c {s : SttC} {t : Stt} {a : Int} {w : World} (hS : StR w s t) : Calls Tryz.prog 104 #[(.agg (encS s).toArray), .int .i64 a] w fun e w' => e = .returned (.bool (openB t.accs a)) ∧ Below w.heap.size w w' := by
  have hE := Ext.refl w
  have hw := Below.refl w.heap.size w
  refine fn_enter 14 Tryz.func104 rfl rfl rfl ?_
  repeat' (first | (refine is_cw ?_; first | (refine cw_seq ?_) | (refine cw_region ?_)))
  refine lw_boxN rfl rfl (cs := encS s) rfl ?_; intro N2 wn hN2 HX hb; replace hN2 := Nat.le_trans hw.size hN2; replace hw := grow_trans hw hb; clear hb
  replace hE := hE.mono hw; replace hS := hS.mono hw; clear hw; have hw := Below.refl wn.heap.size wn
  repeat' (first | (refine lw_pure rfl (pv_move rfl) ?_) | (refine lw_pure rfl (pv_assign rfl) ?_) | (refine lw_call (f := 12) (by kernel_rfl) rfl rfl (acct_c (hS.mono hw)) ?_; rintro e w1 ⟨rfl, hb⟩; refine ⟨_, rfl, ?_⟩; replace hw := grow_trans hw hb; clear hb) | (refine is_cw ?_; first | (refine cw_seq ?_) | (refine cw_region ?_)) | (refine is_qw ?_; first | (with_reducible refine qw_then ?_)) | (refine lw_nil ?_) | ((refine is_load ?_; first | (refine lw_pure rfl (pv_loada (tA rfl) rfl (by first | exact PT.lda (HX.mono hw)) (by rfl)) ?_))) | (refine lw_pure rfl (pv_extract rfl rfl) ?_))
  refine lw_varN rfl (by first | exact tyv_29 | exact tyv_30 | exact tyv_33 | exact tyv_34 | exact tyv_36 | exact tyv_37 | exact tyv_38 | exact tyv_39 | exact tyv_40 | exact tyv_41 | exact tyv_43 | exact tyv_44 | exact tyv_45 | exact tyv_46 | exact tyv_73 | exact tyv_74 | exact tyv_80 | exact tyv_81 | exact tyv_107 | exact tyv_108 | exact tyv_123 | exact tyv_146 | exact tyv_147 | exact tyv_148 | exact tyv_149) rfl (tZ rfl) (fun _ => rfl) rfl rfl ?_; intro N3 wn hN3 HV hb; replace hN3 := Nat.le_trans hw.size hN3; replace hw := grow_trans hw hb; clear hb
  repeat' (first | (refine lw_pure rfl (pv_move rfl) ?_) | (refine lw_pure rfl (pv_assign rfl) ?_) | (refine is_cw ?_; first | (refine cw_seq ?_) | (refine cw_region ?_) | (refine cw_ret ?_)) | (refine is_qw ?_; first | (with_reducible refine qw_then ?_)) | (refine lw_nil ?_))
  exact qw_ret1 rfl rfl ⟨rfl, (hE.mono hw).b⟩
set_option maxRecDepth 20000 in
theorem thereI_c {s : SttC} {t : Stt} {a : Int} {w : World} (hS : StR w s t) : Calls Tryz.prog 110 #[(.agg (encS s).toArray), .int .i64 a] w fun e w' => e = .returned (.bool (isB t.inss a)) ∧ Below w.heap.size w w' := by
  have hE := Ext.refl w
  have hw := Below.refl w.heap.size w
  refine fn_enter 14 Tryz.func110 rfl rfl rfl ?_
  repeat' (first | (refine is_cw ?_; first | (refine cw_seq ?_) | (refine cw_region ?_)))
  refine lw_boxN rfl rfl (cs := encS s) rfl ?_; intro N2 wn hN2 HX hb; replace hN2 := Nat.le_trans hw.size hN2; replace hw := grow_trans hw hb; clear hb
  replace hE := hE.mono hw; replace hS := hS.mono hw; clear hw; have hw := Below.refl wn.heap.size wn
  repeat' (first | (refine lw_pure rfl (pv_move rfl) ?_) | (refine lw_pure rfl (pv_assign rfl) ?_) | (refine lw_call (f := 13) (by kernel_rfl) rfl rfl (inst_c (hS.mono hw)) ?_; rintro e w1 ⟨rfl, hb⟩; refine ⟨_, rfl, ?_⟩; replace hw := grow_trans hw hb; clear hb) | (refine is_cw ?_; first | (refine cw_seq ?_) | (refine cw_region ?_)) | (refine is_qw ?_; first | (with_reducible refine qw_then ?_)) | (refine lw_nil ?_) | ((refine is_load ?_; first | (refine lw_pure rfl (pv_loada (tA rfl) rfl (by first | exact PT.lda (HX.mono hw)) (by rfl)) ?_))) | (refine lw_pure rfl (pv_extract rfl rfl) ?_))
  refine lw_varN rfl (by first | exact tyv_29 | exact tyv_30 | exact tyv_33 | exact tyv_34 | exact tyv_36 | exact tyv_37 | exact tyv_38 | exact tyv_39 | exact tyv_40 | exact tyv_41 | exact tyv_43 | exact tyv_44 | exact tyv_45 | exact tyv_46 | exact tyv_73 | exact tyv_74 | exact tyv_80 | exact tyv_81 | exact tyv_107 | exact tyv_108 | exact tyv_123 | exact tyv_146 | exact tyv_147 | exact tyv_148 | exact tyv_149) rfl (tZ rfl) (fun _ => rfl) rfl rfl ?_; intro N3 wn hN3 HV hb; replace hN3 := Nat.le_trans hw.size hN3; replace hw := grow_trans hw hb; clear hb
  repeat' (first | (refine lw_pure rfl (pv_move rfl) ?_) | (refine lw_pure rfl (pv_assign rfl) ?_) | (refine is_cw ?_; first | (refine cw_seq ?_) | (refine cw_region ?_) | (refine cw_ret ?_)) | (refine is_qw ?_; first | (with_reducible refine qw_then ?_)) | (refine lw_nil ?_))
  exact qw_ret1 rfl rfl ⟨rfl, (hE.mono hw).b⟩

set_option maxRecDepth 20000 in
theorem indexf_A {xs : List Acc} {m : Nat} {ad : Option Addr} {cap : Nat} {w : World} (base : Nat) (p : Acc → Bool) (F : FuncId) (caps : Array Value) (he : entersB Tryz.prog F = true) (hbw : base ≤ w.heap.size) (hF : ∀ x, x ∈ xs → ∀ w', Below base w w' → Calls Tryz.prog F (#[] ++ [Value.agg (encA x).toArray].toArray ++ caps) w' fun e w'' => e = .returned (.bool (p x)) ∧ Below w'.heap.size w' w'') (hm : xs.length = m) (HS : SlR encA 2 w ad cap xs) : Calls Tryz.prog 35 #[.slice ad m cap, .func (.func F) #[] caps] w fun e w' => (∃ i, e = .returned (.int .i64 i) ∧ ((i = -1 ∧ ∀ x ∈ xs, p x = false) ∨ ∃ (k : Nat) (r : Acc), i = k ∧ xs[k]? = some r ∧ p r = true ∧ ∀ x ∈ xs.take k, p x = false)) ∧ Below w.heap.size w w' := by
  subst hm
  have hw := Below.refl w.heap.size w
  have hla := HS.le
  have hma := HS.max
  refine fn_enter 19 Tryz.func35 rfl rfl rfl ?_
  repeat' (first | (refine lw_pure rfl (pv_move rfl) ?_) | (refine lw_pure rfl (pv_assign rfl) ?_) | (refine is_cw ?_; first | (refine cw_seq ?_) | (refine cw_region ?_) | (refine cw_block ?_)) | (refine is_qw ?_; first | (with_reducible refine qw_then ?_)) | (refine lw_nil ?_) | ((refine is_bi ?_; first | (refine lw_pure rfl (pv_lenl (tS rfl) rfl) ?_))))
  refine cw_loop (σ := Nat) (fun k => [(0, .slice ad xs.length cap), (1, .func (.func F) #[] caps), (7, .int .i64 (xs.length : Nat)), (8, .int .i64 (k : Nat))]) (fun k wr => k ≤ xs.length ∧ Below w.heap.size w wr ∧ ∀ x ∈ xs.take k, p x = false) (fun k => xs.length - k) 0 (by repeat' (first | exact trivial | refine ⟨rfl, ?_⟩)) ⟨Nat.zero_le _, hw, by simp⟩ ?_
  clear hw
  rintro k wr ⟨hk, hw, hn⟩
  by_cases hlt : k < xs.length
  · have hxk : xs[k]? = some xs[k] := List.getElem?_eq_getElem hlt
    have hmem := List.getElem_mem hlt
    obtain ⟨ab, ao, rfl, -, -⟩ := HS.at (by intro h; rw [h] at hlt; simp at hlt)
    generalize xs[k] = x at hxk hmem
    repeat' (first | (refine lw_pure rfl (pv_move rfl) ?_) | (refine lw_pure rfl (pv_assign rfl) ?_) | (refine is_cw ?_; first | (refine cw_seq ?_) | (refine cw_region ?_) | (refine is_cd ?_; refine cw_true rfl (by first | assumption | exact decide_eq_true (by omega) | exact dec_notT (by omega)) ?_) | (refine cw_skip ?_) | (refine cw_block ?_)) | (refine is_qw ?_; first | (with_reducible refine qw_then ?_)) | (refine lw_nil ?_) | ((refine is_bin ?_; first | (refine lw_pure rfl (pv_lss rfl rfl) ?_))) | ((refine is_load ?_; first | (refine lw_pure rfl (pv_loada (tA rfl) rfl (by first | exact SlR.lda (HS.mono hw) hxk) (by rfl)) ?_))) | ((refine is_ia ?_; first | (refine lw_pure rfl (pv_ian (tS rfl) rfl rfl (by omega)) ?_))))
    refine lw_callv (f := F) rfl he rfl rfl (hF x hmem _ (hw.mono hbw)) ?_; rintro e w1 ⟨rfl, hb⟩; refine ⟨_, rfl, ?_⟩; replace hw := grow_trans hw hb; clear hb
    cases hp : p x with
    | true =>
      repeat' (first | (refine lw_pure rfl (pv_move rfl) ?_) | (refine lw_pure rfl (pv_assign rfl) ?_) | (refine is_cw ?_; first | (refine cw_seq ?_) | (refine cw_region ?_) | (refine cw_true rfl rfl ?_) | (refine cw_ret ?_)) | (refine is_qw ?_; first | (with_reducible refine qw_then ?_) | (with_reducible refine qw_then_ret ?_) | (with_reducible refine qw_in_ret ?_)) | (refine lw_nil ?_))
      exact qw_ret1 rfl rfl ⟨⟨_, rfl, Or.inr ⟨k, x, rfl, hxk, hp, hn⟩⟩, hw⟩
    | false =>
      repeat' (first | (refine lw_pure rfl (pv_move rfl) ?_) | (refine is_cw ?_; first | (refine cw_region ?_) | (refine cw_false rfl rfl ?_) | (refine cw_skip ?_)) | (refine is_qw ?_; first | (with_reducible refine qw_then ?_) | (with_reducible refine qw_in ?_)) | (refine lw_nil ?_) | ((refine is_bin ?_; first | (refine lw_pure rfl (pv_inc rfl rfl (by omega)) ?_))))
      refine qw_round (k + 1) (by repeat' (first | exact trivial | refine ⟨rfl, ?_⟩)) ⟨by omega, hw, ?_⟩ (by omega)
      intro y hy
      rw [List.take_add_one, hxk] at hy
      rcases List.mem_append.1 hy with hy | hy
      · exact hn y hy
      · simp at hy; subst hy; exact hp
  · have hkl : k = xs.length := by omega
    subst hkl
    rw [List.take_length] at hn
    repeat' (first | (refine lw_pure rfl (pv_assign rfl) ?_) | (refine is_cw ?_; first | (refine cw_seq ?_) | (refine cw_region ?_) | (refine is_cd ?_; refine cw_false rfl (by first | assumption | exact decide_eq_false (by omega) | exact dec_notF (by omega)) ?_) | (refine cw_exit ?_) | (refine cw_ret ?_)) | (refine is_qw ?_; first | (with_reducible refine qw_then ?_) | (with_reducible refine qw_in_hit ?_) | (with_reducible refine qw_then_exit ?_)) | (refine lw_nil ?_) | ((refine is_bin ?_; first | (refine lw_pure rfl (pv_lss rfl rfl) ?_))))
    exact qw_ret1 rfl rfl ⟨⟨_, rfl, Or.inl ⟨rfl, hn⟩⟩, hw⟩

set_option maxRecDepth 20000 in
theorem namedF_c {n : ByteArray} {N : Nat} {x : Acc} {w : World} (HB : PT w N 9 [.string n]) : Calls Tryz.prog 36 #[.agg (encA x).toArray, .pointer (some ⟨N, 0, none⟩)] w fun e w' => e = .returned (.bool (decide (x.name = n))) ∧ Below w.heap.size w w' := by
  have hE := Ext.refl w
  have hw := Below.refl w.heap.size w
  refine fn_enter 8 Tryz.func36 rfl rfl rfl ?_
  repeat' (first | (refine is_cw ?_; first | (refine cw_seq ?_) | (refine cw_region ?_)))
  refine lw_boxN rfl rfl (cs := encA x) rfl ?_; intro N2 wn hN2 HX hb; replace hN2 := Nat.le_trans hw.size hN2; replace hw := grow_trans hw hb; clear hb
  replace hE := hE.mono hw; replace HB := HB.mono hw; clear hw; have hw := Below.refl wn.heap.size wn
  repeat' (first | (refine lw_pure rfl (pv_assign rfl) ?_) | (refine is_cw ?_; first | (refine cw_seq ?_) | (refine cw_region ?_) | (refine cw_ret ?_)) | (refine is_qw ?_; first | (with_reducible refine qw_then ?_)) | (refine lw_nil ?_) | ((refine is_bin ?_; first | (refine lw_pure rfl (pv_seqlD rfl rfl) ?_))) | ((refine is_load ?_; first | (refine lw_pure rfl (pv_load (t1 rfl) rfl (by first | exact PT.ld0 (HX.mono hw) rfl | exact PT.ld (HX.mono hw) rfl | exact PT.ld0 (HB.mono hw) rfl | exact PT.ld (HB.mono hw) rfl)) ?_))) | ((refine is_fa ?_; first | (refine lw_pure rfl (pv_fa (tF rfl) rfl) ?_))))
  exact qw_ret1 rfl rfl ⟨rfl, (hE.mono hw).b⟩
set_option maxRecDepth 20000 in
theorem named_c {s : SttC} {t : Stt} {n : ByteArray} {w : World} (hS0 : StR w s t) : Calls Tryz.prog 14 #[(.agg (encS s).toArray), .string n] w fun e w' => e = .returned (.int .i64 (namedOf t.accs n)) ∧ Below w.heap.size w w' := by
  have hE := Ext.refl w
  have hw := Below.refl w.heap.size w
  obtain ⟨c1, c2, c3, c4, pa, ma, ca, pi, mi, ci, pr, mr, cr, po, mo, co, px, mx, cx⟩ := s; obtain ⟨⟨e1, e2, e3, e4⟩, hma, hmi, hmr, hmo, hmx, HA, HI, HR, HO, HXs⟩ := hS0; simp only at e1 e2 e3 e4 hma hmi hmr hmo hmx HA HI HR HO HXs; subst e1 e2 e3 e4 hma hmi hmr hmo hmx
  have hla := HA.le
  have hma := HA.max
  refine fn_enter 10 Tryz.func14 rfl rfl rfl ?_
  repeat' (first | (refine is_cw ?_; first | (refine cw_seq ?_) | (refine cw_region ?_)))
  refine lw_boxN rfl rfl (cs := [.int .i64 t.clock, .int .i64 t.fee, .int .i64 t.nord, .int .i64 t.nauc, .slice pa t.accs.length ca, .slice pi t.inss.length ci, .slice pr t.rows.length cr, .slice po t.ords.length co, .slice px t.aucs.length cx]) rfl ?_; intro N2 wn hN2 HX hb; replace hN2 := Nat.le_trans hw.size hN2; replace hw := grow_trans hw hb; clear hb
  replace hE := hE.mono hw; replace HA := HA.mono hw; clear hw; have hw := Below.refl wn.heap.size wn
  skip
  refine lw_boxN rfl rfl (cs := [.string n]) rfl ?_; intro N3 wn hN3 HB hb; replace hN3 := Nat.le_trans hw.size hN3; replace hw := grow_trans hw hb; clear hb
  replace hE := hE.mono hw; replace HA := HA.mono hw; replace HX := HX.mono hw; clear hw; have hw := Below.refl wn.heap.size wn
  repeat' (first | (refine lw_pure rfl (pv_assign rfl) ?_) | (refine is_cw ?_; first | (refine cw_seq ?_) | (refine cw_region ?_)) | (refine is_qw ?_; first | (with_reducible refine qw_then ?_)) | (refine lw_nil ?_) | ((refine is_load ?_; first | (refine lw_pure rfl (pv_load (t1 rfl) rfl (by first | exact PT.ld0 (HX.mono hw) rfl | exact PT.ld (HX.mono hw) rfl)) ?_))) | ((refine is_fa ?_; first | (refine lw_pure rfl (pv_fa (tF rfl) rfl) ?_))) | (refine lw_pure rfl (pv_makeFunc rfl rfl) ?_))
  have hc := indexf_A (w := wn) (cap := ca) (ad := pa) wn.heap.size (fun x : Acc => decide (x.name = n)) 36 #[.pointer (some ⟨N3, 0, none⟩)] (by kernel_rfl) (Nat.le_refl _) (fun x _ w' hb => namedF_c (HB.mono hb)) rfl HA
  refine lw_call (f := 35) (by kernel_rfl) rfl rfl (hc) ?_; rintro e w1 ⟨⟨i, rfl, hi⟩, hb⟩; refine ⟨_, rfl, ?_⟩; replace hw := grow_trans hw hb; clear hb
  have hv : 1 + i = namedOf t.accs n ∧ -1 ≤ i ∧ i + 1 ≤ (t.accs.length : Nat) := by
    rcases hi with ⟨rfl, h⟩ | ⟨k, r, rfl, hx, hp, hn⟩
    · rw [named_no fun j y hy => by have := h y (List.mem_of_getElem? hy); simpa using this]; omega
    · have hk := (List.getElem?_eq_some_iff.1 hx).1
      rw [named_at hx (by simpa using hp) fun j y hj hy => by
        have := hn y (List.mem_of_getElem? (i := j) (by rw [List.getElem?_take_of_lt hj]; exact hy)); simpa using this]
      omega
  repeat' (first | (refine lw_pure rfl (pv_assign rfl) ?_) | (refine is_cw ?_; first | (refine cw_ret ?_)) | (refine is_qw ?_; first | (with_reducible refine qw_then ?_)) | (refine lw_nil ?_) | ((refine is_bin ?_; first | (refine lw_pure rfl (pv_add rfl rfl (by omega)) ?_))))
  exact qw_ret1 rfl rfl ⟨by rw [hv.1], (hE.mono hw).b⟩

set_option maxRecDepth 20000 in
theorem btwI_c (n m : Int) (w : World) : Calls Tryz.prog 89 #[.int .i64 n, .int .i64 m] w fun e w' => e = .returned (.bool (decide (1 ≤ n ∧ n ≤ m))) ∧ Below w.heap.size w w' := by
  have hw := Below.refl w.heap.size w
  refine fn_enter 12 Tryz.func89 rfl rfl rfl ?_
  repeat' (first | (refine lw_pure rfl (pv_move rfl) ?_) | (refine lw_pure rfl (pv_assign rfl) ?_) | (refine is_cw ?_; first | (refine cw_seq ?_) | (refine cw_region ?_) | (refine cw_ret ?_)) | (refine is_qw ?_; first | (with_reducible refine qw_then ?_)) | (refine lw_nil ?_) | (refine is_guarded ?_; first | (refine lw_on rfl rfl (by first | assumption | exact decide_eq_true (by omega) | exact decide_eq_false (by omega) | exact dec_notT (by omega) | exact dec_notF (by omega)) ?_) | (refine lw_not rfl rfl rfl (by first | assumption | exact decide_eq_true (by omega) | exact decide_eq_false (by omega) | exact dec_notT (by omega) | exact dec_notF (by omega)) ?_) | (refine lw_gs_t rfl rfl rfl (fun hc => ?_) (fun hc => ?_) <;> (first | replace hc := of_decide_eq_true hc | replace hc := of_decide_eq_false hc | replace hc := dec_nT hc | replace hc := dec_nF hc | skip) <;> (try (exfalso; omega)))) | ((refine is_bin ?_; first | (refine lw_pure rfl (pv_leq rfl rfl) ?_) | (refine lw_pure rfl (pv_geq rfl rfl) ?_))) | (refine is_pk ?_; refine lw_pure rfl (pv_pick_t rfl (by first | assumption | exact decide_eq_true (by omega) | exact dec_notT (by omega)) rfl) ?_) | (refine is_pk ?_; refine lw_pure rfl (pv_pick_f rfl (by first | assumption | exact decide_eq_false (by omega) | exact dec_notF (by omega)) rfl) ?_))
  all_goals (refine qw_ret1 rfl rfl ⟨ret_bool ?_, hw⟩; first | (rw [decide_eq_decide]; omega) | (symm; rw [decide_eq_true_eq]; omega) | (symm; rw [decide_eq_false_iff_not]; omega))
set_option maxRecDepth 20000 in
theorem btwL_c (n m : Int) (w : World) : Calls Tryz.prog 88 #[.int .i64 n, .int .i64 m] w fun e w' => e = .returned (.bool (decide (1 ≤ n ∧ n ≤ m))) ∧ Below w.heap.size w w' := by
  have hw := Below.refl w.heap.size w
  refine fn_enter 12 Tryz.func88 rfl rfl rfl ?_
  repeat' (first | (refine lw_pure rfl (pv_move rfl) ?_) | (refine lw_pure rfl (pv_assign rfl) ?_) | (refine is_cw ?_; first | (refine cw_seq ?_) | (refine cw_region ?_) | (refine cw_ret ?_)) | (refine is_qw ?_; first | (with_reducible refine qw_then ?_)) | (refine lw_nil ?_) | (refine is_guarded ?_; first | (refine lw_on rfl rfl (by first | assumption | exact decide_eq_true (by omega) | exact decide_eq_false (by omega) | exact dec_notT (by omega) | exact dec_notF (by omega)) ?_) | (refine lw_not rfl rfl rfl (by first | assumption | exact decide_eq_true (by omega) | exact decide_eq_false (by omega) | exact dec_notT (by omega) | exact dec_notF (by omega)) ?_) | (refine lw_gs_t rfl rfl rfl (fun hc => ?_) (fun hc => ?_) <;> (first | replace hc := of_decide_eq_true hc | replace hc := of_decide_eq_false hc | replace hc := dec_nT hc | replace hc := dec_nF hc | skip) <;> (try (exfalso; omega)))) | ((refine is_bin ?_; first | (refine lw_pure rfl (pv_leq rfl rfl) ?_) | (refine lw_pure rfl (pv_geq rfl rfl) ?_))) | (refine is_pk ?_; refine lw_pure rfl (pv_pick_t rfl (by first | assumption | exact decide_eq_true (by omega) | exact dec_notT (by omega)) rfl) ?_) | (refine is_pk ?_; refine lw_pure rfl (pv_pick_f rfl (by first | assumption | exact decide_eq_false (by omega) | exact dec_notF (by omega)) rfl) ?_))
  all_goals (refine qw_ret1 rfl rfl ⟨ret_bool ?_, hw⟩; first | (rw [decide_eq_decide]; omega) | (symm; rw [decide_eq_true_eq]; omega) | (symm; rw [decide_eq_false_iff_not]; omega))
set_option maxRecDepth 20000 in
set_option maxHeartbeats 2000000 in
theorem mayOne_c (o : Ord) (w : World) : Calls Tryz.prog 63 #[.agg (encO o).toArray] w fun e w' => e = .returned (.bool (mayOne o)) ∧ Below w.heap.size w w' := by
  have hE := Ext.refl w
  have hw := Below.refl w.heap.size w
  unfold mayOne
  refine fn_enter 36 Tryz.func63 rfl rfl rfl ?_
  repeat' (first | (refine is_cw ?_; first | (refine cw_seq ?_) | (refine cw_region ?_)))
  refine lw_boxN rfl rfl (cs := encO o) rfl ?_; intro N2 wn hN2 HX hb; replace hN2 := Nat.le_trans hw.size hN2; replace hw := grow_trans hw hb; clear hb
  replace hE := hE.mono hw; clear hw; have hw := Below.refl wn.heap.size wn
  repeat' (first | (refine lw_pure rfl (pv_move rfl) ?_) | (refine lw_pure rfl (pv_assign rfl) ?_) | (refine lw_call (f := 88) (by kernel_rfl) rfl rfl (btwL_c _ _ _) ?_; rintro e w1 ⟨rfl, hb⟩; refine ⟨_, rfl, ?_⟩; replace hw := grow_trans hw hb; clear hb) | (refine lw_call (f := 89) (by kernel_rfl) rfl rfl (btwI_c _ _ _) ?_; rintro e w1 ⟨rfl, hb⟩; refine ⟨_, rfl, ?_⟩; replace hw := grow_trans hw hb; clear hb) | (refine is_cw ?_; first | (refine cw_seq ?_) | (refine cw_region ?_) | (refine cw_ret ?_)) | (refine is_qw ?_; first | (with_reducible refine qw_then ?_)) | (refine lw_nil ?_) | (refine is_guarded ?_; first | (refine lw_not rfl rfl rfl rfl ?_) | (refine lw_not_u rfl rfl rfl ?_) | (refine lw_on rfl rfl rfl ?_) | (refine lw_on rfl rfl (by first | assumption | exact decide_eq_true (by omega) | exact decide_eq_false (by omega) | exact dec_notT (by omega) | exact dec_notF (by omega)) ?_) | (refine lw_not rfl rfl rfl (by first | assumption | exact decide_eq_true (by omega) | exact decide_eq_false (by omega) | exact dec_notT (by omega) | exact dec_notF (by omega)) ?_) | (refine lw_gs_t rfl rfl rfl (fun hc => ?_) (fun hc => ?_) <;> (first | replace hc := of_decide_eq_true hc | replace hc := of_decide_eq_false hc | replace hc := dec_nT hc | replace hc := dec_nF hc | skip) <;> (try (exfalso; omega))) | (refine lw_gs_f rfl rfl rfl (fun hc => ?_) (fun hc => ?_) <;> (first | replace hc := of_decide_eq_true hc | replace hc := of_decide_eq_false hc | replace hc := dec_nT hc | replace hc := dec_nF hc | skip) <;> (try (exfalso; omega)))) | ((refine is_bin ?_; first | (refine lw_pure rfl (pv_eql rfl rfl) ?_))) | ((refine is_load ?_; first | (refine lw_pure rfl (pv_load (t1 rfl) rfl (by first | exact PT.ld0 (HX.mono hw) rfl | exact PT.ld (HX.mono hw) rfl)) ?_))) | ((refine is_fa ?_; first | (refine lw_pure rfl (pv_fa (tF rfl) rfl) ?_))) | (refine is_pk ?_; refine lw_pure rfl (pv_pick_t rfl rfl rfl) ?_) | (refine is_pk ?_; refine lw_pure rfl (pv_pick_f rfl rfl rfl) ?_) | (refine is_pk ?_; refine lw_pure rfl (pv_pick_t rfl (by first | assumption | exact decide_eq_true (by omega) | exact dec_notT (by omega)) rfl) ?_) | (refine is_pk ?_; refine lw_pure rfl (pv_pick_f rfl (by first | assumption | exact decide_eq_false (by omega) | exact dec_notF (by omega)) rfl) ?_))
  all_goals (refine qw_ret1 rfl rfl ⟨ret_bool ?_, (hE.mono hw).b⟩; first | (rw [decide_eq_decide]; omega) | (symm; rw [decide_eq_true_eq]; omega) | (symm; rw [decide_eq_false_iff_not]; omega))
set_option maxRecDepth 20000 in
theorem mayF_c (o : Ord) (w : World) : Calls Tryz.prog 92 #[.agg (encO o).toArray] w fun e w' => e = .returned (.bool (!mayOne o)) ∧ Below w.heap.size w w' := by
  have hE := Ext.refl w
  have hw := Below.refl w.heap.size w
  refine fn_enter 6 Tryz.func92 rfl rfl rfl ?_
  repeat' (first | (refine is_cw ?_; first | (refine cw_seq ?_) | (refine cw_region ?_)))
  refine lw_boxN rfl rfl (cs := encO o) rfl ?_; intro N2 wn hN2 HX hb; replace hN2 := Nat.le_trans hw.size hN2; replace hw := grow_trans hw hb; clear hb
  replace hE := hE.mono hw; clear hw; have hw := Below.refl wn.heap.size wn
  repeat' (first | (refine lw_pure rfl (pv_assign rfl) ?_) | (refine lw_call (f := 63) (by kernel_rfl) rfl rfl (mayOne_c _ _) ?_; rintro e w1 ⟨rfl, hb⟩; refine ⟨_, rfl, ?_⟩; replace hw := grow_trans hw hb; clear hb) | (refine is_cw ?_; first | (refine cw_seq ?_) | (refine cw_region ?_) | (refine cw_ret ?_)) | (refine is_qw ?_; first | (with_reducible refine qw_then ?_)) | (refine lw_nil ?_) | ((refine is_load ?_; first | (refine lw_pure rfl (pv_loada (tA rfl) rfl (by first | exact PT.lda (HX.mono hw)) (by rfl)) ?_))) | ((refine is_un ?_; first | (refine lw_pure rfl (pv_not rfl) ?_))))
  exact qw_ret1 rfl rfl ⟨rfl, (hE.mono hw).b⟩
set_option maxRecDepth 20000 in
theorem isNaNL_c (a : Int) (w : World) : Calls Tryz.prog 135 #[.int .i64 a] w fun e w' => e = .returned (.bool false) ∧ w = w' := by
  refine fn_enter 6 Tryz.func135 rfl rfl rfl ?_
  repeat' (first | (refine lw_pure rfl (pv_move rfl) ?_) | (refine lw_pure rfl (pv_assign rfl) ?_) | (refine lw_pure rfl (pv_neqs rfl rfl) ?_) | (refine is_cw ?_; first | (refine cw_seq ?_) | (refine cw_region ?_) | (refine cw_ret ?_)) | (refine is_qw ?_; first | (with_reducible refine qw_then ?_)) | (refine lw_nil ?_))
  exact qw_ret1 rfl rfl ⟨rfl, rfl⟩
set_option maxRecDepth 20000 in
theorem cmpL_c (a b : Int) (w : World) : Calls Tryz.prog 117 #[.int .i64 a, .int .i64 b] w fun e w' => e = .returned (.int .i64 (cmpI a b)) ∧ w = w' := by
  refine fn_enter 20 Tryz.func117 rfl rfl rfl ?_
  repeat' (first | (refine lw_pure rfl (pv_move rfl) ?_) | (refine lw_pure rfl (pv_assign rfl) ?_) | (refine lw_call (f := 135) (by kernel_rfl) rfl rfl (isNaNL_c _ _) ?_; rintro e w1 ⟨rfl, rfl⟩; refine ⟨_, rfl, ?_⟩) | (refine is_cw ?_; first | (refine cw_seq ?_) | (refine cw_region ?_) | (refine cw_false rfl rfl ?_) | (refine cw_skip ?_) | (refine cw_ret ?_)) | (refine is_qw ?_; first | (with_reducible refine qw_then ?_) | (with_reducible refine qw_then_ret ?_)) | (refine lw_nil ?_) | ((refine is_bin ?_; first | (refine lw_pure rfl (pv_lss rfl rfl) ?_) | (refine lw_pure rfl (pv_gtr rfl rfl) ?_))) | (refine is_cw ?_; refine cw_split rfl (fun hc => ?_) (fun hc => ?_) <;> (first | replace hc := of_decide_eq_true hc | replace hc := of_decide_eq_false hc | replace hc := dec_nT hc | replace hc := dec_nF hc | skip) <;> (try (exfalso; omega))))
  all_goals (refine qw_ret1 rfl rfl ⟨ret_int ?_, rfl⟩; unfold cmpI; (repeat' split) <;> omega)
set_option maxRecDepth 20000 in
theorem byID_c (x y : Ord) (w : World) : Calls Tryz.prog 93 #[.agg (encO x).toArray, .agg (encO y).toArray] w fun e w' => e = .returned (.int .i64 (cmpI x.id y.id)) ∧ Below w.heap.size w w' := by
  have hE := Ext.refl w
  have hw := Below.refl w.heap.size w
  refine fn_enter 10 Tryz.func93 rfl rfl rfl ?_
  repeat' (first | (refine is_cw ?_; first | (refine cw_seq ?_) | (refine cw_region ?_)))
  refine lw_boxN rfl rfl (cs := encO x) rfl ?_; intro N2 wn hN2 HX hb; replace hN2 := Nat.le_trans hw.size hN2; replace hw := grow_trans hw hb; clear hb
  replace hE := hE.mono hw; clear hw; have hw := Below.refl wn.heap.size wn
  skip
  refine lw_boxN rfl rfl (cs := encO y) rfl ?_; intro N3 wn hN3 HY hb; replace hN3 := Nat.le_trans hw.size hN3; replace hw := grow_trans hw hb; clear hb
  replace hE := hE.mono hw; replace HX := HX.mono hw; clear hw; have hw := Below.refl wn.heap.size wn
  repeat' (first | (refine lw_pure rfl (pv_assign rfl) ?_) | (refine lw_call (f := 117) (by kernel_rfl) rfl rfl (cmpL_c _ _ _) ?_; rintro e w1 ⟨rfl, rfl⟩; refine ⟨_, rfl, ?_⟩) | (refine is_cw ?_; first | (refine cw_seq ?_) | (refine cw_region ?_) | (refine cw_ret ?_)) | (refine is_qw ?_; first | (with_reducible refine qw_then ?_)) | (refine lw_nil ?_) | ((refine is_load ?_; first | (refine lw_pure rfl (pv_load (t1 rfl) rfl (by first | exact PT.ld0 (HX.mono hw) rfl | exact PT.ld (HX.mono hw) rfl | exact PT.ld0 (HY.mono hw) rfl | exact PT.ld (HY.mono hw) rfl)) ?_))) | ((refine is_fa ?_; first | (refine lw_pure rfl (pv_fa (tF rfl) rfl) ?_))))
  exact qw_ret1 rfl rfl ⟨rfl, (hE.mono hw).b⟩
set_option maxRecDepth 20000 in
theorem indexf_O {xs : List Ord} {m : Nat} {ad : Option Addr} {cap : Nat} {w : World} (base : Nat) (p : Ord → Bool) (F : FuncId) (caps : Array Value) (he : entersB Tryz.prog F = true) (hbw : base ≤ w.heap.size) (hF : ∀ x, x ∈ xs → ∀ w', Below base w w' → Calls Tryz.prog F (#[] ++ [Value.agg (encO x).toArray].toArray ++ caps) w' fun e w'' => e = .returned (.bool (p x)) ∧ Below w'.heap.size w' w'') (hm : xs.length = m) (HS : SlR encO 6 w ad cap xs) : Calls Tryz.prog 118 #[.slice ad m cap, .func (.func F) #[] caps] w fun e w' => (∃ i, e = .returned (.int .i64 i) ∧ ((i = -1 ∧ ∀ x ∈ xs, p x = false) ∨ ∃ (k : Nat) (r : Ord), i = k ∧ xs[k]? = some r ∧ p r = true ∧ ∀ x ∈ xs.take k, p x = false)) ∧ Below w.heap.size w w' := by
  subst hm
  have hw := Below.refl w.heap.size w
  have hla := HS.le
  have hma := HS.max
  refine fn_enter 19 Tryz.func118 rfl rfl rfl ?_
  repeat' (first | (refine lw_pure rfl (pv_move rfl) ?_) | (refine lw_pure rfl (pv_assign rfl) ?_) | (refine is_cw ?_; first | (refine cw_seq ?_) | (refine cw_region ?_) | (refine cw_block ?_)) | (refine is_qw ?_; first | (with_reducible refine qw_then ?_)) | (refine lw_nil ?_) | ((refine is_bi ?_; first | (refine lw_pure rfl (pv_lenl (tS rfl) rfl) ?_))))
  refine cw_loop (σ := Nat) (fun k => [(0, .slice ad xs.length cap), (1, .func (.func F) #[] caps), (7, .int .i64 (xs.length : Nat)), (8, .int .i64 (k : Nat))]) (fun k wr => k ≤ xs.length ∧ Below w.heap.size w wr ∧ ∀ x ∈ xs.take k, p x = false) (fun k => xs.length - k) 0 (by repeat' (first | exact trivial | refine ⟨rfl, ?_⟩)) ⟨Nat.zero_le _, hw, by simp⟩ ?_
  clear hw
  rintro k wr ⟨hk, hw, hn⟩
  by_cases hlt : k < xs.length
  · have hxk : xs[k]? = some xs[k] := List.getElem?_eq_getElem hlt
    have hmem := List.getElem_mem hlt
    obtain ⟨ab, ao, rfl, -, -⟩ := HS.at (by intro h; rw [h] at hlt; simp at hlt)
    generalize xs[k] = x at hxk hmem
    repeat' (first | (refine lw_pure rfl (pv_move rfl) ?_) | (refine lw_pure rfl (pv_assign rfl) ?_) | (refine is_cw ?_; first | (refine cw_seq ?_) | (refine cw_region ?_) | (refine is_cd ?_; refine cw_true rfl (by first | assumption | exact decide_eq_true (by omega) | exact dec_notT (by omega)) ?_) | (refine cw_skip ?_) | (refine cw_block ?_)) | (refine is_qw ?_; first | (with_reducible refine qw_then ?_)) | (refine lw_nil ?_) | ((refine is_bin ?_; first | (refine lw_pure rfl (pv_lss rfl rfl) ?_))) | ((refine is_load ?_; first | (refine lw_pure rfl (pv_loada (tA rfl) rfl (by first | exact SlR.lda (HS.mono hw) hxk) (by rfl)) ?_))) | ((refine is_ia ?_; first | (refine lw_pure rfl (pv_ian (tS rfl) rfl rfl (by omega)) ?_))))
    refine lw_callv (f := F) rfl he rfl rfl (hF x hmem _ (hw.mono hbw)) ?_; rintro e w1 ⟨rfl, hb⟩; refine ⟨_, rfl, ?_⟩; replace hw := grow_trans hw hb; clear hb
    cases hp : p x with
    | true =>
      repeat' (first | (refine lw_pure rfl (pv_move rfl) ?_) | (refine lw_pure rfl (pv_assign rfl) ?_) | (refine is_cw ?_; first | (refine cw_seq ?_) | (refine cw_region ?_) | (refine cw_true rfl rfl ?_) | (refine cw_ret ?_)) | (refine is_qw ?_; first | (with_reducible refine qw_then ?_) | (with_reducible refine qw_then_ret ?_) | (with_reducible refine qw_in_ret ?_)) | (refine lw_nil ?_))
      exact qw_ret1 rfl rfl ⟨⟨_, rfl, Or.inr ⟨k, x, rfl, hxk, hp, hn⟩⟩, hw⟩
    | false =>
      repeat' (first | (refine lw_pure rfl (pv_move rfl) ?_) | (refine is_cw ?_; first | (refine cw_region ?_) | (refine cw_false rfl rfl ?_) | (refine cw_skip ?_)) | (refine is_qw ?_; first | (with_reducible refine qw_then ?_) | (with_reducible refine qw_in ?_)) | (refine lw_nil ?_) | ((refine is_bin ?_; first | (refine lw_pure rfl (pv_inc rfl rfl (by omega)) ?_))))
      refine qw_round (k + 1) (by repeat' (first | exact trivial | refine ⟨rfl, ?_⟩)) ⟨by omega, hw, ?_⟩ (by omega)
      intro y hy
      rw [List.take_add_one, hxk] at hy
      rcases List.mem_append.1 hy with hy | hy
      · exact hn y hy
      · simp at hy; subst hy; exact hp
  · have hkl : k = xs.length := by omega
    subst hkl
    rw [List.take_length] at hn
    repeat' (first | (refine lw_pure rfl (pv_assign rfl) ?_) | (refine is_cw ?_; first | (refine cw_seq ?_) | (refine cw_region ?_) | (refine is_cd ?_; refine cw_false rfl (by first | assumption | exact decide_eq_false (by omega) | exact dec_notF (by omega)) ?_) | (refine cw_exit ?_) | (refine cw_ret ?_)) | (refine is_qw ?_; first | (with_reducible refine qw_then ?_) | (with_reducible refine qw_in_hit ?_) | (with_reducible refine qw_then_exit ?_)) | (refine lw_nil ?_) | ((refine is_bin ?_; first | (refine lw_pure rfl (pv_lss rfl rfl) ?_))))
    exact qw_ret1 rfl rfl ⟨⟨_, rfl, Or.inl ⟨rfl, hn⟩⟩, hw⟩

set_option maxRecDepth 20000 in
theorem contf_O {xs : List Ord} {m : Nat} {ad : Option Addr} {cap : Nat} {w : World} (base : Nat) (p : Ord → Bool) (F : FuncId) (caps : Array Value) (he : entersB Tryz.prog F = true) (hbw : base ≤ w.heap.size) (hF : ∀ x, x ∈ xs → ∀ w', Below base w w' → Calls Tryz.prog F (#[] ++ [Value.agg (encO x).toArray].toArray ++ caps) w' fun e w'' => e = .returned (.bool (p x)) ∧ Below w'.heap.size w' w'') (hm : xs.length = m) (HS : SlR encO 6 w ad cap xs) : Calls Tryz.prog 91 #[.slice ad m cap, .func (.func F) #[] caps] w fun e w' => e = .returned (.bool (xs.any p)) ∧ Below w.heap.size w w' := by
  have hw := Below.refl w.heap.size w
  refine fn_enter 9 Tryz.func91 rfl rfl rfl ?_
  repeat' (first | (refine lw_pure rfl (pv_move rfl) ?_) | (refine lw_pure rfl (pv_assign rfl) ?_) | (refine is_cw ?_; first | (refine cw_seq ?_) | (refine cw_region ?_)) | (refine is_qw ?_; first | (with_reducible refine qw_then ?_)) | (refine lw_nil ?_))
  refine lw_call (f := 118) (by kernel_rfl) rfl rfl (indexf_O base p F caps he hbw hF hm HS) ?_; rintro e w1 ⟨⟨i, rfl, hi⟩, hb⟩; refine ⟨_, rfl, ?_⟩; replace hw := grow_trans hw hb; clear hb
  have hv : decide (i ≥ 0) = xs.any p := by
    rcases hi with ⟨rfl, h⟩ | ⟨k, r, rfl, hx, hp, -⟩
    · symm; rw [show decide ((-1 : Int) ≥ 0) = false by decide, List.any_eq_false]; intro x hx; rw [h x hx]; decide
    · symm; rw [decide_eq_true (by omega), List.any_eq_true]; exact ⟨r, List.mem_of_getElem? hx, hp⟩
  repeat' (first | (refine lw_pure rfl (pv_assign rfl) ?_) | (refine is_cw ?_; first | (refine cw_ret ?_)) | (refine is_qw ?_; first | (with_reducible refine qw_then ?_)) | (refine lw_nil ?_) | ((refine is_bin ?_; first | (refine lw_pure rfl (pv_geq rfl rfl) ?_))))
  exact qw_ret1 rfl rfl ⟨by rw [← hv], hw⟩

theorem pv_min1 {P : Program} {n : Nat} {l : Fr} {w : World} {d : Option Nat} {g : Option (Nat × Bool)} {ty : TypeId} {pos : String} {af : Array Edge} {x y : Operand} {ts : Array TypeId} {m : Nat} (hx : ev l x = some (.int .i64 1)) (hy : ev l y = some (.int .i64 (m : Int))) : Pv P n l ⟨d, .call ⟨.builtin .min, #[x, y], ts⟩, ty, pos, af, g⟩ (.int .i64 ((min 1 m : Nat) : Int)) w := by
  have h := pv_min (P := P) (n := n) (w := w) (d := d) (g := g) (ty := ty) (pos := pos) (af := af) (ts := ts) hx hy
  rwa [show (if (m : Int) < 1 then (m : Int) else 1) = ((min 1 m : Nat) : Int) by split <;> omega] at h
theorem cmpI_lt {a b : Int} (h : a < b) : cmpI a b = -1 := by unfold cmpI; rw [if_pos h]
theorem cmpI_ge {a b : Int} (h : ¬ a < b) : 0 ≤ cmpI a b := by unfold cmpI; rw [if_neg h]; split <;> omega
set_option maxRecDepth 20000 in
set_option maxHeartbeats 2000000 in
theorem bmay_c {l : List Ord} {m : Nat} {ad : Option Addr} {cap : Nat} {w : World} (hm : l.length = m) (HS : SlR encO 6 w ad cap l) : Calls Tryz.prog 65 #[.slice ad m cap] w fun e w' => e = .returned (.bool (mayO l)) ∧ Below w.heap.size w w' := by
  subst hm
  have hw := Below.refl w.heap.size w
  have hla := HS.le
  have hma := HS.max
  have hc := contf_O (w := w) w.heap.size (fun o => !mayOne o) 92 #[] (by kernel_rfl) (Nat.le_refl _) (fun x _ w' hb => mayF_c x w') rfl HS
  refine fn_enter 32 Tryz.func65 rfl rfl rfl ?_
  by_cases h128 : 128 < l.length
  · rw [mayO_no3 h128]
    repeat' (first | (refine lw_pure rfl (pv_move rfl) ?_) | (refine lw_pure rfl (pv_assign rfl) ?_) | (refine is_cw ?_; first | (refine cw_seq ?_) | (refine cw_region ?_) | (refine cw_true rfl rfl ?_) | (refine cw_ret ?_)) | (refine is_qw ?_; first | (with_reducible refine qw_then ?_) | (with_reducible refine qw_then_ret ?_)) | (refine lw_nil ?_) | (refine is_guarded ?_; first | (refine lw_not rfl rfl rfl (by first | assumption | exact decide_eq_true (by omega) | exact decide_eq_false (by omega) | exact dec_notT (by omega) | exact dec_notF (by omega)) ?_)) | ((refine is_bin ?_; first | (refine lw_pure rfl (pv_gtr rfl rfl) ?_))) | ((refine is_bi ?_; first | (refine lw_pure rfl (pv_lenl (tS rfl) rfl) ?_))) | (refine is_pk ?_; refine lw_pure rfl (pv_pick_t rfl (by first | assumption | exact decide_eq_true (by omega) | exact dec_notT (by omega)) rfl) ?_))
    exact qw_ret1 rfl rfl ⟨rfl, hw⟩
  cases hA : l.any (fun o => !mayOne o) with
  | true =>
    rw [hA] at hc
    obtain ⟨o, ho, hm⟩ := List.any_eq_true.1 hA
    obtain ⟨j, hj⟩ := List.mem_iff_getElem?.1 ho
    rw [mayO_no1 hj (by simpa using hm)]
    repeat' (first | (refine lw_pure rfl (pv_move rfl) ?_) | (refine lw_pure rfl (pv_assign rfl) ?_) | (refine lw_call (f := 91) (by kernel_rfl) rfl rfl (hc) ?_; rintro e w1 ⟨rfl, hb⟩; refine ⟨_, rfl, ?_⟩; replace hw := grow_trans hw hb; clear hb) | (refine is_cw ?_; first | (refine cw_seq ?_) | (refine cw_region ?_) | (refine cw_true rfl rfl ?_) | (refine cw_ret ?_)) | (refine is_qw ?_; first | (with_reducible refine qw_then ?_) | (with_reducible refine qw_then_ret ?_)) | (refine lw_nil ?_) | (refine is_guarded ?_; first | (refine lw_on rfl rfl (by first | assumption | exact decide_eq_true (by omega) | exact decide_eq_false (by omega) | exact dec_notT (by omega) | exact dec_notF (by omega)) ?_)) | ((refine is_bin ?_; first | (refine lw_pure rfl (pv_gtr rfl rfl) ?_))) | ((refine is_bi ?_; first | (refine lw_pure rfl (pv_lenl (tS rfl) rfl) ?_))) | (refine is_pk ?_; refine lw_pure rfl (pv_pick_f rfl (by first | assumption | exact decide_eq_false (by omega) | exact dec_notF (by omega)) rfl) ?_))
    exact qw_ret1 rfl rfl ⟨rfl, hw⟩
  | false =>
    rw [hA] at hc
    have hall : ∀ o ∈ l, mayOne o = true := fun o ho => by have := List.any_eq_false.1 hA o ho; simpa using this
    repeat' (first | (refine lw_pure rfl (pv_move rfl) ?_) | (refine lw_pure rfl (pv_assign rfl) ?_) | (refine lw_call (f := 91) (by kernel_rfl) rfl rfl (hc) ?_; rintro e w1 ⟨rfl, hb⟩; refine ⟨_, rfl, ?_⟩; replace hw := grow_trans hw hb; clear hb) | (refine lw_pure rfl (pv_min1 rfl rfl) ?_) | (refine lw_pure rfl (pv_slice_l (tS rfl) rfl rfl (by omega)) ?_) | (refine is_cw ?_; first | (refine cw_seq ?_) | (refine cw_region ?_) | (refine cw_false rfl rfl ?_) | (refine cw_skip ?_) | (refine cw_block ?_)) | (refine is_qw ?_; first | (with_reducible refine qw_then ?_)) | (refine lw_nil ?_) | (refine is_guarded ?_; first | (refine lw_on rfl rfl (by first | assumption | exact decide_eq_true (by omega) | exact decide_eq_false (by omega) | exact dec_notT (by omega) | exact dec_notF (by omega)) ?_)) | ((refine is_bin ?_; first | (refine lw_pure rfl (pv_gtr rfl rfl) ?_))) | ((refine is_bi ?_; first | (refine lw_pure rfl (pv_lenl (tS rfl) rfl) ?_))) | (refine is_pk ?_; refine lw_pure rfl (pv_pick_f rfl (by first | assumption | exact decide_eq_false (by omega) | exact dec_notF (by omega)) rfl) ?_))
    refine cw_loop (σ := Nat) (fun k => [(0, .slice ad l.length cap), (16, .int .i64 ((l.length - min 1 l.length : Nat) : Int)), (17, .int .i64 (k : Nat))]) (fun k wr => k ≤ l.length - min 1 l.length ∧ Below w.heap.size w wr ∧ ∀ (j : Nat) x y, j < k → l[j]? = some x → l[j + 1]? = some y → x.id < y.id) (fun k => l.length - k) 0 (by repeat' (first | exact trivial | refine ⟨rfl, ?_⟩)) ⟨Nat.zero_le _, hw, fun j x y hj => by omega⟩ ?_
    clear hw hc
    rintro k wr ⟨hk, hw, hn⟩
    by_cases hlt : k < l.length - min 1 l.length
    · have hk1 : k + 1 < l.length := by omega
      have hxk : l[k]? = some (l[k]'(by omega)) := List.getElem?_eq_getElem _
      have hyk : l[k + 1]? = some (l[k + 1]'(by omega)) := List.getElem?_eq_getElem _
      obtain ⟨ab, ao, rfl, -, -⟩ := HS.at (by intro h; rw [h] at hk1; simp at hk1)
      generalize l[k]'(by omega) = x at hxk
      generalize l[k + 1]'(by omega) = y at hyk
      have hE := Ext.mk hw
      replace HS := HS.mono hw
      clear hw
      have hw := Below.refl wr.heap.size wr
      have hkl : k < l.length := by omega
      by_cases hxy : x.id < y.id
      · have hcv := cmpI_lt hxy
        repeat' (first | (refine lw_pure rfl (pv_move rfl) ?_) | (refine lw_pure rfl (pv_assign rfl) ?_) | (refine is_cw ?_; first | (refine cw_seq ?_) | (refine cw_region ?_) | (refine is_cd ?_; refine cw_true rfl (by first | assumption | exact decide_eq_true (by omega) | exact dec_notT (by omega)) ?_) | (refine cw_skip ?_) | (refine cw_block ?_)) | (refine is_qw ?_; first | (with_reducible refine qw_then ?_)) | (refine lw_nil ?_) | ((refine is_bin ?_; first | (refine lw_pure rfl (pv_lss rfl rfl) ?_))))
        refine cw_drawn (fun w' => Below wr.heap.size wr w') (by kernel_rfl) (by repeat (first | exact NoPanic.body | with_reducible refine NoPanic.then ?_ | with_reducible refine NoPanic.inBlock ?_)) (fun hNP => ?_)
        have hS := hw.drew
        (refine at0 0 rfl (fun w' hq => pv_move rfl) ?_)
        (refine at0 1 rfl (fun w' hq => pv_move rfl) ?_)
        (refine at0 2 rfl (fun w' hq => pv_ian (tS rfl) rfl rfl (by omega)) ?_)
        (refine at0 3 rfl (fun w' hq => pv_loada (tA rfl) rfl (by first | exact SlR.lda (HS.mono hq) hxk | exact SlR.lda (HS.mono hq) hyk) (by rfl)) ?_)
        (refine at0 4 rfl (fun w' hq => pv_move rfl) ?_)
        (refine at0 5 rfl (fun w' hq => pv_move rfl) ?_)
        (refine at0 6 rfl (fun w' hq => pv_inc rfl rfl (by omega)) ?_)
        (refine at0 7 rfl (fun w' hq => pv_ian (tS rfl) rfl rfl (by omega)) ?_)
        (refine at0 8 rfl (fun w' hq => pv_loada (tA rfl) rfl (by first | exact SlR.lda (HS.mono hq) hxk | exact SlR.lda (HS.mono hq) hyk) (by rfl)) ?_)
        refine aw_act 9 (by kernel_rfl) rfl rfl rfl ?_
        refine act_call (f := 93) (by kernel_rfl) rfl (byID_c _ _ _) ?_; rw [hcv]; rintro e w1 ⟨rfl, hb⟩; refine ⟨_, rfl, grow_trans hS hb, fun hS => ?_⟩; clear hb
        (refine at0 10 rfl (fun w' hq => pv_geq rfl rfl) ?_)
        refine aw_done (by kernel_rfl) ?_
        replace hw := hS; clear hS hNP
        repeat' (first | (refine lw_pure rfl (pv_move rfl) ?_) | (refine is_cw ?_; first | (refine cw_region ?_) | (refine cw_false rfl rfl ?_) | (refine cw_skip ?_)) | (refine is_qw ?_; first | (with_reducible refine qw_then ?_) | (with_reducible refine qw_in ?_)) | (refine lw_nil ?_) | ((refine is_bin ?_; first | (refine lw_pure rfl (pv_inc rfl rfl (by omega)) ?_))))
        refine qw_round (k + 1) (by repeat' (first | exact trivial | refine ⟨rfl, ?_⟩)) ⟨by omega, (hE.mono hw).b, fun j u v hj hu hv => ?_⟩ (by omega)
        by_cases hjk : j = k
        · subst hjk; rw [hxk] at hu; rw [hyk] at hv; injection hu with hu; injection hv with hv; subst hu hv; exact hxy
        · exact hn j u v (by omega) hu hv
      · have hcv := cmpI_ge hxy
        rw [mayO_no2 hxk hyk (by omega)]
        repeat' (first | (refine lw_pure rfl (pv_move rfl) ?_) | (refine lw_pure rfl (pv_assign rfl) ?_) | (refine is_cw ?_; first | (refine cw_seq ?_) | (refine cw_region ?_) | (refine is_cd ?_; refine cw_true rfl (by first | assumption | exact decide_eq_true (by omega) | exact dec_notT (by omega)) ?_) | (refine cw_skip ?_) | (refine cw_block ?_)) | (refine is_qw ?_; first | (with_reducible refine qw_then ?_)) | (refine lw_nil ?_) | ((refine is_bin ?_; first | (refine lw_pure rfl (pv_lss rfl rfl) ?_))))
        refine cw_drawn (fun w' => Below wr.heap.size wr w') (by kernel_rfl) (by repeat (first | exact NoPanic.body | with_reducible refine NoPanic.then ?_ | with_reducible refine NoPanic.inBlock ?_)) (fun hNP => ?_)
        have hS := hw.drew
        (refine at0 0 rfl (fun w' hq => pv_move rfl) ?_)
        (refine at0 1 rfl (fun w' hq => pv_move rfl) ?_)
        (refine at0 2 rfl (fun w' hq => pv_ian (tS rfl) rfl rfl (by omega)) ?_)
        (refine at0 3 rfl (fun w' hq => pv_loada (tA rfl) rfl (by first | exact SlR.lda (HS.mono hq) hxk | exact SlR.lda (HS.mono hq) hyk) (by rfl)) ?_)
        (refine at0 4 rfl (fun w' hq => pv_move rfl) ?_)
        (refine at0 5 rfl (fun w' hq => pv_move rfl) ?_)
        (refine at0 6 rfl (fun w' hq => pv_inc rfl rfl (by omega)) ?_)
        (refine at0 7 rfl (fun w' hq => pv_ian (tS rfl) rfl rfl (by omega)) ?_)
        (refine at0 8 rfl (fun w' hq => pv_loada (tA rfl) rfl (by first | exact SlR.lda (HS.mono hq) hxk | exact SlR.lda (HS.mono hq) hyk) (by rfl)) ?_)
        refine aw_act 9 (by kernel_rfl) rfl rfl rfl ?_
        refine act_call (f := 93) (by kernel_rfl) rfl (byID_c _ _ _) ?_; rintro e w1 ⟨rfl, hb⟩; refine ⟨_, rfl, grow_trans hS hb, fun hS => ?_⟩; clear hb
        (refine at0 10 rfl (fun w' hq => pv_geq rfl rfl) ?_)
        refine aw_done (by kernel_rfl) ?_
        replace hw := hS; clear hS hNP
        repeat' (first | (refine lw_pure rfl (pv_assign rfl) ?_) | (refine is_cw ?_; first | (refine cw_seq ?_) | (refine cw_region ?_) | (refine is_cd ?_; refine cw_true rfl (by first | assumption | exact decide_eq_true (by omega) | exact dec_notT (by omega)) ?_) | (refine cw_ret ?_)) | (refine is_qw ?_; first | (with_reducible refine qw_then ?_) | (with_reducible refine qw_then_ret ?_) | (with_reducible refine qw_in_ret ?_)) | (refine lw_nil ?_))
        exact qw_ret1 rfl rfl ⟨rfl, (hE.mono hw).b⟩
    · rw [mayO_yes (by omega) hall fun j x y hx hy => hn j x y (by have := (List.getElem?_eq_some_iff.1 hy).1; omega) hx hy]
      repeat' (first | (refine lw_pure rfl (pv_assign rfl) ?_) | (refine is_cw ?_; first | (refine cw_seq ?_) | (refine cw_region ?_) | (refine is_cd ?_; refine cw_false rfl (by first | assumption | exact decide_eq_false (by omega) | exact dec_notF (by omega)) ?_) | (refine cw_exit ?_) | (refine cw_ret ?_)) | (refine is_qw ?_; first | (with_reducible refine qw_then ?_) | (with_reducible refine qw_in_hit ?_) | (with_reducible refine qw_then_exit ?_)) | (refine lw_nil ?_) | ((refine is_bin ?_; first | (refine lw_pure rfl (pv_lss rfl rfl) ?_))))
      exact qw_ret1 rfl rfl ⟨rfl, hw⟩

theorem mayOne_e {o : Ord} {b : Bool} (h : mayOne o = b) (w : World) : Calls Tryz.prog 63 #[.agg (encO o).toArray] w fun e w' => e = .returned (.bool b) ∧ Below w.heap.size w w' := by subst h; exact mayOne_c o w
set_option maxRecDepth 20000 in
set_option maxHeartbeats 2000000 in
theorem holds_c (o : Ord) (w : World) : Calls Tryz.prog 28 #[.agg (encO o).toArray] w fun e w' => e = .returned (.tuple #[.int .i64 (holdsA o), .int .i64 (holdsN o)]) ∧ Below w.heap.size w w' := by
  have hE := Ext.refl w
  have hw := Below.refl w.heap.size w
  refine fn_enter 21 Tryz.func28 rfl rfl rfl ?_
  repeat' (first | (refine is_cw ?_; first | (refine cw_seq ?_) | (refine cw_region ?_)))
  refine lw_boxN rfl rfl (cs := encO o) rfl ?_; intro N2 wn hN2 HX hb; replace hN2 := Nat.le_trans hw.size hN2; replace hw := grow_trans hw hb; clear hb
  replace hE := hE.mono hw; clear hw; have hw := Below.refl wn.heap.size wn
  cases hm : mayOne o with
  | false =>
    rw [(holdsN_no hm).1, (holdsN_no hm).2]
    repeat' (first | (refine lw_pure rfl (pv_assign rfl) ?_) | (refine lw_call (f := 63) (by kernel_rfl) rfl rfl (mayOne_e hm _) ?_; rintro e w1 ⟨rfl, hb⟩; refine ⟨_, rfl, ?_⟩; replace hw := grow_trans hw hb; clear hb) | (refine is_cw ?_; first | (refine cw_seq ?_) | (refine cw_region ?_) | (refine cw_true rfl rfl ?_) | (refine cw_block ?_) | (refine cw_ret ?_)) | (refine is_qw ?_; first | (with_reducible refine qw_then ?_) | (with_reducible refine qw_then_ret ?_) | (with_reducible refine qw_in_ret ?_)) | (refine lw_nil ?_) | ((refine is_load ?_; first | (refine lw_pure rfl (pv_loada (tA rfl) rfl (by first | exact PT.lda (HX.mono hw)) (by rfl)) ?_))) | ((refine is_un ?_; first | (refine lw_pure rfl (pv_not rfl) ?_))))
    exact qw_ret2 rfl rfl rfl ⟨rfl, (hE.mono hw).b⟩
  | true =>
    have g := mayOne_iff.1 hm
    have hq := mul_le_q g.2.2.2.2.1 g.2.2.2.2.2
    have hA : holdsA o = if o.side = 1 then 0 else o.inst := by unfold holdsA; rw [if_pos hm]
    have hN : holdsN o = if o.side = 1 then o.price * o.left else o.left := by unfold holdsN; rw [if_pos hm]
    rw [hA, hN]
    have hE0 := hE
    repeat' (first | (refine lw_pure rfl (pv_assign rfl) ?_) | (refine lw_call (f := 63) (by kernel_rfl) rfl rfl (mayOne_e hm _) ?_; rintro e w1 ⟨rfl, hb⟩; refine ⟨_, rfl, ?_⟩; replace hw := grow_trans hw hb; clear hb) | (refine is_cw ?_; first | (refine cw_seq ?_) | (refine cw_region ?_) | (refine cw_false rfl rfl ?_) | (refine cw_block ?_)) | (refine is_qw ?_; first | (with_reducible refine qw_then ?_)) | (refine lw_nil ?_) | ((refine is_bin ?_; first | (refine lw_pure rfl (pv_eql rfl rfl) ?_))) | ((refine is_load ?_; first | (refine lw_pure rfl (pv_load (t1 rfl) rfl (by first | exact PT.ld0 (HX.mono hw) rfl | exact PT.ld (HX.mono hw) rfl)) ?_) | (refine lw_pure rfl (pv_loada (tA rfl) rfl (by first | exact PT.lda (HX.mono hw)) (by rfl)) ?_))) | ((refine is_fa ?_; first | (refine lw_pure rfl (pv_fa (tF rfl) rfl) ?_))) | ((refine is_un ?_; first | (refine lw_pure rfl (pv_not rfl) ?_))))
    by_cases hs : o.side = 1
    · rw [if_pos hs, if_pos hs]
      repeat' (first | (refine is_cw ?_; first | (refine cw_seq ?_) | (refine is_cd ?_; refine cw_true rfl (by first | assumption | exact decide_eq_true (by omega) | exact dec_notT (by omega)) ?_)))
      refine cw_drawn (fun w' => Below wn.heap.size wn w') (by kernel_rfl) (by repeat (first | exact NoPanic.body | with_reducible refine NoPanic.then ?_ | with_reducible refine NoPanic.inBlock ?_)) (fun hNP => ?_)
      have hS := hw.drew
      (refine at0 0 rfl (fun w' hq => pv_fa (tF rfl) rfl) ?_)
      (refine at0 1 rfl (fun w' hq => pv_load (t1 rfl) rfl (by first | exact PT.ld0 (HX.mono hq) rfl | exact PT.ld (HX.mono hq) rfl)) ?_)
      (refine at0 2 rfl (fun w' hq => pv_fa (tF rfl) rfl) ?_)
      (refine at0 3 rfl (fun w' hq => pv_load (t1 rfl) rfl (by first | exact PT.ld0 (HX.mono hq) rfl | exact PT.ld (HX.mono hq) rfl)) ?_)
      (refine at0 4 rfl (fun w' hq => pv_mul rfl rfl (by omega)) ?_)
      (refine at0 5 rfl (fun w' hq => pv_assign rfl) ?_)
      (refine at0 6 rfl (fun w' hq => pv_assign rfl) ?_)
      refine aw_done (by kernel_rfl) ?_
      replace hw := hS; clear hS hNP
      repeat' (first | (refine is_cw ?_; first | (refine cw_ret ?_)) | (refine is_qw ?_; first | (with_reducible refine qw_then ?_) | (with_reducible refine qw_then_ret ?_) | (with_reducible refine qw_in_ret ?_)))
      exact qw_ret2 rfl rfl rfl ⟨rfl, (hE0.mono hw).b⟩
    · rw [if_neg hs, if_neg hs]
      repeat' (first | (refine is_cw ?_; first | (refine cw_seq ?_) | (refine is_cd ?_; refine cw_false rfl (by first | assumption | exact decide_eq_false (by omega) | exact dec_notF (by omega)) ?_) | (refine cw_skip ?_)) | (refine is_qw ?_; first | (with_reducible refine qw_then ?_) | (with_reducible refine qw_in ?_)))
      refine cw_drawn (fun w' => Below wn.heap.size wn w') (by kernel_rfl) (by repeat (first | exact NoPanic.body | with_reducible refine NoPanic.then ?_ | with_reducible refine NoPanic.inBlock ?_)) (fun hNP => ?_)
      have hS := hw.drew
      (refine at0 0 rfl (fun w' hq => pv_fa (tF rfl) rfl) ?_)
      (refine at0 1 rfl (fun w' hq => pv_load (t1 rfl) rfl (by first | exact PT.ld0 (HX.mono hq) rfl | exact PT.ld (HX.mono hq) rfl)) ?_)
      (refine at0 2 rfl (fun w' hq => pv_fa (tF rfl) rfl) ?_)
      (refine at0 3 rfl (fun w' hq => pv_load (t1 rfl) rfl (by first | exact PT.ld0 (HX.mono hq) rfl | exact PT.ld (HX.mono hq) rfl)) ?_)
      (refine at0 4 rfl (fun w' hq => pv_assign rfl) ?_)
      (refine at0 5 rfl (fun w' hq => pv_assign rfl) ?_)
      refine aw_done (by kernel_rfl) ?_
      replace hw := hS; clear hS hNP
      repeat' (first | (refine is_cw ?_; first | (refine cw_ret ?_)) | (refine is_qw ?_; first | (with_reducible refine qw_then ?_)))
      exact qw_ret2 rfl rfl rfl ⟨rfl, (hE0.mono hw).b⟩

section
variable {P : Program} {n : Nat} {l : Fr}
theorem pv_iface {w : World} {d : Option Nat} {ty t : TypeId} {pos : String} {af : Array Edge} {g : Option (Nat × Bool)} {x : Operand} {v : Value} (hc : P.concrete t = true) (hx : ev l x = some v) : Pv P n l ⟨d, .makeInterface t x, ty, pos, af, g⟩ (.iface t v) w := ⟨fun A hA => by
  simp [execOp, hA.ev hx, run_makeInterface w t v hc]⟩
theorem run_callm {w : World} {f : FuncId} {a : Act} {x : Operand} {name : String} {t : TypeId} {v r : Value} {args : List Operand} {ts : Array TypeId} {d : Option Nat} {ty : TypeId} {pos : String} {af : Array Edge} {g : Option (Nat × Bool)} (hm : (method (P.types.size + Made.depth) t v name).run P w = .ok (f, r) w) (he : entersB P f = true) (ha : Holds n l a) (hx : ev l x = some (.iface t v)) {vs : List Value} (hvs : evs l args = some vs) :
    (execOp a.eval ⟨d, .call ⟨.invoke x name, args.toArray, ts⟩, ty, pos, af, g⟩).run P w = .ok (.enter f (r :: vs).toArray) w := by
  have h0 : (#[Value.iface t v] ++ vs.toArray)[0]? = some (.iface t v) := by simp
  have h1 : (#[Value.iface t v] ++ vs.toArray).extract 1 (#[Value.iface t v] ++ vs.toArray).size = vs.toArray := by simp
  have h2 : (callMethod (.iface t v) name vs.toArray).run P w = .ok (.enter f (r :: vs).toArray) w := by
    simp only [callMethod, Sem.run_bind, run_program, Result.andThen_ok, hm]
    have := run_callFunc he (#[r] ++ vs.toArray) w
    rw [this]; simp
  simp [execOp, resolve, ha.ev hx, invoke, ha.evs hvs, h2]
theorem act_callm {w : World} {d : Option Nat} {f : FuncId} {x : Operand} {name : String} {t : TypeId} {v r : Value} {args : List Operand} {ts : Array TypeId} {ty : TypeId} {pos : String} {af : Array Edge} {g : Option (Nat × Bool)} {vs : List Value} {R : Ending → World → Prop} {Z : Value → World → Prop} (hm : (method (P.types.size + Made.depth) t v name).run P w = .ok (f, r) w) (he : entersB P f = true) (hx : ev l x = some (.iface t v)) (hvs : evs l args = some vs)
    (hc : Calls P f (r :: vs).toArray w R) (h : ∀ e w', R e w' → ∃ v, e = .returned v ∧ Z v w') : Act1 P n l ⟨d, .call ⟨.invoke x name, args.toArray, ts⟩, ty, pos, af, g⟩ w Z := ⟨fun a ha K Q hK => by
  unfold Oper.wp; rw [run_callm hm he ha hx hvs]
  refine Calls.mono hc fun e w' hr => ?_
  obtain ⟨v, rfl, hl⟩ := h e w' hr
  exact hK v w' hl⟩
end
set_option maxRecDepth 20000 in
theorem withI_c (n m : Int) (w : World) : Calls Tryz.prog 97 #[.int .i64 n, .int .i64 m] w fun e w' => e = .returned (.bool (decide (1 ≤ n ∧ n ≤ m))) ∧ Below w.heap.size w w' := by
  have hw := Below.refl w.heap.size w
  refine fn_enter 12 Tryz.func97 rfl rfl rfl ?_
  repeat' (first | (refine lw_pure rfl (pv_move rfl) ?_) | (refine lw_pure rfl (pv_assign rfl) ?_) | (refine is_cw ?_; first | (refine cw_seq ?_) | (refine cw_region ?_) | (refine cw_ret ?_)) | (refine is_qw ?_; first | (with_reducible refine qw_then ?_)) | (refine lw_nil ?_) | (refine is_guarded ?_; first | (refine lw_on rfl rfl (by first | assumption | exact decide_eq_true (by omega) | exact decide_eq_false (by omega) | exact dec_notT (by omega) | exact dec_notF (by omega)) ?_) | (refine lw_not rfl rfl rfl (by first | assumption | exact decide_eq_true (by omega) | exact decide_eq_false (by omega) | exact dec_notT (by omega) | exact dec_notF (by omega)) ?_) | (refine lw_gs_t rfl rfl rfl (fun hc => ?_) (fun hc => ?_) <;> (first | replace hc := of_decide_eq_true hc | replace hc := of_decide_eq_false hc | replace hc := dec_nT hc | replace hc := dec_nF hc | skip) <;> (try (exfalso; omega)))) | ((refine is_bin ?_; first | (refine lw_pure rfl (pv_leq rfl rfl) ?_) | (refine lw_pure rfl (pv_geq rfl rfl) ?_))) | (refine is_pk ?_; refine lw_pure rfl (pv_pick_t rfl (by first | assumption | exact decide_eq_true (by omega) | exact dec_notT (by omega)) rfl) ?_) | (refine is_pk ?_; refine lw_pure rfl (pv_pick_f rfl (by first | assumption | exact decide_eq_false (by omega) | exact dec_notF (by omega)) rfl) ?_))
  all_goals (refine qw_ret1 rfl rfl ⟨ret_bool ?_, hw⟩; first | rfl | (rw [decide_eq_decide]; omega) | (symm; rw [decide_eq_true_eq]; omega) | (symm; rw [decide_eq_false_iff_not]; omega))
set_option maxRecDepth 20000 in
theorem withL_c (n m : Int) (w : World) : Calls Tryz.prog 96 #[.int .i64 n, .int .i64 m] w fun e w' => e = .returned (.bool (decide (1 ≤ n ∧ n ≤ m))) ∧ Below w.heap.size w w' := by
  have hw := Below.refl w.heap.size w
  refine fn_enter 12 Tryz.func96 rfl rfl rfl ?_
  repeat' (first | (refine lw_pure rfl (pv_move rfl) ?_) | (refine lw_pure rfl (pv_assign rfl) ?_) | (refine is_cw ?_; first | (refine cw_seq ?_) | (refine cw_region ?_) | (refine cw_ret ?_)) | (refine is_qw ?_; first | (with_reducible refine qw_then ?_)) | (refine lw_nil ?_) | (refine is_guarded ?_; first | (refine lw_on rfl rfl (by first | assumption | exact decide_eq_true (by omega) | exact decide_eq_false (by omega) | exact dec_notT (by omega) | exact dec_notF (by omega)) ?_) | (refine lw_not rfl rfl rfl (by first | assumption | exact decide_eq_true (by omega) | exact decide_eq_false (by omega) | exact dec_notT (by omega) | exact dec_notF (by omega)) ?_) | (refine lw_gs_t rfl rfl rfl (fun hc => ?_) (fun hc => ?_) <;> (first | replace hc := of_decide_eq_true hc | replace hc := of_decide_eq_false hc | replace hc := dec_nT hc | replace hc := dec_nF hc | skip) <;> (try (exfalso; omega)))) | ((refine is_bin ?_; first | (refine lw_pure rfl (pv_leq rfl rfl) ?_) | (refine lw_pure rfl (pv_geq rfl rfl) ?_))) | (refine is_pk ?_; refine lw_pure rfl (pv_pick_t rfl (by first | assumption | exact decide_eq_true (by omega) | exact dec_notT (by omega)) rfl) ?_) | (refine is_pk ?_; refine lw_pure rfl (pv_pick_f rfl (by first | assumption | exact decide_eq_false (by omega) | exact dec_notF (by omega)) rfl) ?_))
  all_goals (refine qw_ret1 rfl rfl ⟨ret_bool ?_, hw⟩; first | rfl | (rw [decide_eq_decide]; omega) | (symm; rw [decide_eq_true_eq]; omega) | (symm; rw [decide_eq_false_iff_not]; omega))
/-! which bids may be -/
theorem bids_no1 {s : Int} {l : List Bid} {j : Nat} {b : Bid} (h : l[j]? = some b) (hb : bidB s b = false) : bidsB s l = false := by
  rw [← Bool.not_eq_true, bidsB_iff]; intro hM
  have := hM.1 b (List.mem_of_getElem? h); rw [hb] at this; cases this
theorem bids_no2 {s : Int} {l : List Bid} {i j : Nat} {b c : Bid} (hi : l[i]? = some c) (h : l[j]? = some b) (hij : i < j) (he : c.acct = b.acct) : bidsB s l = false := by
  rw [← Bool.not_eq_true, bidsB_iff, nodup_get]; intro hM
  exact hM.2 i j c b hij hi h he
theorem bids_yes {s : Int} {l : List Bid} (h : ∀ (j : Nat) b, l[j]? = some b → bidB s b = true ∧ ∀ (i : Nat) c, i < j → l[i]? = some c → c.acct ≠ b.acct) : bidsB s l = true := by
  rw [bidsB_iff, nodup_get]
  exact ⟨all_get fun j b hb => (h j b hb).1, fun i j x y hij hx hy => (h j y hy).2 i x hij hx⟩
set_option maxRecDepth 20000 in
theorem bidsF_c {b c : Bid} {N : Nat} {w : World} (HB : PT w N 46 (encD b)) : Calls Tryz.prog 124 #[.agg (encD c).toArray, .pointer (some ⟨N, 0, none⟩)] w fun e w' => e = .returned (.bool (decide (c.acct = b.acct))) ∧ Below w.heap.size w w' := by
  have hE := Ext.refl w
  have hw := Below.refl w.heap.size w
  refine fn_enter 9 Tryz.func124 rfl rfl rfl ?_
  repeat' (first | (refine is_cw ?_; first | (refine cw_seq ?_) | (refine cw_region ?_)))
  refine lw_boxN rfl rfl (cs := encD c) rfl ?_; intro N2 wn hN2 HX hb; replace hN2 := Nat.le_trans hw.size hN2; replace hw := grow_trans hw hb; clear hb
  replace hE := hE.mono hw; replace HB := HB.mono hw; clear hw; have hw := Below.refl wn.heap.size wn
  repeat' (first | (refine lw_pure rfl (pv_assign rfl) ?_) | (refine is_cw ?_; first | (refine cw_seq ?_) | (refine cw_region ?_) | (refine cw_ret ?_)) | (refine is_qw ?_; first | (with_reducible refine qw_then ?_)) | (refine lw_nil ?_) | ((refine is_bin ?_; first | (refine lw_pure rfl (pv_eql rfl rfl) ?_))) | ((refine is_load ?_; first | (refine lw_pure rfl (pv_load (t1 rfl) rfl (by first | exact PT.ld0 (HX.mono hw) rfl | exact PT.ld (HX.mono hw) rfl | exact PT.ld0 (HB.mono hw) rfl | exact PT.ld (HB.mono hw) rfl)) ?_))) | ((refine is_fa ?_; first | (refine lw_pure rfl (pv_fa (tF rfl) rfl) ?_))))
  exact qw_ret1 rfl rfl ⟨rfl, (hE.mono hw).b⟩
set_option maxRecDepth 20000 in
theorem indexf_D {xs : List Bid} {m : Nat} {ad : Option Addr} {cap : Nat} {w : World} (base : Nat) (p : Bid → Bool) (F : FuncId) (caps : Array Value) (he : entersB Tryz.prog F = true) (hbw : base ≤ w.heap.size) (hF : ∀ x, x ∈ xs → ∀ w', Below base w w' → Calls Tryz.prog F (#[] ++ [Value.agg (encD x).toArray].toArray ++ caps) w' fun e w'' => e = .returned (.bool (p x)) ∧ Below w'.heap.size w' w'') (hm : xs.length = m) (HS : SlR encD 2 w ad cap xs) : Calls Tryz.prog 133 #[.slice ad m cap, .func (.func F) #[] caps] w fun e w' => (∃ i, e = .returned (.int .i64 i) ∧ ((i = -1 ∧ ∀ x ∈ xs, p x = false) ∨ ∃ (k : Nat) (r : Bid), i = k ∧ xs[k]? = some r ∧ p r = true ∧ ∀ x ∈ xs.take k, p x = false)) ∧ Below w.heap.size w w' := by
  subst hm
  have hw := Below.refl w.heap.size w
  have hla := HS.le
  have hma := HS.max
  refine fn_enter 19 Tryz.func133 rfl rfl rfl ?_
  repeat' (first | (refine lw_pure rfl (pv_move rfl) ?_) | (refine lw_pure rfl (pv_assign rfl) ?_) | (refine is_cw ?_; first | (refine cw_seq ?_) | (refine cw_region ?_) | (refine cw_block ?_)) | (refine is_qw ?_; first | (with_reducible refine qw_then ?_)) | (refine lw_nil ?_) | ((refine is_bi ?_; first | (refine lw_pure rfl (pv_lenl (tS rfl) rfl) ?_))))
  refine cw_loop (σ := Nat) (fun k => [(0, .slice ad xs.length cap), (1, .func (.func F) #[] caps), (7, .int .i64 (xs.length : Nat)), (8, .int .i64 (k : Nat))]) (fun k wr => k ≤ xs.length ∧ Below w.heap.size w wr ∧ ∀ x ∈ xs.take k, p x = false) (fun k => xs.length - k) 0 (by repeat' (first | exact trivial | refine ⟨rfl, ?_⟩)) ⟨Nat.zero_le _, hw, by simp⟩ ?_
  clear hw
  rintro k wr ⟨hk, hw, hn⟩
  by_cases hlt : k < xs.length
  · have hxk : xs[k]? = some xs[k] := List.getElem?_eq_getElem hlt
    have hmem := List.getElem_mem hlt
    obtain ⟨ab, ao, rfl, -, -⟩ := HS.at (by intro h; rw [h] at hlt; simp at hlt)
    generalize xs[k] = x at hxk hmem
    repeat' (first | (refine lw_pure rfl (pv_move rfl) ?_) | (refine lw_pure rfl (pv_assign rfl) ?_) | (refine is_cw ?_; first | (refine cw_seq ?_) | (refine cw_region ?_) | (refine is_cd ?_; refine cw_true rfl (by first | assumption | exact decide_eq_true (by omega) | exact dec_notT (by omega)) ?_) | (refine cw_skip ?_) | (refine cw_block ?_)) | (refine is_qw ?_; first | (with_reducible refine qw_then ?_)) | (refine lw_nil ?_) | ((refine is_bin ?_; first | (refine lw_pure rfl (pv_lss rfl rfl) ?_))) | ((refine is_load ?_; first | (refine lw_pure rfl (pv_loada (tA rfl) rfl (by first | exact SlR.lda (HS.mono hw) hxk) (by rfl)) ?_))) | ((refine is_ia ?_; first | (refine lw_pure rfl (pv_ian (tS rfl) rfl rfl (by omega)) ?_))))
    refine lw_callv (f := F) rfl he rfl rfl (hF x hmem _ (hw.mono hbw)) ?_; rintro e w1 ⟨rfl, hb⟩; refine ⟨_, rfl, ?_⟩; replace hw := grow_trans hw hb; clear hb
    cases hp : p x with
    | true =>
      repeat' (first | (refine lw_pure rfl (pv_move rfl) ?_) | (refine lw_pure rfl (pv_assign rfl) ?_) | (refine is_cw ?_; first | (refine cw_seq ?_) | (refine cw_region ?_) | (refine cw_true rfl rfl ?_) | (refine cw_ret ?_)) | (refine is_qw ?_; first | (with_reducible refine qw_then ?_) | (with_reducible refine qw_then_ret ?_) | (with_reducible refine qw_in_ret ?_)) | (refine lw_nil ?_))
      exact qw_ret1 rfl rfl ⟨⟨_, rfl, Or.inr ⟨k, x, rfl, hxk, hp, hn⟩⟩, hw⟩
    | false =>
      repeat' (first | (refine lw_pure rfl (pv_move rfl) ?_) | (refine is_cw ?_; first | (refine cw_region ?_) | (refine cw_false rfl rfl ?_) | (refine cw_skip ?_)) | (refine is_qw ?_; first | (with_reducible refine qw_then ?_) | (with_reducible refine qw_in ?_)) | (refine lw_nil ?_) | ((refine is_bin ?_; first | (refine lw_pure rfl (pv_inc rfl rfl (by omega)) ?_))))
      refine qw_round (k + 1) (by repeat' (first | exact trivial | refine ⟨rfl, ?_⟩)) ⟨by omega, hw, ?_⟩ (by omega)
      intro y hy
      rw [List.take_add_one, hxk] at hy
      rcases List.mem_append.1 hy with hy | hy
      · exact hn y hy
      · simp at hy; subst hy; exact hp
  · have hkl : k = xs.length := by omega
    subst hkl
    rw [List.take_length] at hn
    repeat' (first | (refine lw_pure rfl (pv_assign rfl) ?_) | (refine is_cw ?_; first | (refine cw_seq ?_) | (refine cw_region ?_) | (refine is_cd ?_; refine cw_false rfl (by first | assumption | exact decide_eq_false (by omega) | exact dec_notF (by omega)) ?_) | (refine cw_exit ?_) | (refine cw_ret ?_)) | (refine is_qw ?_; first | (with_reducible refine qw_then ?_) | (with_reducible refine qw_in_hit ?_) | (with_reducible refine qw_then_exit ?_)) | (refine lw_nil ?_) | ((refine is_bin ?_; first | (refine lw_pure rfl (pv_lss rfl rfl) ?_))))
    exact qw_ret1 rfl rfl ⟨⟨_, rfl, Or.inl ⟨rfl, hn⟩⟩, hw⟩

set_option maxRecDepth 20000 in
theorem contf_D {xs : List Bid} {m : Nat} {ad : Option Addr} {cap : Nat} {w : World} (base : Nat) (p : Bid → Bool) (F : FuncId) (caps : Array Value) (he : entersB Tryz.prog F = true) (hbw : base ≤ w.heap.size) (hF : ∀ x, x ∈ xs → ∀ w', Below base w w' → Calls Tryz.prog F (#[] ++ [Value.agg (encD x).toArray].toArray ++ caps) w' fun e w'' => e = .returned (.bool (p x)) ∧ Below w'.heap.size w' w'') (hm : xs.length = m) (HS : SlR encD 2 w ad cap xs) : Calls Tryz.prog 111 #[.slice ad m cap, .func (.func F) #[] caps] w fun e w' => e = .returned (.bool (xs.any p)) ∧ Below w.heap.size w w' := by
  have hw := Below.refl w.heap.size w
  refine fn_enter 9 Tryz.func111 rfl rfl rfl ?_
  repeat' (first | (refine lw_pure rfl (pv_move rfl) ?_) | (refine lw_pure rfl (pv_assign rfl) ?_) | (refine is_cw ?_; first | (refine cw_seq ?_) | (refine cw_region ?_)) | (refine is_qw ?_; first | (with_reducible refine qw_then ?_)) | (refine lw_nil ?_))
  refine lw_call (f := 133) (by kernel_rfl) rfl rfl (indexf_D base p F caps he hbw hF hm HS) ?_; rintro e w1 ⟨⟨i, rfl, hi⟩, hb⟩; refine ⟨_, rfl, ?_⟩; replace hw := grow_trans hw hb; clear hb
  have hv : decide (i ≥ 0) = xs.any p := by
    rcases hi with ⟨rfl, h⟩ | ⟨k, r, rfl, hx, hp, -⟩
    · symm; rw [show decide ((-1 : Int) ≥ 0) = false by decide, List.any_eq_false]; intro x hx; rw [h x hx]; decide
    · symm; rw [decide_eq_true (by omega), List.any_eq_true]; exact ⟨r, List.mem_of_getElem? hx, hp⟩
  repeat' (first | (refine lw_pure rfl (pv_assign rfl) ?_) | (refine is_cw ?_; first | (refine cw_ret ?_)) | (refine is_qw ?_; first | (with_reducible refine qw_then ?_)) | (refine lw_nil ?_) | ((refine is_bin ?_; first | (refine lw_pure rfl (pv_geq rfl rfl) ?_))))
  exact qw_ret1 rfl rfl ⟨by rw [← hv], hw⟩

set_option maxRecDepth 20000 in
set_option maxHeartbeats 4000000 in
theorem bidsA_c {x : AucC} {a : Auc} {w : World} (hR : AuR w x a) : Calls Tryz.prog 99 #[.agg (encC x).toArray] w fun e w' => e = .returned (.bool (bidsB a.h.seller a.bids)) ∧ Below w.heap.size w w' := by
  have hE := Ext.refl w
  have hw := Below.refl w.heap.size w
  obtain ⟨xh, ba, bm, bc⟩ := x; obtain ⟨hh, hm, HS⟩ := hR; simp only at hh hm HS; subst hh hm
  have hla := HS.le
  have hma := HS.max
  refine fn_enter 41 Tryz.func99 rfl rfl rfl ?_
  repeat' (first | (refine is_cw ?_; first | (refine cw_seq ?_) | (refine cw_region ?_)))
  refine lw_boxN rfl rfl (cs := [.int .i64 a.h.id, .int .i64 a.h.seller, .int .i64 a.h.inst, .bool a.h.shut, .int .i64 a.h.qty, .int .i64 a.h.reserve, .int .i64 a.h.step, .int .i64 a.h.fin, .slice ba a.bids.length bc]) rfl ?_; intro N2 wn hN2 HX hb; replace hN2 := Nat.le_trans hw.size hN2; replace hw := grow_trans hw hb; clear hb
  replace hE := hE.mono hw; replace HS := HS.mono hw; clear hw; have hw := Below.refl wn.heap.size wn
  repeat' (first | (refine lw_pure rfl (pv_move rfl) ?_) | (refine lw_pure rfl (pv_assign rfl) ?_) | (refine is_cw ?_; first | (refine cw_seq ?_) | (refine cw_region ?_) | (refine cw_block ?_)) | (refine is_qw ?_; first | (with_reducible refine qw_then ?_)) | (refine lw_nil ?_) | ((refine is_load ?_; first | (refine lw_pure rfl (pv_load (t1 rfl) rfl (by first | exact PT.ld0 (HX.mono hw) rfl | exact PT.ld (HX.mono hw) rfl)) ?_))) | ((refine is_fa ?_; first | (refine lw_pure rfl (pv_fa (tF rfl) rfl) ?_))) | ((refine is_bi ?_; first | (refine lw_pure rfl (pv_lenl (tS rfl) rfl) ?_))))
  refine cw_loop (σ := Nat) (fun k => [(1, .pointer (some ⟨N2, 0, none⟩)), (7, .slice ba a.bids.length bc), (8, .int .i64 (a.bids.length : Nat)), (9, .int .i64 (k : Nat))]) (fun k wr => k ≤ a.bids.length ∧ Below wn.heap.size wn wr ∧ ∀ (j : Nat) b, j < k → a.bids[j]? = some b → bidB a.h.seller b = true ∧ ∀ (i : Nat) c, i < j → a.bids[i]? = some c → c.acct ≠ b.acct) (fun k => a.bids.length - k) 0 (by repeat' (first | exact trivial | refine ⟨rfl, ?_⟩)) ⟨Nat.zero_le _, hw, fun j x hj => by omega⟩ ?_
  clear hw
  rintro k wr ⟨hk, hw, hn⟩
  by_cases hlt : k < a.bids.length
  · have hxk : a.bids[k]? = some (a.bids[k]'(by omega)) := List.getElem?_eq_getElem _
    obtain ⟨ab, ao, rfl, -, -⟩ := HS.at (by intro h; rw [h] at hlt; simp at hlt)
    generalize a.bids[k]'(by omega) = b at hxk
    have hG := Ext.mk hw
    replace hE := hE.mono hw; replace HS := HS.mono hw; replace HX := HX.mono hw; clear hw; have hw := Below.refl wr.heap.size wr
    repeat' (first | (refine lw_pure rfl (pv_move rfl) ?_) | (refine is_cw ?_; first | (refine cw_seq ?_) | (refine cw_region ?_) | (refine is_cd ?_; refine cw_true rfl (by first | assumption | exact decide_eq_true (by omega) | exact dec_notT (by omega)) ?_) | (refine cw_skip ?_) | (refine cw_block ?_)) | (refine is_qw ?_; first | (with_reducible refine qw_then ?_)) | (refine lw_nil ?_) | ((refine is_bin ?_; first | (refine lw_pure rfl (pv_lss rfl rfl) ?_))) | ((refine is_load ?_; first | (refine lw_pure rfl (pv_loada (tA rfl) rfl (by first | exact SlR.lda (HS.mono hw) hxk) (by rfl)) ?_))) | ((refine is_ia ?_; first | (refine lw_pure rfl (pv_ian (tS rfl) rfl rfl (by omega)) ?_))))
    refine lw_allocN rfl (by first | exact tyv_29 | exact tyv_30 | exact tyv_33 | exact tyv_34 | exact tyv_36 | exact tyv_37 | exact tyv_38 | exact tyv_39 | exact tyv_40 | exact tyv_41 | exact tyv_43 | exact tyv_44 | exact tyv_45 | exact tyv_46 | exact tyv_73 | exact tyv_74 | exact tyv_80 | exact tyv_81 | exact tyv_107 | exact tyv_108 | exact tyv_123 | exact tyv_146 | exact tyv_147 | exact tyv_148 | exact tyv_149) rfl ?_; intro N4 w4 hN4 HB hb
    replace hN4 := Nat.le_trans hw.size hN4
    replace hw := grow_trans hw hb
    clear hb
    repeat' (first | (refine lw_pure rfl (pv_assign rfl) ?_))
    refine lw_storea (vs := encD b) HB (tZ rfl) rfl rfl rfl rfl (encD_one _) ?_; intro w5 HB hg hz
    replace hw := st_hw hw hg hN4
    clear hg hz
    replace hE := hE.mono hw; replace hG := hG.mono hw; replace HS := HS.mono hw; replace HX := HX.mono hw; clear hw; have hw := Below.refl w5.heap.size w5
    cases hA : (a.bids.take k).any (fun c : Bid => decide (c.acct = b.acct)) with
    | true =>
      obtain ⟨c, hcm, hce⟩ := List.any_eq_true.1 hA
      obtain ⟨i, hi⟩ := List.mem_iff_getElem?.1 hcm
      have hik : i < k := by have := (List.getElem?_eq_some_iff.1 hi).1; rw [List.length_take] at this; omega
      rw [bids_no2 (i := i) (by rw [← hi]; exact (List.getElem?_take_of_lt hik).symm) hxk hik (by simpa using hce)]
      repeat' (first | (refine lw_pure rfl (pv_move rfl) ?_) | (refine lw_pure rfl (pv_assign rfl) ?_) | (refine lw_call (f := 96) (by kernel_rfl) rfl rfl (withL_c _ _ _) ?_; rintro e w1 ⟨rfl, hb⟩; refine ⟨_, rfl, ?_⟩; replace hw := grow_trans hw hb; clear hb) | (refine lw_call (f := 97) (by kernel_rfl) rfl rfl (withI_c _ _ _) ?_; rintro e w1 ⟨rfl, hb⟩; refine ⟨_, rfl, ?_⟩; replace hw := grow_trans hw hb; clear hb) | (refine lw_call (f := 111) (by kernel_rfl) rfl rfl (contf_D _ (fun c : Bid => decide (c.acct = b.acct)) 124 #[.pointer (some ⟨N4, 0, none⟩)] (by kernel_rfl) (Nat.le_refl _) (fun c _ w' hb => bidsF_c ((HB.mono hw).mono hb)) (by rw [List.length_take, Nat.min_eq_left (by omega)]; rfl) ((HS.mono hw).head k bc (by omega) ⟨by omega, by omega⟩)) ?_; rintro e w1 ⟨rfl, hb⟩; refine ⟨_, rfl, ?_⟩; replace hw := grow_trans hw hb; clear hb; rw [hA]) | (refine is_cw ?_; first | (refine cw_seq ?_) | (refine cw_region ?_) | (refine cw_true rfl rfl ?_) | (refine cw_ret ?_)) | (refine is_qw ?_; first | (with_reducible refine qw_then ?_) | (with_reducible refine qw_then_ret ?_) | (with_reducible refine qw_in_ret ?_)) | (refine lw_nil ?_) | (refine is_guarded ?_; first | (refine lw_not rfl rfl rfl rfl ?_) | (refine lw_on rfl rfl (by first | assumption | exact decide_eq_true (by omega) | exact decide_eq_false (by omega) | exact dec_notT (by omega) | exact dec_notF (by omega)) ?_) | (refine lw_not rfl rfl rfl (by first | assumption | exact decide_eq_true (by omega) | exact decide_eq_false (by omega) | exact dec_notT (by omega) | exact dec_notF (by omega)) ?_) | (refine lw_gs_f rfl rfl rfl (fun hc => ?_) (fun hc => ?_) <;> (first | replace hc := of_decide_eq_true hc | replace hc := of_decide_eq_false hc | replace hc := dec_nT hc | replace hc := dec_nF hc | skip) <;> (try (exfalso; omega)))) | ((refine is_bin ?_; first | (refine lw_pure rfl (pv_eql rfl rfl) ?_))) | ((refine is_load ?_; first | (refine lw_pure rfl (pv_load (t1 rfl) rfl (by first | exact PT.ld0 (HX.mono hw) rfl | exact PT.ld (HX.mono hw) rfl | exact PT.ld0 (HB.mono hw) rfl | exact PT.ld (HB.mono hw) rfl)) ?_))) | ((refine is_fa ?_; first | (refine lw_pure rfl (pv_fa (tF rfl) rfl) ?_))) | ((refine is_un ?_; first | (refine lw_pure rfl (pv_not rfl) ?_))) | (refine is_pk ?_; refine lw_pure rfl (pv_pick_t rfl rfl rfl) ?_) | (refine is_pk ?_; refine lw_pure rfl (pv_pick_t rfl (by first | assumption | exact decide_eq_true (by omega) | exact dec_notT (by omega)) rfl) ?_) | (refine is_pk ?_; refine lw_pure rfl (pv_pick_f rfl (by first | assumption | exact decide_eq_false (by omega) | exact dec_notF (by omega)) rfl) ?_) | (refine lw_pure rfl (pv_makeFunc rfl rfl) ?_) | (refine is_sl ?_; refine lw_pure rfl (pv_slice_h (tS rfl) rfl rfl (by omega)) ?_))
      all_goals exact qw_ret1 rfl rfl ⟨rfl, (hE.mono hw).b⟩
    | false =>
      cases hbb : bidB a.h.seller b with
      | false =>
        rw [bids_no1 hxk hbb]
        have hbb : ¬ ((1 ≤ b.acct ∧ b.acct ≤ 64) ∧ b.acct ≠ a.h.seller ∧ (1 ≤ b.amt ∧ b.amt ≤ 1125899906842624)) := fun h => by rw [bidB_iff.2 h] at hbb; cases hbb
        repeat' (first | (refine lw_pure rfl (pv_move rfl) ?_) | (refine lw_pure rfl (pv_assign rfl) ?_) | (refine lw_call (f := 96) (by kernel_rfl) rfl rfl (withL_c _ _ _) ?_; rintro e w1 ⟨rfl, hb⟩; refine ⟨_, rfl, ?_⟩; replace hw := grow_trans hw hb; clear hb) | (refine lw_call (f := 97) (by kernel_rfl) rfl rfl (withI_c _ _ _) ?_; rintro e w1 ⟨rfl, hb⟩; refine ⟨_, rfl, ?_⟩; replace hw := grow_trans hw hb; clear hb) | (refine is_cw ?_; first | (refine cw_seq ?_) | (refine cw_region ?_) | (refine cw_true rfl rfl ?_) | (refine cw_ret ?_)) | (refine is_qw ?_; first | (with_reducible refine qw_then ?_) | (with_reducible refine qw_then_ret ?_) | (with_reducible refine qw_in_ret ?_)) | (refine lw_nil ?_) | (refine is_guarded ?_; first | (refine lw_not rfl rfl rfl rfl ?_) | (refine lw_on rfl rfl (by first | assumption | exact decide_eq_true (by omega) | exact decide_eq_false (by omega) | exact dec_notT (by omega) | exact dec_notF (by omega)) ?_) | (refine lw_not rfl rfl rfl (by first | assumption | exact decide_eq_true (by omega) | exact decide_eq_false (by omega) | exact dec_notT (by omega) | exact dec_notF (by omega)) ?_) | (refine lw_gs_f rfl rfl rfl (fun hc => ?_) (fun hc => ?_) <;> (first | replace hc := of_decide_eq_true hc | replace hc := of_decide_eq_false hc | replace hc := dec_nT hc | replace hc := dec_nF hc | skip) <;> (try (exfalso; omega)))) | ((refine is_bin ?_; first | (refine lw_pure rfl (pv_eql rfl rfl) ?_))) | ((refine is_load ?_; first | (refine lw_pure rfl (pv_load (t1 rfl) rfl (by first | exact PT.ld0 (HX.mono hw) rfl | exact PT.ld (HX.mono hw) rfl | exact PT.ld0 (HB.mono hw) rfl | exact PT.ld (HB.mono hw) rfl)) ?_))) | ((refine is_fa ?_; first | (refine lw_pure rfl (pv_fa (tF rfl) rfl) ?_))) | ((refine is_un ?_; first | (refine lw_pure rfl (pv_not rfl) ?_))) | (refine is_pk ?_; refine lw_pure rfl (pv_pick_t rfl rfl rfl) ?_) | (refine is_pk ?_; refine lw_pure rfl (pv_pick_t rfl (by first | assumption | exact decide_eq_true (by omega) | exact dec_notT (by omega)) rfl) ?_) | (refine is_pk ?_; refine lw_pure rfl (pv_pick_f rfl (by first | assumption | exact decide_eq_false (by omega) | exact dec_notF (by omega)) rfl) ?_) | (refine lw_pure rfl (pv_makeFunc rfl rfl) ?_))
        all_goals exact qw_ret1 rfl rfl ⟨rfl, (hE.mono hw).b⟩
      | true =>
        have hbc := bidB_iff.1 hbb
        repeat' (first | (refine lw_pure rfl (pv_move rfl) ?_) | (refine lw_pure rfl (pv_assign rfl) ?_) | (refine lw_call (f := 96) (by kernel_rfl) rfl rfl (withL_c _ _ _) ?_; rintro e w1 ⟨rfl, hb⟩; refine ⟨_, rfl, ?_⟩; replace hw := grow_trans hw hb; clear hb) | (refine lw_call (f := 97) (by kernel_rfl) rfl rfl (withI_c _ _ _) ?_; rintro e w1 ⟨rfl, hb⟩; refine ⟨_, rfl, ?_⟩; replace hw := grow_trans hw hb; clear hb) | (refine lw_call (f := 111) (by kernel_rfl) rfl rfl (contf_D _ (fun c : Bid => decide (c.acct = b.acct)) 124 #[.pointer (some ⟨N4, 0, none⟩)] (by kernel_rfl) (Nat.le_refl _) (fun c _ w' hb => bidsF_c ((HB.mono hw).mono hb)) (by rw [List.length_take, Nat.min_eq_left (by omega)]; rfl) ((HS.mono hw).head k bc (by omega) ⟨by omega, by omega⟩)) ?_; rintro e w1 ⟨rfl, hb⟩; refine ⟨_, rfl, ?_⟩; replace hw := grow_trans hw hb; clear hb; rw [hA]) | (refine is_cw ?_; first | (refine cw_seq ?_) | (refine cw_region ?_) | (refine cw_false rfl rfl ?_) | (refine cw_skip ?_)) | (refine is_qw ?_; first | (with_reducible refine qw_then ?_) | (with_reducible refine qw_in ?_)) | (refine lw_nil ?_) | (refine is_guarded ?_; first | (refine lw_on rfl rfl (by first | assumption | exact decide_eq_true (by omega) | exact decide_eq_false (by omega) | exact dec_notT (by omega) | exact dec_notF (by omega)) ?_)) | ((refine is_bin ?_; first | (refine lw_pure rfl (pv_eql rfl rfl) ?_) | (refine lw_pure rfl (pv_inc rfl rfl (by omega)) ?_))) | ((refine is_load ?_; first | (refine lw_pure rfl (pv_load (t1 rfl) rfl (by first | exact PT.ld0 (HX.mono hw) rfl | exact PT.ld (HX.mono hw) rfl | exact PT.ld0 (HB.mono hw) rfl | exact PT.ld (HB.mono hw) rfl)) ?_))) | ((refine is_fa ?_; first | (refine lw_pure rfl (pv_fa (tF rfl) rfl) ?_))) | ((refine is_un ?_; first | (refine lw_pure rfl (pv_not rfl) ?_))) | (refine is_pk ?_; refine lw_pure rfl (pv_pick_f rfl (by first | assumption | exact decide_eq_false (by omega) | exact dec_notF (by omega)) rfl) ?_) | (refine lw_pure rfl (pv_makeFunc rfl rfl) ?_) | (refine is_sl ?_; refine lw_pure rfl (pv_slice_h (tS rfl) rfl rfl (by omega)) ?_))
        refine qw_round (k + 1) (by repeat' (first | exact trivial | refine ⟨rfl, ?_⟩)) ⟨by omega, (hG.mono hw).b, fun j u hj hu => ?_⟩ (by omega)
        by_cases hjk : j = k
        · subst hjk; rw [hxk] at hu; injection hu with hu; subst hu
          refine ⟨hbb, fun i c hi hc he => ?_⟩
          have := List.any_eq_false.1 hA c (List.mem_of_getElem? (i := i) (by rw [List.getElem?_take_of_lt hi]; exact hc))
          exact this (by simpa using he)
        · exact hn j u (by omega) hu
  · have hkl : k = a.bids.length := by omega
    subst hkl
    rw [bids_yes fun j b hb => hn j b (List.getElem?_eq_some_iff.1 hb).1 hb]
    repeat' (first | (refine lw_pure rfl (pv_assign rfl) ?_) | (refine is_cw ?_; first | (refine cw_seq ?_) | (refine cw_region ?_) | (refine is_cd ?_; refine cw_false rfl (by first | assumption | exact decide_eq_false (by omega) | exact dec_notF (by omega)) ?_) | (refine cw_exit ?_) | (refine cw_ret ?_)) | (refine is_qw ?_; first | (with_reducible refine qw_then ?_) | (with_reducible refine qw_in_hit ?_) | (with_reducible refine qw_then_exit ?_)) | (refine lw_nil ?_) | ((refine is_bin ?_; first | (refine lw_pure rfl (pv_lss rfl rfl) ?_))))
    exact qw_ret1 rfl rfl ⟨rfl, (hE.mono hw).b⟩
set_option maxRecDepth 20000 in
theorem of_c {x : AucC} {a : Auc} {w : World} (hR : AuR w x a) : Calls Tryz.prog 98 #[.agg (encC x).toArray] w fun e w' => e = .returned (.iface (if a.h.shut then 156 else 157) (.agg #[])) ∧ Below w.heap.size w w' := by
  have hE := Ext.refl w
  have hw := Below.refl w.heap.size w
  obtain ⟨xh, ba, bm, bc⟩ := x; obtain ⟨hh, hm, HS⟩ := hR; simp only at hh hm HS; subst hh hm
  refine fn_enter 9 Tryz.func98 rfl rfl rfl ?_
  repeat' (first | (refine is_cw ?_; first | (refine cw_seq ?_) | (refine cw_region ?_)))
  refine lw_boxN rfl rfl (cs := [.int .i64 a.h.id, .int .i64 a.h.seller, .int .i64 a.h.inst, .bool a.h.shut, .int .i64 a.h.qty, .int .i64 a.h.reserve, .int .i64 a.h.step, .int .i64 a.h.fin, .slice ba a.bids.length bc]) rfl ?_; intro N2 wn hN2 HX hb; replace hN2 := Nat.le_trans hw.size hN2; replace hw := grow_trans hw hb; clear hb
  replace hE := hE.mono hw; clear hw; have hw := Below.refl wn.heap.size wn
  cases hs : a.h.shut with
  | true =>
    rw [hs] at HX
    repeat' (first | (refine lw_pure rfl (pv_assign rfl) ?_) | (refine lw_pure rfl (pv_built (ps := []) (is := []) (vs := []) (cells := []) rfl rfl (by kernel_rfl)) ?_) | (refine lw_pure rfl (pv_iface (by kernel_rfl) rfl) ?_) | (refine is_cw ?_; first | (refine cw_seq ?_) | (refine cw_region ?_) | (refine cw_true rfl rfl ?_) | (refine cw_ret ?_)) | (refine is_qw ?_; first | (with_reducible refine qw_then ?_) | (with_reducible refine qw_then_ret ?_)) | (refine lw_nil ?_) | ((refine is_load ?_; first | (refine lw_pure rfl (pv_load (t1 rfl) rfl (by first | exact PT.ld0 (HX.mono hw) rfl | exact PT.ld (HX.mono hw) rfl)) ?_))) | ((refine is_fa ?_; first | (refine lw_pure rfl (pv_fa (tF rfl) rfl) ?_))))
    exact qw_ret1 rfl rfl ⟨rfl, (hE.mono hw).b⟩
  | false =>
    rw [hs] at HX
    repeat' (first | (refine lw_pure rfl (pv_assign rfl) ?_) | (refine lw_pure rfl (pv_built (ps := []) (is := []) (vs := []) (cells := []) rfl rfl (by kernel_rfl)) ?_) | (refine lw_pure rfl (pv_iface (by kernel_rfl) rfl) ?_) | (refine is_cw ?_; first | (refine cw_seq ?_) | (refine cw_region ?_) | (refine cw_false rfl rfl ?_) | (refine cw_skip ?_) | (refine cw_ret ?_)) | (refine is_qw ?_; first | (with_reducible refine qw_then ?_)) | (refine lw_nil ?_) | ((refine is_load ?_; first | (refine lw_pure rfl (pv_load (t1 rfl) rfl (by first | exact PT.ld0 (HX.mono hw) rfl | exact PT.ld (HX.mono hw) rfl)) ?_))) | ((refine is_fa ?_; first | (refine lw_pure rfl (pv_fa (tF rfl) rfl) ?_))))
    exact qw_ret1 rfl rfl ⟨rfl, (hE.mono hw).b⟩
theorem mann_s {a : Auc} (h : a.h.shut = true) : mannB a = decide (a.h.step = 0 ∧ a.bids.length ≤ 16) := by unfold mannB; rw [if_pos h, Bool.eq_iff_iff]; simp
theorem mann_e {a : Auc} (h : a.h.shut = false) : mannB a = decide ((1 ≤ a.h.step ∧ a.h.step ≤ 1125899906842624) ∧ a.bids.length ≤ 1 ∧ ∀ b ∈ a.bids, a.h.reserve ≤ b.amt) := by
  unfold mannB; rw [if_neg (by rw [h]; decide), Bool.eq_iff_iff]; simp [btw, and_assoc]
set_option maxRecDepth 20000 in
theorem smay_c {x : AucC} {a : Auc} {w : World} (hR : AuR w x a) (h : a.h.shut = true) : Calls Tryz.prog 192 #[.agg #[], .agg (encC x).toArray] w fun e w' => e = .returned (.bool (mannB a)) ∧ Below w.heap.size w w' := by
  have hE := Ext.refl w
  have hw := Below.refl w.heap.size w
  rw [mann_s h]
  obtain ⟨xh, ba, bm, bc⟩ := x; obtain ⟨hh, hm, HS⟩ := hR; simp only at hh hm HS; subst hh hm
  have hla := HS.le
  have hma := HS.max
  refine fn_enter 14 Tryz.func192 rfl rfl rfl ?_
  repeat' (first | (refine is_cw ?_; first | (refine cw_seq ?_) | (refine cw_region ?_)))
  refine lw_boxN rfl rfl (cs := []) rfl ?_; intro N1 wn hN1 HZ hb; replace hN1 := Nat.le_trans hw.size hN1; replace hw := grow_trans hw hb; clear hb
  skip
  refine lw_boxN rfl rfl (cs := [.int .i64 a.h.id, .int .i64 a.h.seller, .int .i64 a.h.inst, .bool a.h.shut, .int .i64 a.h.qty, .int .i64 a.h.reserve, .int .i64 a.h.step, .int .i64 a.h.fin, .slice ba a.bids.length bc]) rfl ?_; intro N2 wn hN2 HX hb; replace hN2 := Nat.le_trans hw.size hN2; replace hw := grow_trans hw hb; clear hb
  replace hE := hE.mono hw; clear hw; have hw := Below.refl wn.heap.size wn
  repeat' (first | (refine lw_pure rfl (pv_move rfl) ?_) | (refine lw_pure rfl (pv_assign rfl) ?_) | (refine is_cw ?_; first | (refine cw_seq ?_) | (refine cw_region ?_) | (refine cw_ret ?_)) | (refine is_qw ?_; first | (with_reducible refine qw_then ?_)) | (refine lw_nil ?_) | (refine is_guarded ?_; first | (refine lw_on rfl rfl (by first | assumption | exact decide_eq_true (by omega) | exact decide_eq_false (by omega) | exact dec_notT (by omega) | exact dec_notF (by omega)) ?_) | (refine lw_not rfl rfl rfl (by first | assumption | exact decide_eq_true (by omega) | exact decide_eq_false (by omega) | exact dec_notT (by omega) | exact dec_notF (by omega)) ?_) | (refine lw_gs_t rfl rfl rfl (fun hc => ?_) (fun hc => ?_) <;> (first | replace hc := of_decide_eq_true hc | replace hc := of_decide_eq_false hc | replace hc := dec_nT hc | replace hc := dec_nF hc | skip) <;> (try (exfalso; omega)))) | ((refine is_bin ?_; first | (refine lw_pure rfl (pv_eql rfl rfl) ?_) | (refine lw_pure rfl (pv_leq rfl rfl) ?_))) | ((refine is_load ?_; first | (refine lw_pure rfl (pv_load (t1 rfl) rfl (by first | exact PT.ld0 (HX.mono hw) rfl | exact PT.ld (HX.mono hw) rfl)) ?_))) | ((refine is_fa ?_; first | (refine lw_pure rfl (pv_fa (tF rfl) rfl) ?_))) | ((refine is_bi ?_; first | (refine lw_pure rfl (pv_lenl (tS rfl) rfl) ?_))) | (refine is_pk ?_; refine lw_pure rfl (pv_pick_t rfl (by first | assumption | exact decide_eq_true (by omega) | exact dec_notT (by omega)) rfl) ?_) | (refine is_pk ?_; refine lw_pure rfl (pv_pick_f rfl (by first | assumption | exact decide_eq_false (by omega) | exact dec_notF (by omega)) rfl) ?_))
  all_goals (refine qw_ret1 rfl rfl ⟨ret_bool ?_, (hE.mono hw).b⟩; first | rfl | (rw [decide_eq_decide]; omega) | (symm; rw [decide_eq_true_eq]; omega) | (symm; rw [decide_eq_false_iff_not]; omega))
set_option maxRecDepth 20000 in
set_option maxHeartbeats 2000000 in
theorem emay_c {x : AucC} {a : Auc} {w : World} (hR : AuR w x a) (h : a.h.shut = false) : Calls Tryz.prog 196 #[.agg #[], .agg (encC x).toArray] w fun e w' => e = .returned (.bool (mannB a)) ∧ Below w.heap.size w w' := by
  have hE := Ext.refl w
  have hw := Below.refl w.heap.size w
  rw [mann_e h]
  have hd : decide ((1 ≤ a.h.step ∧ a.h.step ≤ 1125899906842624) ∧ a.bids.length ≤ 1 ∧ ∀ b ∈ a.bids, a.h.reserve ≤ b.amt) = (decide (1 ≤ a.h.step ∧ a.h.step ≤ 1125899906842624) && (decide (a.bids.length ≤ 1) && a.bids.all fun b => decide (a.h.reserve ≤ b.amt))) := by rw [Bool.eq_iff_iff]; simp
  rw [hd]
  obtain ⟨xh, ba, bm, bc⟩ := x; obtain ⟨hh, hm, HS⟩ := hR; simp only at hh hm HS; subst hh hm
  have hla := HS.le
  have hma := HS.max
  refine fn_enter 30 Tryz.func196 rfl rfl rfl ?_
  repeat' (first | (refine is_cw ?_; first | (refine cw_seq ?_) | (refine cw_region ?_)))
  refine lw_boxN rfl rfl (cs := []) rfl ?_; intro N1 wn hN1 HZ hb; replace hN1 := Nat.le_trans hw.size hN1; replace hw := grow_trans hw hb; clear hb
  skip
  refine lw_boxN rfl rfl (cs := [.int .i64 a.h.id, .int .i64 a.h.seller, .int .i64 a.h.inst, .bool a.h.shut, .int .i64 a.h.qty, .int .i64 a.h.reserve, .int .i64 a.h.step, .int .i64 a.h.fin, .slice ba a.bids.length bc]) rfl ?_; intro N2 wn hN2 HX hb; replace hN2 := Nat.le_trans hw.size hN2; replace hw := grow_trans hw hb; clear hb
  replace hE := hE.mono hw; replace HS := HS.mono hw; clear hw; have hw := Below.refl wn.heap.size wn
  by_cases hst : 1 ≤ a.h.step ∧ a.h.step ≤ 1125899906842624
  · by_cases hl0 : a.bids.length = 0
    · have hb : a.bids = [] := List.length_eq_zero_iff.1 hl0
      have hD : (decide (1 ≤ a.h.step ∧ a.h.step ≤ 1125899906842624) && (decide (a.bids.length ≤ 1) && a.bids.all fun b => decide (a.h.reserve ≤ b.amt))) = true := by simp [hst, hb]
      rw [hD]
      repeat' (first | (refine lw_pure rfl (pv_assign rfl) ?_) | (refine is_cw ?_; first | (refine cw_seq ?_)) | (refine is_qw ?_; first | (with_reducible refine qw_then ?_)) | (refine lw_nil ?_))
      refine cw_drawn (fun w' => Below wn.heap.size wn w') (by kernel_rfl) (by repeat (first | exact NoPanic.body | with_reducible refine NoPanic.then ?_ | with_reducible refine NoPanic.inBlock ?_)) (fun hNP => ?_)
      have hS := hw.drew
      all_goals (refine at0 0 rfl (fun w' hq => pv_fa (tF rfl) rfl) ?_)
      all_goals (refine at0 1 rfl (fun w' hq => pv_load (t1 rfl) rfl (by first | exact PT.ld0 (HX.mono hq) rfl | exact PT.ld (HX.mono hq) rfl)) ?_)
      all_goals (refine aw_act 2 (by kernel_rfl) rfl rfl rfl ?_; refine act_call (f := 96) (by kernel_rfl) rfl (withL_c _ _ _) ?_; rintro e w1 ⟨rfl, hb⟩; refine ⟨_, rfl, grow_trans hS hb, fun hS => ?_⟩)
      all_goals (refine at0 3 rfl (fun w' hq => pv_move rfl) ?_)
      all_goals (refine at2 4 rfl rfl rfl (fun w' hq => pv_fa (tF rfl) rfl) ?_)
      all_goals (refine at2 5 rfl rfl rfl (fun w' hq => pv_load (t1 rfl) rfl (by first | exact PT.ld0 (HX.mono hq) rfl | exact PT.ld (HX.mono hq) rfl)) ?_)
      all_goals (refine at2 6 rfl rfl rfl (fun w' hq => pv_lenl (tS rfl) rfl) ?_)
      all_goals (refine at2 7 rfl rfl rfl (fun w' hq => pv_leq rfl rfl) ?_)
      all_goals (refine at0 8 rfl (fun w' hq => pv_pick_t rfl (by first | assumption | exact decide_eq_true (by omega) | exact dec_notT (by omega)) rfl) ?_)
      all_goals (refine at0 9 rfl (fun w' hq => pv_move rfl) ?_)
      all_goals (refine at2 10 rfl rfl rfl (fun w' hq => pv_fa (tF rfl) rfl) ?_)
      all_goals (refine at2 11 rfl rfl rfl (fun w' hq => pv_load (t1 rfl) rfl (by first | exact PT.ld0 (HX.mono hq) rfl | exact PT.ld (HX.mono hq) rfl)) ?_)
      all_goals (refine at2 12 rfl rfl rfl (fun w' hq => pv_lenl (tS rfl) rfl) ?_)
      all_goals (refine at2 13 rfl rfl rfl (fun w' hq => pv_eql rfl rfl) ?_)
      all_goals (refine at2 14 rfl rfl rfl (fun w' hq => pv_move rfl) ?_)
      all_goals (refine an2 15 rfl rfl rfl ?_)
      all_goals (refine an2 16 rfl rfl rfl ?_)
      all_goals (refine an2 17 rfl rfl rfl ?_)
      all_goals (refine an2 18 rfl rfl rfl ?_)
      all_goals (refine an2 19 rfl rfl rfl ?_)
      all_goals (refine an2 20 rfl rfl rfl ?_)
      all_goals (refine an2 21 rfl rfl rfl ?_)
      all_goals (refine an2 22 rfl rfl rfl ?_)
      all_goals (refine at2 23 rfl rfl rfl (fun w' hq => pv_pick_t rfl (by first | assumption | exact decide_eq_true (by omega) | exact dec_notT (by omega)) rfl) ?_)
      all_goals (refine at0 24 rfl (fun w' hq => pv_pick_t rfl (by first | assumption | exact decide_eq_true (by omega) | exact dec_notT (by omega)) rfl) ?_)
      all_goals (refine at0 25 rfl (fun w' hq => pv_assign rfl) ?_)
      all_goals (refine aw_done (by kernel_rfl) ?_; replace hw := hS; clear hS hNP)
      repeat' (first | (refine is_cw ?_; first | (refine cw_ret ?_)) | (refine is_qw ?_; first | (with_reducible refine qw_then ?_)))
      refine qw_ret1 rfl rfl ⟨ret_bool ?_, (hE.mono hw).b⟩; first | rfl | (rw [decide_eq_decide]; omega) | (symm; rw [decide_eq_true_eq]; omega) | (symm; rw [decide_eq_false_iff_not]; omega)
    · by_cases hl1 : a.bids.length = 1
      · obtain ⟨b, hb⟩ := List.length_eq_one_iff.1 hl1
        have hx0 : a.bids[0]? = some b := by rw [hb]; rfl
        have hD : (decide (1 ≤ a.h.step ∧ a.h.step ≤ 1125899906842624) && (decide (a.bids.length ≤ 1) && a.bids.all fun b => decide (a.h.reserve ≤ b.amt))) = decide (a.h.reserve ≤ b.amt) := by simp [hst, hb]
        rw [hD]
        clear hb
        obtain ⟨ab, ao, rfl, -, -⟩ := HS.at (by intro h; rw [h] at hl1; simp at hl1)
        repeat' (first | (refine lw_pure rfl (pv_assign rfl) ?_) | (refine is_cw ?_; first | (refine cw_seq ?_)) | (refine is_qw ?_; first | (with_reducible refine qw_then ?_)) | (refine lw_nil ?_))
        refine cw_drawn (fun w' => Below wn.heap.size wn w') (by kernel_rfl) (by repeat (first | exact NoPanic.body | with_reducible refine NoPanic.then ?_ | with_reducible refine NoPanic.inBlock ?_)) (fun hNP => ?_)
        have hS := hw.drew
        all_goals (refine at0 0 rfl (fun w' hq => pv_fa (tF rfl) rfl) ?_)
        all_goals (refine at0 1 rfl (fun w' hq => pv_load (t1 rfl) rfl (by first | exact PT.ld0 (HX.mono hq) rfl | exact PT.ld (HX.mono hq) rfl | exact SlR.ld (HS.mono hq) hx0 rfl | exact SlR.ld1 (HS.mono hq) hx0 rfl)) ?_)
        all_goals (refine aw_act 2 (by kernel_rfl) rfl rfl rfl ?_; refine act_call (f := 96) (by kernel_rfl) rfl (withL_c _ _ _) ?_; rintro e w1 ⟨rfl, hb⟩; refine ⟨_, rfl, grow_trans hS hb, fun hS => ?_⟩)
        all_goals (refine at0 3 rfl (fun w' hq => pv_move rfl) ?_)
        all_goals (refine at2 4 rfl rfl rfl (fun w' hq => pv_fa (tF rfl) rfl) ?_)
        all_goals (refine at2 5 rfl rfl rfl (fun w' hq => pv_load (t1 rfl) rfl (by first | exact PT.ld0 (HX.mono hq) rfl | exact PT.ld (HX.mono hq) rfl | exact SlR.ld (HS.mono hq) hx0 rfl | exact SlR.ld1 (HS.mono hq) hx0 rfl)) ?_)
        all_goals (refine at2 6 rfl rfl rfl (fun w' hq => pv_lenl (tS rfl) rfl) ?_)
        all_goals (refine at2 7 rfl rfl rfl (fun w' hq => pv_leq rfl rfl) ?_)
        all_goals (refine at0 8 rfl (fun w' hq => pv_pick_t rfl (by first | assumption | exact decide_eq_true (by omega) | exact dec_notT (by omega)) rfl) ?_)
        all_goals (refine at0 9 rfl (fun w' hq => pv_move rfl) ?_)
        all_goals (refine at2 10 rfl rfl rfl (fun w' hq => pv_fa (tF rfl) rfl) ?_)
        all_goals (refine at2 11 rfl rfl rfl (fun w' hq => pv_load (t1 rfl) rfl (by first | exact PT.ld0 (HX.mono hq) rfl | exact PT.ld (HX.mono hq) rfl | exact SlR.ld (HS.mono hq) hx0 rfl | exact SlR.ld1 (HS.mono hq) hx0 rfl)) ?_)
        all_goals (refine at2 12 rfl rfl rfl (fun w' hq => pv_lenl (tS rfl) rfl) ?_)
        all_goals (refine at2 13 rfl rfl rfl (fun w' hq => pv_eql rfl rfl) ?_)
        all_goals (refine at2 14 rfl rfl rfl (fun w' hq => pv_move rfl) ?_)
        all_goals (refine at2 15 rfl rfl rfl (fun w' hq => pv_fa (tF rfl) rfl) ?_)
        all_goals (refine at2 16 rfl rfl rfl (fun w' hq => pv_load (t1 rfl) rfl (by first | exact PT.ld0 (HX.mono hq) rfl | exact PT.ld (HX.mono hq) rfl | exact SlR.ld (HS.mono hq) hx0 rfl | exact SlR.ld1 (HS.mono hq) hx0 rfl)) ?_)
        all_goals (refine at2 17 rfl rfl rfl (fun w' hq => pv_ia (tS rfl) rfl rfl (by omega)) ?_)
        all_goals (refine at2 18 rfl rfl rfl (fun w' hq => pv_fa (tF rfl) rfl) ?_)
        all_goals (refine at2 19 rfl rfl rfl (fun w' hq => pv_load (t1 rfl) rfl (by first | exact PT.ld0 (HX.mono hq) rfl | exact PT.ld (HX.mono hq) rfl | exact SlR.ld (HS.mono hq) hx0 rfl | exact SlR.ld1 (HS.mono hq) hx0 rfl)) ?_)
        all_goals (refine at2 20 rfl rfl rfl (fun w' hq => pv_fa (tF rfl) rfl) ?_)
        all_goals (refine at2 21 rfl rfl rfl (fun w' hq => pv_load (t1 rfl) rfl (by first | exact PT.ld0 (HX.mono hq) rfl | exact PT.ld (HX.mono hq) rfl | exact SlR.ld (HS.mono hq) hx0 rfl | exact SlR.ld1 (HS.mono hq) hx0 rfl)) ?_)
        all_goals (refine at2 22 rfl rfl rfl (fun w' hq => pv_geq rfl rfl) ?_)
        all_goals (refine at2 23 rfl rfl rfl (fun w' hq => pv_pick_f rfl (by first | assumption | exact decide_eq_false (by omega) | exact dec_notF (by omega)) rfl) ?_)
        all_goals (refine at0 24 rfl (fun w' hq => pv_pick_t rfl (by first | assumption | exact decide_eq_true (by omega) | exact dec_notT (by omega)) rfl) ?_)
        all_goals (refine at0 25 rfl (fun w' hq => pv_assign rfl) ?_)
        all_goals (refine aw_done (by kernel_rfl) ?_; replace hw := hS; clear hS hNP)
        repeat' (first | (refine is_cw ?_; first | (refine cw_ret ?_)) | (refine is_qw ?_; first | (with_reducible refine qw_then ?_)))
        refine qw_ret1 rfl rfl ⟨ret_bool ?_, (hE.mono hw).b⟩; first | rfl | (rw [decide_eq_decide]; omega) | (symm; rw [decide_eq_true_eq]; omega) | (symm; rw [decide_eq_false_iff_not]; omega)
      · have hD : (decide (1 ≤ a.h.step ∧ a.h.step ≤ 1125899906842624) && (decide (a.bids.length ≤ 1) && a.bids.all fun b => decide (a.h.reserve ≤ b.amt))) = false := by rw [decide_eq_false (p := a.bids.length ≤ 1) (by omega)]; simp
        rw [hD]
        repeat' (first | (refine lw_pure rfl (pv_assign rfl) ?_) | (refine is_cw ?_; first | (refine cw_seq ?_)) | (refine is_qw ?_; first | (with_reducible refine qw_then ?_)) | (refine lw_nil ?_))
        refine cw_drawn (fun w' => Below wn.heap.size wn w') (by kernel_rfl) (by repeat (first | exact NoPanic.body | with_reducible refine NoPanic.then ?_ | with_reducible refine NoPanic.inBlock ?_)) (fun hNP => ?_)
        have hS := hw.drew
        all_goals (refine at0 0 rfl (fun w' hq => pv_fa (tF rfl) rfl) ?_)
        all_goals (refine at0 1 rfl (fun w' hq => pv_load (t1 rfl) rfl (by first | exact PT.ld0 (HX.mono hq) rfl | exact PT.ld (HX.mono hq) rfl)) ?_)
        all_goals (refine aw_act 2 (by kernel_rfl) rfl rfl rfl ?_; refine act_call (f := 96) (by kernel_rfl) rfl (withL_c _ _ _) ?_; rintro e w1 ⟨rfl, hb⟩; refine ⟨_, rfl, grow_trans hS hb, fun hS => ?_⟩)
        all_goals (refine at0 3 rfl (fun w' hq => pv_move rfl) ?_)
        all_goals (refine at2 4 rfl rfl rfl (fun w' hq => pv_fa (tF rfl) rfl) ?_)
        all_goals (refine at2 5 rfl rfl rfl (fun w' hq => pv_load (t1 rfl) rfl (by first | exact PT.ld0 (HX.mono hq) rfl | exact PT.ld (HX.mono hq) rfl)) ?_)
        all_goals (refine at2 6 rfl rfl rfl (fun w' hq => pv_lenl (tS rfl) rfl) ?_)
        all_goals (refine at2 7 rfl rfl rfl (fun w' hq => pv_leq rfl rfl) ?_)
        all_goals (refine at0 8 rfl (fun w' hq => pv_pick_t rfl (by first | assumption | exact decide_eq_true (by omega) | exact dec_notT (by omega)) rfl) ?_)
        all_goals (refine at0 9 rfl (fun w' hq => pv_move rfl) ?_)
        all_goals (refine an2 10 rfl rfl rfl ?_)
        all_goals (refine an2 11 rfl rfl rfl ?_)
        all_goals (refine an2 12 rfl rfl rfl ?_)
        all_goals (refine an2 13 rfl rfl rfl ?_)
        all_goals (refine an2 14 rfl rfl rfl ?_)
        all_goals (refine an0 15 rfl rfl rfl ?_)
        all_goals (refine an0 16 rfl rfl rfl ?_)
        all_goals (refine an0 17 rfl rfl rfl ?_)
        all_goals (refine an0 18 rfl rfl rfl ?_)
        all_goals (refine an0 19 rfl rfl rfl ?_)
        all_goals (refine an0 20 rfl rfl rfl ?_)
        all_goals (refine an0 21 rfl rfl rfl ?_)
        all_goals (refine an0 22 rfl rfl rfl ?_)
        all_goals (refine an2 23 rfl rfl rfl ?_)
        all_goals (refine at0 24 rfl (fun w' hq => pv_pick_f rfl (by first | assumption | exact decide_eq_false (by omega) | exact dec_notF (by omega)) rfl) ?_)
        all_goals (refine at0 25 rfl (fun w' hq => pv_assign rfl) ?_)
        all_goals (refine aw_done (by kernel_rfl) ?_; replace hw := hS; clear hS hNP)
        repeat' (first | (refine is_cw ?_; first | (refine cw_ret ?_)) | (refine is_qw ?_; first | (with_reducible refine qw_then ?_)))
        refine qw_ret1 rfl rfl ⟨ret_bool ?_, (hE.mono hw).b⟩; first | rfl | (rw [decide_eq_decide]; omega) | (symm; rw [decide_eq_true_eq]; omega) | (symm; rw [decide_eq_false_iff_not]; omega)
  · rw [decide_eq_false hst, Bool.false_and]
    repeat' (first | (refine lw_pure rfl (pv_assign rfl) ?_) | (refine is_cw ?_; first | (refine cw_seq ?_)) | (refine is_qw ?_; first | (with_reducible refine qw_then ?_)) | (refine lw_nil ?_))
    refine cw_drawn (fun w' => Below wn.heap.size wn w') (by kernel_rfl) (by repeat (first | exact NoPanic.body | with_reducible refine NoPanic.then ?_ | with_reducible refine NoPanic.inBlock ?_)) (fun hNP => ?_)
    have hS := hw.drew
    all_goals (refine at0 0 rfl (fun w' hq => pv_fa (tF rfl) rfl) ?_)
    all_goals (refine at0 1 rfl (fun w' hq => pv_load (t1 rfl) rfl (by first | exact PT.ld0 (HX.mono hq) rfl | exact PT.ld (HX.mono hq) rfl)) ?_)
    all_goals (refine aw_act 2 (by kernel_rfl) rfl rfl rfl ?_; refine act_call (f := 96) (by kernel_rfl) rfl (withL_c _ _ _) ?_; rintro e w1 ⟨rfl, hb⟩; refine ⟨_, rfl, grow_trans hS hb, fun hS => ?_⟩)
    all_goals (refine at0 3 rfl (fun w' hq => pv_move rfl) ?_)
    all_goals (refine an2 4 rfl rfl rfl ?_)
    all_goals (refine an2 5 rfl rfl rfl ?_)
    all_goals (refine an2 6 rfl rfl rfl ?_)
    all_goals (refine an2 7 rfl rfl rfl ?_)
    all_goals (refine at0 8 rfl (fun w' hq => pv_pick_f rfl (by first | assumption | exact decide_eq_false (by omega) | exact dec_notF (by omega)) rfl) ?_)
    all_goals (refine at0 9 rfl (fun w' hq => pv_move rfl) ?_)
    all_goals (refine an1 10 rfl rfl rfl rfl ?_)
    all_goals (refine an1 11 rfl rfl rfl rfl ?_)
    all_goals (refine an1 12 rfl rfl rfl rfl ?_)
    all_goals (refine an1 13 rfl rfl rfl rfl ?_)
    all_goals (refine an1 14 rfl rfl rfl rfl ?_)
    all_goals (refine an0 15 rfl rfl rfl ?_)
    all_goals (refine an0 16 rfl rfl rfl ?_)
    all_goals (refine an0 17 rfl rfl rfl ?_)
    all_goals (refine an0 18 rfl rfl rfl ?_)
    all_goals (refine an0 19 rfl rfl rfl ?_)
    all_goals (refine an0 20 rfl rfl rfl ?_)
    all_goals (refine an0 21 rfl rfl rfl ?_)
    all_goals (refine an0 22 rfl rfl rfl ?_)
    all_goals (refine an1 23 rfl rfl rfl rfl ?_)
    all_goals (refine at0 24 rfl (fun w' hq => pv_pick_f rfl rfl rfl) ?_)
    all_goals (refine at0 25 rfl (fun w' hq => pv_assign rfl) ?_)
    all_goals (refine aw_done (by kernel_rfl) ?_; replace hw := hS; clear hS hNP)
    repeat' (first | (refine is_cw ?_; first | (refine cw_ret ?_)) | (refine is_qw ?_; first | (with_reducible refine qw_then ?_)))
    refine qw_ret1 rfl rfl ⟨ret_bool ?_, (hE.mono hw).b⟩; first | rfl | (rw [decide_eq_decide]; omega) | (symm; rw [decide_eq_true_eq]; omega) | (symm; rw [decide_eq_false_iff_not]; omega)
theorem meth_smay (w : World) : (method ((Tryz.prog).types.size + Made.depth) 156 (.agg #[]) "souk/auction.may").run Tryz.prog w = .ok (192, .agg #[]) w := by kernel_rfl
theorem meth_emay (w : World) : (method ((Tryz.prog).types.size + Made.depth) 157 (.agg #[]) "souk/auction.may").run Tryz.prog w = .ok (196, .agg #[]) w := by kernel_rfl
theorem of_s {a : Auc} {ba : Option Addr} {bc : Nat} {w : World} (HS : SlR encD 2 w ba bc a.bids) (h : a.h.shut = true) : Calls Tryz.prog 98 #[.agg #[.int .i64 a.h.id, .int .i64 a.h.seller, .int .i64 a.h.inst, .bool a.h.shut, .int .i64 a.h.qty, .int .i64 a.h.reserve, .int .i64 a.h.step, .int .i64 a.h.fin, .slice ba a.bids.length bc]] w fun e w' => e = .returned (.iface 156 (.agg #[])) ∧ Below w.heap.size w w' := by
  have := of_c (x := ⟨a.h, ba, a.bids.length, bc⟩) (a := a) ⟨rfl, rfl, HS⟩; rw [if_pos h] at this; exact this
theorem of_e {a : Auc} {ba : Option Addr} {bc : Nat} {w : World} (HS : SlR encD 2 w ba bc a.bids) (h : a.h.shut = false) : Calls Tryz.prog 98 #[.agg #[.int .i64 a.h.id, .int .i64 a.h.seller, .int .i64 a.h.inst, .bool a.h.shut, .int .i64 a.h.qty, .int .i64 a.h.reserve, .int .i64 a.h.step, .int .i64 a.h.fin, .slice ba a.bids.length bc]] w fun e w' => e = .returned (.iface 157 (.agg #[])) ∧ Below w.heap.size w w' := by
  have := of_c (x := ⟨a.h, ba, a.bids.length, bc⟩) (a := a) ⟨rfl, rfl, HS⟩; rw [if_neg (by rw [h]; decide)] at this; exact this
theorem smay_e {a : Auc} {ba : Option Addr} {bc : Nat} {b : Bool} {w : World} (hM : mannB a = b) (HS : SlR encD 2 w ba bc a.bids) (h : a.h.shut = true) : Calls Tryz.prog 192 #[.agg #[], .agg #[.int .i64 a.h.id, .int .i64 a.h.seller, .int .i64 a.h.inst, .bool a.h.shut, .int .i64 a.h.qty, .int .i64 a.h.reserve, .int .i64 a.h.step, .int .i64 a.h.fin, .slice ba a.bids.length bc]] w fun e w' => e = .returned (.bool b) ∧ Below w.heap.size w w' := by
  subst hM; exact smay_c (x := ⟨a.h, ba, a.bids.length, bc⟩) (a := a) ⟨rfl, rfl, HS⟩ h
theorem emay_e {a : Auc} {ba : Option Addr} {bc : Nat} {b : Bool} {w : World} (hM : mannB a = b) (HS : SlR encD 2 w ba bc a.bids) (h : a.h.shut = false) : Calls Tryz.prog 196 #[.agg #[], .agg #[.int .i64 a.h.id, .int .i64 a.h.seller, .int .i64 a.h.inst, .bool a.h.shut, .int .i64 a.h.qty, .int .i64 a.h.reserve, .int .i64 a.h.step, .int .i64 a.h.fin, .slice ba a.bids.length bc]] w fun e w' => e = .returned (.bool b) ∧ Below w.heap.size w w' := by
  subst hM; exact emay_c (x := ⟨a.h, ba, a.bids.length, bc⟩) (a := a) ⟨rfl, rfl, HS⟩ h
theorem bidsA_e {a : Auc} {ba : Option Addr} {bc : Nat} {b : Bool} {w : World} (hB : bidsB a.h.seller a.bids = b) (HS : SlR encD 2 w ba bc a.bids) : Calls Tryz.prog 99 #[.agg #[.int .i64 a.h.id, .int .i64 a.h.seller, .int .i64 a.h.inst, .bool a.h.shut, .int .i64 a.h.qty, .int .i64 a.h.reserve, .int .i64 a.h.step, .int .i64 a.h.fin, .slice ba a.bids.length bc]] w fun e w' => e = .returned (.bool b) ∧ Below w.heap.size w w' := by
  subst hB; exact bidsA_c (x := ⟨a.h, ba, a.bids.length, bc⟩) (a := a) ⟨rfl, rfl, HS⟩

set_option maxRecDepth 20000 in
set_option maxHeartbeats 4000000 in
theorem amay_c {x : AucC} {a : Auc} {w : World} (hR : AuR w x a) : Calls Tryz.prog 69 #[.agg (encC x).toArray] w fun e w' => e = .returned (.bool (mayAu a)) ∧ Below w.heap.size w w' := by
  have hE := Ext.refl w
  have hw := Below.refl w.heap.size w
  obtain ⟨xh, ba, bm, bc⟩ := x; obtain ⟨hh, hm, HS⟩ := hR; simp only at hh hm HS; subst hh hm
  refine fn_enter 41 Tryz.func69 rfl rfl rfl ?_
  repeat' (first | (refine is_cw ?_; first | (refine cw_seq ?_) | (refine cw_region ?_)))
  refine lw_boxN rfl rfl (cs := [.int .i64 a.h.id, .int .i64 a.h.seller, .int .i64 a.h.inst, .bool a.h.shut, .int .i64 a.h.qty, .int .i64 a.h.reserve, .int .i64 a.h.step, .int .i64 a.h.fin, .slice ba a.bids.length bc]) rfl ?_; intro N2 wn hN2 HX hb; replace hN2 := Nat.le_trans hw.size hN2; replace hw := grow_trans hw hb; clear hb
  replace hE := hE.mono hw; replace HS := HS.mono hw; clear hw; have hw := Below.refl wn.heap.size wn
  cases hH : headB a.h with
  | false =>
    have hf : mayAu a = false := by unfold mayAu; rw [hH]; rfl
    rw [hf]
    have hH : ¬ ((1 ≤ a.h.id ∧ a.h.id ≤ 1099511627776) ∧ (1 ≤ a.h.seller ∧ a.h.seller ≤ 64) ∧ (1 ≤ a.h.inst ∧ a.h.inst ≤ 16) ∧ (1 ≤ a.h.qty ∧ a.h.qty ≤ 1048576) ∧ (1 ≤ a.h.reserve ∧ a.h.reserve ≤ 1125899906842624) ∧ (1 ≤ a.h.fin ∧ a.h.fin ≤ 1099511627776)) := fun h => by rw [headB_iff.2 h] at hH; cases hH
    repeat' (first | (refine lw_pure rfl (pv_assign rfl) ?_) | (refine is_cw ?_; first | (refine cw_seq ?_)) | (refine is_qw ?_; first | (with_reducible refine qw_then ?_)) | (refine lw_nil ?_))
    refine cw_drawn (fun w' => Below wn.heap.size wn w') (by kernel_rfl) (by repeat (first | exact NoPanic.body | with_reducible refine NoPanic.then ?_ | with_reducible refine NoPanic.inBlock ?_)) (fun hNP => ?_)
    have hS := hw.drew
    all_goals (refine at0 0 rfl (fun w' hq => pv_fa (tF rfl) rfl) ?_)
    all_goals (refine at0 1 rfl (fun w' hq => pv_load (t1 rfl) rfl (by first | exact PT.ld0 (HX.mono hq) rfl | exact PT.ld (HX.mono hq) rfl)) ?_)
    all_goals (refine aw_act 2 (by kernel_rfl) rfl rfl rfl ?_; refine act_call (f := 96) (by kernel_rfl) rfl (withL_c _ _ _) ?_; rintro e w1 ⟨rfl, hb⟩; refine ⟨_, rfl, grow_trans hS hb, fun hS => ?_⟩; clear hb)
    all_goals (refine at0 3 rfl (fun w' hq => pv_move rfl) ?_)
    all_goals (refine aw_gs 4 rfl rfl rfl (by kernel_rfl) (by kernel_rfl) (by kernel_rfl) hNP hS rfl (fun hc w' hq => pv_fa (tF rfl) rfl) (fun hc => ?_) (fun hc => ?_) <;> (first | replace hc := of_decide_eq_true hc | replace hc := of_decide_eq_false hc | replace hc := dec_nT hc | replace hc := dec_nF hc | skip) <;> (try (exfalso; omega)))
    all_goals first | (refine an2 5 rfl rfl rfl ?_) | (refine at2 5 rfl rfl rfl (fun w' hq => pv_load (t1 rfl) rfl (by first | exact PT.ld0 (HX.mono hq) rfl | exact PT.ld (HX.mono hq) rfl)) ?_)
    all_goals first | (refine an3 6 rfl rfl rfl ?_) | (refine an0 6 rfl rfl rfl ?_) | (refine aw_act_g 6 (by kernel_rfl) rfl rfl rfl (by first | rfl | assumption | exact decide_eq_true (by omega) | exact decide_eq_false (by omega) | exact dec_notT (by omega) | exact dec_notF (by omega)) rfl ?_; refine act_call (f := 97) (by kernel_rfl) rfl (withI_c _ _ _) ?_; rintro e w1 ⟨rfl, hb⟩; refine ⟨_, rfl, grow_trans hS hb, fun hS => ?_⟩; clear hb)
    all_goals first | (refine at0 7 rfl (fun w' hq => pv_pick_t rfl (by first | assumption | exact decide_eq_true (by omega) | exact dec_notT (by omega)) rfl) ?_) | (refine at0 7 rfl (fun w' hq => pv_pick_f rfl (by first | assumption | exact decide_eq_false (by omega) | exact dec_notF (by omega)) rfl) ?_)
    all_goals (refine at0 8 rfl (fun w' hq => pv_move rfl) ?_)
    all_goals first | (refine an1 9 rfl rfl rfl rfl ?_) | (refine aw_gs 9 rfl rfl rfl (by kernel_rfl) (by kernel_rfl) (by kernel_rfl) hNP hS rfl (fun hc w' hq => pv_fa (tF rfl) rfl) (fun hc => ?_) (fun hc => ?_) <;> (first | replace hc := of_decide_eq_true hc | replace hc := of_decide_eq_false hc | replace hc := dec_nT hc | replace hc := dec_nF hc | skip) <;> (try (exfalso; omega)))
    all_goals first | (refine an1 10 rfl rfl rfl rfl ?_) | (refine an2 10 rfl rfl rfl ?_) | (refine at2 10 rfl rfl rfl (fun w' hq => pv_load (t1 rfl) rfl (by first | exact PT.ld0 (HX.mono hq) rfl | exact PT.ld (HX.mono hq) rfl)) ?_)
    all_goals first | (refine an3 11 rfl rfl rfl ?_) | (refine an0 11 rfl rfl rfl ?_) | (refine aw_act_g 11 (by kernel_rfl) rfl rfl rfl (by first | rfl | assumption | exact decide_eq_true (by omega) | exact decide_eq_false (by omega) | exact dec_notT (by omega) | exact dec_notF (by omega)) rfl ?_; refine act_call (f := 97) (by kernel_rfl) rfl (withI_c _ _ _) ?_; rintro e w1 ⟨rfl, hb⟩; refine ⟨_, rfl, grow_trans hS hb, fun hS => ?_⟩; clear hb)
    all_goals first | (refine at0 12 rfl (fun w' hq => pv_pick_f rfl rfl rfl) ?_) | (refine at0 12 rfl (fun w' hq => pv_pick_t rfl (by first | assumption | exact decide_eq_true (by omega) | exact dec_notT (by omega)) rfl) ?_) | (refine at0 12 rfl (fun w' hq => pv_pick_f rfl (by first | assumption | exact decide_eq_false (by omega) | exact dec_notF (by omega)) rfl) ?_)
    all_goals (refine at0 13 rfl (fun w' hq => pv_move rfl) ?_)
    all_goals first | (refine an1 14 rfl rfl rfl rfl ?_) | (refine aw_gs 14 rfl rfl rfl (by kernel_rfl) (by kernel_rfl) (by kernel_rfl) hNP hS rfl (fun hc w' hq => pv_fa (tF rfl) rfl) (fun hc => ?_) (fun hc => ?_) <;> (first | replace hc := of_decide_eq_true hc | replace hc := of_decide_eq_false hc | replace hc := dec_nT hc | replace hc := dec_nF hc | skip) <;> (try (exfalso; omega)))
    all_goals first | (refine an1 15 rfl rfl rfl rfl ?_) | (refine an2 15 rfl rfl rfl ?_) | (refine at2 15 rfl rfl rfl (fun w' hq => pv_load (t1 rfl) rfl (by first | exact PT.ld0 (HX.mono hq) rfl | exact PT.ld (HX.mono hq) rfl)) ?_)
    all_goals first | (refine an3 16 rfl rfl rfl ?_) | (refine an0 16 rfl rfl rfl ?_) | (refine aw_act_g 16 (by kernel_rfl) rfl rfl rfl (by first | rfl | assumption | exact decide_eq_true (by omega) | exact decide_eq_false (by omega) | exact dec_notT (by omega) | exact dec_notF (by omega)) rfl ?_; refine act_call (f := 96) (by kernel_rfl) rfl (withL_c _ _ _) ?_; rintro e w1 ⟨rfl, hb⟩; refine ⟨_, rfl, grow_trans hS hb, fun hS => ?_⟩; clear hb)
    all_goals first | (refine at0 17 rfl (fun w' hq => pv_pick_f rfl rfl rfl) ?_) | (refine at0 17 rfl (fun w' hq => pv_pick_t rfl (by first | assumption | exact decide_eq_true (by omega) | exact dec_notT (by omega)) rfl) ?_) | (refine at0 17 rfl (fun w' hq => pv_pick_f rfl (by first | assumption | exact decide_eq_false (by omega) | exact dec_notF (by omega)) rfl) ?_)
    all_goals (refine at0 18 rfl (fun w' hq => pv_move rfl) ?_)
    all_goals first | (refine an1 19 rfl rfl rfl rfl ?_) | (refine aw_gs 19 rfl rfl rfl (by kernel_rfl) (by kernel_rfl) (by kernel_rfl) hNP hS rfl (fun hc w' hq => pv_fa (tF rfl) rfl) (fun hc => ?_) (fun hc => ?_) <;> (first | replace hc := of_decide_eq_true hc | replace hc := of_decide_eq_false hc | replace hc := dec_nT hc | replace hc := dec_nF hc | skip) <;> (try (exfalso; omega)))
    all_goals first | (refine an1 20 rfl rfl rfl rfl ?_) | (refine an2 20 rfl rfl rfl ?_) | (refine at2 20 rfl rfl rfl (fun w' hq => pv_load (t1 rfl) rfl (by first | exact PT.ld0 (HX.mono hq) rfl | exact PT.ld (HX.mono hq) rfl)) ?_)
    all_goals first | (refine an3 21 rfl rfl rfl ?_) | (refine an0 21 rfl rfl rfl ?_) | (refine aw_act_g 21 (by kernel_rfl) rfl rfl rfl (by first | rfl | assumption | exact decide_eq_true (by omega) | exact decide_eq_false (by omega) | exact dec_notT (by omega) | exact dec_notF (by omega)) rfl ?_; refine act_call (f := 96) (by kernel_rfl) rfl (withL_c _ _ _) ?_; rintro e w1 ⟨rfl, hb⟩; refine ⟨_, rfl, grow_trans hS hb, fun hS => ?_⟩; clear hb)
    all_goals first | (refine at0 22 rfl (fun w' hq => pv_pick_f rfl rfl rfl) ?_) | (refine at0 22 rfl (fun w' hq => pv_pick_t rfl (by first | assumption | exact decide_eq_true (by omega) | exact dec_notT (by omega)) rfl) ?_) | (refine at0 22 rfl (fun w' hq => pv_pick_f rfl (by first | assumption | exact decide_eq_false (by omega) | exact dec_notF (by omega)) rfl) ?_)
    all_goals (refine at0 23 rfl (fun w' hq => pv_move rfl) ?_)
    all_goals first | (refine an1 24 rfl rfl rfl rfl ?_) | (refine aw_gs 24 rfl rfl rfl (by kernel_rfl) (by kernel_rfl) (by kernel_rfl) hNP hS rfl (fun hc w' hq => pv_fa (tF rfl) rfl) (fun hc => ?_) (fun hc => ?_) <;> (first | replace hc := of_decide_eq_true hc | replace hc := of_decide_eq_false hc | replace hc := dec_nT hc | replace hc := dec_nF hc | skip) <;> (try (exfalso; omega)))
    all_goals first | (refine an1 25 rfl rfl rfl rfl ?_) | (refine an2 25 rfl rfl rfl ?_) | (refine at2 25 rfl rfl rfl (fun w' hq => pv_load (t1 rfl) rfl (by first | exact PT.ld0 (HX.mono hq) rfl | exact PT.ld (HX.mono hq) rfl)) ?_)
    all_goals first | (refine an3 26 rfl rfl rfl ?_) | (refine an0 26 rfl rfl rfl ?_) | (refine aw_act_g 26 (by kernel_rfl) rfl rfl rfl (by first | rfl | assumption | exact decide_eq_true (by omega) | exact decide_eq_false (by omega) | exact dec_notT (by omega) | exact dec_notF (by omega)) rfl ?_; refine act_call (f := 96) (by kernel_rfl) rfl (withL_c _ _ _) ?_; rintro e w1 ⟨rfl, hb⟩; refine ⟨_, rfl, grow_trans hS hb, fun hS => ?_⟩; clear hb)
    all_goals first | (refine at0 27 rfl (fun w' hq => pv_pick_f rfl rfl rfl) ?_) | (refine at0 27 rfl (fun w' hq => pv_pick_t rfl (by first | assumption | exact decide_eq_true (by omega) | exact dec_notT (by omega)) rfl) ?_) | (refine at0 27 rfl (fun w' hq => pv_pick_f rfl (by first | assumption | exact decide_eq_false (by omega) | exact dec_notF (by omega)) rfl) ?_)
    all_goals (refine at0 28 rfl (fun w' hq => pv_move rfl) ?_)
    all_goals first | (refine an1 29 rfl rfl rfl rfl ?_) | (refine an2 29 rfl rfl rfl ?_)
    all_goals first | (refine an1 30 rfl rfl rfl rfl ?_) | (refine an2 30 rfl rfl rfl ?_)
    all_goals first | (refine an1 31 rfl rfl rfl rfl ?_) | (refine an2 31 rfl rfl rfl ?_)
    all_goals first | (refine an1 32 rfl rfl rfl rfl ?_) | (refine an2 32 rfl rfl rfl ?_)
    all_goals first | (refine at0 33 rfl (fun w' hq => pv_pick_f rfl rfl rfl) ?_) | (refine at0 33 rfl (fun w' hq => pv_pick_f rfl (by first | assumption | exact decide_eq_false (by omega) | exact dec_notF (by omega)) rfl) ?_)
    all_goals (refine at0 34 rfl (fun w' hq => pv_move rfl) ?_)
    all_goals (refine an1 35 rfl rfl rfl rfl ?_)
    all_goals (refine an1 36 rfl rfl rfl rfl ?_)
    all_goals (refine at0 37 rfl (fun w' hq => pv_pick_f rfl rfl rfl) ?_)
    all_goals (refine at0 38 rfl (fun w' hq => pv_assign rfl) ?_)
    all_goals (refine aw_done (by kernel_rfl) ?_; replace hw := hS; clear hS hNP)
    all_goals (repeat' (first | (refine is_cw ?_; first | (refine cw_ret ?_)) | (refine is_qw ?_; first | (with_reducible refine qw_then ?_))))
    all_goals exact qw_ret1 rfl rfl ⟨rfl, (hE.mono hw).b⟩
  | true =>
    have hG := headB_iff.1 hH
    cases hM : mannB a with
    | false =>
      have hf : mayAu a = false := by unfold mayAu; rw [hM]; simp
      rw [hf]
      cases hs : a.h.shut with
      | true =>
        repeat' (first | (refine lw_pure rfl (pv_assign rfl) ?_) | (refine is_cw ?_; first | (refine cw_seq ?_)) | (refine is_qw ?_; first | (with_reducible refine qw_then ?_)) | (refine lw_nil ?_))
        refine cw_drawn (fun w' => Below wn.heap.size wn w') (by kernel_rfl) (by repeat (first | exact NoPanic.body | with_reducible refine NoPanic.then ?_ | with_reducible refine NoPanic.inBlock ?_)) (fun hNP => ?_)
        have hS := hw.drew
        all_goals (refine at0 0 rfl (fun w' hq => pv_fa (tF rfl) rfl) ?_)
        all_goals (refine at0 1 rfl (fun w' hq => pv_load (t1 rfl) rfl (by first | exact PT.ld0 (HX.mono hq) rfl | exact PT.ld (HX.mono hq) rfl)) ?_)
        all_goals (refine aw_act 2 (by kernel_rfl) rfl rfl rfl ?_; refine act_call (f := 96) (by kernel_rfl) rfl (withL_c _ _ _) ?_; rintro e w1 ⟨rfl, hb⟩; refine ⟨_, rfl, grow_trans hS hb, fun hS => ?_⟩; clear hb)
        all_goals (refine at0 3 rfl (fun w' hq => pv_move rfl) ?_)
        all_goals (refine at2 4 rfl rfl rfl (fun w' hq => pv_fa (tF rfl) rfl) ?_)
        all_goals (refine at2 5 rfl rfl rfl (fun w' hq => pv_load (t1 rfl) rfl (by first | exact PT.ld0 (HX.mono hq) rfl | exact PT.ld (HX.mono hq) rfl)) ?_)
        all_goals first | (refine an3 6 rfl rfl rfl ?_) | (refine an0 6 rfl rfl rfl ?_) | (refine aw_act_g 6 (by kernel_rfl) rfl rfl rfl (by first | rfl | assumption | exact decide_eq_true (by omega) | exact decide_eq_false (by omega) | exact dec_notT (by omega) | exact dec_notF (by omega)) rfl ?_; refine act_call (f := 97) (by kernel_rfl) rfl (withI_c _ _ _) ?_; rintro e w1 ⟨rfl, hb⟩; refine ⟨_, rfl, grow_trans hS hb, fun hS => ?_⟩; clear hb)
        all_goals (refine at0 7 rfl (fun w' hq => pv_pick_t rfl (by first | assumption | exact decide_eq_true (by omega) | exact dec_notT (by omega)) rfl) ?_)
        all_goals (refine at0 8 rfl (fun w' hq => pv_move rfl) ?_)
        all_goals (refine at2 9 rfl rfl rfl (fun w' hq => pv_fa (tF rfl) rfl) ?_)
        all_goals (refine at2 10 rfl rfl rfl (fun w' hq => pv_load (t1 rfl) rfl (by first | exact PT.ld0 (HX.mono hq) rfl | exact PT.ld (HX.mono hq) rfl)) ?_)
        all_goals first | (refine an3 11 rfl rfl rfl ?_) | (refine an0 11 rfl rfl rfl ?_) | (refine aw_act_g 11 (by kernel_rfl) rfl rfl rfl (by first | rfl | assumption | exact decide_eq_true (by omega) | exact decide_eq_false (by omega) | exact dec_notT (by omega) | exact dec_notF (by omega)) rfl ?_; refine act_call (f := 97) (by kernel_rfl) rfl (withI_c _ _ _) ?_; rintro e w1 ⟨rfl, hb⟩; refine ⟨_, rfl, grow_trans hS hb, fun hS => ?_⟩; clear hb)
        all_goals (refine at0 12 rfl (fun w' hq => pv_pick_t rfl (by first | assumption | exact decide_eq_true (by omega) | exact dec_notT (by omega)) rfl) ?_)
        all_goals (refine at0 13 rfl (fun w' hq => pv_move rfl) ?_)
        all_goals (refine at2 14 rfl rfl rfl (fun w' hq => pv_fa (tF rfl) rfl) ?_)
        all_goals (refine at2 15 rfl rfl rfl (fun w' hq => pv_load (t1 rfl) rfl (by first | exact PT.ld0 (HX.mono hq) rfl | exact PT.ld (HX.mono hq) rfl)) ?_)
        all_goals first | (refine an3 16 rfl rfl rfl ?_) | (refine an0 16 rfl rfl rfl ?_) | (refine aw_act_g 16 (by kernel_rfl) rfl rfl rfl (by first | rfl | assumption | exact decide_eq_true (by omega) | exact decide_eq_false (by omega) | exact dec_notT (by omega) | exact dec_notF (by omega)) rfl ?_; refine act_call (f := 96) (by kernel_rfl) rfl (withL_c _ _ _) ?_; rintro e w1 ⟨rfl, hb⟩; refine ⟨_, rfl, grow_trans hS hb, fun hS => ?_⟩; clear hb)
        all_goals (refine at0 17 rfl (fun w' hq => pv_pick_t rfl (by first | assumption | exact decide_eq_true (by omega) | exact dec_notT (by omega)) rfl) ?_)
        all_goals (refine at0 18 rfl (fun w' hq => pv_move rfl) ?_)
        all_goals (refine at2 19 rfl rfl rfl (fun w' hq => pv_fa (tF rfl) rfl) ?_)
        all_goals (refine at2 20 rfl rfl rfl (fun w' hq => pv_load (t1 rfl) rfl (by first | exact PT.ld0 (HX.mono hq) rfl | exact PT.ld (HX.mono hq) rfl)) ?_)
        all_goals first | (refine an3 21 rfl rfl rfl ?_) | (refine an0 21 rfl rfl rfl ?_) | (refine aw_act_g 21 (by kernel_rfl) rfl rfl rfl (by first | rfl | assumption | exact decide_eq_true (by omega) | exact decide_eq_false (by omega) | exact dec_notT (by omega) | exact dec_notF (by omega)) rfl ?_; refine act_call (f := 96) (by kernel_rfl) rfl (withL_c _ _ _) ?_; rintro e w1 ⟨rfl, hb⟩; refine ⟨_, rfl, grow_trans hS hb, fun hS => ?_⟩; clear hb)
        all_goals (refine at0 22 rfl (fun w' hq => pv_pick_t rfl (by first | assumption | exact decide_eq_true (by omega) | exact dec_notT (by omega)) rfl) ?_)
        all_goals (refine at0 23 rfl (fun w' hq => pv_move rfl) ?_)
        all_goals (refine at2 24 rfl rfl rfl (fun w' hq => pv_fa (tF rfl) rfl) ?_)
        all_goals (refine at2 25 rfl rfl rfl (fun w' hq => pv_load (t1 rfl) rfl (by first | exact PT.ld0 (HX.mono hq) rfl | exact PT.ld (HX.mono hq) rfl)) ?_)
        all_goals first | (refine an3 26 rfl rfl rfl ?_) | (refine an0 26 rfl rfl rfl ?_) | (refine aw_act_g 26 (by kernel_rfl) rfl rfl rfl (by first | rfl | assumption | exact decide_eq_true (by omega) | exact decide_eq_false (by omega) | exact dec_notT (by omega) | exact dec_notF (by omega)) rfl ?_; refine act_call (f := 96) (by kernel_rfl) rfl (withL_c _ _ _) ?_; rintro e w1 ⟨rfl, hb⟩; refine ⟨_, rfl, grow_trans hS hb, fun hS => ?_⟩; clear hb)
        all_goals (refine at0 27 rfl (fun w' hq => pv_pick_t rfl (by first | assumption | exact decide_eq_true (by omega) | exact dec_notT (by omega)) rfl) ?_)
        all_goals (refine at0 28 rfl (fun w' hq => pv_move rfl) ?_)
        all_goals (refine at2 29 rfl rfl rfl (fun w' hq => pv_loada (tA rfl) rfl (by first | exact PT.lda (HX.mono hq)) (by rfl)) ?_)
        all_goals (refine at2 31 rfl rfl rfl (fun w' hq => pv_loada (tA rfl) rfl (by first | exact PT.lda (HX.mono hq)) (by rfl)) ?_)
        all_goals first | (refine an3 30 rfl rfl rfl ?_) | (refine an0 30 rfl rfl rfl ?_) | (refine aw_act_g 30 (by kernel_rfl) rfl rfl rfl (by first | rfl | assumption | exact decide_eq_true (by omega) | exact decide_eq_false (by omega) | exact dec_notT (by omega) | exact dec_notF (by omega)) rfl ?_; refine act_call (f := 98) (by kernel_rfl) rfl (of_s (HS.mono hS) hs) ?_; rintro e w1 ⟨rfl, hb⟩; refine ⟨_, rfl, grow_trans hS hb, fun hS => ?_⟩; clear hb)
        all_goals first | (refine an3 32 rfl rfl rfl ?_) | (refine an0 32 rfl rfl rfl ?_) | (refine aw_act_g 32 (by kernel_rfl) rfl rfl rfl (by first | rfl | assumption | exact decide_eq_true (by omega) | exact decide_eq_false (by omega) | exact dec_notT (by omega) | exact dec_notF (by omega)) rfl ?_; refine act_callm (f := 192) (t := 156) (v := .agg #[]) (r := .agg #[]) (meth_smay _) (by kernel_rfl) rfl rfl (smay_e hM (HS.mono hS) hs) ?_; rintro e w1 ⟨rfl, hb⟩; refine ⟨_, rfl, grow_trans hS hb, fun hS => ?_⟩; clear hb)
        all_goals (refine at0 33 rfl (fun w' hq => pv_pick_t rfl (by first | assumption | exact decide_eq_true (by omega) | exact dec_notT (by omega)) rfl) ?_)
        all_goals (refine at0 34 rfl (fun w' hq => pv_move rfl) ?_)
        all_goals (refine an1 35 rfl rfl rfl rfl ?_)
        all_goals (refine an1 36 rfl rfl rfl rfl ?_)
        all_goals (refine at0 37 rfl (fun w' hq => pv_pick_f rfl rfl rfl) ?_)
        all_goals (refine at0 38 rfl (fun w' hq => pv_assign rfl) ?_)
        all_goals (refine aw_done (by kernel_rfl) ?_; replace hw := hS; clear hS hNP)
        repeat' (first | (refine is_cw ?_; first | (refine cw_ret ?_)) | (refine is_qw ?_; first | (with_reducible refine qw_then ?_)))
        exact qw_ret1 rfl rfl ⟨rfl, (hE.mono hw).b⟩
      | false =>
        repeat' (first | (refine lw_pure rfl (pv_assign rfl) ?_) | (refine is_cw ?_; first | (refine cw_seq ?_)) | (refine is_qw ?_; first | (with_reducible refine qw_then ?_)) | (refine lw_nil ?_))
        refine cw_drawn (fun w' => Below wn.heap.size wn w') (by kernel_rfl) (by repeat (first | exact NoPanic.body | with_reducible refine NoPanic.then ?_ | with_reducible refine NoPanic.inBlock ?_)) (fun hNP => ?_)
        have hS := hw.drew
        all_goals (refine at0 0 rfl (fun w' hq => pv_fa (tF rfl) rfl) ?_)
        all_goals (refine at0 1 rfl (fun w' hq => pv_load (t1 rfl) rfl (by first | exact PT.ld0 (HX.mono hq) rfl | exact PT.ld (HX.mono hq) rfl)) ?_)
        all_goals (refine aw_act 2 (by kernel_rfl) rfl rfl rfl ?_; refine act_call (f := 96) (by kernel_rfl) rfl (withL_c _ _ _) ?_; rintro e w1 ⟨rfl, hb⟩; refine ⟨_, rfl, grow_trans hS hb, fun hS => ?_⟩; clear hb)
        all_goals (refine at0 3 rfl (fun w' hq => pv_move rfl) ?_)
        all_goals (refine at2 4 rfl rfl rfl (fun w' hq => pv_fa (tF rfl) rfl) ?_)
        all_goals (refine at2 5 rfl rfl rfl (fun w' hq => pv_load (t1 rfl) rfl (by first | exact PT.ld0 (HX.mono hq) rfl | exact PT.ld (HX.mono hq) rfl)) ?_)
        all_goals first | (refine an3 6 rfl rfl rfl ?_) | (refine an0 6 rfl rfl rfl ?_) | (refine aw_act_g 6 (by kernel_rfl) rfl rfl rfl (by first | rfl | assumption | exact decide_eq_true (by omega) | exact decide_eq_false (by omega) | exact dec_notT (by omega) | exact dec_notF (by omega)) rfl ?_; refine act_call (f := 97) (by kernel_rfl) rfl (withI_c _ _ _) ?_; rintro e w1 ⟨rfl, hb⟩; refine ⟨_, rfl, grow_trans hS hb, fun hS => ?_⟩; clear hb)
        all_goals (refine at0 7 rfl (fun w' hq => pv_pick_t rfl (by first | assumption | exact decide_eq_true (by omega) | exact dec_notT (by omega)) rfl) ?_)
        all_goals (refine at0 8 rfl (fun w' hq => pv_move rfl) ?_)
        all_goals (refine at2 9 rfl rfl rfl (fun w' hq => pv_fa (tF rfl) rfl) ?_)
        all_goals (refine at2 10 rfl rfl rfl (fun w' hq => pv_load (t1 rfl) rfl (by first | exact PT.ld0 (HX.mono hq) rfl | exact PT.ld (HX.mono hq) rfl)) ?_)
        all_goals first | (refine an3 11 rfl rfl rfl ?_) | (refine an0 11 rfl rfl rfl ?_) | (refine aw_act_g 11 (by kernel_rfl) rfl rfl rfl (by first | rfl | assumption | exact decide_eq_true (by omega) | exact decide_eq_false (by omega) | exact dec_notT (by omega) | exact dec_notF (by omega)) rfl ?_; refine act_call (f := 97) (by kernel_rfl) rfl (withI_c _ _ _) ?_; rintro e w1 ⟨rfl, hb⟩; refine ⟨_, rfl, grow_trans hS hb, fun hS => ?_⟩; clear hb)
        all_goals (refine at0 12 rfl (fun w' hq => pv_pick_t rfl (by first | assumption | exact decide_eq_true (by omega) | exact dec_notT (by omega)) rfl) ?_)
        all_goals (refine at0 13 rfl (fun w' hq => pv_move rfl) ?_)
        all_goals (refine at2 14 rfl rfl rfl (fun w' hq => pv_fa (tF rfl) rfl) ?_)
        all_goals (refine at2 15 rfl rfl rfl (fun w' hq => pv_load (t1 rfl) rfl (by first | exact PT.ld0 (HX.mono hq) rfl | exact PT.ld (HX.mono hq) rfl)) ?_)
        all_goals first | (refine an3 16 rfl rfl rfl ?_) | (refine an0 16 rfl rfl rfl ?_) | (refine aw_act_g 16 (by kernel_rfl) rfl rfl rfl (by first | rfl | assumption | exact decide_eq_true (by omega) | exact decide_eq_false (by omega) | exact dec_notT (by omega) | exact dec_notF (by omega)) rfl ?_; refine act_call (f := 96) (by kernel_rfl) rfl (withL_c _ _ _) ?_; rintro e w1 ⟨rfl, hb⟩; refine ⟨_, rfl, grow_trans hS hb, fun hS => ?_⟩; clear hb)
        all_goals (refine at0 17 rfl (fun w' hq => pv_pick_t rfl (by first | assumption | exact decide_eq_true (by omega) | exact dec_notT (by omega)) rfl) ?_)
        all_goals (refine at0 18 rfl (fun w' hq => pv_move rfl) ?_)
        all_goals (refine at2 19 rfl rfl rfl (fun w' hq => pv_fa (tF rfl) rfl) ?_)
        all_goals (refine at2 20 rfl rfl rfl (fun w' hq => pv_load (t1 rfl) rfl (by first | exact PT.ld0 (HX.mono hq) rfl | exact PT.ld (HX.mono hq) rfl)) ?_)
        all_goals first | (refine an3 21 rfl rfl rfl ?_) | (refine an0 21 rfl rfl rfl ?_) | (refine aw_act_g 21 (by kernel_rfl) rfl rfl rfl (by first | rfl | assumption | exact decide_eq_true (by omega) | exact decide_eq_false (by omega) | exact dec_notT (by omega) | exact dec_notF (by omega)) rfl ?_; refine act_call (f := 96) (by kernel_rfl) rfl (withL_c _ _ _) ?_; rintro e w1 ⟨rfl, hb⟩; refine ⟨_, rfl, grow_trans hS hb, fun hS => ?_⟩; clear hb)
        all_goals (refine at0 22 rfl (fun w' hq => pv_pick_t rfl (by first | assumption | exact decide_eq_true (by omega) | exact dec_notT (by omega)) rfl) ?_)
        all_goals (refine at0 23 rfl (fun w' hq => pv_move rfl) ?_)
        all_goals (refine at2 24 rfl rfl rfl (fun w' hq => pv_fa (tF rfl) rfl) ?_)
        all_goals (refine at2 25 rfl rfl rfl (fun w' hq => pv_load (t1 rfl) rfl (by first | exact PT.ld0 (HX.mono hq) rfl | exact PT.ld (HX.mono hq) rfl)) ?_)
        all_goals first | (refine an3 26 rfl rfl rfl ?_) | (refine an0 26 rfl rfl rfl ?_) | (refine aw_act_g 26 (by kernel_rfl) rfl rfl rfl (by first | rfl | assumption | exact decide_eq_true (by omega) | exact decide_eq_false (by omega) | exact dec_notT (by omega) | exact dec_notF (by omega)) rfl ?_; refine act_call (f := 96) (by kernel_rfl) rfl (withL_c _ _ _) ?_; rintro e w1 ⟨rfl, hb⟩; refine ⟨_, rfl, grow_trans hS hb, fun hS => ?_⟩; clear hb)
        all_goals (refine at0 27 rfl (fun w' hq => pv_pick_t rfl (by first | assumption | exact decide_eq_true (by omega) | exact dec_notT (by omega)) rfl) ?_)
        all_goals (refine at0 28 rfl (fun w' hq => pv_move rfl) ?_)
        all_goals (refine at2 29 rfl rfl rfl (fun w' hq => pv_loada (tA rfl) rfl (by first | exact PT.lda (HX.mono hq)) (by rfl)) ?_)
        all_goals (refine at2 31 rfl rfl rfl (fun w' hq => pv_loada (tA rfl) rfl (by first | exact PT.lda (HX.mono hq)) (by rfl)) ?_)
        all_goals first | (refine an3 30 rfl rfl rfl ?_) | (refine an0 30 rfl rfl rfl ?_) | (refine aw_act_g 30 (by kernel_rfl) rfl rfl rfl (by first | rfl | assumption | exact decide_eq_true (by omega) | exact decide_eq_false (by omega) | exact dec_notT (by omega) | exact dec_notF (by omega)) rfl ?_; refine act_call (f := 98) (by kernel_rfl) rfl (of_e (HS.mono hS) hs) ?_; rintro e w1 ⟨rfl, hb⟩; refine ⟨_, rfl, grow_trans hS hb, fun hS => ?_⟩; clear hb)
        all_goals first | (refine an3 32 rfl rfl rfl ?_) | (refine an0 32 rfl rfl rfl ?_) | (refine aw_act_g 32 (by kernel_rfl) rfl rfl rfl (by first | rfl | assumption | exact decide_eq_true (by omega) | exact decide_eq_false (by omega) | exact dec_notT (by omega) | exact dec_notF (by omega)) rfl ?_; refine act_callm (f := 196) (t := 157) (v := .agg #[]) (r := .agg #[]) (meth_emay _) (by kernel_rfl) rfl rfl (emay_e hM (HS.mono hS) hs) ?_; rintro e w1 ⟨rfl, hb⟩; refine ⟨_, rfl, grow_trans hS hb, fun hS => ?_⟩; clear hb)
        all_goals (refine at0 33 rfl (fun w' hq => pv_pick_t rfl (by first | assumption | exact decide_eq_true (by omega) | exact dec_notT (by omega)) rfl) ?_)
        all_goals (refine at0 34 rfl (fun w' hq => pv_move rfl) ?_)
        all_goals (refine an1 35 rfl rfl rfl rfl ?_)
        all_goals (refine an1 36 rfl rfl rfl rfl ?_)
        all_goals (refine at0 37 rfl (fun w' hq => pv_pick_f rfl rfl rfl) ?_)
        all_goals (refine at0 38 rfl (fun w' hq => pv_assign rfl) ?_)
        all_goals (refine aw_done (by kernel_rfl) ?_; replace hw := hS; clear hS hNP)
        repeat' (first | (refine is_cw ?_; first | (refine cw_ret ?_)) | (refine is_qw ?_; first | (with_reducible refine qw_then ?_)))
        exact qw_ret1 rfl rfl ⟨rfl, (hE.mono hw).b⟩
    | true =>
      have hf : mayAu a = bidsB a.h.seller a.bids := by unfold mayAu; rw [hH, hM]; rfl
      rw [hf]
      generalize hB : bidsB a.h.seller a.bids = r
      cases hs : a.h.shut with
      | true =>
        repeat' (first | (refine lw_pure rfl (pv_assign rfl) ?_) | (refine is_cw ?_; first | (refine cw_seq ?_)) | (refine is_qw ?_; first | (with_reducible refine qw_then ?_)) | (refine lw_nil ?_))
        refine cw_drawn (fun w' => Below wn.heap.size wn w') (by kernel_rfl) (by repeat (first | exact NoPanic.body | with_reducible refine NoPanic.then ?_ | with_reducible refine NoPanic.inBlock ?_)) (fun hNP => ?_)
        have hS := hw.drew
        all_goals (refine at0 0 rfl (fun w' hq => pv_fa (tF rfl) rfl) ?_)
        all_goals (refine at0 1 rfl (fun w' hq => pv_load (t1 rfl) rfl (by first | exact PT.ld0 (HX.mono hq) rfl | exact PT.ld (HX.mono hq) rfl)) ?_)
        all_goals (refine aw_act 2 (by kernel_rfl) rfl rfl rfl ?_; refine act_call (f := 96) (by kernel_rfl) rfl (withL_c _ _ _) ?_; rintro e w1 ⟨rfl, hb⟩; refine ⟨_, rfl, grow_trans hS hb, fun hS => ?_⟩; clear hb)
        all_goals (refine at0 3 rfl (fun w' hq => pv_move rfl) ?_)
        all_goals (refine at2 4 rfl rfl rfl (fun w' hq => pv_fa (tF rfl) rfl) ?_)
        all_goals (refine at2 5 rfl rfl rfl (fun w' hq => pv_load (t1 rfl) rfl (by first | exact PT.ld0 (HX.mono hq) rfl | exact PT.ld (HX.mono hq) rfl)) ?_)
        all_goals first | (refine an3 6 rfl rfl rfl ?_) | (refine an0 6 rfl rfl rfl ?_) | (refine aw_act_g 6 (by kernel_rfl) rfl rfl rfl (by first | rfl | assumption | exact decide_eq_true (by omega) | exact decide_eq_false (by omega) | exact dec_notT (by omega) | exact dec_notF (by omega)) rfl ?_; refine act_call (f := 97) (by kernel_rfl) rfl (withI_c _ _ _) ?_; rintro e w1 ⟨rfl, hb⟩; refine ⟨_, rfl, grow_trans hS hb, fun hS => ?_⟩; clear hb)
        all_goals (refine at0 7 rfl (fun w' hq => pv_pick_t rfl (by first | assumption | exact decide_eq_true (by omega) | exact dec_notT (by omega)) rfl) ?_)
        all_goals (refine at0 8 rfl (fun w' hq => pv_move rfl) ?_)
        all_goals (refine at2 9 rfl rfl rfl (fun w' hq => pv_fa (tF rfl) rfl) ?_)
        all_goals (refine at2 10 rfl rfl rfl (fun w' hq => pv_load (t1 rfl) rfl (by first | exact PT.ld0 (HX.mono hq) rfl | exact PT.ld (HX.mono hq) rfl)) ?_)
        all_goals first | (refine an3 11 rfl rfl rfl ?_) | (refine an0 11 rfl rfl rfl ?_) | (refine aw_act_g 11 (by kernel_rfl) rfl rfl rfl (by first | rfl | assumption | exact decide_eq_true (by omega) | exact decide_eq_false (by omega) | exact dec_notT (by omega) | exact dec_notF (by omega)) rfl ?_; refine act_call (f := 97) (by kernel_rfl) rfl (withI_c _ _ _) ?_; rintro e w1 ⟨rfl, hb⟩; refine ⟨_, rfl, grow_trans hS hb, fun hS => ?_⟩; clear hb)
        all_goals (refine at0 12 rfl (fun w' hq => pv_pick_t rfl (by first | assumption | exact decide_eq_true (by omega) | exact dec_notT (by omega)) rfl) ?_)
        all_goals (refine at0 13 rfl (fun w' hq => pv_move rfl) ?_)
        all_goals (refine at2 14 rfl rfl rfl (fun w' hq => pv_fa (tF rfl) rfl) ?_)
        all_goals (refine at2 15 rfl rfl rfl (fun w' hq => pv_load (t1 rfl) rfl (by first | exact PT.ld0 (HX.mono hq) rfl | exact PT.ld (HX.mono hq) rfl)) ?_)
        all_goals first | (refine an3 16 rfl rfl rfl ?_) | (refine an0 16 rfl rfl rfl ?_) | (refine aw_act_g 16 (by kernel_rfl) rfl rfl rfl (by first | rfl | assumption | exact decide_eq_true (by omega) | exact decide_eq_false (by omega) | exact dec_notT (by omega) | exact dec_notF (by omega)) rfl ?_; refine act_call (f := 96) (by kernel_rfl) rfl (withL_c _ _ _) ?_; rintro e w1 ⟨rfl, hb⟩; refine ⟨_, rfl, grow_trans hS hb, fun hS => ?_⟩; clear hb)
        all_goals (refine at0 17 rfl (fun w' hq => pv_pick_t rfl (by first | assumption | exact decide_eq_true (by omega) | exact dec_notT (by omega)) rfl) ?_)
        all_goals (refine at0 18 rfl (fun w' hq => pv_move rfl) ?_)
        all_goals (refine at2 19 rfl rfl rfl (fun w' hq => pv_fa (tF rfl) rfl) ?_)
        all_goals (refine at2 20 rfl rfl rfl (fun w' hq => pv_load (t1 rfl) rfl (by first | exact PT.ld0 (HX.mono hq) rfl | exact PT.ld (HX.mono hq) rfl)) ?_)
        all_goals first | (refine an3 21 rfl rfl rfl ?_) | (refine an0 21 rfl rfl rfl ?_) | (refine aw_act_g 21 (by kernel_rfl) rfl rfl rfl (by first | rfl | assumption | exact decide_eq_true (by omega) | exact decide_eq_false (by omega) | exact dec_notT (by omega) | exact dec_notF (by omega)) rfl ?_; refine act_call (f := 96) (by kernel_rfl) rfl (withL_c _ _ _) ?_; rintro e w1 ⟨rfl, hb⟩; refine ⟨_, rfl, grow_trans hS hb, fun hS => ?_⟩; clear hb)
        all_goals (refine at0 22 rfl (fun w' hq => pv_pick_t rfl (by first | assumption | exact decide_eq_true (by omega) | exact dec_notT (by omega)) rfl) ?_)
        all_goals (refine at0 23 rfl (fun w' hq => pv_move rfl) ?_)
        all_goals (refine at2 24 rfl rfl rfl (fun w' hq => pv_fa (tF rfl) rfl) ?_)
        all_goals (refine at2 25 rfl rfl rfl (fun w' hq => pv_load (t1 rfl) rfl (by first | exact PT.ld0 (HX.mono hq) rfl | exact PT.ld (HX.mono hq) rfl)) ?_)
        all_goals first | (refine an3 26 rfl rfl rfl ?_) | (refine an0 26 rfl rfl rfl ?_) | (refine aw_act_g 26 (by kernel_rfl) rfl rfl rfl (by first | rfl | assumption | exact decide_eq_true (by omega) | exact decide_eq_false (by omega) | exact dec_notT (by omega) | exact dec_notF (by omega)) rfl ?_; refine act_call (f := 96) (by kernel_rfl) rfl (withL_c _ _ _) ?_; rintro e w1 ⟨rfl, hb⟩; refine ⟨_, rfl, grow_trans hS hb, fun hS => ?_⟩; clear hb)
        all_goals (refine at0 27 rfl (fun w' hq => pv_pick_t rfl (by first | assumption | exact decide_eq_true (by omega) | exact dec_notT (by omega)) rfl) ?_)
        all_goals (refine at0 28 rfl (fun w' hq => pv_move rfl) ?_)
        all_goals (refine at2 29 rfl rfl rfl (fun w' hq => pv_loada (tA rfl) rfl (by first | exact PT.lda (HX.mono hq)) (by rfl)) ?_)
        all_goals (refine at2 31 rfl rfl rfl (fun w' hq => pv_loada (tA rfl) rfl (by first | exact PT.lda (HX.mono hq)) (by rfl)) ?_)
        all_goals first | (refine an3 30 rfl rfl rfl ?_) | (refine an0 30 rfl rfl rfl ?_) | (refine aw_act_g 30 (by kernel_rfl) rfl rfl rfl (by first | rfl | assumption | exact decide_eq_true (by omega) | exact decide_eq_false (by omega) | exact dec_notT (by omega) | exact dec_notF (by omega)) rfl ?_; refine act_call (f := 98) (by kernel_rfl) rfl (of_s (HS.mono hS) hs) ?_; rintro e w1 ⟨rfl, hb⟩; refine ⟨_, rfl, grow_trans hS hb, fun hS => ?_⟩; clear hb)
        all_goals first | (refine an3 32 rfl rfl rfl ?_) | (refine an0 32 rfl rfl rfl ?_) | (refine aw_act_g 32 (by kernel_rfl) rfl rfl rfl (by first | rfl | assumption | exact decide_eq_true (by omega) | exact decide_eq_false (by omega) | exact dec_notT (by omega) | exact dec_notF (by omega)) rfl ?_; refine act_callm (f := 192) (t := 156) (v := .agg #[]) (r := .agg #[]) (meth_smay _) (by kernel_rfl) rfl rfl (smay_e hM (HS.mono hS) hs) ?_; rintro e w1 ⟨rfl, hb⟩; refine ⟨_, rfl, grow_trans hS hb, fun hS => ?_⟩; clear hb)
        all_goals (refine at0 33 rfl (fun w' hq => pv_pick_t rfl (by first | assumption | exact decide_eq_true (by omega) | exact dec_notT (by omega)) rfl) ?_)
        all_goals (refine at0 34 rfl (fun w' hq => pv_move rfl) ?_)
        all_goals (refine at1 35 rfl rfl rfl rfl (fun w' hq => pv_loada (tA rfl) rfl (by first | exact PT.lda (HX.mono hq)) (by rfl)) ?_)
        all_goals first | (refine an3 36 rfl rfl rfl ?_) | (refine an0 36 rfl rfl rfl ?_) | (refine aw_act_g 36 (by kernel_rfl) rfl rfl rfl (by first | rfl | assumption | exact decide_eq_true (by omega) | exact decide_eq_false (by omega) | exact dec_notT (by omega) | exact dec_notF (by omega)) rfl ?_; refine act_call (f := 99) (by kernel_rfl) rfl (bidsA_e hB (HS.mono hS)) ?_; rintro e w1 ⟨rfl, hb⟩; refine ⟨_, rfl, grow_trans hS hb, fun hS => ?_⟩; clear hb)
        all_goals (refine at0 37 rfl (fun w' hq => pv_pick_t rfl rfl rfl) ?_)
        all_goals (refine at0 38 rfl (fun w' hq => pv_assign rfl) ?_)
        all_goals (refine aw_done (by kernel_rfl) ?_; replace hw := hS; clear hS hNP)
        repeat' (first | (refine is_cw ?_; first | (refine cw_ret ?_)) | (refine is_qw ?_; first | (with_reducible refine qw_then ?_)))
        exact qw_ret1 rfl rfl ⟨rfl, (hE.mono hw).b⟩
      | false =>
        repeat' (first | (refine lw_pure rfl (pv_assign rfl) ?_) | (refine is_cw ?_; first | (refine cw_seq ?_)) | (refine is_qw ?_; first | (with_reducible refine qw_then ?_)) | (refine lw_nil ?_))
        refine cw_drawn (fun w' => Below wn.heap.size wn w') (by kernel_rfl) (by repeat (first | exact NoPanic.body | with_reducible refine NoPanic.then ?_ | with_reducible refine NoPanic.inBlock ?_)) (fun hNP => ?_)
        have hS := hw.drew
        all_goals (refine at0 0 rfl (fun w' hq => pv_fa (tF rfl) rfl) ?_)
        all_goals (refine at0 1 rfl (fun w' hq => pv_load (t1 rfl) rfl (by first | exact PT.ld0 (HX.mono hq) rfl | exact PT.ld (HX.mono hq) rfl)) ?_)
        all_goals (refine aw_act 2 (by kernel_rfl) rfl rfl rfl ?_; refine act_call (f := 96) (by kernel_rfl) rfl (withL_c _ _ _) ?_; rintro e w1 ⟨rfl, hb⟩; refine ⟨_, rfl, grow_trans hS hb, fun hS => ?_⟩; clear hb)
        all_goals (refine at0 3 rfl (fun w' hq => pv_move rfl) ?_)
        all_goals (refine at2 4 rfl rfl rfl (fun w' hq => pv_fa (tF rfl) rfl) ?_)
        all_goals (refine at2 5 rfl rfl rfl (fun w' hq => pv_load (t1 rfl) rfl (by first | exact PT.ld0 (HX.mono hq) rfl | exact PT.ld (HX.mono hq) rfl)) ?_)
        all_goals first | (refine an3 6 rfl rfl rfl ?_) | (refine an0 6 rfl rfl rfl ?_) | (refine aw_act_g 6 (by kernel_rfl) rfl rfl rfl (by first | rfl | assumption | exact decide_eq_true (by omega) | exact decide_eq_false (by omega) | exact dec_notT (by omega) | exact dec_notF (by omega)) rfl ?_; refine act_call (f := 97) (by kernel_rfl) rfl (withI_c _ _ _) ?_; rintro e w1 ⟨rfl, hb⟩; refine ⟨_, rfl, grow_trans hS hb, fun hS => ?_⟩; clear hb)
        all_goals (refine at0 7 rfl (fun w' hq => pv_pick_t rfl (by first | assumption | exact decide_eq_true (by omega) | exact dec_notT (by omega)) rfl) ?_)
        all_goals (refine at0 8 rfl (fun w' hq => pv_move rfl) ?_)
        all_goals (refine at2 9 rfl rfl rfl (fun w' hq => pv_fa (tF rfl) rfl) ?_)
        all_goals (refine at2 10 rfl rfl rfl (fun w' hq => pv_load (t1 rfl) rfl (by first | exact PT.ld0 (HX.mono hq) rfl | exact PT.ld (HX.mono hq) rfl)) ?_)
        all_goals first | (refine an3 11 rfl rfl rfl ?_) | (refine an0 11 rfl rfl rfl ?_) | (refine aw_act_g 11 (by kernel_rfl) rfl rfl rfl (by first | rfl | assumption | exact decide_eq_true (by omega) | exact decide_eq_false (by omega) | exact dec_notT (by omega) | exact dec_notF (by omega)) rfl ?_; refine act_call (f := 97) (by kernel_rfl) rfl (withI_c _ _ _) ?_; rintro e w1 ⟨rfl, hb⟩; refine ⟨_, rfl, grow_trans hS hb, fun hS => ?_⟩; clear hb)
        all_goals (refine at0 12 rfl (fun w' hq => pv_pick_t rfl (by first | assumption | exact decide_eq_true (by omega) | exact dec_notT (by omega)) rfl) ?_)
        all_goals (refine at0 13 rfl (fun w' hq => pv_move rfl) ?_)
        all_goals (refine at2 14 rfl rfl rfl (fun w' hq => pv_fa (tF rfl) rfl) ?_)
        all_goals (refine at2 15 rfl rfl rfl (fun w' hq => pv_load (t1 rfl) rfl (by first | exact PT.ld0 (HX.mono hq) rfl | exact PT.ld (HX.mono hq) rfl)) ?_)
        all_goals first | (refine an3 16 rfl rfl rfl ?_) | (refine an0 16 rfl rfl rfl ?_) | (refine aw_act_g 16 (by kernel_rfl) rfl rfl rfl (by first | rfl | assumption | exact decide_eq_true (by omega) | exact decide_eq_false (by omega) | exact dec_notT (by omega) | exact dec_notF (by omega)) rfl ?_; refine act_call (f := 96) (by kernel_rfl) rfl (withL_c _ _ _) ?_; rintro e w1 ⟨rfl, hb⟩; refine ⟨_, rfl, grow_trans hS hb, fun hS => ?_⟩; clear hb)
        all_goals (refine at0 17 rfl (fun w' hq => pv_pick_t rfl (by first | assumption | exact decide_eq_true (by omega) | exact dec_notT (by omega)) rfl) ?_)
        all_goals (refine at0 18 rfl (fun w' hq => pv_move rfl) ?_)
        all_goals (refine at2 19 rfl rfl rfl (fun w' hq => pv_fa (tF rfl) rfl) ?_)
        all_goals (refine at2 20 rfl rfl rfl (fun w' hq => pv_load (t1 rfl) rfl (by first | exact PT.ld0 (HX.mono hq) rfl | exact PT.ld (HX.mono hq) rfl)) ?_)
        all_goals first | (refine an3 21 rfl rfl rfl ?_) | (refine an0 21 rfl rfl rfl ?_) | (refine aw_act_g 21 (by kernel_rfl) rfl rfl rfl (by first | rfl | assumption | exact decide_eq_true (by omega) | exact decide_eq_false (by omega) | exact dec_notT (by omega) | exact dec_notF (by omega)) rfl ?_; refine act_call (f := 96) (by kernel_rfl) rfl (withL_c _ _ _) ?_; rintro e w1 ⟨rfl, hb⟩; refine ⟨_, rfl, grow_trans hS hb, fun hS => ?_⟩; clear hb)
        all_goals (refine at0 22 rfl (fun w' hq => pv_pick_t rfl (by first | assumption | exact decide_eq_true (by omega) | exact dec_notT (by omega)) rfl) ?_)
        all_goals (refine at0 23 rfl (fun w' hq => pv_move rfl) ?_)
        all_goals (refine at2 24 rfl rfl rfl (fun w' hq => pv_fa (tF rfl) rfl) ?_)
        all_goals (refine at2 25 rfl rfl rfl (fun w' hq => pv_load (t1 rfl) rfl (by first | exact PT.ld0 (HX.mono hq) rfl | exact PT.ld (HX.mono hq) rfl)) ?_)
        all_goals first | (refine an3 26 rfl rfl rfl ?_) | (refine an0 26 rfl rfl rfl ?_) | (refine aw_act_g 26 (by kernel_rfl) rfl rfl rfl (by first | rfl | assumption | exact decide_eq_true (by omega) | exact decide_eq_false (by omega) | exact dec_notT (by omega) | exact dec_notF (by omega)) rfl ?_; refine act_call (f := 96) (by kernel_rfl) rfl (withL_c _ _ _) ?_; rintro e w1 ⟨rfl, hb⟩; refine ⟨_, rfl, grow_trans hS hb, fun hS => ?_⟩; clear hb)
        all_goals (refine at0 27 rfl (fun w' hq => pv_pick_t rfl (by first | assumption | exact decide_eq_true (by omega) | exact dec_notT (by omega)) rfl) ?_)
        all_goals (refine at0 28 rfl (fun w' hq => pv_move rfl) ?_)
        all_goals (refine at2 29 rfl rfl rfl (fun w' hq => pv_loada (tA rfl) rfl (by first | exact PT.lda (HX.mono hq)) (by rfl)) ?_)
        all_goals (refine at2 31 rfl rfl rfl (fun w' hq => pv_loada (tA rfl) rfl (by first | exact PT.lda (HX.mono hq)) (by rfl)) ?_)
        all_goals first | (refine an3 30 rfl rfl rfl ?_) | (refine an0 30 rfl rfl rfl ?_) | (refine aw_act_g 30 (by kernel_rfl) rfl rfl rfl (by first | rfl | assumption | exact decide_eq_true (by omega) | exact decide_eq_false (by omega) | exact dec_notT (by omega) | exact dec_notF (by omega)) rfl ?_; refine act_call (f := 98) (by kernel_rfl) rfl (of_e (HS.mono hS) hs) ?_; rintro e w1 ⟨rfl, hb⟩; refine ⟨_, rfl, grow_trans hS hb, fun hS => ?_⟩; clear hb)
        all_goals first | (refine an3 32 rfl rfl rfl ?_) | (refine an0 32 rfl rfl rfl ?_) | (refine aw_act_g 32 (by kernel_rfl) rfl rfl rfl (by first | rfl | assumption | exact decide_eq_true (by omega) | exact decide_eq_false (by omega) | exact dec_notT (by omega) | exact dec_notF (by omega)) rfl ?_; refine act_callm (f := 196) (t := 157) (v := .agg #[]) (r := .agg #[]) (meth_emay _) (by kernel_rfl) rfl rfl (emay_e hM (HS.mono hS) hs) ?_; rintro e w1 ⟨rfl, hb⟩; refine ⟨_, rfl, grow_trans hS hb, fun hS => ?_⟩; clear hb)
        all_goals (refine at0 33 rfl (fun w' hq => pv_pick_t rfl (by first | assumption | exact decide_eq_true (by omega) | exact dec_notT (by omega)) rfl) ?_)
        all_goals (refine at0 34 rfl (fun w' hq => pv_move rfl) ?_)
        all_goals (refine at1 35 rfl rfl rfl rfl (fun w' hq => pv_loada (tA rfl) rfl (by first | exact PT.lda (HX.mono hq)) (by rfl)) ?_)
        all_goals first | (refine an3 36 rfl rfl rfl ?_) | (refine an0 36 rfl rfl rfl ?_) | (refine aw_act_g 36 (by kernel_rfl) rfl rfl rfl (by first | rfl | assumption | exact decide_eq_true (by omega) | exact decide_eq_false (by omega) | exact dec_notT (by omega) | exact dec_notF (by omega)) rfl ?_; refine act_call (f := 99) (by kernel_rfl) rfl (bidsA_e hB (HS.mono hS)) ?_; rintro e w1 ⟨rfl, hb⟩; refine ⟨_, rfl, grow_trans hS hb, fun hS => ?_⟩; clear hb)
        all_goals (refine at0 37 rfl (fun w' hq => pv_pick_t rfl rfl rfl) ?_)
        all_goals (refine at0 38 rfl (fun w' hq => pv_assign rfl) ?_)
        all_goals (refine aw_done (by kernel_rfl) ?_; replace hw := hS; clear hS hNP)
        repeat' (first | (refine is_cw ?_; first | (refine cw_ret ?_)) | (refine is_qw ?_; first | (with_reducible refine qw_then ?_)))
        exact qw_ret1 rfl rfl ⟨rfl, (hE.mono hw).b⟩
end Go.Proofs.YtekomjnjddhfmaaGreat
namespace Go.Proofs.YtekomjnjddhfmaaGreat

def RowRef (r : Row) : Prop := there r.acct r.asset = true ∧ ¬ (r.free = 0 ∧ r.held = 0) ∧ ¬ (r.acct = 0 ∧ (r.held ≠ 0 ∨ r.free < -72057594037927936)) ∧ ¬ (0 < r.acct ∧ (r.free < 0 ∨ r.held < 0 ∨ mostA < r.free ∨ mostA - r.free < r.held))
def outA (l : List Row) (a : Int) : Int := l.foldl (fun o r => if r.asset = a ∧ r.acct = 0 then r.free else o) 0
def posA (l : List Row) (a : Int) : Int := ((l.filter fun r => r.asset == a && decide (0 < r.acct)).map fun r => r.free + r.held).sum
theorem outA_take {l : List Row} {k : Nat} {r : Row} (h : l[k]? = some r) (a : Int) : outA (l.take (k + 1)) a = if r.asset = a ∧ r.acct = 0 then r.free else outA (l.take k) a := by
  unfold outA; rw [List.take_add_one, h]; simp [List.foldl_append]
theorem sumA_take {l : List Row} {k : Nat} {r : Row} (h : l[k]? = some r) (a : Int) : sumA (l.take (k + 1)) a = sumA (l.take k) a + if r.asset = a then r.free + r.held else 0 := by
  unfold sumA; rw [List.take_add_one, h]
  by_cases h1 : r.asset = a <;> simp [List.filter_append, h1]
theorem pw_get {l : List Row} (h : l.Pairwise keyLt) {i j : Nat} (hij : i < j) {x y : Row} (hx : l[i]? = some x) (hy : l[j]? = some y) : keyLt x y := by
  obtain ⟨h1, rfl⟩ := List.getElem?_eq_some_iff.1 hx
  obtain ⟨h2, rfl⟩ := List.getElem?_eq_some_iff.1 hy
  exact List.pairwise_iff_getElem.1 h i j h1 h2 hij
theorem pw_snoc {l : List Row} {k : Nat} {r : Row} (h : (l.take k).Pairwise keyLt) (hr : l[k]? = some r) (hk : k = 0 ∨ ∃ q, l[k - 1]? = some q ∧ keyLt q r) : (l.take (k + 1)).Pairwise keyLt := by
  rw [List.take_add_one, hr, List.pairwise_append]
  refine ⟨h, by simp, fun x hx y hy => ?_⟩
  simp at hy; subst hy
  obtain ⟨j, hj⟩ := List.getElem?_of_mem hx
  have hjk : j < k := by have := (List.getElem?_eq_some_iff.1 hj).1; rw [List.length_take] at this; omega
  rcases hk with hk | ⟨q, hq, hlt⟩
  · omega
  · by_cases he : j = k - 1
    · subst he
      rw [List.getElem?_take, if_pos hjk, hq] at hj
      injection hj with hj; subst hj; exact hlt
    · have hq' : (l.take k)[k - 1]? = some q := by rw [List.getElem?_take, if_pos (by omega), hq]
      exact keyLt_trans (pw_get h (show j < k - 1 by omega) hj hq') hlt
theorem mem_of_all {l : List Row} {p : Row → Prop} (h : ∀ j, j < l.length → ∀ r, l[j]? = some r → p r) : ∀ r ∈ l, p r := fun r hr => by
  obtain ⟨j, hj⟩ := List.getElem?_of_mem hr
  exact h j (List.getElem?_eq_some_iff.1 hj).1 r hj
theorem key0_len : ∀ (xs : List Int) (lo : Int), xs.Pairwise (· < ·) → (∀ x ∈ xs, lo ≤ x ∧ x ≤ 64) → lo ≤ 65 → (xs.length : Int) ≤ 65 - lo
  | [], lo, _, _, h => by simp; omega
  | x :: xs, lo, hp, hm, _ => by
    have hx := hm x (by simp)
    rw [List.pairwise_cons] at hp
    have := key0_len xs (x + 1) hp.2 (fun y hy => ⟨by have := hp.1 y hy; omega, (hm y (by simp [hy])).2⟩) (by omega)
    simp only [List.length_cons]; omega
theorem sum_le (m : Int) : ∀ (xs : List Int), (∀ x ∈ xs, 0 ≤ x ∧ x ≤ m) → 0 ≤ xs.sum ∧ xs.sum ≤ m * xs.length
  | [], _ => by simp
  | x :: xs, h => by
    have h1 := h x (by simp)
    have h2 := sum_le m xs (fun y hy => h y (by simp [hy]))
    simp only [List.sum_cons, List.length_cons]
    rw [show ((xs.length + 1 : Nat) : Int) = (xs.length : Int) + 1 by omega, Int.mul_add, Int.mul_one]
    omega
theorem posA_near {l : List Row} (hr : ∀ r ∈ l, RowRef r) (hp : l.Pairwise keyLt) (a : Int) : 0 ≤ posA l a ∧ posA l a ≤ 72057594037927936 := by
  unfold posA
  have hlen : (((l.filter fun r => r.asset == a && decide (0 < r.acct)).map (·.acct)).length : Int) ≤ 65 - 1 := by
    refine key0_len _ 1 ?_ (fun x hx => ?_) (by omega)
    · rw [List.pairwise_map]
      refine ((hp.filter _).imp_of_mem fun {x y} hx hy h => ?_)
      simp only [List.mem_filter, Bool.and_eq_true, beq_iff_eq] at hx hy
      unfold keyLt at h; omega
    · obtain ⟨r, hrm, rfl⟩ := List.mem_map.1 hx
      simp only [List.mem_filter, Bool.and_eq_true, decide_eq_true_eq] at hrm
      have := there_iff.1 (hr r hrm.1).1
      omega
  rw [List.length_map] at hlen
  have := sum_le mostA ((l.filter fun r => r.asset == a && decide (0 < r.acct)).map fun r => r.free + r.held) (fun x hx => by
    obtain ⟨r, hrm, rfl⟩ := List.mem_map.1 hx
    simp only [List.mem_filter, Bool.and_eq_true, decide_eq_true_eq] at hrm
    have := (hr r hrm.1).2.2.2
    omega)
  rw [List.length_map] at this
  unfold mostA at this
  omega
theorem sumA_parts {l : List Row} (h : ∀ r ∈ l, 0 ≤ r.acct) (a : Int) : sumA l a = freeAt l 0 a + heldAt l 0 a + posA l a := by
  induction l with
  | nil => rfl
  | cons r l ih =>
    have hr := h r (by simp)
    have ih := ih (fun x hx => h x (by simp [hx]))
    unfold sumA freeAt heldAt posA at *
    by_cases h1 : r.asset = a
    · by_cases h2 : r.acct = 0
      · have h3 : ¬ 0 < r.acct := by omega
        simp only [List.filter_cons, h1, h2, isKey, beq_self_eq_true, Bool.and_self, if_true, List.map_cons, List.sum_cons, show (decide ((0:Int) < 0)) = false from rfl, Bool.and_false, Bool.false_eq_true, if_false]
        omega
      · have h3 : 0 < r.acct := by omega
        simp only [List.filter_cons, h1, isKey, beq_self_eq_true, Bool.and_true, beq_iff_eq, h2, if_false, h3, decide_true, Bool.and_self, if_true, List.map_cons, List.sum_cons]
        omega
    · simp only [List.filter_cons, isKey, beq_iff_eq, h1, Bool.and_eq_true, and_false, if_false, false_and]
      exact ih
theorem outA_at {l : List Row} (hp : l.Pairwise keyLt) (_h : ∀ r ∈ l, 0 ≤ r.acct) (a : Int) : outA l a = freeAt l 0 a := by
  have key : ∀ k, k ≤ l.length → outA (l.take k) a = freeAt (l.take k) 0 a := by
    intro k
    induction k with
    | zero => intro _; rfl
    | succ k ih =>
      intro hk
      have hx : l[k]? = some l[k] := List.getElem?_eq_getElem (by omega)
      rw [outA_take hx, ih (by omega)]
      rw [List.take_add_one, hx]
      show _ = freeAt (l.take k ++ [l[k]]) 0 a
      rw [freeAt_append]
      by_cases hc : l[k].asset = a ∧ l[k].acct = 0
      · rw [if_pos hc]
        have h0 : freeAt (l.take k) 0 a = 0 := by
          refine (freeAt_none fun r hr he => ?_).1
          obtain ⟨j, hj⟩ := List.getElem?_of_mem hr
          have hjk : j < k := by have := (List.getElem?_eq_some_iff.1 hj).1; rw [List.length_take] at this; omega
          rw [List.getElem?_take, if_pos hjk] at hj
          have := pw_get hp hjk hj hx
          unfold keyLt at this; omega
        have h1 : freeAt [l[k]] 0 a = l[k].free := by simp [freeAt, isKey, hc.1, hc.2]
        omega
      · rw [if_neg hc]
        have h1 : freeAt [l[k]] 0 a = 0 := by
          have : isKey 0 a l[k] = false := by
            rw [Bool.eq_false_iff]; intro e; rw [isKey_iff] at e; exact hc ⟨e.2, e.1⟩
          simp [freeAt, this]
        omega
  have := key l.length (Nat.le_refl _)
  rwa [List.take_length] at this
theorem held0 {l : List Row} (h : ∀ r ∈ l, r.acct = 0 → r.held = 0) (a : Int) : heldAt l 0 a = 0 := by
  unfold heldAt
  have : ∀ xs : List Int, (∀ x ∈ xs, x = 0) → xs.sum = 0 := by
    intro xs
    induction xs with
    | nil => intro _; rfl
    | cons x xs ih => intro h; rw [List.sum_cons, h x (by simp), ih (fun y hy => h y (by simp [hy]))]; rfl
  refine this _ fun x hx => ?_
  obtain ⟨r, hr, rfl⟩ := List.mem_map.1 hx
  simp only [List.mem_filter, isKey_iff] at hr
  exact h r hr.1 hr.2.1
theorem may_ref {l : List Row} : MayR l ↔ (∀ r ∈ l, RowRef r) ∧ l.Pairwise keyLt ∧ ∀ a ∈ List.range 17, outA l (a : Nat) = -posA l (a : Nat) := by
  constructor
  · rintro ⟨h1, h2, h3⟩
    have ha : ∀ r ∈ l, 0 ≤ r.acct := fun r hr => (there_iff.1 (h1 r hr).1).1
    have hz : ∀ r ∈ l, r.acct = 0 → r.held = 0 := fun r hr h => ((h1 r hr).2.2.1 h).1
    -- rows of accounts: their own part of the document's test
    have hpos : ∀ r ∈ l, ¬ (0 < r.acct ∧ (r.free < 0 ∨ r.held < 0 ∨ mostA < r.free ∨ mostA - r.free < r.held)) := fun r hr => by
      have := (h1 r hr).2.2.2
      rintro ⟨h4, h5⟩
      have := this (by omega)
      omega
    have hposn : ∀ a, 0 ≤ posA l a ∧ posA l a ≤ 72057594037927936 := fun a => by
      -- 'posA' goes by the accounts' rows alone
      have e : posA l a = posA (l.filter fun r => decide (0 < r.acct)) a := by
        unfold posA; rw [List.filter_filter]; congr 2; apply List.filter_congr; intro r _
        cases decide (0 < r.acct) <;> simp
      rw [e]
      refine posA_near (fun r hr => ?_) (h2.filter _) a
      simp only [List.mem_filter, decide_eq_true_eq] at hr
      have h4 := (h1 r hr.1)
      exact ⟨h4.1, fun h => by rcases h4.2.1 with h5 | h5 <;> omega, fun h => by omega, hpos r hr.1⟩
    refine ⟨fun r hr => ⟨(h1 r hr).1, fun h => ?_, ?_, hpos r hr⟩, h2, fun a haa => ?_⟩
    · rcases (h1 r hr).2.1 with h5 | h5 <;> omega
    · rintro ⟨h4, h5⟩
      have h6 := there_iff.1 (h1 r hr).1
      have h7 := h3 r.asset.toNat (by rw [List.mem_range]; omega)
      rw [show ((r.asset.toNat : Nat) : Int) = r.asset by omega, sumA_parts ha, held0 hz] at h7
      have h8 := (freeAt_mem h2 hr).1
      rw [h4] at h8
      have h9 := hposn r.asset
      have h10 := hz r hr h4
      rcases h5 with h5 | h5
      · exact h5 h10
      · omega
    · have h7 := h3 a haa
      rw [sumA_parts ha, held0 hz] at h7
      rw [outA_at h2 ha]; omega
  · rintro ⟨h1, h2, h3⟩
    have ha : ∀ r ∈ l, 0 ≤ r.acct := fun r hr => (there_iff.1 (h1 r hr).1).1
    have hz : ∀ r ∈ l, r.acct = 0 → r.held = 0 := fun r hr h => by
      rcases Classical.em (r.held = 0) with h5 | h5
      · exact h5
      · exact absurd ⟨h, Or.inl h5⟩ (h1 r hr).2.2.1
    refine ⟨fun r hr => ⟨(h1 r hr).1, ?_, fun h => ⟨hz r hr h, ?_⟩, fun h => ?_⟩, h2, fun a haa => ?_⟩
    · have := (h1 r hr).2.1; omega
    · have h6 := there_iff.1 (h1 r hr).1
      have h7 := h3 r.asset.toNat (by rw [List.mem_range]; omega)
      rw [show ((r.asset.toNat : Nat) : Int) = r.asset by omega, outA_at h2 ha] at h7
      have h8 := (freeAt_mem h2 hr).1
      rw [h] at h8
      have h9 := posA_near h1 h2 r.asset
      omega
    · have h4 := (h1 r hr).2.2.2
      have h5 := ha r hr
      have : 0 < r.acct := by omega
      omega
    · have h7 := h3 a haa
      rw [outA_at h2 ha] at h7
      rw [sumA_parts ha, held0 hz]; omega
theorem may_near {l : List Row} (h : MayR l) (k : Nat) (a : Int) : -72057594037927936 ≤ sumA (l.take k) a ∧ sumA (l.take k) a ≤ 72057594037927936 := by
  obtain ⟨h1, h2, _⟩ := may_ref.1 h
  have hsub : ∀ r ∈ l.take k, r ∈ l := fun r hr => List.mem_of_mem_take hr
  have hp : (l.take k).Pairwise keyLt := h2.sublist (List.take_sublist _ _)
  have ha : ∀ r ∈ l.take k, 0 ≤ r.acct := fun r hr => (there_iff.1 (h1 r (hsub r hr)).1).1
  have hz : ∀ r ∈ l.take k, r.acct = 0 → r.held = 0 := fun r hr e => ((h.1 r (hsub r hr)).2.2.1 e).1
  rw [sumA_parts ha, held0 hz]
  have h3 := posA_near (fun r hr => h1 r (hsub r hr)) hp a
  by_cases hk : ∃ r ∈ l.take k, r.acct = 0 ∧ r.asset = a
  · obtain ⟨r, hr, e1, e2⟩ := hk
    have h4 := (freeAt_mem hp hr).1
    rw [e1, e2] at h4
    have h5 := (h1 r (hsub r hr)).2.2.1
    have h6 := ((h.1 r (hsub r hr)).2.2.1 e1).2
    omega
  · have h4 := (freeAt_none (l := l.take k) (a := 0) (s := a) fun r hr e => hk ⟨r, hr, e⟩).1
    omega
end Go.Proofs.YtekomjnjddhfmaaGreat
namespace Go.Proofs.YtekomjnjddhfmaaGreat
open Go.RowKit

def parts (l : List Row) (a : Int) : List Int := (l.filter fun r => r.asset == a).flatMap fun r => [r.free, r.held]



theorem there_d (a s : Int) : there a s = decide (0 ≤ a ∧ a ≤ 64 ∧ 0 ≤ s ∧ s ≤ 16) := by rw [Bool.eq_iff_iff, there_iff, decide_eq_true_eq]

abbrev intsV (S : List Int) : List Value := S.map fun x => Value.int .i64 x
theorem intsV_flat (S : List Int) : intsV S = S.flatMap encI := by
  induction S with
  | nil => rfl
  | cons x S ih => rw [List.flatMap_cons, ← ih]; rfl
theorem ptI {w : World} {B : Nat} {T : TypeId} {S : List Int} (h : PT w B T (intsV S)) {m : Nat} (hm : m = S.length) (hl : S.length ≤ 9223372036854775807) : SlR encI 1 w (some ⟨B, 0, none⟩) m S := by
  rw [intsV_flat] at h; exact PT.slR encI_len h hm (by omega)
theorem intsV_set (S : List Int) (i : Nat) (x : Int) : (intsV S).set i (.int .i64 x) = intsV (S.set i x) := (List.map_set).symm
theorem ar63 : arB Tryz.prog 161 17 1 = true := by kernel_rfl
theorem tyv63 (w : World) : (zeroValue 161).run Tryz.prog w = .ok (.agg (intsV (List.replicate 17 0)).toArray) w := by kernel_rfl
theorem tyb63 : (Tryz.prog).built 161 [] = some (intsV (List.replicate 17 0)).toArray := by kernel_rfl
def sums17 (l : List Row) : List Int := (List.range 17).map fun a => sumA l (a : Nat)
theorem sums17_len (l : List Row) : (sums17 l).length = 17 := by simp [sums17]
theorem sums17_at (l : List Row) {a : Int} (h : 0 ≤ a ∧ a ≤ 16) : (sums17 l)[a.toNat]? = some (sumA l a) := by
  unfold sums17
  rw [List.getElem?_map, List.getElem?_range (by omega)]
  simp only [Option.map_some]; congr 2; omega
theorem sums17_take {l : List Row} {k : Nat} {r : Row} (h : l[k]? = some r) (ha : 0 ≤ r.asset ∧ r.asset ≤ 16) : sums17 (l.take (k + 1)) = (sums17 (l.take k)).set r.asset.toNat (sumA (l.take k) r.asset + (r.free + r.held)) := by
  apply List.ext_getElem?
  intro i
  rw [List.getElem?_set]
  unfold sums17
  by_cases hi : i < 17
  · rw [List.getElem?_map, List.getElem?_range hi]
    by_cases hr : r.asset.toNat = i
    · subst hr
      rw [if_pos rfl, if_pos (by simp; omega)]
      simp only [Option.map_some]
      rw [show ((r.asset.toNat : Nat) : Int) = r.asset by omega, sumA_take h, if_pos rfl]
    · rw [if_neg hr, List.getElem?_map, List.getElem?_range hi]
      simp only [Option.map_some]
      rw [sumA_take h, if_neg (by omega), Int.add_zero]
  · rw [List.getElem?_eq_none (by simp; omega), if_neg (by omega), List.getElem?_eq_none (by simp; omega)]
theorem sums17_zero (l : List Row) : sums17 l = List.replicate 17 0 ↔ ∀ a ∈ List.range 17, sumA l (a : Nat) = 0 := by
  unfold sums17
  rw [show (List.replicate 17 (0 : Int)) = (List.range 17).map fun _ => (0 : Int) by decide]
  rw [List.map_inj_left]
def lastK (l : List Row) (k : Nat) : Int × Int := match k with
  | 0 => (-1, 0)
  | j + 1 => match l[j]? with
    | some r => (r.acct, r.asset)
    | none => (-1, 0)
theorem lastK_at {l : List Row} {k : Nat} {r : Row} (h : l[k]? = some r) : lastK l (k + 1) = (r.acct, r.asset) := by simp [lastK, h]
theorem may_pd (a s : Int) (w : World) : Calls Tryz.prog 131 #[.agg #[.int .i64 a, .int .i64 s]] w fun e w' => e = .returned (.bool (decide (0 ≤ a ∧ a ≤ 64 ∧ 0 ≤ s ∧ s ≤ 16))) ∧ Below w.heap.size w w' := by
  rw [← there_d]; exact may_p a s w
theorem compI_lt (a s b t : Int) : compI a s b t < 0 ↔ a < b ∨ (a = b ∧ s < t) := by
  unfold compI cmpI; (repeat' split) <;> omega
theorem wrongR_ok {r : Row} : wrongR r = 0 ↔ (r.acct = 0 ∨ (0 ≤ r.free ∧ 0 ≤ r.held ∧ r.free + r.held ≤ mostA)) := by
  have h : -9223372036854775808 ≤ r.free + r.held ∧ r.free + r.held ≤ 9223372036854775807 → IntKind.i64.wrap (r.free + r.held) = r.free + r.held := fun h => IntWalk.i64_in _ h
  unfold wrongR mostA
  (repeat' split) <;> omega
theorem ok_d (r : Row) : RowOk r ↔ (0 ≤ r.acct ∧ r.acct ≤ 64 ∧ 0 ≤ r.asset ∧ r.asset ≤ 16) ∧ wrongR r = 0 ∧ ¬ (r.free = 0 ∧ r.held = 0) ∧ ¬ (r.acct = 0 ∧ (r.held ≠ 0 ∨ 0 < r.free)) := by
  unfold RowOk
  rw [there_iff, wrongR_ok]
  omega
theorem last_lt {l : List Row} {k : Nat} {r : Row} (hp : (l.take k).Pairwise keyLt) (hx : l[k]? = some r) : compI (lastK l k).1 (lastK l k).2 r.acct r.asset < 0 → (l.take (k + 1)).Pairwise keyLt := by
  intro h
  rw [compI_lt] at h
  refine pw_snoc hp hx ?_
  cases k with
  | zero => exact Or.inl rfl
  | succ j =>
    have hj : l[j]? = some (l[j]'(by have := (List.getElem?_eq_some_iff.1 hx).1; omega)) := List.getElem?_eq_getElem _
    rw [lastK_at hj] at h
    exact Or.inr ⟨_, hj, h⟩
theorem last_not {l : List Row} {k : Nat} {r : Row} (hx : l[k]? = some r) (ha : 0 ≤ r.acct) : ¬ compI (lastK l k).1 (lastK l k).2 r.acct r.asset < 0 → ¬ l.Pairwise keyLt := by
  intro h hp
  rw [compI_lt] at h
  cases k with
  | zero => simp [lastK] at h; omega
  | succ j =>
    have hj : l[j]? = some (l[j]'(by have := (List.getElem?_eq_some_iff.1 hx).1; omega)) := List.getElem?_eq_getElem _
    rw [lastK_at hj] at h
    exact h (pw_get hp (Nat.lt_succ_self j) hj hx)
theorem slNe {α : Type} {enc : α → List Value} {k : Nat} {w : World} {a : Option Addr} {cap : Nat} {xs : List α} {N : Nat} (h : SlR enc k w a cap xs) (hN : w.heap.size ≤ N) (hc : 0 < cap) : ∀ ad, a = some ad → some ad.block ≠ some N := fun ad had e => by
  obtain ⟨_, h2, _⟩ := h.ofSome ad had hc
  injection e with e; omega
set_option maxRecDepth 20000 in
set_option maxHeartbeats 4000000 in
theorem may_c {l : List Row} {m : Nat} {ad : Option Addr} {cap : Nat} {w : World} (hm : l.length = m) (HS : SlL w ad cap l) (hin : In64R l) : Calls Tryz.prog 105 #[.slice ad m cap] w fun e w' => e = .returned (.bool (mayR l)) ∧ Below w.heap.size w w' := by
  subst hm
  have hE := Ext.refl w
  have hw := Below.refl w.heap.size w
  have hla := HS.le
  have hma := HS.max
  have HS0 := HS
  refine fn_enter 93 Tryz.func105 rfl rfl rfl ?_
  repeat' (first | (refine lw_pure rfl (pv_assign rfl) ?_) | (refine is_cw ?_; first | (refine cw_seq ?_) | (refine cw_region ?_)) | (refine is_qw ?_; first | (with_reducible refine qw_then ?_)) | (refine lw_nil ?_) | ((refine is_bd ?_; first | (refine lw_pure rfl (tyB_147 rfl rfl rfl) ?_))))
  refine lw_varN rfl (by first | exact tyv_29 | exact tyv_30 | exact tyv_33 | exact tyv_34 | exact tyv_36 | exact tyv_37 | exact tyv_38 | exact tyv_39 | exact tyv_40 | exact tyv_41 | exact tyv_43 | exact tyv_44 | exact tyv_45 | exact tyv_46 | exact tyv_73 | exact tyv_74 | exact tyv_80 | exact tyv_81 | exact tyv_107 | exact tyv_108 | exact tyv_123 | exact tyv_146 | exact tyv_147 | exact tyv_148 | exact tyv_149) rfl (tZ rfl) (fun _ => rfl) rfl rfl ?_; intro NL wn hNL HL hb; replace hNL := Nat.le_trans hw.size hNL; replace hw := grow_trans hw hb; clear hb
  replace HS := HS.mono hw
  repeat' (first | (refine is_cw ?_; first | (refine cw_seq ?_) | (refine cw_region ?_)) | (refine is_qw ?_; first | (with_reducible refine qw_then ?_)) | (refine lw_nil ?_))
  refine lw_allocN (cs := intsV (List.replicate 17 0)) rfl tyv63 rfl ?_; intro NS w2 hNS HN hb
  have hNE : NL ≠ NS := by have := HL.lt; omega
  replace HL := HL.mono hb
  have hNS0 : w.heap.size ≤ NS := Nat.le_trans hw.size hNS
  replace hw := grow_trans hw hb
  clear hb HS
  repeat' (first | (refine lw_pure rfl (pv_move rfl) ?_) | (refine is_cw ?_; first | (refine cw_seq ?_) | (refine cw_region ?_) | (refine cw_block ?_)) | (refine is_qw ?_; first | (with_reducible refine qw_then ?_)) | (refine lw_nil ?_) | ((refine is_bi ?_; first | (refine lw_pure rfl (pv_lenl (tS rfl) rfl) ?_))))
  refine cw_loop (σ := Nat) (fun k => [(0, .slice ad l.length cap), (3, .pointer (some ⟨NL, 0, none⟩)), (4, .pointer (some ⟨NS, 0, none⟩)), (11, .slice ad l.length cap), (12, .int .i64 (l.length : Nat)), (13, .int .i64 (k : Nat))]) (fun k wr => k ≤ l.length ∧ Below w.heap.size w wr ∧ (PT wr NL 147 [.int .i64 (lastK l k).1, .int .i64 (lastK l k).2] ∧ PT wr NS 161 (intsV (sums17 (l.take k)))) ∧ (∀ j, j < k → ∀ r, l[j]? = some r → RowOk r) ∧ (l.take k).Pairwise keyLt ∧ ∀ a, 0 ≤ a ∧ a ≤ 16 → -4611686018427387904 ≤ sumA (l.take k) a ∧ sumA (l.take k) a ≤ 4611686018427387904) (fun k => l.length - k) 0 (by repeat' (first | exact trivial | refine ⟨rfl, ?_⟩)) ⟨Nat.zero_le _, hw, ⟨HL, HN⟩, by omega, by simp, by intro a _; simp [sumA]⟩ ?_
  clear hw HL HN
  rintro k wr ⟨hk, hw, ⟨HL, HN⟩, hn, hp, hs⟩
  by_cases hlt : k < l.length
  · have hxk : l[k]? = some l[k] := List.getElem?_eq_getElem hlt
    obtain ⟨ab, ao, rfl, -, -⟩ := HS0.at (by intro h; rw [h] at hlt; simp at hlt)
    have hrin := hin _ (List.getElem_mem hlt)
    generalize hr : l[k] = r at hxk hrin
    have HS := HS0
    have HL0 := HL
    have HN0 := HN
    replace hE := hE.mono hw; replace HS := HS.mono hw; clear hw; have hw := Below.refl wr.heap.size wr
    repeat' (first | (refine is_cw ?_; first | (refine cw_seq ?_) | (refine cw_region ?_) | (refine is_cd ?_; refine cw_true rfl (by first | assumption | exact decide_eq_true (by omega) | exact dec_notT (by omega)) ?_) | (refine cw_skip ?_) | (refine cw_block ?_)) | (refine is_qw ?_; first | (with_reducible refine qw_then ?_)) | (refine lw_nil ?_) | ((refine is_bin ?_; first | (refine lw_pure rfl (pv_lss rfl rfl) ?_))) | ((refine is_load ?_; first | (refine lw_pure rfl (pv_loada (tA rfl) rfl (by first | exact SlR.lda (HS.mono hw) hxk) (by rfl)) ?_))) | ((refine is_ia ?_; first | (refine lw_pure rfl (pv_ian (tS rfl) rfl rfl (by omega)) ?_))))
    refine lw_varN rfl (by first | exact tyv_29 | exact tyv_30 | exact tyv_33 | exact tyv_34 | exact tyv_36 | exact tyv_37 | exact tyv_38 | exact tyv_39 | exact tyv_40 | exact tyv_41 | exact tyv_43 | exact tyv_44 | exact tyv_45 | exact tyv_46 | exact tyv_73 | exact tyv_74 | exact tyv_80 | exact tyv_81 | exact tyv_107 | exact tyv_108 | exact tyv_123 | exact tyv_146 | exact tyv_147 | exact tyv_148 | exact tyv_149) rfl (tZ rfl) (fun _ => rfl) rfl rfl ?_; intro N6 wn hN6 HX hb; replace hN6 := Nat.le_trans hw.size hN6; replace hw := grow_trans hw hb; clear hb
    replace hE := hE.mono hw; replace HS := HS.mono hw; replace HL := HL.mono hw; replace HN := HN.mono hw; clear hw; have hw := Below.refl wn.heap.size wn
    repeat' (first | (refine is_cw ?_; first | (refine cw_seq ?_) | (refine cw_region ?_)) | (refine is_qw ?_; first | (with_reducible refine qw_then ?_)) | (refine lw_nil ?_) | ((refine is_load ?_; first | (refine lw_pure rfl (pv_load (t1 rfl) rfl (by first | exact PT.ld0 (HX.mono hw) rfl | exact PT.ld (HX.mono hw) rfl)) ?_))) | ((refine is_fa ?_; first | (refine lw_pure rfl (pv_fa (tF rfl) rfl) ?_))) | ((refine is_bd ?_; first | (refine lw_pure rfl (tyB_147 rfl rfl rfl) ?_) | (refine lw_pure rfl (tyB_149 rfl rfl rfl) ?_))))
    refine lw_varN rfl (by first | exact tyv_29 | exact tyv_30 | exact tyv_33 | exact tyv_34 | exact tyv_36 | exact tyv_37 | exact tyv_38 | exact tyv_39 | exact tyv_40 | exact tyv_41 | exact tyv_43 | exact tyv_44 | exact tyv_45 | exact tyv_46 | exact tyv_73 | exact tyv_74 | exact tyv_80 | exact tyv_81 | exact tyv_107 | exact tyv_108 | exact tyv_123 | exact tyv_146 | exact tyv_147 | exact tyv_148 | exact tyv_149) rfl (tZ rfl) (fun _ => rfl) rfl rfl ?_; intro N7 wn hN7 HY hb; replace hN7 := Nat.le_trans hw.size hN7; replace hw := grow_trans hw hb; clear hb
    replace hE := hE.mono hw; replace HS := HS.mono hw; replace HL := HL.mono hw; replace HN := HN.mono hw; replace HX := HX.mono hw; clear hw; have hw := Below.refl wn.heap.size wn
    have hF : ¬ RowOk r → decide (MayR l) = false := fun h => by
      rw [decide_eq_false_iff_not]; intro hM; exact h (hM.1 r (List.mem_of_getElem? hxk))
    have hG : 0 ≤ r.acct → ¬ compI (lastK l k).1 (lastK l k).2 r.acct r.asset < 0 → decide (MayR l) = false := fun h1 h => by
      rw [decide_eq_false_iff_not]; intro hM; exact last_not hxk h1 h hM.2.1
    have hFG : ¬ (((0 ≤ r.acct ∧ r.acct ≤ 64 ∧ 0 ≤ r.asset ∧ r.asset ≤ 16) ∧ wrongR r = 0 ∧ ¬ (r.free = 0 ∧ r.held = 0) ∧ ¬ (r.acct = 0 ∧ (r.held ≠ 0 ∨ 0 < r.free))) ∧ compI (lastK l k).1 (lastK l k).2 r.acct r.asset < 0) → decide (MayR l) = false := fun h => by
      rcases Classical.em (RowOk r) with h1 | h1
      · exact hG (by have := (ok_d r).1 h1; omega) (fun h2 => h ⟨(ok_d r).1 h1, h2⟩)
      · exact hF h1
    refine lw_nil ?_; (with_reducible refine qw_then ?_)
    refine cw_cut (σ := Unit) (fun _ => [(0, .slice (some ⟨ab, ao, none⟩) l.length cap), (3, .pointer (some ⟨NL, 0, none⟩)), (4, .pointer (some ⟨NS, 0, none⟩)), (6, .pointer (some ⟨N6, 0, none⟩)), (7, .pointer (some ⟨N7, 0, none⟩)), (11, .slice (some ⟨ab, ao, none⟩) l.length cap), (12, .int .i64 (l.length : Nat)), (13, .int .i64 (k : Nat))]) (fun _ w' => Below wn.heap.size wn w' ∧ (((0 ≤ r.acct ∧ r.acct ≤ 64 ∧ 0 ≤ r.asset ∧ r.asset ≤ 16) ∧ wrongR r = 0 ∧ ¬ (r.free = 0 ∧ r.held = 0) ∧ ¬ (r.acct = 0 ∧ (r.held ≠ 0 ∨ 0 < r.free))) ∧ compI (lastK l k).1 (lastK l k).2 r.acct r.asset < 0)) ?_ ?_
    · repeat' (first | (refine lw_pure rfl (pv_move rfl) ?_) | (refine lw_pure rfl (pv_assign rfl) ?_) | (refine lw_call (f := 131) (by kernel_rfl) rfl rfl (may_pd _ _ _) ?_; rintro e w1 ⟨rfl, hb⟩; refine ⟨_, rfl, ?_⟩; replace hw := grow_trans hw hb; clear hb) | (refine lw_call (f := 123) (by kernel_rfl) rfl rfl (compare_c _ _ _ _ _) ?_; rintro e w1 ⟨rfl, hb⟩; refine ⟨_, rfl, ?_⟩; replace hw := grow_trans hw hb; clear hb) | (refine lw_call (f := 120) (by kernel_rfl) rfl rfl (wrong_c _ _) ?_; rintro e w1 ⟨rfl, hb⟩; refine ⟨_, rfl, ?_⟩; replace hw := grow_trans hw hb; clear hb) | (refine is_cw ?_; first | (refine cw_seq ?_) | (refine cw_region ?_) | (refine cw_true rfl rfl ?_) | (refine cw_false rfl rfl ?_) | (refine cw_skip ?_) | (refine cw_ret ?_)) | (refine is_qw ?_; first | (with_reducible refine qw_then ?_) | (with_reducible refine qw_then_ret ?_) | (with_reducible refine qw_in_ret ?_)) | (refine lw_nil ?_) | (refine is_guarded ?_; first | (refine lw_not rfl rfl rfl rfl ?_) | (refine lw_not_u rfl rfl rfl ?_) | (refine lw_on rfl rfl rfl ?_) | (refine lw_on rfl rfl (by first | assumption | exact decide_eq_true (by omega) | exact decide_eq_false (by omega) | exact dec_notT (by omega) | exact dec_notF (by omega)) ?_) | (refine lw_not rfl rfl rfl (by first | assumption | exact decide_eq_true (by omega) | exact decide_eq_false (by omega) | exact dec_notT (by omega) | exact dec_notF (by omega)) ?_) | (refine lw_gs_t rfl rfl rfl (fun hc => ?_) (fun hc => ?_) <;> (first | replace hc := of_decide_eq_true hc | replace hc := of_decide_eq_false hc | replace hc := dec_nT hc | replace hc := dec_nF hc | skip) <;> (try (exfalso; omega))) | (refine lw_gs_f rfl rfl rfl (fun hc => ?_) (fun hc => ?_) <;> (first | replace hc := of_decide_eq_true hc | replace hc := of_decide_eq_false hc | replace hc := dec_nT hc | replace hc := dec_nF hc | skip) <;> (try (exfalso; omega)))) | ((refine is_bin ?_; first | (refine lw_pure rfl (pv_eql rfl rfl) ?_) | (refine lw_pure rfl (pv_neq rfl rfl) ?_) | (refine lw_pure rfl (pv_gtr rfl rfl) ?_) | (refine lw_pure rfl (pv_geq rfl rfl) ?_))) | ((refine is_load ?_; first | (refine lw_pure rfl (pv_loadp (tA rfl) rfl (by first | exact PT.ldp (HY.mono hw)) (by first | (simp only [Nat.add_zero, List.drop_zero, List.take_succ_cons, List.take_zero]; rfl) | (simp only [Nat.zero_add, Nat.add_zero, List.drop_zero, List.drop_succ_cons, List.take_succ_cons, List.take_zero]; rfl) | (simp only [Nat.zero_add, List.drop_zero, List.drop_succ_cons, List.take_succ_cons, List.take_zero]; rfl)) rfl) ?_) | (refine lw_pure rfl (pv_load (t1 rfl) rfl (by first | exact PT.ld0 (HX.mono hw) rfl | exact PT.ld (HX.mono hw) rfl | exact PT.ld0 (HY.mono hw) rfl | exact PT.ld (HY.mono hw) rfl | exact PT.ld0 (HL.mono hw) rfl | exact PT.ld (HL.mono hw) rfl)) ?_) | (refine lw_pure rfl (pv_loada (tA rfl) rfl (by first | exact PT.lda (HX.mono hw) | exact PT.lda (HY.mono hw) | exact PT.lda (HL.mono hw)) (by rfl)) ?_))) | ((refine is_fa ?_; first | (refine lw_pure rfl (pv_fa (tF rfl) rfl) ?_))) | ((refine is_un ?_; first | (refine lw_pure rfl (pv_not rfl) ?_))) | (refine is_pk ?_; refine lw_pure rfl (pv_pick_t rfl rfl rfl) ?_) | (refine is_pk ?_; refine lw_pure rfl (pv_pick_f rfl rfl rfl) ?_) | (refine is_pk ?_; refine lw_pure rfl (pv_pick_t rfl (by first | assumption | exact decide_eq_true (by omega) | exact dec_notT (by omega)) rfl) ?_) | (refine is_pk ?_; refine lw_pure rfl (pv_pick_f rfl (by first | assumption | exact decide_eq_false (by omega) | exact dec_notF (by omega)) rfl) ?_) | (refine is_cw ?_; refine cw_split rfl (fun hc => ?_) (fun hc => ?_) <;> (first | replace hc := of_decide_eq_true hc | replace hc := of_decide_eq_false hc | replace hc := dec_nT hc | replace hc := dec_nF hc | skip) <;> (try (exfalso; omega))))
      all_goals first | (refine qw_join () (by repeat' (first | exact trivial | refine ⟨rfl, ?_⟩)) ⟨hw, ?_⟩; omega) | (refine qw_ret1 rfl rfl ⟨ret_bool (hFG ?_).symm, (hE.mono hw).b⟩; omega)
    rintro - w1 ⟨hw, hc1, hc2⟩
    replace hE := hE.mono hw; replace HS := HS.mono hw; replace HL := HL.mono hw; replace HN := HN.mono hw; replace HX := HX.mono hw; replace HY := HY.mono hw; clear hw; have hw := Below.refl w1.heap.size w1
    have hNL1 : NL < w1.heap.size := HL.lt
    have hnL : some NL ≠ some N6 := by intro e; injection e with e; have := HL0.lt; omega
    have hnN : some NS ≠ some N6 := by intro e; injection e with e; have := HN0.lt; omega
    have hnLN : some NL ≠ some NS := by intro e; injection e with e; exact hNE e
    repeat' (first | (refine is_cw ?_; first | (refine cw_seq ?_) | (refine cw_region ?_)) | ((refine is_load ?_; first | (refine lw_pure rfl (pv_loadp (tA rfl) rfl (by first | exact PT.ldp (HY.mono hw)) (by first | (simp only [Nat.add_zero, List.drop_zero, List.take_succ_cons, List.take_zero]; rfl) | (simp only [Nat.zero_add, Nat.add_zero, List.drop_zero, List.drop_succ_cons, List.take_succ_cons, List.take_zero]; rfl) | (simp only [Nat.zero_add, List.drop_zero, List.drop_succ_cons, List.take_succ_cons, List.take_zero]; rfl)) rfl) ?_))) | ((refine is_fa ?_; first | (refine lw_pure rfl (pv_fa (tF rfl) rfl) ?_))))
    refine lw_storea (vs := [.int .i64 r.acct, .int .i64 r.asset]) HL (tZ rfl) rfl rfl rfl rfl (by simp [Value.oneCell']) ?_; intro w2 HL hg hz9
    replace hE := hE.grown hg (by intro q hq; injection hq with hq; omega)
    replace HS := HS.grown hg (fun ad had => slNe HS0 hNL (by omega) ad had)
    replace HX := HX.grown hg hnL
    replace HN := HN.grown hg hnLN
    clear hg hz9 hw HY
    have hw := Below.refl w2.heap.size w2
    refine lw_nil ?_; (with_reducible refine qw_then ?_)
    have HI := ptI HN (m := 17) (sums17_len _).symm (by rw [sums17_len]; omega)
    have hia := sums17_at (l.take k) (a := r.asset) (by omega)
    have hsx : [sumA (l.take k) r.asset, r.free, r.held].sum = sumA (l.take k) r.asset + (r.free + r.held) := by simp
    have hin3 : In64 [sumA (l.take k) r.asset, r.free, r.held] := by
      have hnear := hs r.asset (by omega)
      intro x hx; simp at hx; rcases hx with rfl | rfl | rfl <;> omega
    have hnear : -4611686018427387904 ≤ sumA (l.take k) r.asset ∧ sumA (l.take k) r.asset ≤ 4611686018427387904 := hs _ (by omega)
    refine cw_seq ?_
    refine cw_drawn (fun w' => Below w2.heap.size w2 w') (by kernel_rfl) (by repeat (first | exact NoPanic.body | with_reducible refine NoPanic.then ?_ | with_reducible refine NoPanic.inBlock ?_)) (fun hNP => ?_)
    have hS := hw.drew
    (refine at0 0 rfl (fun w' hq => pv_fa (tF rfl) rfl) ?_)
    (refine at0 1 rfl (fun w' hq => pv_load (t1 rfl) rfl (by first | exact PT.ld0 (HX.mono hq) rfl | exact PT.ld (HX.mono hq) rfl | exact SlR.ld (HI.mono hq) hia rfl | exact SlR.ld1 (HI.mono hq) hia rfl)) ?_)
    (refine at0 2 rfl (fun w' hq => pv_iaa ar63 rfl rfl (by omega)) ?_)
    (refine at0 3 rfl (fun w' hq => pv_load (t1 rfl) rfl (by first | exact PT.ld0 (HX.mono hq) rfl | exact PT.ld (HX.mono hq) rfl | exact SlR.ld (HI.mono hq) hia rfl | exact SlR.ld1 (HI.mono hq) hia rfl)) ?_)
    (refine at0 4 rfl (fun w' hq => pv_fa (tF rfl) rfl) ?_)
    (refine at0 5 rfl (fun w' hq => pv_load (t1 rfl) rfl (by first | exact PT.ld0 (HX.mono hq) rfl | exact PT.ld (HX.mono hq) rfl | exact SlR.ld (HI.mono hq) hia rfl | exact SlR.ld1 (HI.mono hq) hia rfl)) ?_)
    (refine at0 6 rfl (fun w' hq => pv_fa (tF rfl) rfl) ?_)
    (refine at0 7 rfl (fun w' hq => pv_load (t1 rfl) rfl (by first | exact PT.ld0 (HX.mono hq) rfl | exact PT.ld (HX.mono hq) rfl | exact SlR.ld (HI.mono hq) hia rfl | exact SlR.ld1 (HI.mono hq) hia rfl)) ?_)
    refine aw_act 8 (by kernel_rfl) rfl rfl rfl ?_
    refine act_bs (vs := [.int .i64 (sumA (l.take k) r.asset), .int .i64 r.free, .int .i64 r.held]) (cs := [.int .i64 (sumA (l.take k) r.asset), .int .i64 r.free, .int .i64 r.held]) elemI rfl rfl (by omega) (by omega) rfl (by simp [Value.cells]) ?_; intro wb HC hb; refine ⟨grow_trans hS hb, fun hS => ?_⟩
    refine aw_act 9 (by kernel_rfl) rfl rfl rfl ?_
    refine act_call (f := 38) (by kernel_rfl) rfl (sum_c (xs := [sumA (l.take k) r.asset, r.free, r.held]) rfl (HC.slR encI_len rfl (by omega)) (by simp) hin3) ?_; rintro e w1 ⟨rfl, hb⟩; refine ⟨_, rfl, grow_trans hS hb, fun hS => ?_⟩
    (refine at0 10 rfl (fun w' hq => pv_move rfl) ?_)
    (refine at0 11 rfl (fun w' hq => pv_extract rfl rfl) ?_)
    (refine at0 12 rfl (fun w' hq => pv_extract rfl rfl) ?_)
    (refine at0 13 rfl (fun w' hq => pv_assign rfl) ?_)
    (refine at0 14 rfl (fun w' hq => pv_assign rfl) ?_)
    refine aw_done (by kernel_rfl) ?_
    replace hw := hS; clear hS hNP
    rw [hsx]
    have hw1 := hw
    by_cases hfar : sumA (l.take k) r.asset + (r.free + r.held) > 4611686018427387904 ∨ sumA (l.take k) r.asset + (r.free + r.held) < -4611686018427387904
    · have e2 : toldE (sumA (l.take k) r.asset + (r.free + r.held)) = 41 := by simp [toldE, farS]; omega
      rw [e2]
      repeat' (first | (refine lw_pure rfl (pv_move rfl) ?_) | (refine lw_pure rfl (pv_assign rfl) ?_) | (refine is_cw ?_; first | (refine cw_seq ?_) | (refine cw_region ?_) | (refine cw_true rfl rfl ?_) | (refine cw_ret ?_)) | (refine is_qw ?_; first | (with_reducible refine qw_then ?_) | (with_reducible refine qw_then_ret ?_) | (with_reducible refine qw_in_ret ?_)) | (refine lw_nil ?_) | ((refine is_bin ?_; first | (refine lw_pure rfl (pv_neq rfl rfl) ?_))))
      refine qw_ret1 rfl rfl ⟨ret_bool ?_, (hE.mono hw).b⟩
      symm; rw [mayR, decide_eq_false_iff_not]; intro hM
      have h1 := may_near hM (k + 1) r.asset
      rw [sumA_take hxk, if_pos rfl] at h1
      omega
    · have e1 : toldN (sumA (l.take k) r.asset + (r.free + r.held)) = sumA (l.take k) r.asset + (r.free + r.held) := by simp [toldN, farS]; omega
      have e2 : toldE (sumA (l.take k) r.asset + (r.free + r.held)) = 0 := by simp [toldE, farS]; omega
      rw [e1, e2]
      replace hE := hE.mono hw; replace HX := HX.mono hw; replace HN := HN.mono hw; clear hw; have hw := Below.refl w1.heap.size w1
      repeat' (first | (refine lw_pure rfl (pv_move rfl) ?_) | (refine is_cw ?_; first | (refine cw_seq ?_) | (refine cw_region ?_) | (refine cw_false rfl rfl ?_) | (refine cw_skip ?_)) | (refine is_qw ?_; first | (with_reducible refine qw_then ?_)) | (refine lw_nil ?_) | ((refine is_bin ?_; first | (refine lw_pure rfl (pv_neq rfl rfl) ?_))) | ((refine is_load ?_; first | (refine lw_pure rfl (pv_load (t1 rfl) rfl (by first | exact PT.ld0 (HX.mono hw) rfl | exact PT.ld (HX.mono hw) rfl)) ?_))) | ((refine is_fa ?_; first | (refine lw_pure rfl (pv_fa (tF rfl) rfl) ?_))) | ((refine is_ia ?_; first | (refine lw_pure rfl (pv_iaa ar63 rfl rfl (by omega)) ?_))))
      refine lw_store (i := 0 + r.asset.toNat * 1) (v := .int .i64 (sumA (l.take k) r.asset + (r.free + r.held))) HN (tZ rfl) rfl rfl rfl (by simp [sums17]; omega) ?_; intro w3 HN hg hz9
      replace hE := hE.grown hg (by intro q hq; injection hq with hq; omega)
      replace HL := (HL.mono hw1).grown hg (by intro e; exact hnLN e.symm)
      clear hg hz9 hw
      have hw := Below.refl w3.heap.size w3
      rw [show 0 + r.asset.toNat * 1 = r.asset.toNat by omega, intsV_set, ← sums17_take hxk (by omega)] at HN
      repeat' (first | (refine lw_pure rfl (pv_move rfl) ?_) | (refine is_cw ?_; first | (refine cw_region ?_)) | (refine is_qw ?_; first | (with_reducible refine qw_then ?_) | (with_reducible refine qw_in ?_)) | (refine lw_nil ?_) | ((refine is_bin ?_; first | (refine lw_pure rfl (pv_inc rfl rfl (by omega)) ?_))))
      refine qw_round (k + 1) (by repeat' (first | exact trivial | refine ⟨rfl, ?_⟩)) ⟨by omega, (hE.mono hw).b, ⟨?_, HN⟩, ?_, last_lt hp hxk hc2, ?_⟩ (by omega)
      · rw [lastK_at hxk]; exact HL
      · intro j hj x hx
        by_cases hjk : j = k
        · subst hjk; rw [hxk] at hx; injection hx with hx; subst hx; exact (ok_d _).2 hc1
        · exact hn j (by omega) x hx
      · intro a ha
        rw [sumA_take hxk]
        by_cases hra : r.asset = a
        · subst hra; rw [if_pos rfl]; omega
        · rw [if_neg hra, Int.add_zero]; exact hs a ha
  · have hkl : k = l.length := by omega
    subst hkl
    rw [List.take_length] at HN hp
    have hlen := sums17_len l
    repeat' (first | (refine lw_pure rfl (pv_assign rfl) ?_) | (refine lw_pure rfl (pv_build0 tyb63) ?_) | (refine lw_pure rfl (pv_eqlA .eql rfl Tryz.underlying161 Tryz.underlying2 (tZ rfl) (by kernel_rfl) (sums17 l) (List.replicate 17 0) hlen (by simp) rfl rfl) ?_) | (refine is_cw ?_; first | (refine cw_seq ?_) | (refine cw_region ?_) | (refine is_cd ?_; refine cw_false rfl (by first | assumption | exact decide_eq_false (by omega) | exact dec_notF (by omega)) ?_) | (refine cw_exit ?_) | (refine cw_ret ?_)) | (refine is_qw ?_; first | (with_reducible refine qw_then ?_) | (with_reducible refine qw_in_hit ?_) | (with_reducible refine qw_then_exit ?_)) | (refine lw_nil ?_) | ((refine is_bin ?_; first | (refine lw_pure rfl (pv_lss rfl rfl) ?_))) | ((refine is_load ?_; first | (refine lw_pure rfl (pv_loada (tA rfl) rfl (by first | exact PT.lda HN) (by rfl)) ?_))))
    refine qw_ret1 rfl rfl ⟨ret_bool ?_, hw⟩
    rw [mayR, decide_eq_decide, sums17_zero]
    exact ⟨fun h => ⟨mem_of_all hn, hp, h⟩, fun h => h.2.2⟩
end Go.Proofs.YtekomjnjddhfmaaGreat
namespace Go.Proofs.YtekomjnjddhfmaaGreat
open Go.RowKit Go.PlainAid

theorem amay_e {a : Auc} {ba : Option Addr} {bc : Nat} {b : Bool} {w : World} (hB : mayAu a = b) (HS : SlR encD 2 w ba bc a.bids) : Calls Tryz.prog 69 #[.agg #[.int .i64 a.h.id, .int .i64 a.h.seller, .int .i64 a.h.inst, .bool a.h.shut, .int .i64 a.h.qty, .int .i64 a.h.reserve, .int .i64 a.h.step, .int .i64 a.h.fin, .slice ba a.bids.length bc]] w fun e w' => e = .returned (.bool b) ∧ Below w.heap.size w w' := by
  subst hB; exact amay_c (x := ⟨a.h, ba, a.bids.length, bc⟩) (a := a) ⟨rfl, rfl, HS⟩
def lastA (l : List Auc) (k : Nat) : Int := match k with
  | 0 => 0
  | j + 1 => match l[j]? with
    | some a => a.h.id
    | none => 0
theorem lastA_at {l : List Auc} {k : Nat} {a : Auc} (h : l[k]? = some a) : lastA l (k + 1) = a.h.id := by simp [lastA, h]
theorem lastA_no {l : List Auc} {k : Nat} {a : Auc} (h : l[k]? = some a) (hl : a.h.id ≤ lastA l k) : mayAus l = false := by
  cases k with
  | zero =>
    refine mayAus_no1 h ?_
    rw [← Bool.not_eq_true, mayAu_iff, headB_iff]
    intro hM; have := hM.1.1.1; unfold lastA at hl; simp only at hl; omega
  | succ j =>
    have hj : l[j]? = some (l[j]'(by have := (List.getElem?_eq_some_iff.1 h).1; omega)) := List.getElem?_eq_getElem _
    rw [lastA_at hj] at hl
    exact mayAus_no2 hj h hl
theorem lastA_yes {l : List Auc} {j : Nat} {x y : Auc} (hx : l[j]? = some x) (h : lastA l (j + 1) < y.h.id) : x.h.id < y.h.id := by rwa [lastA_at hx] at h
set_option maxRecDepth 20000 in
set_option maxHeartbeats 4000000 in
theorem amayAll_c {xs : List AucC} {l : List Auc} {m : Nat} {ad : Option Addr} {cap : Nat} {w : World} (hm : l.length = m) (HS : SlR encC 9 w ad cap xs) (HA : AusR w xs l) : Calls Tryz.prog 31 #[.slice ad m cap] w fun e w' => e = .returned (.bool (mayAus l)) ∧ Below w.heap.size w w' := by
  subst hm
  have hw := Below.refl w.heap.size w
  have hla := HS.le
  have hma := HS.max
  have hln := HA.1
  refine fn_enter 27 Tryz.func31 rfl rfl rfl ?_
  repeat' (first | (refine lw_pure rfl (pv_move rfl) ?_) | (refine lw_pure rfl (pv_assign rfl) ?_) | (refine is_cw ?_; first | (refine cw_seq ?_) | (refine cw_region ?_) | (refine cw_block ?_)) | (refine is_qw ?_; first | (with_reducible refine qw_then ?_)) | (refine lw_nil ?_) | ((refine is_bi ?_; first | (refine lw_pure rfl (pv_lenl (tS rfl) rfl) ?_))))
  refine cw_loop (σ := Nat) (fun k => [(0, .slice ad l.length cap), (3, .int .i64 (lastA l k)), (6, .slice ad l.length cap), (7, .int .i64 (l.length : Nat)), (8, .int .i64 (k : Nat))]) (fun k wr => k ≤ l.length ∧ Below w.heap.size w wr ∧ (∀ (j : Nat) a, j < k → l[j]? = some a → mayAu a = true) ∧ ∀ (j : Nat) a, j < k → l[j]? = some a → lastA l j < a.h.id) (fun k => l.length - k) 0 (by repeat' (first | exact trivial | refine ⟨rfl, ?_⟩)) ⟨Nat.zero_le _, hw, fun j a hj => by omega, fun j a hj => by omega⟩ ?_
  clear hw
  rintro k wr ⟨hk, hw, hn1, hn2⟩
  by_cases hlt : k < l.length
  · have hak : l[k]? = some (l[k]'(by omega)) := List.getElem?_eq_getElem _
    obtain ⟨ab, ao, rfl, -, -⟩ := HS.at (by intro h; rw [h] at hln; simp at hln; omega)
    generalize l[k]'(by omega) = a at hak
    obtain ⟨x, hxk, hR⟩ := HA.at hak
    obtain ⟨xh, ba, bm, bc⟩ := x
    obtain ⟨hh, hm, HB⟩ := hR
    simp only at hh hm HB
    subst hh hm
    have hE := Ext.mk hw
    replace HS := HS.mono hw
    replace HB := HB.mono hw
    clear hw
    have hw := Below.refl wr.heap.size wr
    repeat' (first | (refine is_cw ?_; first | (refine cw_seq ?_) | (refine cw_region ?_) | (refine is_cd ?_; refine cw_true rfl (by first | assumption | exact decide_eq_true (by omega) | exact dec_notT (by omega)) ?_) | (refine cw_skip ?_) | (refine cw_block ?_)) | (refine is_qw ?_; first | (with_reducible refine qw_then ?_)) | (refine lw_nil ?_) | ((refine is_bin ?_; first | (refine lw_pure rfl (pv_lss rfl rfl) ?_))) | ((refine is_load ?_; first | (refine lw_pure rfl (pv_loada (tA rfl) rfl (by first | exact SlR.lda (HS.mono hw) hxk) (by rfl)) ?_))) | ((refine is_ia ?_; first | (refine lw_pure rfl (pv_ian (tS rfl) rfl rfl (by omega)) ?_))))
    refine lw_varN rfl (by first | exact tyv_29 | exact tyv_30 | exact tyv_33 | exact tyv_34 | exact tyv_36 | exact tyv_37 | exact tyv_38 | exact tyv_39 | exact tyv_40 | exact tyv_41 | exact tyv_43 | exact tyv_44 | exact tyv_45 | exact tyv_46 | exact tyv_73 | exact tyv_74 | exact tyv_80 | exact tyv_81 | exact tyv_107 | exact tyv_108 | exact tyv_123 | exact tyv_146 | exact tyv_147 | exact tyv_148 | exact tyv_149) rfl (tZ rfl) (fun _ => rfl) rfl rfl ?_; intro N5 wn hN5 HX hb
    replace HX : PT wn N5 44 [.int .i64 a.h.id, .int .i64 a.h.seller, .int .i64 a.h.inst, .bool a.h.shut, .int .i64 a.h.qty, .int .i64 a.h.reserve, .int .i64 a.h.step, .int .i64 a.h.fin, .slice ba a.bids.length bc] := HX
    replace hw := grow_trans hw hb
    clear hb
    replace hE := hE.mono hw; replace HB := HB.mono hw; clear hw; have hw := Below.refl wn.heap.size wn
    by_cases hid : a.h.id ≤ lastA l k
    · rw [lastA_no hak hid]
      repeat' (first | (refine lw_pure rfl (pv_move rfl) ?_) | (refine lw_pure rfl (pv_assign rfl) ?_) | (refine is_cw ?_; first | (refine cw_seq ?_) | (refine cw_region ?_) | (refine cw_true rfl rfl ?_) | (refine cw_ret ?_)) | (refine is_qw ?_; first | (with_reducible refine qw_then ?_) | (with_reducible refine qw_then_ret ?_) | (with_reducible refine qw_in_ret ?_)) | (refine lw_nil ?_) | (refine is_guarded ?_; first | (refine lw_not rfl rfl rfl (by first | assumption | exact decide_eq_true (by omega) | exact decide_eq_false (by omega) | exact dec_notT (by omega) | exact dec_notF (by omega)) ?_)) | ((refine is_bin ?_; first | (refine lw_pure rfl (pv_leq rfl rfl) ?_))) | ((refine is_load ?_; first | (refine lw_pure rfl (pv_load (t1 rfl) rfl (by first | exact PT.ld0 (HX.mono hw) rfl | exact PT.ld (HX.mono hw) rfl)) ?_))) | ((refine is_fa ?_; first | (refine lw_pure rfl (pv_fa (tF rfl) rfl) ?_))) | (refine is_pk ?_; refine lw_pure rfl (pv_pick_t rfl (by first | assumption | exact decide_eq_true (by omega) | exact dec_notT (by omega)) rfl) ?_))
      exact qw_ret1 rfl rfl ⟨rfl, (hE.mono hw).b⟩
    · cases hM : mayAu a with
      | false =>
        rw [mayAus_no1 hak hM]
        repeat' (first | (refine lw_pure rfl (pv_move rfl) ?_) | (refine lw_pure rfl (pv_assign rfl) ?_) | (refine lw_call (f := 69) (by kernel_rfl) rfl rfl (amay_e hM (HB.mono hw)) ?_; rintro e w1 ⟨rfl, hb⟩; refine ⟨_, rfl, ?_⟩; replace hw := grow_trans hw hb; clear hb) | (refine is_cw ?_; first | (refine cw_seq ?_) | (refine cw_region ?_) | (refine cw_true rfl rfl ?_) | (refine cw_ret ?_)) | (refine is_qw ?_; first | (with_reducible refine qw_then ?_) | (with_reducible refine qw_then_ret ?_) | (with_reducible refine qw_in_ret ?_)) | (refine lw_nil ?_) | (refine is_guarded ?_; first | (refine lw_on rfl rfl (by first | assumption | exact decide_eq_true (by omega) | exact decide_eq_false (by omega) | exact dec_notT (by omega) | exact dec_notF (by omega)) ?_)) | ((refine is_bin ?_; first | (refine lw_pure rfl (pv_leq rfl rfl) ?_))) | ((refine is_load ?_; first | (refine lw_pure rfl (pv_load (t1 rfl) rfl (by first | exact PT.ld0 (HX.mono hw) rfl | exact PT.ld (HX.mono hw) rfl)) ?_) | (refine lw_pure rfl (pv_loada (tA rfl) rfl (by first | exact PT.lda (HX.mono hw)) (by rfl)) ?_))) | ((refine is_fa ?_; first | (refine lw_pure rfl (pv_fa (tF rfl) rfl) ?_))) | ((refine is_un ?_; first | (refine lw_pure rfl (pv_not rfl) ?_))) | (refine is_pk ?_; refine lw_pure rfl (pv_pick_f rfl (by first | assumption | exact decide_eq_false (by omega) | exact dec_notF (by omega)) rfl) ?_))
        exact qw_ret1 rfl rfl ⟨rfl, (hE.mono hw).b⟩
      | true =>
        repeat' (first | (refine lw_pure rfl (pv_move rfl) ?_) | (refine lw_pure rfl (pv_assign rfl) ?_) | (refine lw_call (f := 69) (by kernel_rfl) rfl rfl (amay_e hM (HB.mono hw)) ?_; rintro e w1 ⟨rfl, hb⟩; refine ⟨_, rfl, ?_⟩; replace hw := grow_trans hw hb; clear hb) | (refine is_cw ?_; first | (refine cw_seq ?_) | (refine cw_region ?_) | (refine cw_false rfl rfl ?_) | (refine cw_skip ?_)) | (refine is_qw ?_; first | (with_reducible refine qw_then ?_) | (with_reducible refine qw_in ?_)) | (refine lw_nil ?_) | (refine is_guarded ?_; first | (refine lw_on rfl rfl (by first | assumption | exact decide_eq_true (by omega) | exact decide_eq_false (by omega) | exact dec_notT (by omega) | exact dec_notF (by omega)) ?_)) | ((refine is_bin ?_; first | (refine lw_pure rfl (pv_leq rfl rfl) ?_) | (refine lw_pure rfl (pv_inc rfl rfl (by omega)) ?_))) | ((refine is_load ?_; first | (refine lw_pure rfl (pv_load (t1 rfl) rfl (by first | exact PT.ld0 (HX.mono hw) rfl | exact PT.ld (HX.mono hw) rfl)) ?_) | (refine lw_pure rfl (pv_loada (tA rfl) rfl (by first | exact PT.lda (HX.mono hw)) (by rfl)) ?_))) | ((refine is_fa ?_; first | (refine lw_pure rfl (pv_fa (tF rfl) rfl) ?_))) | ((refine is_un ?_; first | (refine lw_pure rfl (pv_not rfl) ?_))) | (refine is_pk ?_; refine lw_pure rfl (pv_pick_f rfl (by first | assumption | exact decide_eq_false (by omega) | exact dec_notF (by omega)) rfl) ?_))
        rw [← lastA_at hak]
        refine qw_round (k + 1) (by repeat' (first | exact trivial | refine ⟨rfl, ?_⟩)) ⟨by omega, (hE.mono hw).b, fun j u hj hu => ?_, fun j u hj hu => ?_⟩ (by omega)
        · by_cases hjk : j = k
          · subst hjk; rw [hak] at hu; injection hu with hu; subst hu; exact hM
          · exact hn1 j u (by omega) hu
        · by_cases hjk : j = k
          · subst hjk; rw [hak] at hu; injection hu with hu; subst hu; omega
          · exact hn2 j u (by omega) hu
  · have hkl : k = l.length := by omega
    subst hkl
    rw [mayAus_end (fun j a ha => hn1 j a (List.getElem?_eq_some_iff.1 ha).1 ha) (fun j x y hx hy => lastA_yes hx (hn2 (j + 1) y (List.getElem?_eq_some_iff.1 hy).1 hy))]
    repeat' (first | (refine lw_pure rfl (pv_move rfl) ?_) | (refine lw_pure rfl (pv_assign rfl) ?_) | (refine is_cw ?_; first | (refine cw_seq ?_) | (refine cw_region ?_) | (refine is_cd ?_; refine cw_false rfl (by first | assumption | exact decide_eq_false (by omega) | exact dec_notF (by omega)) ?_) | (refine cw_exit ?_) | (refine cw_ret ?_)) | (refine is_qw ?_; first | (with_reducible refine qw_then ?_) | (with_reducible refine qw_in_hit ?_) | (with_reducible refine qw_then_exit ?_)) | (refine lw_nil ?_) | ((refine is_bin ?_; first | (refine lw_pure rfl (pv_lss rfl rfl) ?_) | (refine lw_pure rfl (pv_leq rfl rfl) ?_))) | ((refine is_bi ?_; first | (refine lw_pure rfl (pv_lenl (tS rfl) rfl) ?_))))
    refine qw_ret1 rfl rfl ⟨ret_bool ?_, hw⟩
    rw [decide_eq_decide]; omega

set_option maxRecDepth 20000 in
theorem btw3_c (n lo hi : Int) (w : World) : Calls Tryz.prog 101 #[.int .i64 n, .int .i64 lo, .int .i64 hi] w fun e w' => e = .returned (.bool (decide (lo ≤ n ∧ n ≤ hi))) ∧ Below w.heap.size w w' := by
  have hw := Below.refl w.heap.size w
  refine fn_enter 15 Tryz.func101 rfl rfl rfl ?_
  repeat' (first | (refine lw_pure rfl (pv_move rfl) ?_) | (refine lw_pure rfl (pv_assign rfl) ?_) | (refine is_cw ?_; first | (refine cw_seq ?_) | (refine cw_region ?_) | (refine cw_ret ?_)) | (refine is_qw ?_; first | (with_reducible refine qw_then ?_)) | (refine lw_nil ?_) | (refine is_guarded ?_; first | (refine lw_on rfl rfl (by first | assumption | exact decide_eq_true (by omega) | exact decide_eq_false (by omega) | exact dec_notT (by omega) | exact dec_notF (by omega)) ?_) | (refine lw_not rfl rfl rfl (by first | assumption | exact decide_eq_true (by omega) | exact decide_eq_false (by omega) | exact dec_notT (by omega) | exact dec_notF (by omega)) ?_) | (refine lw_gs_t rfl rfl rfl (fun hc => ?_) (fun hc => ?_) <;> (first | replace hc := of_decide_eq_true hc | replace hc := of_decide_eq_false hc | replace hc := dec_nT hc | replace hc := dec_nF hc | skip) <;> (try (exfalso; omega)))) | ((refine is_bin ?_; first | (refine lw_pure rfl (pv_leq rfl rfl) ?_) | (refine lw_pure rfl (pv_geq rfl rfl) ?_))) | (refine is_pk ?_; refine lw_pure rfl (pv_pick_t rfl (by first | assumption | exact decide_eq_true (by omega) | exact dec_notT (by omega)) rfl) ?_) | (refine is_pk ?_; refine lw_pure rfl (pv_pick_f rfl (by first | assumption | exact decide_eq_false (by omega) | exact dec_notF (by omega)) rfl) ?_))
  all_goals (refine qw_ret1 rfl rfl ⟨ret_bool ?_, hw⟩; first | rfl | (rw [decide_eq_decide]; omega) | (symm; rw [decide_eq_true_eq]; omega) | (symm; rw [decide_eq_false_iff_not]; omega))
set_option maxRecDepth 20000 in
theorem num1_c (n : Int) (w : World) : Calls Tryz.prog 100 #[.int .i64 n] w fun e w' => e = .returned (.bool (decide (1 ≤ n ∧ n ≤ 1099511627777))) ∧ Below w.heap.size w w' := by
  have hw := Below.refl w.heap.size w
  refine fn_enter 5 Tryz.func100 rfl rfl rfl ?_
  repeat' (first | (refine lw_pure rfl (pv_move rfl) ?_) | (refine lw_pure rfl (pv_assign rfl) ?_) | (refine lw_call (f := 101) (by kernel_rfl) rfl rfl (btw3_c _ _ _ _) ?_; rintro e w1 ⟨rfl, hb⟩; refine ⟨_, rfl, ?_⟩; replace hw := grow_trans hw hb; clear hb) | (refine is_cw ?_; first | (refine cw_seq ?_) | (refine cw_region ?_) | (refine cw_ret ?_)) | (refine is_qw ?_; first | (with_reducible refine qw_then ?_)) | (refine lw_nil ?_))
  exact qw_ret1 rfl rfl ⟨rfl, hw⟩
theorem num1_v (n : Int) (w : World) : Calls Tryz.prog 100 (#[] ++ [Value.int .i64 n].toArray ++ #[]) w fun e w' => e = .returned (.bool (decide (1 ≤ n ∧ n ≤ 1099511627777))) ∧ Below w.heap.size w w' := num1_c n w
set_option maxRecDepth 20000 in
set_option maxHeartbeats 2000000 in
theorem numbers_c {s : SttC} {t : Stt} {w : World} (hS : StR w s t) : Calls Tryz.prog 70 #[(.agg (encS s).toArray)] w fun e w' => e = .returned (.bool (numsB t)) ∧ Below w.heap.size w w' := by
  obtain ⟨n1, n2, n3, n4⟩ := hS.n
  unfold numsB
  rw [← n1, ← n2, ← n3, ← n4]
  have hE := Ext.refl w
  have hw := Below.refl w.heap.size w
  refine fn_enter 24 Tryz.func70 rfl rfl rfl ?_
  repeat' (first | (refine is_cw ?_; first | (refine cw_seq ?_) | (refine cw_region ?_)))
  refine lw_boxN rfl rfl (cs := encS s) rfl ?_; intro N2 wn hN2 HX hb; replace hN2 := Nat.le_trans hw.size hN2; replace hw := grow_trans hw hb; clear hb
  replace hE := hE.mono hw; clear hw; have hw := Below.refl wn.heap.size wn
  repeat' (first | (refine lw_pure rfl (pv_move rfl) ?_) | (refine lw_pure rfl (pv_assign rfl) ?_) | (refine lw_call (f := 101) (by kernel_rfl) rfl rfl (btw3_c _ _ _ _) ?_; rintro e w1 ⟨rfl, hb⟩; refine ⟨_, rfl, ?_⟩; replace hw := grow_trans hw hb; clear hb) | (refine lw_callv (f := 100) rfl (by kernel_rfl) rfl rfl (num1_v _ _) ?_; rintro e w1 ⟨rfl, hb⟩; refine ⟨_, rfl, ?_⟩; replace hw := grow_trans hw hb; clear hb) | (refine is_cw ?_; first | (refine cw_seq ?_) | (refine cw_region ?_) | (refine cw_ret ?_)) | (refine is_qw ?_; first | (with_reducible refine qw_then ?_)) | (refine lw_nil ?_) | (refine is_guarded ?_; first | (refine lw_not rfl rfl rfl rfl ?_) | (refine lw_on rfl rfl (by first | assumption | exact decide_eq_true (by omega) | exact decide_eq_false (by omega) | exact dec_notT (by omega) | exact dec_notF (by omega)) ?_) | (refine lw_not rfl rfl rfl (by first | assumption | exact decide_eq_true (by omega) | exact decide_eq_false (by omega) | exact dec_notT (by omega) | exact dec_notF (by omega)) ?_) | (refine lw_gs_t rfl rfl rfl (fun hc => ?_) (fun hc => ?_) <;> (first | replace hc := of_decide_eq_true hc | replace hc := of_decide_eq_false hc | replace hc := dec_nT hc | replace hc := dec_nF hc | skip) <;> (try (exfalso; omega)))) | ((refine is_load ?_; first | (refine lw_pure rfl (pv_load (t1 rfl) rfl (by first | exact PT.ld0 (HX.mono hw) rfl | exact PT.ld (HX.mono hw) rfl)) ?_))) | ((refine is_fa ?_; first | (refine lw_pure rfl (pv_fa (tF rfl) rfl) ?_))) | (refine is_pk ?_; refine lw_pure rfl (pv_pick_f rfl rfl rfl) ?_) | (refine is_pk ?_; refine lw_pure rfl (pv_pick_t rfl (by first | assumption | exact decide_eq_true (by omega) | exact dec_notT (by omega)) rfl) ?_) | (refine is_pk ?_; refine lw_pure rfl (pv_pick_f rfl (by first | assumption | exact decide_eq_false (by omega) | exact dec_notF (by omega)) rfl) ?_))
  all_goals (refine qw_ret1 rfl rfl ⟨ret_bool ?_, (hE.mono hw).b⟩; first | rfl | (rw [decide_eq_decide]; omega) | (symm; rw [decide_eq_true_eq]; omega) | (symm; rw [decide_eq_false_iff_not]; omega))
theorem open_e {s : SttC} {t : Stt} {a : Int} {b : Bool} {w : World} (h : openB t.accs a = b) (hS : StR w s t) : Calls Tryz.prog 104 #[(.agg (encS s).toArray), .int .i64 a] w fun e w' => e = .returned (.bool b) ∧ Below w.heap.size w w' := by
  subst h; exact open_c hS
theorem there_e {s : SttC} {t : Stt} {a : Int} {b : Bool} {w : World} (h : isB t.inss a = b) (hS : StR w s t) : Calls Tryz.prog 110 #[(.agg (encS s).toArray), .int .i64 a] w fun e w' => e = .returned (.bool b) ∧ Below w.heap.size w w' := by
  subst h; exact thereI_c hS
set_option maxRecDepth 20000 in
set_option maxHeartbeats 2000000 in
theorem rowsF_c {s : SttC} {t : Stt} {r : Row} {N : Nat} {w : World} (hS : StR w s t) (HP : PT w N 30 (encS s)) : Calls Tryz.prog 103 #[.agg (encR r).toArray, .pointer (some ⟨N, 0, none⟩)] w fun e w' => e = .returned (.bool (rowW t r)) ∧ Below w.heap.size w w' := by
  have hmi := hS.mi
  have hil := hS.I.le
  have him := hS.I.max
  have hE := Ext.refl w
  have hw := Below.refl w.heap.size w
  refine fn_enter 22 Tryz.func103 rfl rfl rfl ?_
  repeat' (first | (refine is_cw ?_; first | (refine cw_seq ?_) | (refine cw_region ?_)))
  refine lw_boxN rfl rfl (cs := encR r) rfl ?_; intro N2 wn hN2 HX hb; replace hN2 := Nat.le_trans hw.size hN2; replace hw := grow_trans hw hb; clear hb
  replace hE := hE.mono hw; replace hS := hS.mono hw; replace HP := HP.mono hw; clear hw; have hw := Below.refl wn.heap.size wn
  cases hO : openB t.accs r.acct <;> by_cases h0 : r.acct = 0 <;> by_cases hL : (t.inss.length : Int) < r.asset
  all_goals (repeat' (first | (refine lw_pure rfl (pv_move rfl) ?_) | (refine lw_pure rfl (pv_assign rfl) ?_) | (refine lw_call (f := 104) (by kernel_rfl) rfl rfl (open_e hO (hS.mono hw)) ?_; rintro e w1 ⟨rfl, hb⟩; refine ⟨_, rfl, ?_⟩; replace hw := grow_trans hw hb; clear hb) | (refine is_cw ?_; first | (refine cw_seq ?_) | (refine cw_region ?_) | (refine cw_ret ?_)) | (refine is_qw ?_; first | (with_reducible refine qw_then ?_)) | (refine lw_nil ?_) | (refine is_guarded ?_; first | (refine lw_not rfl rfl rfl rfl ?_) | (refine lw_on rfl rfl rfl ?_) | (refine lw_on rfl rfl (by first | assumption | exact decide_eq_true (by omega) | exact decide_eq_false (by omega) | exact dec_notT (by omega) | exact dec_notF (by omega)) ?_) | (refine lw_not rfl rfl rfl (by first | assumption | exact decide_eq_true (by omega) | exact decide_eq_false (by omega) | exact dec_notT (by omega) | exact dec_notF (by omega)) ?_)) | ((refine is_bin ?_; first | (refine lw_pure rfl (pv_neq rfl rfl) ?_) | (refine lw_pure rfl (pv_gtr rfl rfl) ?_))) | ((refine is_load ?_; first | (refine lw_pure rfl (pv_load (t1 rfl) rfl (by first | exact PT.ld0 (HX.mono hw) rfl | exact PT.ld (HX.mono hw) rfl | exact PT.ld0 (HP.mono hw) rfl | exact PT.ld (HP.mono hw) rfl)) ?_) | (refine lw_pure rfl (pv_loada (tA rfl) rfl (by first | exact PT.lda (HX.mono hw) | exact PT.lda (HP.mono hw)) (by rfl)) ?_))) | ((refine is_fa ?_; first | (refine lw_pure rfl (pv_fa (tF rfl) rfl) ?_))) | ((refine is_un ?_; first | (refine lw_pure rfl (pv_not rfl) ?_))) | ((refine is_bi ?_; first | (refine lw_pure rfl (pv_lenl (tS rfl) rfl) ?_))) | (refine is_pk ?_; refine lw_pure rfl (pv_pick_t rfl rfl rfl) ?_) | (refine is_pk ?_; refine lw_pure rfl (pv_pick_f rfl rfl rfl) ?_) | (refine is_pk ?_; refine lw_pure rfl (pv_pick_t rfl (by first | assumption | exact decide_eq_true (by omega) | exact dec_notT (by omega)) rfl) ?_) | (refine is_pk ?_; refine lw_pure rfl (pv_pick_f rfl (by first | assumption | exact decide_eq_false (by omega) | exact dec_notF (by omega)) rfl) ?_)))
  all_goals (refine qw_ret1 rfl rfl ⟨ret_bool ?_, (hE.mono hw).b⟩; unfold rowW; rw [hO])
  all_goals first | (simp [h0, hL]; done) | (simp [h0, hL, ← hmi]; done) | (simp [h0, hL, ← hmi]; omega)
set_option maxRecDepth 20000 in
theorem indexf_R {xs : List Row} {m : Nat} {ad : Option Addr} {cap : Nat} {w : World} (base : Nat) (p : Row → Bool) (F : FuncId) (caps : Array Value) (he : entersB Tryz.prog F = true) (hbw : base ≤ w.heap.size) (hF : ∀ x, x ∈ xs → ∀ w', Below base w w' → Calls Tryz.prog F (#[] ++ [Value.agg (encR x).toArray].toArray ++ caps) w' fun e w'' => e = .returned (.bool (p x)) ∧ Below w'.heap.size w' w'') (hm : xs.length = m) (HS : SlR encR 4 w ad cap xs) : Calls Tryz.prog 132 #[.slice ad m cap, .func (.func F) #[] caps] w fun e w' => (∃ i, e = .returned (.int .i64 i) ∧ ((i = -1 ∧ ∀ x ∈ xs, p x = false) ∨ ∃ (k : Nat) (r : Row), i = k ∧ xs[k]? = some r ∧ p r = true ∧ ∀ x ∈ xs.take k, p x = false)) ∧ Below w.heap.size w w' := by
  subst hm
  have hw := Below.refl w.heap.size w
  have hla := HS.le
  have hma := HS.max
  refine fn_enter 19 Tryz.func132 rfl rfl rfl ?_
  repeat' (first | (refine lw_pure rfl (pv_move rfl) ?_) | (refine lw_pure rfl (pv_assign rfl) ?_) | (refine is_cw ?_; first | (refine cw_seq ?_) | (refine cw_region ?_) | (refine cw_block ?_)) | (refine is_qw ?_; first | (with_reducible refine qw_then ?_)) | (refine lw_nil ?_) | ((refine is_bi ?_; first | (refine lw_pure rfl (pv_lenl (tS rfl) rfl) ?_))))
  refine cw_loop (σ := Nat) (fun k => [(0, .slice ad xs.length cap), (1, .func (.func F) #[] caps), (7, .int .i64 (xs.length : Nat)), (8, .int .i64 (k : Nat))]) (fun k wr => k ≤ xs.length ∧ Below w.heap.size w wr ∧ ∀ x ∈ xs.take k, p x = false) (fun k => xs.length - k) 0 (by repeat' (first | exact trivial | refine ⟨rfl, ?_⟩)) ⟨Nat.zero_le _, hw, by simp⟩ ?_
  clear hw
  rintro k wr ⟨hk, hw, hn⟩
  by_cases hlt : k < xs.length
  · have hxk : xs[k]? = some xs[k] := List.getElem?_eq_getElem hlt
    have hmem := List.getElem_mem hlt
    obtain ⟨ab, ao, rfl, -, -⟩ := HS.at (by intro h; rw [h] at hlt; simp at hlt)
    generalize xs[k] = x at hxk hmem
    repeat' (first | (refine lw_pure rfl (pv_move rfl) ?_) | (refine lw_pure rfl (pv_assign rfl) ?_) | (refine is_cw ?_; first | (refine cw_seq ?_) | (refine cw_region ?_) | (refine is_cd ?_; refine cw_true rfl (by first | assumption | exact decide_eq_true (by omega) | exact dec_notT (by omega)) ?_) | (refine cw_skip ?_) | (refine cw_block ?_)) | (refine is_qw ?_; first | (with_reducible refine qw_then ?_)) | (refine lw_nil ?_) | ((refine is_bin ?_; first | (refine lw_pure rfl (pv_lss rfl rfl) ?_))) | ((refine is_load ?_; first | (refine lw_pure rfl (pv_loada (tA rfl) rfl (by first | exact SlR.lda (HS.mono hw) hxk) (by rfl)) ?_))) | ((refine is_ia ?_; first | (refine lw_pure rfl (pv_ian (tS rfl) rfl rfl (by omega)) ?_))))
    refine lw_callv (f := F) rfl he rfl rfl (hF x hmem _ (hw.mono hbw)) ?_; rintro e w1 ⟨rfl, hb⟩; refine ⟨_, rfl, ?_⟩; replace hw := grow_trans hw hb; clear hb
    cases hp : p x with
    | true =>
      repeat' (first | (refine lw_pure rfl (pv_move rfl) ?_) | (refine lw_pure rfl (pv_assign rfl) ?_) | (refine is_cw ?_; first | (refine cw_seq ?_) | (refine cw_region ?_) | (refine cw_true rfl rfl ?_) | (refine cw_ret ?_)) | (refine is_qw ?_; first | (with_reducible refine qw_then ?_) | (with_reducible refine qw_then_ret ?_) | (with_reducible refine qw_in_ret ?_)) | (refine lw_nil ?_))
      exact qw_ret1 rfl rfl ⟨⟨_, rfl, Or.inr ⟨k, x, rfl, hxk, hp, hn⟩⟩, hw⟩
    | false =>
      repeat' (first | (refine lw_pure rfl (pv_move rfl) ?_) | (refine is_cw ?_; first | (refine cw_region ?_) | (refine cw_false rfl rfl ?_) | (refine cw_skip ?_)) | (refine is_qw ?_; first | (with_reducible refine qw_then ?_) | (with_reducible refine qw_in ?_)) | (refine lw_nil ?_) | ((refine is_bin ?_; first | (refine lw_pure rfl (pv_inc rfl rfl (by omega)) ?_))))
      refine qw_round (k + 1) (by repeat' (first | exact trivial | refine ⟨rfl, ?_⟩)) ⟨by omega, hw, ?_⟩ (by omega)
      intro y hy
      rw [List.take_add_one, hxk] at hy
      rcases List.mem_append.1 hy with hy | hy
      · exact hn y hy
      · simp at hy; subst hy; exact hp
  · have hkl : k = xs.length := by omega
    subst hkl
    rw [List.take_length] at hn
    repeat' (first | (refine lw_pure rfl (pv_assign rfl) ?_) | (refine is_cw ?_; first | (refine cw_seq ?_) | (refine cw_region ?_) | (refine is_cd ?_; refine cw_false rfl (by first | assumption | exact decide_eq_false (by omega) | exact dec_notF (by omega)) ?_) | (refine cw_exit ?_) | (refine cw_ret ?_)) | (refine is_qw ?_; first | (with_reducible refine qw_then ?_) | (with_reducible refine qw_in_hit ?_) | (with_reducible refine qw_then_exit ?_)) | (refine lw_nil ?_) | ((refine is_bin ?_; first | (refine lw_pure rfl (pv_lss rfl rfl) ?_))))
    exact qw_ret1 rfl rfl ⟨⟨_, rfl, Or.inl ⟨rfl, hn⟩⟩, hw⟩

set_option maxRecDepth 20000 in
theorem contf_R {xs : List Row} {m : Nat} {ad : Option Addr} {cap : Nat} {w : World} (base : Nat) (p : Row → Bool) (F : FuncId) (caps : Array Value) (he : entersB Tryz.prog F = true) (hbw : base ≤ w.heap.size) (hF : ∀ x, x ∈ xs → ∀ w', Below base w w' → Calls Tryz.prog F (#[] ++ [Value.agg (encR x).toArray].toArray ++ caps) w' fun e w'' => e = .returned (.bool (p x)) ∧ Below w'.heap.size w' w'') (hm : xs.length = m) (HS : SlR encR 4 w ad cap xs) : Calls Tryz.prog 106 #[.slice ad m cap, .func (.func F) #[] caps] w fun e w' => e = .returned (.bool (xs.any p)) ∧ Below w.heap.size w w' := by
  have hw := Below.refl w.heap.size w
  refine fn_enter 9 Tryz.func106 rfl rfl rfl ?_
  repeat' (first | (refine lw_pure rfl (pv_move rfl) ?_) | (refine lw_pure rfl (pv_assign rfl) ?_) | (refine is_cw ?_; first | (refine cw_seq ?_) | (refine cw_region ?_)) | (refine is_qw ?_; first | (with_reducible refine qw_then ?_)) | (refine lw_nil ?_))
  refine lw_call (f := 132) (by kernel_rfl) rfl rfl (indexf_R base p F caps he hbw hF hm HS) ?_; rintro e w1 ⟨⟨i, rfl, hi⟩, hb⟩; refine ⟨_, rfl, ?_⟩; replace hw := grow_trans hw hb; clear hb
  have hv : decide (i ≥ 0) = xs.any p := by
    rcases hi with ⟨rfl, h⟩ | ⟨k, r, rfl, hx, hp, -⟩
    · symm; rw [show decide ((-1 : Int) ≥ 0) = false by decide, List.any_eq_false]; intro x hx; rw [h x hx]; decide
    · symm; rw [decide_eq_true (by omega), List.any_eq_true]; exact ⟨r, List.mem_of_getElem? hx, hp⟩
  repeat' (first | (refine lw_pure rfl (pv_assign rfl) ?_) | (refine is_cw ?_; first | (refine cw_ret ?_)) | (refine is_qw ?_; first | (with_reducible refine qw_then ?_)) | (refine lw_nil ?_) | ((refine is_bin ?_; first | (refine lw_pure rfl (pv_geq rfl rfl) ?_))))
  exact qw_ret1 rfl rfl ⟨by rw [← hv], hw⟩

set_option maxRecDepth 20000 in
set_option maxHeartbeats 2000000 in
theorem rows_c {s : SttC} {t : Stt} {w : World} (hS : StR w s t) (hin : In64R t.rows) : Calls Tryz.prog 73 #[(.agg (encS s).toArray)] w fun e w' => e = .returned (.bool (rowsB t)) ∧ Below w.heap.size w w' := by
  unfold rowsB
  have hE := Ext.refl w
  have hw := Below.refl w.heap.size w
  refine fn_enter 15 Tryz.func73 rfl rfl rfl ?_
  repeat' (first | (refine is_cw ?_; first | (refine cw_seq ?_) | (refine cw_region ?_)))
  refine lw_boxN rfl rfl (cs := encS s) rfl ?_; intro N2 wn hN2 HX hb; replace hN2 := Nat.le_trans hw.size hN2; replace hw := grow_trans hw hb; clear hb
  replace hE := hE.mono hw; replace hS := hS.mono hw; clear hw; have hw := Below.refl wn.heap.size wn
  have hc := may_c (w := wn) hS.mr hS.R hin
  cases hM : mayR t.rows with
  | false =>
    rw [hM] at hc
    repeat' (first | (refine lw_pure rfl (pv_move rfl) ?_) | (refine lw_pure rfl (pv_assign rfl) ?_) | (refine lw_call (f := 105) (by kernel_rfl) rfl rfl (hc) ?_; rintro e w1 ⟨rfl, hb⟩; refine ⟨_, rfl, ?_⟩; replace hw := grow_trans hw hb; clear hb) | (refine is_cw ?_; first | (refine cw_seq ?_) | (refine cw_region ?_) | (refine cw_ret ?_)) | (refine is_qw ?_; first | (with_reducible refine qw_then ?_)) | (refine lw_nil ?_) | (refine is_guarded ?_; first | (refine lw_not rfl rfl rfl rfl ?_)) | ((refine is_load ?_; first | (refine lw_pure rfl (pv_load (t1 rfl) rfl (by first | exact PT.ld0 (HX.mono hw) rfl | exact PT.ld (HX.mono hw) rfl)) ?_))) | ((refine is_fa ?_; first | (refine lw_pure rfl (pv_fa (tF rfl) rfl) ?_))) | (refine is_pk ?_; refine lw_pure rfl (pv_pick_f rfl rfl rfl) ?_) | (refine lw_pure rfl (pv_makeFunc rfl rfl) ?_))
    exact qw_ret1 rfl rfl ⟨rfl, (hE.mono hw).b⟩
  | true =>
    rw [hM] at hc
    repeat' (first | (refine lw_pure rfl (pv_move rfl) ?_) | (refine lw_pure rfl (pv_assign rfl) ?_) | (refine lw_call (f := 105) (by kernel_rfl) rfl rfl (hc) ?_; rintro e w1 ⟨rfl, hb⟩; refine ⟨_, rfl, ?_⟩; replace hw := grow_trans hw hb; clear hb) | (refine lw_call (f := 106) (by kernel_rfl) rfl rfl (contf_R _ (rowW t) 103 #[.pointer (some ⟨N2, 0, none⟩)] (by kernel_rfl) (Nat.le_refl _) (fun r _ w' hb => rowsF_c ((hS.mono hw).mono hb) ((HX.mono hw).mono hb)) hS.mr (hS.R.mono hw)) ?_; rintro e w1 ⟨rfl, hb⟩; refine ⟨_, rfl, ?_⟩; replace hw := grow_trans hw hb; clear hb) | (refine is_cw ?_; first | (refine cw_seq ?_) | (refine cw_region ?_) | (refine cw_ret ?_)) | (refine is_qw ?_; first | (with_reducible refine qw_then ?_)) | (refine lw_nil ?_) | (refine is_guarded ?_; first | (refine lw_on rfl rfl rfl ?_)) | ((refine is_load ?_; first | (refine lw_pure rfl (pv_load (t1 rfl) rfl (by first | exact PT.ld0 (HX.mono hw) rfl | exact PT.ld (HX.mono hw) rfl)) ?_))) | ((refine is_fa ?_; first | (refine lw_pure rfl (pv_fa (tF rfl) rfl) ?_))) | ((refine is_un ?_; first | (refine lw_pure rfl (pv_not rfl) ?_))) | (refine is_pk ?_; refine lw_pure rfl (pv_pick_t rfl rfl rfl) ?_) | (refine lw_pure rfl (pv_makeFunc rfl rfl) ?_))
    exact qw_ret1 rfl rfl ⟨by simp, (hE.mono hw).b⟩

theorem pv_remI {P : Program} {n : Nat} {l : Fr} {w : World} {d : Option Nat} {t t' ty : TypeId} {x y : Operand} {pos : String} {af : Array Edge} {g : Option (Nat × Bool)} {a b : Int} (hx : ev l x = some (.int .i64 a)) (hy : ev l y = some (.int .i64 b)) (ha : 0 ≤ a) (hb : 1 ≤ b) : Pv P n l ⟨d, .binOp .rem t x y t', ty, pos, af, g⟩ (.int .i64 (a % b)) w := ⟨fun A hA => by
  have hb : b ≠ 0 := by omega
  rw [← Int.tmod_eq_emod_of_nonneg ha]
  simp [execOp, hA.ev hx, hA.ev hy, eqGuard, binOp, Op.intDiv, hb]⟩
theorem inst_e {s : SttC} {t : Stt} {a : Int} {x : Ins} {b : Bool} {w : World} (h : insOf t.inss a = (x, b)) (hS : StR w s t) : Calls Tryz.prog 13 #[(.agg (encS s).toArray), .int .i64 a] w fun e w' => e = .returned (.tuple #[.agg (encN x).toArray, .bool b]) ∧ Below w.heap.size w w' := by
  have := inst_c (a := a) hS; rw [h] at this; exact this
theorem ins_tick {l : List Ins} {a : Int} {x : Ins} (h : insOf l a = (x, true)) (hi : inssB l = true) : 1 ≤ x.tick ∧ x.tick ≤ 1073741824 := by
  have hm : (insOf l a).1 ∈ l := insOf_mem (by unfold isB; rw [h])
  rw [h] at hm
  obtain ⟨j, hj⟩ := List.mem_iff_getElem?.1 hm
  have := (inss_iff.1 hi j x hj).2.2.1
  simpa [tickB] using this
set_option maxRecDepth 20000 in
set_option maxHeartbeats 4000000 in
theorem ordersF_c {s : SttC} {t : Stt} {o : Ord} {N : Nat} {w : World} (hS : StR w s t) (HP : PT w N 30 (encS s)) (hm : mayOne o = true) (hi : inssB t.inss = true) : Calls Tryz.prog 107 #[.agg (encO o).toArray, .pointer (some ⟨N, 0, none⟩)] w fun e w' => e = .returned (.bool (ordW t o)) ∧ Below w.heap.size w w' := by
  have hn := hS.n.2.2.1
  have g := mayOne_iff.1 hm
  generalize hI : insOf t.inss o.inst = xb
  obtain ⟨x, b⟩ := xb
  have hW : ordW t o = (decide (s.nord ≤ o.id) || (!openB t.accs o.acct || (!b || decide (o.price % x.tick ≠ 0)))) := by
    unfold ordW isB; rw [hI, hn]
  rw [hW]
  have hE := Ext.refl w
  have hw := Below.refl w.heap.size w
  refine fn_enter 37 Tryz.func107 rfl rfl rfl ?_
  repeat' (first | (refine is_cw ?_; first | (refine cw_seq ?_) | (refine cw_region ?_)))
  refine lw_boxN rfl rfl (cs := encO o) rfl ?_; intro N2 wn hN2 HX hb; replace hN2 := Nat.le_trans hw.size hN2; replace hw := grow_trans hw hb; clear hb
  replace hE := hE.mono hw; replace hS := hS.mono hw; replace HP := HP.mono hw; clear hw; have hw := Below.refl wn.heap.size wn
  repeat' (first | (refine lw_pure rfl (pv_move rfl) ?_) | (refine lw_pure rfl (pv_assign rfl) ?_) | (refine lw_call (f := 13) (by kernel_rfl) rfl rfl (inst_e hI (hS.mono hw)) ?_; rintro e w1 ⟨rfl, hb⟩; refine ⟨_, rfl, ?_⟩; replace hw := grow_trans hw hb; clear hb) | (refine is_cw ?_; first | (refine cw_seq ?_) | (refine cw_region ?_)) | (refine is_qw ?_; first | (with_reducible refine qw_then ?_)) | (refine lw_nil ?_) | ((refine is_load ?_; first | (refine lw_pure rfl (pv_load (t1 rfl) rfl (by first | exact PT.ld0 (HX.mono hw) rfl | exact PT.ld (HX.mono hw) rfl | exact PT.ld0 (HP.mono hw) rfl | exact PT.ld (HP.mono hw) rfl)) ?_) | (refine lw_pure rfl (pv_loada (tA rfl) rfl (by first | exact PT.lda (HX.mono hw) | exact PT.lda (HP.mono hw)) (by rfl)) ?_))) | ((refine is_fa ?_; first | (refine lw_pure rfl (pv_fa (tF rfl) rfl) ?_))) | (refine lw_pure rfl (pv_extract rfl rfl) ?_))
  refine lw_varN rfl (by first | exact tyv_29 | exact tyv_30 | exact tyv_33 | exact tyv_34 | exact tyv_36 | exact tyv_37 | exact tyv_38 | exact tyv_39 | exact tyv_40 | exact tyv_41 | exact tyv_43 | exact tyv_44 | exact tyv_45 | exact tyv_46 | exact tyv_73 | exact tyv_74 | exact tyv_80 | exact tyv_81 | exact tyv_107 | exact tyv_108 | exact tyv_123 | exact tyv_146 | exact tyv_147 | exact tyv_148 | exact tyv_149) rfl (tZ rfl) (fun _ => rfl) rfl rfl ?_; intro N5 w5 hN5 HV hb
  replace HV : PT w5 N5 37 (encN x) := HV
  replace hw := grow_trans hw hb
  clear hb
  replace hE := hE.mono hw; replace hS := hS.mono hw; replace HP := HP.mono hw; replace HX := HX.mono hw; clear hw; have hw := Below.refl w5.heap.size w5
  cases b with
  | true =>
    have htk := ins_tick hI hi
    cases hO : openB t.accs o.acct <;> by_cases hL : s.nord ≤ o.id <;> by_cases hR : o.price % x.tick = 0
    all_goals (repeat' (first | (refine lw_pure rfl (pv_move rfl) ?_) | (refine lw_pure rfl (pv_assign rfl) ?_) | (refine lw_call (f := 104) (by kernel_rfl) rfl rfl (open_e hO (hS.mono hw)) ?_; rintro e w1 ⟨rfl, hb⟩; refine ⟨_, rfl, ?_⟩; replace hw := grow_trans hw hb; clear hb) | (refine lw_pure rfl (pv_remI rfl rfl (by omega) (by omega)) ?_) | (refine is_cw ?_; first | (refine cw_seq ?_) | (refine cw_region ?_) | (refine cw_ret ?_)) | (refine is_qw ?_; first | (with_reducible refine qw_then ?_)) | (refine lw_nil ?_) | (refine is_guarded ?_; first | (refine lw_not rfl rfl rfl rfl ?_) | (refine lw_on rfl rfl rfl ?_) | (refine lw_on rfl rfl (by first | assumption | exact decide_eq_true (by omega) | exact decide_eq_false (by omega) | exact dec_notT (by omega) | exact dec_notF (by omega)) ?_) | (refine lw_not rfl rfl rfl (by first | assumption | exact decide_eq_true (by omega) | exact decide_eq_false (by omega) | exact dec_notT (by omega) | exact dec_notF (by omega)) ?_)) | ((refine is_bin ?_; first | (refine lw_pure rfl (pv_neq rfl rfl) ?_) | (refine lw_pure rfl (pv_geq rfl rfl) ?_))) | ((refine is_load ?_; first | (refine lw_pure rfl (pv_load (t1 rfl) rfl (by first | exact PT.ld0 (HX.mono hw) rfl | exact PT.ld (HX.mono hw) rfl | exact PT.ld0 (HP.mono hw) rfl | exact PT.ld (HP.mono hw) rfl | exact PT.ld0 (HV.mono hw) rfl | exact PT.ld (HV.mono hw) rfl)) ?_) | (refine lw_pure rfl (pv_loada (tA rfl) rfl (by first | exact PT.lda (HX.mono hw) | exact PT.lda (HP.mono hw) | exact PT.lda (HV.mono hw)) (by rfl)) ?_))) | ((refine is_fa ?_; first | (refine lw_pure rfl (pv_fa (tF rfl) rfl) ?_))) | ((refine is_un ?_; first | (refine lw_pure rfl (pv_not rfl) ?_))) | (refine is_pk ?_; refine lw_pure rfl (pv_pick_t rfl rfl rfl) ?_) | (refine is_pk ?_; refine lw_pure rfl (pv_pick_f rfl rfl rfl) ?_) | (refine is_pk ?_; refine lw_pure rfl (pv_pick_t rfl (by first | assumption | exact decide_eq_true (by omega) | exact dec_notT (by omega)) rfl) ?_) | (refine is_pk ?_; refine lw_pure rfl (pv_pick_f rfl (by first | assumption | exact decide_eq_false (by omega) | exact dec_notF (by omega)) rfl) ?_)))
    all_goals exact qw_ret1 rfl rfl ⟨by simp [hL, hR], (hE.mono hw).b⟩
  | false =>
    cases hO : openB t.accs o.acct <;> by_cases hL : s.nord ≤ o.id
    all_goals (repeat' (first | (refine lw_pure rfl (pv_move rfl) ?_) | (refine lw_pure rfl (pv_assign rfl) ?_) | (refine lw_call (f := 104) (by kernel_rfl) rfl rfl (open_e hO (hS.mono hw)) ?_; rintro e w1 ⟨rfl, hb⟩; refine ⟨_, rfl, ?_⟩; replace hw := grow_trans hw hb; clear hb) | (refine is_cw ?_; first | (refine cw_seq ?_) | (refine cw_region ?_) | (refine cw_ret ?_)) | (refine is_qw ?_; first | (with_reducible refine qw_then ?_)) | (refine lw_nil ?_) | (refine is_guarded ?_; first | (refine lw_not rfl rfl rfl rfl ?_) | (refine lw_on rfl rfl rfl ?_) | (refine lw_on rfl rfl (by first | assumption | exact decide_eq_true (by omega) | exact decide_eq_false (by omega) | exact dec_notT (by omega) | exact dec_notF (by omega)) ?_) | (refine lw_not rfl rfl rfl (by first | assumption | exact decide_eq_true (by omega) | exact decide_eq_false (by omega) | exact dec_notT (by omega) | exact dec_notF (by omega)) ?_)) | ((refine is_bin ?_; first | (refine lw_pure rfl (pv_geq rfl rfl) ?_))) | ((refine is_load ?_; first | (refine lw_pure rfl (pv_load (t1 rfl) rfl (by first | exact PT.ld0 (HX.mono hw) rfl | exact PT.ld (HX.mono hw) rfl | exact PT.ld0 (HP.mono hw) rfl | exact PT.ld (HP.mono hw) rfl | exact PT.ld0 (HV.mono hw) rfl | exact PT.ld (HV.mono hw) rfl)) ?_) | (refine lw_pure rfl (pv_loada (tA rfl) rfl (by first | exact PT.lda (HX.mono hw) | exact PT.lda (HP.mono hw) | exact PT.lda (HV.mono hw)) (by rfl)) ?_))) | ((refine is_fa ?_; first | (refine lw_pure rfl (pv_fa (tF rfl) rfl) ?_))) | ((refine is_un ?_; first | (refine lw_pure rfl (pv_not rfl) ?_))) | (refine is_pk ?_; refine lw_pure rfl (pv_pick_t rfl rfl rfl) ?_) | (refine is_pk ?_; refine lw_pure rfl (pv_pick_f rfl rfl rfl) ?_) | (refine is_pk ?_; refine lw_pure rfl (pv_pick_t rfl (by first | assumption | exact decide_eq_true (by omega) | exact dec_notT (by omega)) rfl) ?_) | (refine is_pk ?_; refine lw_pure rfl (pv_pick_f rfl (by first | assumption | exact decide_eq_false (by omega) | exact dec_notF (by omega)) rfl) ?_)))
    all_goals exact qw_ret1 rfl rfl ⟨by simp [hL], (hE.mono hw).b⟩
set_option maxRecDepth 20000 in
set_option maxHeartbeats 2000000 in
theorem orders_c {s : SttC} {t : Stt} {w : World} (hS : StR w s t) (hi : inssB t.inss = true) : Calls Tryz.prog 74 #[(.agg (encS s).toArray)] w fun e w' => e = .returned (.bool (ordsB t)) ∧ Below w.heap.size w w' := by
  unfold ordsB
  have hE := Ext.refl w
  have hw := Below.refl w.heap.size w
  refine fn_enter 15 Tryz.func74 rfl rfl rfl ?_
  repeat' (first | (refine is_cw ?_; first | (refine cw_seq ?_) | (refine cw_region ?_)))
  refine lw_boxN rfl rfl (cs := encS s) rfl ?_; intro N2 wn hN2 HX hb; replace hN2 := Nat.le_trans hw.size hN2; replace hw := grow_trans hw hb; clear hb
  replace hE := hE.mono hw; replace hS := hS.mono hw; clear hw; have hw := Below.refl wn.heap.size wn
  have hc := bmay_c (w := wn) hS.mo hS.O
  cases hM : mayO t.ords with
  | false =>
    rw [hM] at hc
    repeat' (first | (refine lw_pure rfl (pv_move rfl) ?_) | (refine lw_pure rfl (pv_assign rfl) ?_) | (refine lw_call (f := 65) (by kernel_rfl) rfl rfl (hc) ?_; rintro e w1 ⟨rfl, hb⟩; refine ⟨_, rfl, ?_⟩; replace hw := grow_trans hw hb; clear hb) | (refine is_cw ?_; first | (refine cw_seq ?_) | (refine cw_region ?_) | (refine cw_ret ?_)) | (refine is_qw ?_; first | (with_reducible refine qw_then ?_)) | (refine lw_nil ?_) | (refine is_guarded ?_; first | (refine lw_not rfl rfl rfl rfl ?_)) | ((refine is_load ?_; first | (refine lw_pure rfl (pv_load (t1 rfl) rfl (by first | exact PT.ld0 (HX.mono hw) rfl | exact PT.ld (HX.mono hw) rfl)) ?_))) | ((refine is_fa ?_; first | (refine lw_pure rfl (pv_fa (tF rfl) rfl) ?_))) | (refine is_pk ?_; refine lw_pure rfl (pv_pick_f rfl rfl rfl) ?_) | (refine lw_pure rfl (pv_makeFunc rfl rfl) ?_))
    exact qw_ret1 rfl rfl ⟨rfl, (hE.mono hw).b⟩
  | true =>
    rw [hM] at hc
    have hall := (mayO_iff.1 hM).2.1
    repeat' (first | (refine lw_pure rfl (pv_move rfl) ?_) | (refine lw_pure rfl (pv_assign rfl) ?_) | (refine lw_call (f := 65) (by kernel_rfl) rfl rfl (hc) ?_; rintro e w1 ⟨rfl, hb⟩; refine ⟨_, rfl, ?_⟩; replace hw := grow_trans hw hb; clear hb) | (refine lw_call (f := 91) (by kernel_rfl) rfl rfl (contf_O _ (ordW t) 107 #[.pointer (some ⟨N2, 0, none⟩)] (by kernel_rfl) (Nat.le_refl _) (fun o ho w' hb => ordersF_c ((hS.mono hw).mono hb) ((HX.mono hw).mono hb) (hall o ho) hi) hS.mo (hS.O.mono hw)) ?_; rintro e w1 ⟨rfl, hb⟩; refine ⟨_, rfl, ?_⟩; replace hw := grow_trans hw hb; clear hb) | (refine is_cw ?_; first | (refine cw_seq ?_) | (refine cw_region ?_) | (refine cw_ret ?_)) | (refine is_qw ?_; first | (with_reducible refine qw_then ?_)) | (refine lw_nil ?_) | (refine is_guarded ?_; first | (refine lw_on rfl rfl rfl ?_)) | ((refine is_load ?_; first | (refine lw_pure rfl (pv_load (t1 rfl) rfl (by first | exact PT.ld0 (HX.mono hw) rfl | exact PT.ld (HX.mono hw) rfl)) ?_))) | ((refine is_fa ?_; first | (refine lw_pure rfl (pv_fa (tF rfl) rfl) ?_))) | ((refine is_un ?_; first | (refine lw_pure rfl (pv_not rfl) ?_))) | (refine is_pk ?_; refine lw_pure rfl (pv_pick_t rfl rfl rfl) ?_) | (refine lw_pure rfl (pv_makeFunc rfl rfl) ?_))
    exact qw_ret1 rfl rfl ⟨by simp, (hE.mono hw).b⟩
set_option maxRecDepth 20000 in
theorem aucG_c {s : SttC} {t : Stt} {b : Bid} {N : Nat} {w : World} (hS : StR w s t) (HP : PT w N 30 (encS s)) : Calls Tryz.prog 109 #[.agg (encD b).toArray, .pointer (some ⟨N, 0, none⟩)] w fun e w' => e = .returned (.bool (!openB t.accs b.acct)) ∧ Below w.heap.size w w' := by
  have hE := Ext.refl w
  have hw := Below.refl w.heap.size w
  refine fn_enter 9 Tryz.func109 rfl rfl rfl ?_
  repeat' (first | (refine is_cw ?_; first | (refine cw_seq ?_) | (refine cw_region ?_)))
  refine lw_boxN rfl rfl (cs := encD b) rfl ?_; intro N2 wn hN2 HX hb; replace hN2 := Nat.le_trans hw.size hN2; replace hw := grow_trans hw hb; clear hb
  replace hE := hE.mono hw; replace hS := hS.mono hw; replace HP := HP.mono hw; clear hw; have hw := Below.refl wn.heap.size wn
  repeat' (first | (refine lw_pure rfl (pv_assign rfl) ?_) | (refine lw_call (f := 104) (by kernel_rfl) rfl rfl (open_c (hS.mono hw)) ?_; rintro e w1 ⟨rfl, hb⟩; refine ⟨_, rfl, ?_⟩; replace hw := grow_trans hw hb; clear hb) | (refine is_cw ?_; first | (refine cw_seq ?_) | (refine cw_region ?_) | (refine cw_ret ?_)) | (refine is_qw ?_; first | (with_reducible refine qw_then ?_)) | (refine lw_nil ?_) | ((refine is_load ?_; first | (refine lw_pure rfl (pv_load (t1 rfl) rfl (by first | exact PT.ld0 (HX.mono hw) rfl | exact PT.ld (HX.mono hw) rfl | exact PT.ld0 (HP.mono hw) rfl | exact PT.ld (HP.mono hw) rfl)) ?_) | (refine lw_pure rfl (pv_loada (tA rfl) rfl (by first | exact PT.lda (HX.mono hw) | exact PT.lda (HP.mono hw)) (by rfl)) ?_))) | ((refine is_fa ?_; first | (refine lw_pure rfl (pv_fa (tF rfl) rfl) ?_))) | ((refine is_un ?_; first | (refine lw_pure rfl (pv_not rfl) ?_))))
  exact qw_ret1 rfl rfl ⟨rfl, (hE.mono hw).b⟩
set_option maxRecDepth 20000 in
set_option maxHeartbeats 4000000 in
theorem aucF_c {s : SttC} {t : Stt} {a : Auc} {ba : Option Addr} {bc N : Nat} {w : World} (hS : StR w s t) (HP : PT w N 30 (encS s)) (HB : SlR encD 2 w ba bc a.bids) : Calls Tryz.prog 108 #[.agg (List.toArray [.int .i64 a.h.id, .int .i64 a.h.seller, .int .i64 a.h.inst, .bool a.h.shut, .int .i64 a.h.qty, .int .i64 a.h.reserve, .int .i64 a.h.step, .int .i64 a.h.fin, .slice ba a.bids.length bc]), .pointer (some ⟨N, 0, none⟩)] w fun e w' => e = .returned (.bool (aucW t a)) ∧ Below w.heap.size w w' := by
  have hn := hS.n.2.2.2
  have hW : aucW t a = (decide (s.nauc ≤ a.h.id) || (!openB t.accs a.h.seller || (!isB t.inss a.h.inst || a.bids.any fun b => !openB t.accs b.acct))) := by
    unfold aucW; rw [hn]
  rw [hW]
  have hE := Ext.refl w
  have hw := Below.refl w.heap.size w
  refine fn_enter 31 Tryz.func108 rfl rfl rfl ?_
  repeat' (first | (refine is_cw ?_; first | (refine cw_seq ?_) | (refine cw_region ?_)))
  refine lw_boxN rfl rfl (cs := [.int .i64 a.h.id, .int .i64 a.h.seller, .int .i64 a.h.inst, .bool a.h.shut, .int .i64 a.h.qty, .int .i64 a.h.reserve, .int .i64 a.h.step, .int .i64 a.h.fin, .slice ba a.bids.length bc]) rfl ?_; intro N2 wn hN2 HX hb; replace hN2 := Nat.le_trans hw.size hN2; replace hw := grow_trans hw hb; clear hb
  replace hE := hE.mono hw; replace hS := hS.mono hw; replace HP := HP.mono hw; replace HB := HB.mono hw; clear hw; have hw := Below.refl wn.heap.size wn
  cases hO : openB t.accs a.h.seller <;> cases hI : isB t.inss a.h.inst <;> by_cases hL : s.nauc ≤ a.h.id
  all_goals (repeat' (first | (refine lw_pure rfl (pv_move rfl) ?_) | (refine lw_pure rfl (pv_assign rfl) ?_) | (refine lw_call (f := 104) (by kernel_rfl) rfl rfl (open_e hO (hS.mono hw)) ?_; rintro e w1 ⟨rfl, hb⟩; refine ⟨_, rfl, ?_⟩; replace hw := grow_trans hw hb; clear hb) | (refine lw_call (f := 110) (by kernel_rfl) rfl rfl (there_e hI (hS.mono hw)) ?_; rintro e w1 ⟨rfl, hb⟩; refine ⟨_, rfl, ?_⟩; replace hw := grow_trans hw hb; clear hb) | (refine lw_call (f := 111) (by kernel_rfl) rfl rfl (contf_D _ (fun b : Bid => !openB t.accs b.acct) 109 #[.pointer (some ⟨N, 0, none⟩)] (by kernel_rfl) (Nat.le_refl _) (fun c _ w' hb => aucG_c ((hS.mono hw).mono hb) ((HP.mono hw).mono hb)) rfl (HB.mono hw)) ?_; rintro e w1 ⟨rfl, hb⟩; refine ⟨_, rfl, ?_⟩; replace hw := grow_trans hw hb; clear hb) | (refine is_cw ?_; first | (refine cw_seq ?_) | (refine cw_region ?_) | (refine cw_ret ?_)) | (refine is_qw ?_; first | (with_reducible refine qw_then ?_)) | (refine lw_nil ?_) | (refine is_guarded ?_; first | (refine lw_not rfl rfl rfl rfl ?_) | (refine lw_on rfl rfl rfl ?_) | (refine lw_on rfl rfl (by first | assumption | exact decide_eq_true (by omega) | exact decide_eq_false (by omega) | exact dec_notT (by omega) | exact dec_notF (by omega)) ?_) | (refine lw_not rfl rfl rfl (by first | assumption | exact decide_eq_true (by omega) | exact decide_eq_false (by omega) | exact dec_notT (by omega) | exact dec_notF (by omega)) ?_)) | ((refine is_bin ?_; first | (refine lw_pure rfl (pv_geq rfl rfl) ?_))) | ((refine is_load ?_; first | (refine lw_pure rfl (pv_load (t1 rfl) rfl (by first | exact PT.ld0 (HX.mono hw) rfl | exact PT.ld (HX.mono hw) rfl | exact PT.ld0 (HP.mono hw) rfl | exact PT.ld (HP.mono hw) rfl)) ?_) | (refine lw_pure rfl (pv_loada (tA rfl) rfl (by first | exact PT.lda (HX.mono hw) | exact PT.lda (HP.mono hw)) (by rfl)) ?_))) | ((refine is_fa ?_; first | (refine lw_pure rfl (pv_fa (tF rfl) rfl) ?_))) | ((refine is_un ?_; first | (refine lw_pure rfl (pv_not rfl) ?_))) | (refine is_pk ?_; refine lw_pure rfl (pv_pick_t rfl rfl rfl) ?_) | (refine is_pk ?_; refine lw_pure rfl (pv_pick_f rfl rfl rfl) ?_) | (refine is_pk ?_; refine lw_pure rfl (pv_pick_t rfl (by first | assumption | exact decide_eq_true (by omega) | exact dec_notT (by omega)) rfl) ?_) | (refine is_pk ?_; refine lw_pure rfl (pv_pick_f rfl (by first | assumption | exact decide_eq_false (by omega) | exact dec_notF (by omega)) rfl) ?_) | (refine lw_pure rfl (pv_makeFunc rfl rfl) ?_)))
  all_goals exact qw_ret1 rfl rfl ⟨by simp [hL], (hE.mono hw).b⟩
theorem aucF_x {s : SttC} {t : Stt} {xs : List AucC} {x : AucC} {b : Bool} {j N : Nat} {w : World} (hS : StR w s t) (HP : PT w N 30 (encS s)) (HA : AusR w xs t.aucs) (hx : xs[j]? = some x) (hb : (t.aucs.map (aucW t))[j]? = some b) : Calls Tryz.prog 108 (#[] ++ [Value.agg (encC x).toArray].toArray ++ #[.pointer (some ⟨N, 0, none⟩)]) w fun e w' => e = .returned (.bool b) ∧ Below w.heap.size w w' := by
  rw [List.getElem?_map] at hb
  cases ha : t.aucs[j]? with
  | none => rw [ha] at hb; cases hb
  | some a =>
    rw [ha] at hb
    simp only [Option.map_some, Option.some.injEq] at hb
    subst hb
    obtain ⟨y, hy, hR⟩ := HA.at ha
    rw [hx] at hy; injection hy with hy; subst hy
    obtain ⟨xh, ba, bm, bc⟩ := x
    obtain ⟨hh, hm, HB⟩ := hR
    simp only at hh hm HB
    subst hh hm
    exact aucF_c hS HP HB
set_option maxRecDepth 20000 in
theorem contg_C {xs : List AucC} {m : Nat} {ad : Option Addr} {cap : Nat} {w : World} (base : Nat) (bs : List Bool) (F : FuncId) (caps : Array Value) (he : entersB Tryz.prog F = true) (hbw : base ≤ w.heap.size) (hbs : bs.length = xs.length) (hF : ∀ (j : Nat) x b, xs[j]? = some x → bs[j]? = some b → ∀ w', Below base w w' → Calls Tryz.prog F (#[] ++ [Value.agg (encC x).toArray].toArray ++ caps) w' fun e w'' => e = .returned (.bool b) ∧ Below w'.heap.size w' w'') (hm : xs.length = m) (HS : SlR encC 9 w ad cap xs) : Calls Tryz.prog 112 #[.slice ad m cap, .func (.func F) #[] caps] w fun e w' => e = .returned (.bool (bs.any id)) ∧ Below w.heap.size w w' := by
  have hI : Calls Tryz.prog 134 #[.slice ad m cap, .func (.func F) #[] caps] w fun e w' => (∃ i : Int, e = .returned (.int .i64 i) ∧ decide (i ≥ 0) = bs.any id ∧ -1 ≤ i) ∧ Below w.heap.size w w' := by
    subst hm
    have hw := Below.refl w.heap.size w
    have hla := HS.le
    have hma := HS.max
    refine fn_enter 19 Tryz.func134 rfl rfl rfl ?_
    repeat' (first | (refine lw_pure rfl (pv_move rfl) ?_) | (refine lw_pure rfl (pv_assign rfl) ?_) | (refine is_cw ?_; first | (refine cw_seq ?_) | (refine cw_region ?_) | (refine cw_block ?_)) | (refine is_qw ?_; first | (with_reducible refine qw_then ?_)) | (refine lw_nil ?_) | ((refine is_bi ?_; first | (refine lw_pure rfl (pv_lenl (tS rfl) rfl) ?_))))
    refine cw_loop (σ := Nat) (fun k => [(0, .slice ad xs.length cap), (1, .func (.func F) #[] caps), (7, .int .i64 (xs.length : Nat)), (8, .int .i64 (k : Nat))]) (fun k wr => k ≤ xs.length ∧ Below w.heap.size w wr ∧ ∀ b ∈ bs.take k, b = false) (fun k => xs.length - k) 0 (by repeat' (first | exact trivial | refine ⟨rfl, ?_⟩)) ⟨Nat.zero_le _, hw, by simp⟩ ?_
    clear hw
    rintro k wr ⟨hk, hw, hn⟩
    by_cases hlt : k < xs.length
    · have hxk : xs[k]? = some xs[k] := List.getElem?_eq_getElem hlt
      have hbk : bs[k]? = some (bs[k]'(by omega)) := List.getElem?_eq_getElem _
      obtain ⟨ab, ao, rfl, -, -⟩ := HS.at (by intro h; rw [h] at hlt; simp at hlt)
      generalize xs[k] = x at hxk
      generalize bs[k]'(by omega) = b at hbk
      repeat' (first | (refine lw_pure rfl (pv_move rfl) ?_) | (refine lw_pure rfl (pv_assign rfl) ?_) | (refine is_cw ?_; first | (refine cw_seq ?_) | (refine cw_region ?_) | (refine is_cd ?_; refine cw_true rfl (by first | assumption | exact decide_eq_true (by omega) | exact dec_notT (by omega)) ?_) | (refine cw_skip ?_) | (refine cw_block ?_)) | (refine is_qw ?_; first | (with_reducible refine qw_then ?_)) | (refine lw_nil ?_) | ((refine is_bin ?_; first | (refine lw_pure rfl (pv_lss rfl rfl) ?_))) | ((refine is_load ?_; first | (refine lw_pure rfl (pv_loada (tA rfl) rfl (by first | exact SlR.lda (HS.mono hw) hxk) (by rfl)) ?_))) | ((refine is_ia ?_; first | (refine lw_pure rfl (pv_ian (tS rfl) rfl rfl (by omega)) ?_))))
      refine lw_callv (f := F) rfl he rfl rfl (hF k x b hxk hbk _ (hw.mono hbw)) ?_; rintro e w1 ⟨rfl, hb⟩; refine ⟨_, rfl, ?_⟩; replace hw := grow_trans hw hb; clear hb
      cases b with
      | true =>
        repeat' (first | (refine lw_pure rfl (pv_move rfl) ?_) | (refine lw_pure rfl (pv_assign rfl) ?_) | (refine is_cw ?_; first | (refine cw_seq ?_) | (refine cw_region ?_) | (refine cw_true rfl rfl ?_) | (refine cw_ret ?_)) | (refine is_qw ?_; first | (with_reducible refine qw_then ?_) | (with_reducible refine qw_then_ret ?_) | (with_reducible refine qw_in_ret ?_)) | (refine lw_nil ?_))
        exact qw_ret1 rfl rfl ⟨⟨_, rfl, by rw [decide_eq_true (by omega)]; symm; rw [List.any_eq_true]; exact ⟨true, List.mem_of_getElem? hbk, rfl⟩, by omega⟩, hw⟩
      | false =>
        repeat' (first | (refine lw_pure rfl (pv_move rfl) ?_) | (refine is_cw ?_; first | (refine cw_region ?_) | (refine cw_false rfl rfl ?_) | (refine cw_skip ?_)) | (refine is_qw ?_; first | (with_reducible refine qw_then ?_) | (with_reducible refine qw_in ?_)) | (refine lw_nil ?_) | ((refine is_bin ?_; first | (refine lw_pure rfl (pv_inc rfl rfl (by omega)) ?_))))
        refine qw_round (k + 1) (by repeat' (first | exact trivial | refine ⟨rfl, ?_⟩)) ⟨by omega, hw, ?_⟩ (by omega)
        intro y hy
        rw [List.take_add_one, hbk] at hy
        rcases List.mem_append.1 hy with hy | hy
        · exact hn y hy
        · simpa using hy
    · have hkl : k = xs.length := by omega
      subst hkl
      rw [← hbs, List.take_length] at hn
      repeat' (first | (refine lw_pure rfl (pv_assign rfl) ?_) | (refine is_cw ?_; first | (refine cw_seq ?_) | (refine cw_region ?_) | (refine is_cd ?_; refine cw_false rfl (by first | assumption | exact decide_eq_false (by omega) | exact dec_notF (by omega)) ?_) | (refine cw_exit ?_) | (refine cw_ret ?_)) | (refine is_qw ?_; first | (with_reducible refine qw_then ?_) | (with_reducible refine qw_in_hit ?_) | (with_reducible refine qw_then_exit ?_)) | (refine lw_nil ?_) | ((refine is_bin ?_; first | (refine lw_pure rfl (pv_lss rfl rfl) ?_))))
      exact qw_ret1 rfl rfl ⟨⟨_, rfl, by rw [decide_eq_false (by omega)]; symm; rw [List.any_eq_false]; intro b hb; rw [hn b hb]; decide, by omega⟩, hw⟩
  have hw := Below.refl w.heap.size w
  refine fn_enter 9 Tryz.func112 rfl rfl rfl ?_
  repeat' (first | (refine lw_pure rfl (pv_move rfl) ?_) | (refine lw_pure rfl (pv_assign rfl) ?_) | (refine is_cw ?_; first | (refine cw_seq ?_) | (refine cw_region ?_)) | (refine is_qw ?_; first | (with_reducible refine qw_then ?_)) | (refine lw_nil ?_))
  refine lw_call (f := 134) (by kernel_rfl) rfl rfl (hI) ?_; rintro e w1 ⟨⟨i, rfl, hv, hi⟩, hb⟩; refine ⟨_, rfl, ?_⟩; replace hw := grow_trans hw hb; clear hb
  repeat' (first | (refine lw_pure rfl (pv_assign rfl) ?_) | (refine is_cw ?_; first | (refine cw_ret ?_)) | (refine is_qw ?_; first | (with_reducible refine qw_then ?_)) | (refine lw_nil ?_) | ((refine is_bin ?_; first | (refine lw_pure rfl (pv_geq rfl rfl) ?_))))
  exact qw_ret1 rfl rfl ⟨by rw [← hv], hw⟩

set_option maxRecDepth 20000 in
set_option maxHeartbeats 2000000 in
theorem auctions_c {s : SttC} {t : Stt} {w : World} (hS : StR w s t) : Calls Tryz.prog 75 #[(.agg (encS s).toArray)] w fun e w' => e = .returned (.bool (aucsB t)) ∧ Below w.heap.size w w' := by
  unfold aucsB
  obtain ⟨xs, HXs, HA⟩ := hS.X
  have hln := HA.1
  have hE := Ext.refl w
  have hw := Below.refl w.heap.size w
  refine fn_enter 15 Tryz.func75 rfl rfl rfl ?_
  repeat' (first | (refine is_cw ?_; first | (refine cw_seq ?_) | (refine cw_region ?_)))
  refine lw_boxN rfl rfl (cs := encS s) rfl ?_; intro N2 wn hN2 HX hb; replace hN2 := Nat.le_trans hw.size hN2; replace hw := grow_trans hw hb; clear hb
  replace hE := hE.mono hw; replace hS := hS.mono hw; replace HXs := HXs.mono hw; replace HA := HA.mono hw; clear hw; have hw := Below.refl wn.heap.size wn
  have hc := amayAll_c (w := wn) hS.mx HXs HA
  cases hM : mayAus t.aucs with
  | false =>
    rw [hM] at hc
    repeat' (first | (refine lw_pure rfl (pv_move rfl) ?_) | (refine lw_pure rfl (pv_assign rfl) ?_) | (refine lw_call (f := 31) (by kernel_rfl) rfl rfl (hc) ?_; rintro e w1 ⟨rfl, hb⟩; refine ⟨_, rfl, ?_⟩; replace hw := grow_trans hw hb; clear hb) | (refine is_cw ?_; first | (refine cw_seq ?_) | (refine cw_region ?_) | (refine cw_ret ?_)) | (refine is_qw ?_; first | (with_reducible refine qw_then ?_)) | (refine lw_nil ?_) | (refine is_guarded ?_; first | (refine lw_not rfl rfl rfl rfl ?_)) | ((refine is_load ?_; first | (refine lw_pure rfl (pv_load (t1 rfl) rfl (by first | exact PT.ld0 (HX.mono hw) rfl | exact PT.ld (HX.mono hw) rfl)) ?_))) | ((refine is_fa ?_; first | (refine lw_pure rfl (pv_fa (tF rfl) rfl) ?_))) | (refine is_pk ?_; refine lw_pure rfl (pv_pick_f rfl rfl rfl) ?_) | (refine lw_pure rfl (pv_makeFunc rfl rfl) ?_))
    exact qw_ret1 rfl rfl ⟨rfl, (hE.mono hw).b⟩
  | true =>
    rw [hM] at hc
    repeat' (first | (refine lw_pure rfl (pv_move rfl) ?_) | (refine lw_pure rfl (pv_assign rfl) ?_) | (refine lw_call (f := 31) (by kernel_rfl) rfl rfl (hc) ?_; rintro e w1 ⟨rfl, hb⟩; refine ⟨_, rfl, ?_⟩; replace hw := grow_trans hw hb; clear hb) | (refine lw_call (f := 112) (by kernel_rfl) rfl rfl (contg_C _ (t.aucs.map (aucW t)) 108 #[.pointer (some ⟨N2, 0, none⟩)] (by kernel_rfl) (Nat.le_refl _) (by rw [List.length_map]; exact hln.symm) (fun j x b hx hb w' hB => aucF_x ((hS.mono hw).mono hB) ((HX.mono hw).mono hB) (((HA.mono hw).mono hB)) hx hb) (hln.trans hS.mx) (HXs.mono hw)) ?_; rintro e w1 ⟨rfl, hb⟩; refine ⟨_, rfl, ?_⟩; replace hw := grow_trans hw hb; clear hb) | (refine is_cw ?_; first | (refine cw_seq ?_) | (refine cw_region ?_) | (refine cw_ret ?_)) | (refine is_qw ?_; first | (with_reducible refine qw_then ?_)) | (refine lw_nil ?_) | (refine is_guarded ?_; first | (refine lw_on rfl rfl rfl ?_)) | ((refine is_load ?_; first | (refine lw_pure rfl (pv_load (t1 rfl) rfl (by first | exact PT.ld0 (HX.mono hw) rfl | exact PT.ld (HX.mono hw) rfl)) ?_))) | ((refine is_fa ?_; first | (refine lw_pure rfl (pv_fa (tF rfl) rfl) ?_))) | ((refine is_un ?_; first | (refine lw_pure rfl (pv_not rfl) ?_))) | (refine is_pk ?_; refine lw_pure rfl (pv_pick_t rfl rfl rfl) ?_) | (refine lw_pure rfl (pv_makeFunc rfl rfl) ?_))
    exact qw_ret1 rfl rfl ⟨by simp [List.any_map], (hE.mono hw).b⟩
end Go.Proofs.YtekomjnjddhfmaaGreat
