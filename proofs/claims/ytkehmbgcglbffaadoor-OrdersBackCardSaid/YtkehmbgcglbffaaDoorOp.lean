/-
  Plain words on open orders and lots: what is put in its row, what is taken out, what has less left. Conditions: none.
-/
import Derived.Test.YtkehmbgcglbffaaDoorOs
namespace Go.Proofs.YtkehmbgcglbffaaDoor
open Go.PlainAid

theorem insP_perm (o : Opn) : ∀ p : List Opn, (insP p o).Perm (p ++ [o])
  | [] => List.Perm.refl _
  | x :: r => by
    unfold insP
    split
    · have : (o :: (x :: r)).Perm ((x :: r) ++ [o]) := (List.perm_append_comm (l₁ := [o]) (l₂ := x :: r))
      exact this
    · exact List.Perm.cons x (insP_perm o r)
theorem insT_perm (o : Lt) : ∀ p : List Lt, (insT p o).Perm (p ++ [o])
  | [] => List.Perm.refl _
  | x :: r => by
    unfold insT
    split
    · have : (o :: (x :: r)).Perm ((x :: r) ++ [o]) := (List.perm_append_comm (l₁ := [o]) (l₂ := x :: r))
      exact this
    · exact List.Perm.cons x (insT_perm o r)
theorem insP_pw {o : Opn} : ∀ {p : List Opn}, p.Pairwise keyO → (∀ x ∈ p, keyO x o ∨ keyO o x) → (insP p o).Pairwise keyO
  | [], _, _ => by simp [insP]
  | x :: r, hp, h => by
    obtain ⟨h1, h2⟩ := List.pairwise_cons.1 hp
    unfold insP
    split
    · rename_i hk
      refine List.pairwise_cons.2 ⟨fun y hy => ?_, hp⟩
      rcases List.mem_cons.1 hy with rfl | hy
      · exact hk
      · exact keyO_trans hk (h1 y hy)
    · rename_i hk
      refine List.pairwise_cons.2 ⟨fun y hy => ?_, insP_pw h2 (fun y hy => h y (List.mem_cons_of_mem _ hy))⟩
      rcases List.mem_append.1 ((insP_perm o r).mem_iff.1 hy) with hy | hy
      · exact h1 y hy
      · simp at hy; subst hy
        rcases h x (by simp) with h3 | h3
        · exact h3
        · exact absurd h3 hk
theorem insT_pw {o : Lt} : ∀ {p : List Lt}, p.Pairwise keyT → (∀ x ∈ p, keyT x o ∨ keyT o x) → (insT p o).Pairwise keyT
  | [], _, _ => by simp [insT]
  | x :: r, hp, h => by
    obtain ⟨h1, h2⟩ := List.pairwise_cons.1 hp
    unfold insT
    split
    · rename_i hk
      refine List.pairwise_cons.2 ⟨fun y hy => ?_, hp⟩
      rcases List.mem_cons.1 hy with rfl | hy
      · exact hk
      · exact keyT_trans hk (h1 y hy)
    · rename_i hk
      refine List.pairwise_cons.2 ⟨fun y hy => ?_, insT_pw h2 (fun y hy => h y (List.mem_cons_of_mem _ hy))⟩
      rcases List.mem_append.1 ((insT_perm o r).mem_iff.1 hy) with hy | hy
      · exact h1 y hy
      · simp at hy; subst hy
        rcases h x (by simp) with h3 | h3
        · exact h3
        · exact absurd h3 hk
theorem sortP_eq {l m : List Opn} (hp : l.Perm m) (h1 : l.Pairwise keyO) (h2 : m.Pairwise keyO) : l = m :=
  List.Perm.eq_of_pairwise (le := keyO) (fun _ _ _ _ h g => absurd g (keyO_asymm h)) h1 h2 hp
theorem sortT_eq {l m : List Lt} (hp : l.Perm m) (h1 : l.Pairwise keyT) (h2 : m.Pairwise keyT) : l = m :=
  List.Perm.eq_of_pairwise (le := keyT) (fun _ _ _ _ h g => by unfold keyT at *; omega) h1 h2 hp
theorem findP_none {p : List Opn} {id : Int} (h : findP p id = none) : ∀ x ∈ p, x.id ≠ id := by
  unfold findP at h
  rw [List.find?_eq_none] at h
  intro x hx e; exact h x hx (by simp [e])
theorem findT_none {p : List Lt} {id : Int} (h : findT p id = none) : ∀ x ∈ p, x.id ≠ id := by
  unfold findT at h
  rw [List.find?_eq_none] at h
  intro x hx e; exact h x hx (by simp [e])
theorem key_diff {x o : Opn} (h : x.id ≠ o.id) : keyO x o ∨ keyO o x := by unfold keyO; omega
theorem keyT_diff {x o : Lt} (h : x.id ≠ o.id) : keyT x o ∨ keyT o x := by unfold keyT; omega
theorem put_pw {p : List Opn} {o : Opn} (hp : p.Pairwise keyO) (h : ∀ x ∈ p, x.id ≠ o.id) : (p ++ [o]).Pairwise fun x y => keyO x y ∨ keyO y x := by
  refine List.pairwise_append.2 ⟨hp.imp Or.inl, by simp, fun x hx y hy => ?_⟩
  simp at hy; subst hy; exact key_diff (h x hx)
theorem putT_pw {p : List Lt} {o : Lt} (hp : p.Pairwise keyT) (h : ∀ x ∈ p, x.id ≠ o.id) : (p ++ [o]).Pairwise fun x y => keyT x y ∨ keyT y x := by
  refine List.pairwise_append.2 ⟨hp.imp Or.inl, by simp, fun x hx y hy => ?_⟩
  simp at hy; subst hy; exact keyT_diff (h x hx)
theorem put_sorted {p zs : List Opn} {o : Opn} (hp : p.Pairwise keyO) (h : ∀ x ∈ p, x.id ≠ o.id) (hz : zs.Perm (p ++ [o])) (hs : zs.Pairwise keyO) : zs = insP p o :=
  sortP_eq (hz.trans (insP_perm o p).symm) hs (insP_pw hp (fun x hx => key_diff (h x hx)))
theorem putT_sorted {p zs : List Lt} {o : Lt} (hp : p.Pairwise keyT) (h : ∀ x ∈ p, x.id ≠ o.id) (hz : zs.Perm (p ++ [o])) (hs : zs.Pairwise keyT) : zs = insT p o :=
  sortT_eq (hz.trans (insT_perm o p).symm) hs (insT_pw hp (fun x hx => keyT_diff (h x hx)))
/-! ### what is taken out -/
theorem map_other {p : List Opn} {id q : Int} (h : ∀ x ∈ p, x.id ≠ id) : p.map (cutP id q) = p := by
  have : ∀ x ∈ p, cutP id q x = x := fun x hx => by unfold cutP; rw [if_neg (h x hx)]
  exact (List.map_congr_left this).trans (List.map_id' p)
theorem keep_pos {p : List Opn} (h : ∀ x ∈ p, 0 < x.left) : (p.filter fun o => decide (0 < o.left)) = p := List.filter_eq_self.2 fun x hx => by simp [h x hx]
theorem cancel_eq : ∀ {p : List Opn} {k : Nat} {o : Opn}, p[k]? = some o → (p.map (·.id)).Nodup → (∀ x ∈ p, 0 < x.left) → lessP p o.id o.left = p.eraseIdx k
  | [], _, _, h, _, _ => by simp at h
  | x :: r, 0, o, h, hn, hl => by
    simp at h; subst h
    rw [List.map_cons, List.nodup_cons] at hn
    have hne : ∀ y ∈ r, y.id ≠ x.id := fun y hy e => hn.1 (List.mem_map.2 ⟨y, hy, e⟩)
    unfold lessP
    rw [List.map_cons, map_other hne, List.filter_cons_of_neg (by simp [cutP]), keep_pos (fun y hy => hl y (List.mem_cons_of_mem _ hy))]
    rfl
  | x :: r, k + 1, o, h, hn, hl => by
    have h' : r[k]? = some o := by simpa using h
    rw [List.map_cons, List.nodup_cons] at hn
    have hne : x.id ≠ o.id := fun e => hn.1 (List.mem_map.2 ⟨o, List.mem_of_getElem? h', e.symm⟩)
    have ih := cancel_eq h' hn.2 (fun y hy => hl y (List.mem_cons_of_mem _ hy))
    unfold lessP at ih ⊢
    rw [List.map_cons, show cutP o.id o.left x = x by unfold cutP; rw [if_neg hne], List.filter_cons_of_pos (by simpa using hl x (by simp)), ih]
    rfl
theorem gone_eq : ∀ {t : List Lt} {k : Nat} {o : Lt}, t[k]? = some o → t.Pairwise keyT → gone t o.id = t.eraseIdx k
  | [], _, _, h, _ => by simp at h
  | x :: r, 0, o, h, hp => by
    simp at h; subst h
    obtain ⟨h1, _⟩ := List.pairwise_cons.1 hp
    unfold gone
    rw [List.filter_cons_of_neg (by simp), List.filter_eq_self.2 (fun y hy => by have := h1 y hy; unfold keyT at this; simp; omega)]
    rfl
  | x :: r, k + 1, o, h, hp => by
    have h' : r[k]? = some o := by simpa using h
    obtain ⟨h1, h2⟩ := List.pairwise_cons.1 hp
    have hk := h1 o (List.mem_of_getElem? h')
    unfold keyT at hk
    have ih := gone_eq h' h2
    unfold gone at ih ⊢
    rw [List.filter_cons_of_pos (by simp; omega), ih]
    rfl
/-! ### less of one -/
theorem set_map : ∀ {p : List Opn} {k : Nat} {o : Opn} {q : Int}, p[k]? = some o → (p.map (·.id)).Nodup → p.set k { o with left := o.left - q } = p.map (cutP o.id q)
  | [], _, _, _, h, _ => by simp at h
  | x :: r, 0, o, q, h, hn => by
    simp at h; subst h
    rw [List.map_cons, List.nodup_cons] at hn
    have hne : ∀ y ∈ r, y.id ≠ x.id := fun y hy e => hn.1 (List.mem_map.2 ⟨y, hy, e⟩)
    rw [List.map_cons, map_other hne]
    simp [cutP]
  | x :: r, k + 1, o, q, h, hn => by
    have h' : r[k]? = some o := by simpa using h
    rw [List.map_cons, List.nodup_cons] at hn
    have hne : x.id ≠ o.id := fun e => hn.1 (List.mem_map.2 ⟨o, List.mem_of_getElem? h', e.symm⟩)
    rw [List.set_cons_succ, set_map h' hn.2, List.map_cons, show cutP o.id q x = x by unfold cutP; rw [if_neg hne]]
theorem cut_id (id q : Int) (o : Opn) : (cutP id q o).id = o.id := by unfold cutP; split <;> rfl
theorem map_ids (p : List Opn) (id q : Int) : (p.map (cutP id q)).map (·.id) = p.map (·.id) := by
  rw [List.map_map]; exact List.map_congr_left fun x _ => cut_id id q x
theorem filter_map_filter {α : Type} (P : α → Bool) (f : α → α) (l : List α) (h : ∀ x ∈ l, P x = false → P (f x) = false) : ((l.filter P).map f).filter P = (l.map f).filter P := by
  induction l with
  | nil => rfl
  | cons x l ih =>
    have ih' := ih (fun y hy => h y (List.mem_cons_of_mem _ hy))
    cases hx : P x with
    | true => rw [List.filter_cons_of_pos hx, List.map_cons, List.map_cons, List.filter_cons, List.filter_cons, ih']
    | false =>
      rw [List.filter_cons_of_neg (by simp [hx]), List.map_cons, List.filter_cons_of_neg (by simp [h x (by simp) hx]), ih']
theorem inj_of_nodup {p : List Opn} (hn : (p.map (·.id)).Nodup) {x y : Opn} (hx : x ∈ p) (hy : y ∈ p) (e : x.id = y.id) : x = y := by
  induction p with
  | nil => cases hx
  | cons z r ih =>
    rw [List.map_cons, List.nodup_cons] at hn
    rcases List.mem_cons.1 hx with rfl | hx' <;> rcases List.mem_cons.1 hy with rfl | hy'
    · rfl
    · exact absurd (List.mem_map.2 ⟨y, hy', e.symm⟩) hn.1
    · exact absurd (List.mem_map.2 ⟨x, hx', e⟩) hn.1
    · exact ih hn.2 hx' hy'
theorem cut_ne {id q : Int} {o : Opn} (h : o.id ≠ id) : cutP id q o = o := by unfold cutP; rw [if_neg h]
theorem traded_eq {p : List Opn} {i j : Nat} {a b : Opn} {q : Int} (ha : p[i]? = some a) (hb : p[j]? = some b) (hn : (p.map (·.id)).Nodup) (hl : ∀ x ∈ p, 0 < x.left) (hab : a.id ≠ b.id) (h1 : q ≤ a.left) (h2 : q ≤ b.left) :
    ((p.set i { a with left := a.left - q }).set j { b with left := b.left - q }).filter (fun o => !(o.left == 0)) = lessP (lessP p a.id q) b.id q := by
  rw [set_map ha hn]
  have hb' : (p.map (cutP a.id q))[j]? = some b := by
    rw [List.getElem?_map, hb, Option.map_some]
    unfold cutP; rw [if_neg (fun e => hab e.symm)]
  rw [set_map hb' (by rw [map_ids]; exact hn)]
  unfold lessP
  rw [filter_map_filter]
  · refine List.filter_congr fun x hx => ?_
    obtain ⟨y, hy, rfl⟩ := List.mem_map.1 hx
    obtain ⟨z, hz, rfl⟩ := List.mem_map.1 hy
    have hz0 := hl z hz
    have hge : 0 ≤ (cutP b.id q (cutP a.id q z)).left := by
      unfold cutP
      by_cases e1 : z.id = a.id
      · have hza : z = a := by
          have := List.mem_of_getElem? ha
          exact inj_of_nodup hn hz this e1
        subst hza
        simp [hab]
        omega
      · rw [if_neg e1]
        by_cases e2 : z.id = b.id
        · have hzb : z = b := inj_of_nodup hn hz (List.mem_of_getElem? hb) e2
          subst hzb
          simp; omega
        · rw [if_neg e2]; omega
    by_cases h0 : (cutP b.id q (cutP a.id q z)).left = 0
    · simp [h0]
    · have : 0 < (cutP b.id q (cutP a.id q z)).left := by omega
      simp [h0, this]
  · intro x hx hx0
    obtain ⟨y, hy, rfl⟩ := List.mem_map.1 hx
    simp only [decide_eq_false_iff_not] at hx0 ⊢
    have hy0 := hl y hy
    by_cases e1 : y.id = a.id
    · have e3 : (cutP a.id q y).id ≠ b.id := by rw [cut_id, e1]; exact hab
      rw [cut_ne e3]
      exact hx0
    · rw [cut_ne e1] at hx0
      exact absurd hy0 hx0
end Go.Proofs.YtkehmbgcglbffaaDoor
