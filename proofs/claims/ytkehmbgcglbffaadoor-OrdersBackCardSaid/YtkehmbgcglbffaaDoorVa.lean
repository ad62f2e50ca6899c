/-
  Plain words on what comes of an event (layer 22): it may be; each account's own; put and taken back; traded in two parts; what is left, what is there. Conditions: none.
-/
import Derived.Test.YtkehmbgcglbffaaDoorOk
import Derived.Test.YtkehmbgcglbffaaDoorOr
namespace Go.Proofs.YtkehmbgcglbffaaDoor
open Go.PlainAid Go.RowKit

theorem rsP_t {p : List Opn} {m n : Nat} {a b : Option Addr} {ca cb : Nat} {w : World} (hm : p.length = m) (hn : p.length = n) (HP : SlR encP 6 w a ca p) (HQ : SlR encP 6 w b cb p) : Calls Tryd.prog 9 #[.slice a m ca, .slice b n cb] w fun e w' => e = .returned (.bool true) ∧ Below w.heap.size w w' := by
  have h := rsame_P hm hn HP HQ
  rw [show decide (p = p) = true by simp] at h; exact h
theorem rsT_t {p : List Lt} {m n : Nat} {a b : Option Addr} {ca cb : Nat} {w : World} (hm : p.length = m) (hn : p.length = n) (HP : SlR encL 4 w a ca p) (HQ : SlR encL 4 w b cb p) : Calls Tryd.prog 10 #[.slice a m ca, .slice b n cb] w fun e w' => e = .returned (.bool true) ∧ Below w.heap.size w w' := by
  have h := rsame_L hm hn HP HQ
  rw [show decide (p = p) = true by simp] at h; exact h
theorem pv_bneqs2 {P : Program} {n : Nat} {l : Fr} {w : World} {d : Option Nat} {t t' ty : TypeId} {x y : Operand} {pos : String} {af : Array Edge} {g : Option (Nat × Bool)} {c : Bool} (ht : isT P t (fun x => x matches .bool) = true) (hx : ev l x = some (.bool c)) (hy : ev l y = some (.bool c)) : Pv P n l ⟨d, .binOp .neq t x y t', ty, pos, af, g⟩ (.bool false) w := by
  have := pv_bneq (n := n) (w := w) (d := d) (t' := t') (ty := ty) (pos := pos) (af := af) (g := g) ht hx hy
  simpa using this

theorem find_iff {p : List Opn} (hn : (p.map (·.id)).Nodup) {id : Int} {o : Opn} : findP p id = some o ↔ o ∈ p ∧ o.id = id := by
  constructor
  · intro h
    unfold findP at h
    exact ⟨List.mem_of_find?_eq_some h, by have := List.find?_some h; simpa using this⟩
  · rintro ⟨hm, rfl⟩
    cases h : findP p o.id with
    | none => exact absurd rfl (findP_none h o hm)
    | some x =>
      unfold findP at h
      have h1 := List.mem_of_find?_eq_some h
      have h2 := List.find?_some h
      rw [inj_of_nodup hn h1 hm (by simpa using h2)]
theorem findT_iff {t : List Lt} (hn : t.Pairwise keyT) {id : Int} {o : Lt} : findT t id = some o ↔ o ∈ t ∧ o.id = id := by
  have inj : ∀ {t : List Lt}, t.Pairwise keyT → ∀ x ∈ t, ∀ y ∈ t, x.id = y.id → x = y := by
    intro t
    induction t with
    | nil => intro _ x hx; cases hx
    | cons z r ih =>
      intro hp x hx y hy e
      obtain ⟨h1, h2⟩ := List.pairwise_cons.1 hp
      rcases List.mem_cons.1 hx with rfl | hx' <;> rcases List.mem_cons.1 hy with rfl | hy'
      · rfl
      · have := h1 y hy'; unfold keyT at this; omega
      · have := h1 x hx'; unfold keyT at this; omega
      · exact ih h2 x hx' y hy' e
  constructor
  · intro h
    unfold findT at h
    exact ⟨List.mem_of_find?_eq_some h, by have := List.find?_some h; simpa using this⟩
  · rintro ⟨hm, rfl⟩
    cases h : findT t o.id with
    | none => exact absurd rfl (findT_none h o hm)
    | some x =>
      unfold findT at h
      have h1 := List.mem_of_find?_eq_some h
      have h2 := List.find?_some h
      rw [inj hn x h1 o hm (by simpa using h2)]
/-! ### less of one, once more -/
theorem less_less {p : List Opn} {i j a b : Int} (hb : 0 ≤ b) : lessP (lessP p i a) j b = ((p.map (cutP i a)).map (cutP j b)).filter fun o => decide (0 < o.left) := by
  unfold lessP
  refine filter_map_filter _ _ _ fun x _ hx => ?_
  simp only [decide_eq_false_iff_not] at hx ⊢
  unfold cutP
  split
  · show ¬ 0 < x.left - b; omega
  · exact hx
theorem mem_less {p : List Opn} {i q : Int} {x : Opn} : x ∈ lessP p i q ↔ (∃ y ∈ p, cutP i q y = x) ∧ 0 < x.left := by
  unfold lessP; rw [List.mem_filter, List.mem_map, decide_eq_true_eq]
theorem cut_key {i q : Int} {a b : Opn} : keyO (cutP i q a) (cutP i q b) ↔ keyO a b := by
  have h : ∀ o : Opn, (cutP i q o).acct = o.acct ∧ (cutP i q o).id = o.id := fun o => by unfold cutP; split <;> exact ⟨rfl, rfl⟩
  unfold keyO
  rw [(h a).1, (h a).2, (h b).1, (h b).2]
theorem less_le (p : List Opn) (i q : Int) : (lessP p i q).length ≤ p.length := by
  unfold lessP; exact Nat.le_trans (List.length_filter_le _ _) (by simp)
theorem may_less {p : List Opn} {t : List Lt} {i q : Int} (h : MayV p t) (hq : 0 ≤ q) : MayV (lessP p i q) t := by
  obtain ⟨⟨h1, h2⟩, h3, h4, h5, h6, h7⟩ := h
  have hl := less_le p i q
  refine ⟨⟨by omega, h2⟩, ?_, h4, ?_, ?_, h7⟩
  · unfold lessP
    exact List.Pairwise.filter _ (List.pairwise_map.2 (h3.imp fun h => cut_key.2 h))
  · intro o ho
    obtain ⟨⟨y, hy, rfl⟩, hpos⟩ := mem_less.1 ho
    have hm := h5 y hy
    unfold MayO at hm ⊢
    unfold cutP at hpos ⊢
    split
    · rename_i e
      rw [if_pos e] at hpos
      replace hpos : 0 < y.left - q := hpos
      refine ⟨hm.1, hm.2.1, hm.2.2.1, hm.2.2.2.1, hm.2.2.2.2.1, ?_⟩
      show 1 ≤ y.left - q ∧ y.left - q ≤ 1048576; omega
    · exact hm
  · refine List.Nodup.sublist ?_ h6
    rw [← map_ids p i q]
    unfold lessP
    exact List.Sublist.map _ List.filter_sublist
theorem may_insP {p : List Opn} {t : List Lt} {o : Opn} (h : MayV p t) (hl : p.length ≠ 128) (ho : MayO o) (hf : findP p o.id = none) : MayV (insP p o) t := by
  obtain ⟨⟨h1, h2⟩, h3, h4, h5, h6, h7⟩ := h
  have hn := findP_none hf
  have hp := insP_perm o p
  refine ⟨⟨by rw [hp.length_eq, List.length_append, List.length_singleton]; omega, h2⟩, insP_pw h3 fun x hx => key_diff (hn x hx), h4, fun x hx => ?_, ?_, h7⟩
  · rcases List.mem_append.1 (hp.mem_iff.1 hx) with hx | hx
    · exact h5 x hx
    · rw [List.mem_singleton] at hx; subst hx; exact ho
  · rw [(hp.map (·.id)).nodup_iff, List.map_append, List.nodup_append]
    refine ⟨h6, by simp, fun a ha b hb => ?_⟩
    obtain ⟨y, hy, rfl⟩ := List.mem_map.1 ha
    simp at hb; subst hb
    exact hn y hy
theorem may_insT {p : List Opn} {t : List Lt} {o : Lt} (h : MayV p t) (hl : t.length ≠ 32) (ho : MayL o) (hf : findT t o.id = none) : MayV p (insT t o) := by
  obtain ⟨⟨h1, h2⟩, h3, h4, h5, h6, h7⟩ := h
  have hn := findT_none hf
  have hp := insT_perm o t
  refine ⟨⟨h1, by rw [hp.length_eq, List.length_append, List.length_singleton]; omega⟩, h3, insT_pw h4 fun x hx => keyT_diff (hn x hx), h5, h6, fun x hx => ?_⟩
  rcases List.mem_append.1 (hp.mem_iff.1 hx) with hx | hx
  · exact h7 x hx
  · rw [List.mem_singleton] at hx; subst hx; exact ho
theorem may_gone {p : List Opn} {t : List Lt} {id : Int} (h : MayV p t) : MayV p (gone t id) := by
  obtain ⟨⟨h1, h2⟩, h3, h4, h5, h6, h7⟩ := h
  have hs : (gone t id).Sublist t := List.filter_sublist
  exact ⟨⟨h1, Nat.le_trans hs.length_le h2⟩, h3, h4.sublist hs, h5, h6, fun x hx => h7 x (hs.subset hx)⟩
/-! ### what an event has left, and what is there -/
def leftS (id : Int) (n : Int) (e : Evt) : Int :=
  if e.kind = 11 then (if nth e 0 = id then nth e 5 else n) else if e.kind = 12 then (if nth e 0 = id then 0 else n)
  else if e.kind = 13 then (if nth e 0 = id ∨ nth e 1 = id then n - nth e 3 else n) else n
def leftN (es : List Evt) (id : Int) : Int := es.foldl (leftS id) 0
def thereS (id : Int) (b : Bool) (e : Evt) : Bool :=
  if e.kind = 14 ∨ e.kind = 16 then b || nth e 0 == id else if e.kind = 18 ∨ e.kind = 19 then b && !(nth e 0 == id) else b
def thereB (es : List Evt) (id : Int) : Bool := es.foldl (thereS id) false
theorem leftN_snoc (es : List Evt) (e : Evt) (id : Int) : leftN (es ++ [e]) id = leftS id (leftN es id) e := by unfold leftN; rw [List.foldl_append]; rfl
theorem thereB_snoc (es : List Evt) (e : Evt) (id : Int) : thereB (es ++ [e]) id = thereS id (thereB es id) e := by unfold thereB; rw [List.foldl_append]; rfl
def remP (p : List Opn) (id : Int) : Int := ((findP p id).map (·.left)).getD 0
theorem rem_cons (x : Opn) (p : List Opn) (id : Int) : remP (x :: p) id = if x.id = id then x.left else remP p id := by
  unfold remP findP
  by_cases h : x.id = id
  · rw [List.find?_cons_of_pos (by simp [h]), if_pos h]; rfl
  · rw [List.find?_cons_of_neg (by simp [h]), if_neg h]
theorem rem_zero {p : List Opn} {id : Int} (h : ∀ x ∈ p, x.id ≠ id) : remP p id = 0 := by
  induction p with
  | nil => rfl
  | cons x r ih => rw [rem_cons, if_neg (h x (by simp)), ih fun y hy => h y (List.mem_cons_of_mem _ hy)]
theorem rem_less {p : List Opn} {i q : Int} (hn : (p.map (·.id)).Nodup) (hl : ∀ x ∈ p, 0 < x.left) (hq : 0 ≤ q) (id : Int) : remP (lessP p i q) id = if i = id then max 0 (remP p id - q) else remP p id := by
  induction p with
  | nil =>
    have : remP ([] : List Opn) id = 0 := rfl
    rw [show lessP [] i q = [] from rfl, this]; split <;> omega
  | cons x r ih =>
    rw [List.map_cons, List.nodup_cons] at hn
    have ih' := ih hn.2 fun y hy => hl y (List.mem_cons_of_mem _ hy)
    have hx := hl x (by simp)
    have hr : ∀ id, x.id = id → remP r id = 0 := fun id e => rem_zero fun y hy e2 => hn.1 (List.mem_map.2 ⟨y, hy, by omega⟩)
    have hlr : lessP (x :: r) i q = if 0 < (cutP i q x).left then cutP i q x :: lessP r i q else lessP r i q := by
      unfold lessP
      rw [List.map_cons, List.filter_cons]
      by_cases h : 0 < (cutP i q x).left
      · rw [if_pos (by simpa using h), if_pos h]
      · rw [if_neg (by simpa using h), if_neg h]
    rw [hlr]
    have hcl : (cutP i q x).left = if x.id = i then x.left - q else x.left := by unfold cutP; split <;> rfl
    by_cases hp : 0 < (cutP i q x).left
    · rw [if_pos hp, rem_cons, rem_cons, cut_id, ih', hcl]
      by_cases e : x.id = id
      · rw [if_pos e, if_pos e]
        by_cases e2 : i = id
        · rw [if_pos (by omega), if_pos e2]
          rw [hcl, if_pos (by omega)] at hp
          omega
        · rw [if_neg (by omega), if_neg e2]
      · rw [if_neg e, if_neg e]
    · rw [if_neg hp, rem_cons, ih']
      rw [hcl] at hp
      by_cases e : x.id = i
      · rw [if_pos e] at hp
        by_cases e2 : i = id
        · have := hr id (by omega)
          rw [if_pos e2, if_pos (show x.id = id by omega)]; omega
        · rw [if_neg e2, if_neg e2, if_neg (by omega)]
      · rw [if_neg e] at hp; omega
theorem rem_ins {p : List Opn} {o : Opn} (hn : (p.map (·.id)).Nodup) (hf : findP p o.id = none) (hm : ((insP p o).map (·.id)).Nodup) (id : Int) : remP (insP p o) id = if o.id = id then o.left else remP p id := by
  have hp := insP_perm o p
  by_cases e : o.id = id
  · have : findP (insP p o) id = some o := (find_iff hm).2 ⟨hp.mem_iff.2 (by simp), e⟩
    rw [if_pos e]; unfold remP; rw [this]; rfl
  · rw [if_neg e]
    unfold remP
    congr 2
    cases h : findP p id with
    | some x =>
      obtain ⟨h1, h2⟩ := (find_iff hn).1 h
      exact (find_iff hm).2 ⟨hp.mem_iff.2 (List.mem_append_left _ h1), h2⟩
    | none =>
      have hx := findP_none h
      cases h2 : findP (insP p o) id with
      | none => rfl
      | some x =>
        obtain ⟨h3, h4⟩ := (find_iff hm).1 h2
        rcases List.mem_append.1 (hp.mem_iff.1 h3) with h3 | h3
        · exact absurd h4 (hx x h3)
        · rw [List.mem_singleton] at h3; subst h3; exact absurd h4 e
theorem there_ins {t : List Lt} {o : Lt} (hf : t.Pairwise keyT) (hm : (insT t o).Pairwise keyT) (id : Int) : (findT (insT t o) id).isSome = ((findT t id).isSome || o.id == id) := by
  have hp := insT_perm o t
  by_cases e : o.id = id
  · have : findT (insT t o) id = some o := (findT_iff hm).2 ⟨hp.mem_iff.2 (by simp), e⟩
    rw [this]; simp [e]
  · cases h : findT t id with
    | some x =>
      obtain ⟨h1, h2⟩ := (findT_iff hf).1 h
      rw [(findT_iff hm).2 ⟨hp.mem_iff.2 (List.mem_append_left _ h1), h2⟩]; simp
    | none =>
      have hx := findT_none h
      cases h2 : findT (insT t o) id with
      | none => simp [e]
      | some x =>
        obtain ⟨h3, h4⟩ := (findT_iff hm).1 h2
        rcases List.mem_append.1 (hp.mem_iff.1 h3) with h3 | h3
        · exact absurd h4 (hx x h3)
        · rw [List.mem_singleton] at h3; subst h3; exact absurd h4 e
theorem there_gone (t : List Lt) (i id : Int) : (findT (gone t i) id).isSome = ((findT t id).isSome && !(i == id)) := by
  induction t with
  | nil => simp [findT, gone]
  | cons x r ih =>
    unfold gone findT at ih ⊢
    rw [List.filter_cons]
    by_cases hx : x.id = i
    · rw [if_neg (by simp [hx]), ih]
      by_cases e : i = id
      · simp [e]
      · rw [List.find?_cons_of_neg (by simp [hx, e])]
    · rw [if_pos (by simp [hx])]
      by_cases e : x.id = id
      · have e2 : ¬ i = id := by omega
        rw [List.find?_cons_of_pos (by simp [e]), List.find?_cons_of_pos (by simp [e])]; simp [e2]
      · rw [List.find?_cons_of_neg (by simp [e]), List.find?_cons_of_neg (by simp [e]), ih]
/-! ### what comes of an event -/
/-- behind events that did not err -/
structure GoodS (es : List Evt) (p : List Opn) (t : List Lt) : Prop where
  may : MayV p t
  left : ∀ id, leftN es id = remP p id
  there : ∀ id, thereB es id = (findT t id).isSome
theorem good_nil : GoodS [] [] [] := ⟨by decide, fun _ => rfl, fun _ => rfl⟩
theorem event_err {p : List Opn} {t : List Lt} {e : Evt} (h : (eventR p t e).2.2 ≠ 0) : (eventR p t e).1 = [] ∧ (eventR p t e).2.1 = [] := by
  by_cases hg : mayV p t = true ∧ e.v = 3 ∧ mayE e = true
  · rw [event_yes hg] at h ⊢
    rcases err_empty p t e with h1 | h1
    · exact absurd h1 h
    · exact h1
  · rw [event_no hg]; exact ⟨rfl, rfl⟩
theorem event_ok {p : List Opn} {t : List Lt} {e : Evt} (h : (eventR p t e).2.2 = 0) : (MayV p t ∧ e.v = 3 ∧ mayE e = true) ∧ eventR p t e = doneR p t e := by
  by_cases hg : mayV p t = true ∧ e.v = 3 ∧ mayE e = true
  · exact ⟨⟨mayV_iff.1 hg.1, hg.2⟩, event_yes hg⟩
  · rw [event_no hg] at h; cases h
theorem pos_left {p : List Opn} {t : List Lt} (h : MayV p t) : ∀ x ∈ p, 0 < x.left := fun x hx => by have := h.2.2.2.1 x hx; unfold MayO at this; omega
/-- the five kinds -/
theorem done_cases {p : List Opn} {t : List Lt} {e : Evt} (_ : MayV p t) (hv : e.v = 3) (hE : mayE e = true) (h : (doneR p t e).2.2 = 0) :
    (e.kind = 11 ∧ ∃ o : Opn, MayO o ∧ o.id = nth e 0 ∧ o.left = nth e 5 ∧ findP p o.id = none ∧ p.length ≠ 128 ∧ doneR p t e = (insP p o, t, 0)) ∨
    (e.kind = 12 ∧ ∃ o : Opn, findP p (nth e 0) = some o ∧ doneR p t e = (lessP p (nth e 0) o.left, t, 0)) ∨
    (e.kind = 13 ∧ 1 ≤ nth e 3 ∧ ∃ a b : Opn, findP p (nth e 0) = some a ∧ findP p (nth e 1) = some b ∧ nth e 0 ≠ nth e 1 ∧ nth e 3 ≤ a.left ∧ nth e 3 ≤ b.left ∧ doneR p t e = (lessP (lessP p (nth e 0) (nth e 3)) (nth e 1) (nth e 3), t, 0)) ∨
    ((e.kind = 14 ∨ e.kind = 16) ∧ ∃ o : Lt, MayL o ∧ o.id = nth e 0 ∧ findT t o.id = none ∧ t.length ≠ 32 ∧ doneR p t e = (p, insT t o, 0)) ∨
    ((e.kind = 18 ∨ e.kind = 19) ∧ doneR p t e = (p, gone t (nth e 0), 0)) ∨
    ((e.kind ≠ 11 ∧ e.kind ≠ 12 ∧ e.kind ≠ 13 ∧ e.kind ≠ 14 ∧ e.kind ≠ 16 ∧ e.kind ≠ 18 ∧ e.kind ≠ 19) ∧ doneR p t e = (p, t, 0)) := by
  by_cases k1 : e.kind = 11
  · left
    refine ⟨k1, ?_⟩
    obtain ⟨n0, n1, n2, n3, n4, n5, hn, h0, h1, h2, h3, h4, h5⟩ := nums11 hE hv k1
    have hd : doneR p t e = placedR p t e := by unfold doneR; rw [if_pos k1]
    rw [hd] at h ⊢
    unfold placedR at h ⊢
    cases hf : findP p (nth e 0) with
    | some o => rw [hf] at h; cases h
    | none =>
      rw [hf] at h
      rw [if_neg (by simp)] at h ⊢
      by_cases hl : p.length = 128
      · rw [if_pos hl] at h; cases h
      · rw [if_neg hl]
        refine ⟨⟨nth e 1, nth e 0, nth e 2, nth e 3, nth e 4, nth e 5⟩, ?_, rfl, rfl, hf, hl, rfl⟩
        simp only [nth, hn, MayO]
        simp only [List.getD_cons_zero, List.getD_cons_succ]
        omega
  by_cases k2 : e.kind = 12
  · right; left
    refine ⟨k2, ?_⟩
    have hd : doneR p t e = cancelR p t e := by unfold doneR; rw [if_neg k1, if_pos k2]
    rw [hd] at h ⊢
    unfold cancelR at h ⊢
    cases hf : findP p (nth e 0) with
    | none => rw [hf] at h; cases h
    | some o => exact ⟨o, rfl, rfl⟩
  by_cases k3 : e.kind = 13
  · right; right; left
    obtain ⟨n0, n1, n2, n3, n4, hn, h0, h1, h2, h3, h4⟩ := nums13 hE hv k3
    refine ⟨k3, by simp only [nth, hn, List.getD_cons_zero, List.getD_cons_succ]; omega, ?_⟩
    have hd : doneR p t e = tradedR p t e := by unfold doneR; rw [if_neg k1, if_neg k2, if_pos k3]
    rw [hd] at h ⊢
    unfold tradedR at h ⊢
    cases hf : findP p (nth e 0) with
    | none => rw [hf] at h; cases h
    | some a =>
      cases hg : findP p (nth e 1) with
      | none => rw [hf, hg] at h; cases h
      | some b =>
        rw [hf, hg] at h
        dsimp only at h ⊢
        by_cases hc : nth e 0 = nth e 1 ∨ a.left < nth e 3 ∨ b.left < nth e 3
        · rw [if_pos hc] at h; cases h
        · rw [if_neg hc]
          exact ⟨a, b, rfl, rfl, fun e => hc (Or.inl e), by omega, by omega, rfl⟩
  by_cases k4 : e.kind = 14 ∨ e.kind = 16
  · right; right; right; left
    refine ⟨k4, ?_⟩
    obtain ⟨n0, n1, n2, n3, r, hn, h0, h1, h2, h3⟩ := nums14 hE hv k4
    have hd : doneR p t e = openedR p t e := by unfold doneR; rw [if_neg k1, if_neg k2, if_neg k3, if_pos k4]
    rw [hd] at h ⊢
    unfold openedR at h ⊢
    cases hf : findT t (nth e 0) with
    | some o => rw [hf] at h; cases h
    | none =>
      rw [hf] at h
      rw [if_neg (by simp)] at h ⊢
      by_cases hl : t.length = 32
      · rw [if_pos hl] at h; cases h
      · rw [if_neg hl]
        refine ⟨⟨nth e 0, nth e 1, nth e 2, nth e 3⟩, ?_, rfl, hf, hl, rfl⟩
        simp only [nth, hn, MayL]
        simp only [List.getD_cons_zero, List.getD_cons_succ]
        omega
  by_cases k5 : e.kind = 18 ∨ e.kind = 19
  · right; right; right; right; left
    refine ⟨k5, ?_⟩
    have hd : doneR p t e = goneR p t e := by unfold doneR; rw [if_neg k1, if_neg k2, if_neg k3, if_neg k4, if_pos k5]
    rw [hd] at h ⊢
    unfold goneR at h ⊢
    by_cases hf : (findT t (nth e 0)).isSome = true
    · rw [if_pos hf]
    · rw [if_neg hf] at h; cases h
  · right; right; right; right; right
    refine ⟨⟨k1, k2, k3, fun e => k4 (Or.inl e), fun e => k4 (Or.inr e), fun e => k5 (Or.inl e), fun e => k5 (Or.inr e)⟩, ?_⟩
    unfold doneR; rw [if_neg k1, if_neg k2, if_neg k3, if_neg k4, if_neg k5]
theorem event_may {p : List Opn} {t : List Lt} {e : Evt} (h : (eventR p t e).2.2 = 0) : MayV (eventR p t e).1 (eventR p t e).2.1 := by
  obtain ⟨⟨hM, hv, hE⟩, hd⟩ := event_ok h
  rw [hd] at h ⊢
  rcases done_cases hM hv hE h with ⟨_, o, h1, h2, h3, h4, h5, h6⟩ | ⟨_, o, h1, h2⟩ | ⟨_, hq, a, b, h1, h2, h3, h4, h5, h6⟩ | ⟨_, o, h1, h2, h3, h4, h5⟩ | ⟨_, h1⟩ | ⟨_, h1⟩
  · rw [h6]; exact may_insP hM h5 h1 h4
  · rw [h2]
    have := pos_left hM o ((find_iff hM.2.2.2.2.1).1 h1).1
    exact may_less hM (by omega)
  · rw [h6]; exact may_less (may_less hM (by omega)) (by omega)
  · rw [h5]; exact may_insT hM h4 h1 h3
  · rw [h1]; exact may_gone hM
  · rw [h1]; exact hM
theorem good_step {es : List Evt} {p : List Opn} {t : List Lt} {e : Evt} (hG : GoodS es p t) (h : (eventR p t e).2.2 = 0) : GoodS (es ++ [e]) (eventR p t e).1 (eventR p t e).2.1 := by
  have hM2 := event_may h
  obtain ⟨⟨hM, hv, hE⟩, hd⟩ := event_ok h
  refine ⟨hM2, fun id => ?_, fun id => ?_⟩
  · rw [leftN_snoc, hG.left]
    rw [hd] at h hM2 ⊢
    have hnd := hM.2.2.2.2.1
    have hpl := pos_left hM
    unfold leftS
    rcases done_cases hM hv hE h with ⟨hk, o, h1, h2, h3, h4, h5, h6⟩ | ⟨hk, o, h1, h2⟩ | ⟨hk, hq, a, b, h1, h2, h3, h4, h5, h6⟩ | ⟨hk, o, h1, h2, h3, h4, h5⟩ | ⟨hk, h1⟩ | ⟨hk, h1⟩
    · rw [h6] at hM2 ⊢
      rw [if_pos hk, rem_ins hnd h4 hM2.2.2.2.2.1, h2, h3]
    · rw [h2] at hM2 ⊢
      have ho := hpl o ((find_iff hnd).1 h1).1
      rw [if_neg (by omega), if_pos hk, rem_less hnd hpl (by omega)]
      by_cases e0 : nth e 0 = id
      · rw [if_pos e0, if_pos e0]
        have : remP p id = o.left := by unfold remP; rw [← e0, h1]; rfl
        omega
      · rw [if_neg e0, if_neg e0]
    · rw [h6] at hM2 ⊢
      have hM3 : MayV (lessP p (nth e 0) (nth e 3)) t := may_less hM (by omega)
      rw [if_neg (by omega), if_neg (by omega), if_pos hk, rem_less hM3.2.2.2.2.1 (pos_left hM3) (by omega), rem_less hnd hpl (by omega)]
      by_cases e0 : nth e 0 = id
      · have e1 : ¬ nth e 1 = id := by omega
        have : remP p id = a.left := by unfold remP; rw [← e0, h1]; rfl
        rw [if_pos (Or.inl e0), if_neg e1, if_pos e0]; omega
      · by_cases e1 : nth e 1 = id
        · have : remP p id = b.left := by unfold remP; rw [← e1, h2]; rfl
          rw [if_pos (Or.inr e1), if_pos e1, if_neg e0]; omega
        · rw [if_neg (by omega), if_neg e1, if_neg e0]
    · rw [h5, if_neg (by omega), if_neg (by omega), if_neg (by omega)]
    · rw [h1, if_neg (by omega), if_neg (by omega), if_neg (by omega)]
    · rw [h1, if_neg (by omega), if_neg (by omega), if_neg (by omega)]
  · rw [thereB_snoc, hG.there]
    rw [hd] at h hM2 ⊢
    unfold thereS
    rcases done_cases hM hv hE h with ⟨hk, o, h1, h2, h3, h4, h5, h6⟩ | ⟨hk, o, h1, h2⟩ | ⟨hk, hq, a, b, h1, h2, h3, h4, h5, h6⟩ | ⟨hk, o, h1, h2, h3, h4, h5⟩ | ⟨hk, h1⟩ | ⟨hk, h1⟩
    · rw [h6, if_neg (by omega), if_neg (by omega)]
    · rw [h2, if_neg (by omega), if_neg (by omega)]
    · rw [h6, if_neg (by omega), if_neg (by omega)]
    · rw [h5] at hM2 ⊢
      rw [if_pos hk, there_ins hM.2.2.1 hM2.2.2.1, h2]
    · rw [h1, if_neg (by omega), if_pos hk, there_gone]
    · rw [h1, if_neg (by omega), if_neg (by omega)]
theorem good_find {es : List Evt} {p : List Opn} {t : List Lt} (hG : GoodS es p t) (id : Int) : (findP p id).isSome = decide (0 < leftN es id) ∧ ∀ o, findP p id = some o → o.left = leftN es id := by
  rw [hG.left]
  unfold remP
  cases h : findP p id with
  | none => simp
  | some o =>
    have := pos_left hG.may o ((find_iff hG.may.2.2.2.2.1).1 h).1
    simp [this]
/-! ### each account's own -/
theorem filter_two {α : Type} {A B : α → Bool} : ∀ {l : List α}, l.Pairwise (fun x y => ¬ (B x = true ∧ A y = true)) → (∀ x ∈ l, ¬ (A x = true ∧ B x = true)) → l.filter (fun x => A x || B x) = l.filter A ++ l.filter B
  | [], _, _ => rfl
  | x :: r, hp, hd => by
    obtain ⟨h1, h2⟩ := List.pairwise_cons.1 hp
    have ih := filter_two h2 fun y hy => hd y (List.mem_cons_of_mem _ hy)
    cases hA : A x with
    | true =>
      have hB : ¬ B x = true := fun hb => hd x (by simp) ⟨hA, hb⟩
      rw [List.filter_cons_of_pos (by simp [hA]), List.filter_cons_of_pos hA, List.filter_cons_of_neg hB, ih]; rfl
    | false =>
      cases hB : B x with
      | false => rw [List.filter_cons_of_neg (by simp [hA, hB]), List.filter_cons_of_neg (by simp [hA]), List.filter_cons_of_neg (by simp [hB]), ih]
      | true =>
        have hn : r.filter A = [] := List.filter_eq_nil_iff.2 fun y hy ha => h1 y hy ⟨hB, ha⟩
        rw [List.filter_cons_of_pos (by simp [hB]), List.filter_cons_of_neg (by simp [hA]), List.filter_cons_of_pos hB, ih, hn]; rfl
def partsP (p : List Opn) (k : Nat) : List Opn := p.filter fun o => decide (1 ≤ o.acct ∧ o.acct ≤ (k : Int))
theorem parts_succ {p : List Opn} (hp : p.Pairwise keyO) (k : Nat) : partsP p (k + 1) = partsP p k ++ ofP p ((k : Int) + 1) := by
  unfold partsP ofP
  rw [← filter_two]
  · refine List.filter_congr fun x _ => ?_
    rw [Bool.eq_iff_iff]
    simp only [decide_eq_true_eq, Bool.or_eq_true, beq_iff_eq]
    omega
  · refine hp.imp fun {a b} h => ?_
    unfold keyO at h
    simp only [beq_iff_eq, decide_eq_true_eq]
    omega
  · intro x _
    simp only [beq_iff_eq, decide_eq_true_eq]
    omega
theorem parts_all {p : List Opn} (h : ∀ o ∈ p, MayO o) : partsP p 64 = p := List.filter_eq_self.2 fun x hx => by
  have := h x hx
  unfold MayO at this
  simp only [decide_eq_true_eq]
  omega
theorem parts_zero (p : List Opn) : partsP p 0 = [] := List.filter_eq_nil_iff.2 fun x _ => by
  simp only [decide_eq_true_eq]
  omega
theorem parts_len (p : List Opn) (k : Nat) : (partsP p k).length ≤ p.length := List.length_filter_le _ _
/-! ### put and taken back -/
theorem fits_of {v c n lo hi : Int} (hb : boundR v c = some (lo, hi)) (h : lo ≤ n ∧ n ≤ hi) : fitsR v c n = true := by
  unfold fitsR bLo bHi bIs
  rw [hb]
  simpa using h
theorem all_mk {v c n : Int} {cs ns : List Int} (h1 : fitsR v c n = true) (h2 : allR v cs ns = true) : allR v (c :: cs) (n :: ns) = true := by
  unfold allR at h2 ⊢
  simp only [Bool.and_eq_true, decide_eq_true_eq] at h2
  simp only [List.zip_cons_cons, List.all_cons, Bool.and_eq_true, decide_eq_true_eq, List.length_cons]
  exact ⟨by omega, h1, h2.2⟩
theorem all_mk0 (v : Int) : allR v [] [] = true := rfl
theorem mayE_of {k : Int} {ns : List Int} {s : ByteArray} (hf : fieldsR 3 k = some (s, false)) (h : allR 3 (bytesI s) ns = true) : mayE ⟨3, k, ns, []⟩ = true := by
  rw [may_some (e := ⟨3, k, ns, []⟩) hf, h]; rfl
theorem may12 {n : Int} (h : 1 ≤ n ∧ n ≤ 1099511627776) : mayE ⟨3, 12, [n], []⟩ = true := mayE_of fld12 (all_mk (fits_of bnd_o h) (all_mk0 _))
theorem may19 {n : Int} (h : 1 ≤ n ∧ n ≤ 1099511627776) : mayE ⟨3, 19, [n], []⟩ = true := mayE_of fld19 (all_mk (fits_of bnd_c h) (all_mk0 _))
theorem may13 {a b c d e : Int} (ha : 1 ≤ a ∧ a ≤ 1099511627776) (hb : 1 ≤ b ∧ b ≤ 1099511627776) (hc : 1 ≤ c ∧ c ≤ 1073741824) (hd : 1 ≤ d ∧ d ≤ 1048576) (he : 0 ≤ e ∧ e ≤ 1125899906842624) : mayE ⟨3, 13, [a, b, c, d, e], []⟩ = true :=
  mayE_of fld13 (all_mk (fits_of bnd_o ha) (all_mk (fits_of bnd_o hb) (all_mk (fits_of bnd_p hc) (all_mk (fits_of bnd_q hd) (all_mk (fits_of bnd_z he) (all_mk0 _))))))
theorem less_perm {p q : List Opn} (h : p.Perm q) (i a : Int) : (lessP p i a).Perm (lessP q i a) := (h.map _).filter _
theorem less_ins {p : List Opn} {t : List Lt} {o : Opn} (hM : MayV p t) (hM2 : MayV (insP p o) t) (hf : findP p o.id = none) : lessP (insP p o) o.id o.left = p := by
  have ho : 0 < o.left := pos_left hM2 o ((insP_perm o p).mem_iff.2 (by simp))
  refine sortP_eq ((less_perm (insP_perm o p) _ _).trans ?_) (may_less hM2 (by omega)).2.1 hM.2.1
  have : lessP (p ++ [o]) o.id o.left = p := by
    unfold lessP
    rw [List.map_append, List.filter_append, map_other (findP_none hf), keep_pos (pos_left hM)]
    rw [List.map_cons, List.filter_cons_of_neg (by simp [cutP])]
    simp
  rw [this]
theorem gone_ins {p : List Opn} {t : List Lt} {o : Lt} (hM : MayV p t) (hM2 : MayV p (insT t o)) (hf : findT t o.id = none) : gone (insT t o) o.id = t := by
  refine sortT_eq (((insT_perm o t).filter _).trans ?_) (may_gone hM2).2.2.1 hM.2.2.1
  have : (t ++ [o]).filter (fun l => !(l.id == o.id)) = t := by
    rw [List.filter_append, List.filter_eq_self.2 fun x hx => by simpa using findT_none hf x hx, List.filter_cons_of_neg (by simp)]
    simp
  rw [this]
/-- placed, and cancelled -/
theorem back11 {p : List Opn} {t : List Lt} {e : Evt} (h : (eventR p t e).2.2 = 0) (hk : e.kind = 11) : eventR (eventR p t e).1 (eventR p t e).2.1 ⟨3, 12, [nth e 0], []⟩ = (p, t, 0) := by
  have hM2 := event_may h
  obtain ⟨⟨hM, hv, hE⟩, hd⟩ := event_ok h
  rw [hd] at h hM2 ⊢
  rcases done_cases hM hv hE h with ⟨_, o, h1, h2, h3, h4, h5, h6⟩ | ⟨k, _⟩ | ⟨k, _⟩ | ⟨k, _⟩ | ⟨k, _⟩ | ⟨k, _⟩ <;> try omega
  rw [h6] at hM2 ⊢
  dsimp only at hM2 ⊢
  have hf : findP (insP p o) (nth e 0) = some o := (find_iff hM2.2.2.2.2.1).2 ⟨(insP_perm o p).mem_iff.2 (by simp), h2⟩
  have hb : 1 ≤ nth e 0 ∧ nth e 0 ≤ 1099511627776 := by have := h1.2.1; omega
  rw [event_yes ⟨mayV_iff.2 hM2, rfl, may12 hb⟩]
  show cancelR (insP p o) t ⟨3, 12, [nth e 0], []⟩ = _
  unfold cancelR
  show (match findP (insP p o) (nth e 0) with | none => _ | some o => _) = _
  rw [hf]
  show (lessP (insP p o) (nth e 0) o.left, t, 0) = _
  rw [← h2, less_ins hM hM2 h4]
/-- opened, and unsold -/
theorem back14 {p : List Opn} {t : List Lt} {e : Evt} (h : (eventR p t e).2.2 = 0) (hk : e.kind = 14 ∨ e.kind = 16) : eventR (eventR p t e).1 (eventR p t e).2.1 ⟨3, 19, [nth e 0], []⟩ = (p, t, 0) := by
  have hM2 := event_may h
  obtain ⟨⟨hM, hv, hE⟩, hd⟩ := event_ok h
  rw [hd] at h hM2 ⊢
  rcases done_cases hM hv hE h with ⟨k, _⟩ | ⟨k, _⟩ | ⟨k, _⟩ | ⟨_, o, h1, h2, h3, h4, h5⟩ | ⟨k, _⟩ | ⟨k, _⟩ <;> try omega
  rw [h5] at hM2 ⊢
  dsimp only at hM2 ⊢
  have hf : findT (insT t o) (nth e 0) = some o := (findT_iff hM2.2.2.1).2 ⟨(insT_perm o t).mem_iff.2 (by simp), h2⟩
  have hb : 1 ≤ nth e 0 ∧ nth e 0 ≤ 1099511627776 := by have := h1.1; omega
  rw [event_yes ⟨mayV_iff.2 hM2, rfl, may19 hb⟩]
  show goneR p (insT t o) ⟨3, 19, [nth e 0], []⟩ = _
  unfold goneR
  show (if (findT (insT t o) (nth e 0)).isSome = true then _ else _) = _
  rw [hf, if_pos (show (some o).isSome = true from rfl)]
  show (p, gone (insT t o) (nth e 0), 0) = _
  rw [← h2, gone_ins hM hM2 h3]
/-- traded in two parts -/
theorem find_less {p : List Opn} {t : List Lt} {i q : Int} (hM : MayV p t) (hq : 0 ≤ q) {id : Int} {o : Opn} (h : findP p id = some o) (hl : i ≠ id ∨ q < o.left) : findP (lessP p i q) id = some (cutP i q o) := by
  have hM2 := may_less (i := i) hM hq
  obtain ⟨h1, h2⟩ := (find_iff hM.2.2.2.2.1).1 h
  refine (find_iff hM2.2.2.2.2.1).2 ⟨mem_less.2 ⟨⟨o, h1, rfl⟩, ?_⟩, by rw [cut_id]; exact h2⟩
  have := pos_left hM o h1
  unfold cutP
  split
  · show 0 < o.left - q; omega
  · exact this
theorem parted13 {p : List Opn} {t : List Lt} {e : Evt} (h : (eventR p t e).2.2 = 0) (hk : e.kind = 13) {x q : Int} (hx : 1 ≤ x ∧ x < nth e 3) (hq : 1 ≤ q) :
    (eventR p t ⟨3, 13, [nth e 0, nth e 1, 1, x, 0], []⟩).2.2 = 0 ∧ (q ≤ 1073741824 → eventR (eventR p t ⟨3, 13, [nth e 0, nth e 1, 1, x, 0], []⟩).1 (eventR p t ⟨3, 13, [nth e 0, nth e 1, 1, x, 0], []⟩).2.1 ⟨3, 13, [nth e 0, nth e 1, q, nth e 3 - x, 0], []⟩ = eventR p t e) := by
  obtain ⟨⟨hM, hv, hE⟩, hd⟩ := event_ok h
  rw [hd] at h
  rcases done_cases hM hv hE h with ⟨k, _⟩ | ⟨k, _⟩ | ⟨_, hq3, a, b, h1, h2, h3, h4, h5, h6⟩ | ⟨k, _⟩ | ⟨k, _⟩ | ⟨k, _⟩ <;> try omega
  rw [hd, h6]
  obtain ⟨n0, n1, n2, n3, n4, hn, g0, g1, g2, g3, g4⟩ := nums13 hE hv hk
  have e0 : nth e 0 = n0 := by simp [nth, hn]
  have e1 : nth e 1 = n1 := by simp [nth, hn]
  have e3 : nth e 3 = n3 := by simp [nth, hn]
  rw [e0] at h1 h3
  rw [e1] at h2 h3
  rw [e3] at h4 h5 hx hq3
  rw [e0, e1, e3]
  have s1 : eventR p t ⟨3, 13, [n0, n1, 1, x, 0], []⟩ = (lessP (lessP p n0 x) n1 x, t, 0) := by
    rw [event_yes ⟨mayV_iff.2 hM, rfl, may13 g0 g1 (by omega) (by omega) (by omega)⟩]
    show tradedR p t ⟨3, 13, [n0, n1, 1, x, 0], []⟩ = _
    unfold tradedR
    show (match findP p n0, findP p n1 with | some a, some b => if n0 = n1 ∨ a.left < x ∨ b.left < x then _ else _ | _, _ => _) = _
    rw [h1, h2]
    dsimp only
    rw [if_neg (by omega)]
    rfl
  rw [s1]
  refine ⟨rfl, fun hq2 => ?_⟩
  dsimp only
  have hM2 : MayV (lessP p n0 x) t := may_less hM (by omega)
  have hM3 : MayV (lessP (lessP p n0 x) n1 x) t := may_less hM2 (by omega)
  have ia : a.id = n0 := ((find_iff hM.2.2.2.2.1).1 h1).2
  have ib : b.id = n1 := ((find_iff hM.2.2.2.2.1).1 h2).2
  have f1 : findP (lessP p n0 x) n0 = some (cutP n0 x a) := find_less hM (by omega) h1 (Or.inr (by omega))
  have f2 : findP (lessP p n0 x) n1 = some (cutP n0 x b) := find_less hM (by omega) h2 (Or.inl h3)
  have cb : cutP n0 x b = b := by unfold cutP; rw [if_neg (by omega)]
  rw [cb] at f2
  have f3 : findP (lessP (lessP p n0 x) n1 x) n0 = some (cutP n1 x (cutP n0 x a)) := find_less hM2 (by omega) f1 (Or.inl (by omega))
  have f4 : findP (lessP (lessP p n0 x) n1 x) n1 = some (cutP n1 x b) := find_less hM2 (by omega) f2 (Or.inr (by omega))
  have l3 : (cutP n1 x (cutP n0 x a)).left = a.left - x := by
    unfold cutP; rw [if_pos ia, if_neg (by show ¬ a.id = n1; omega)]
  have l4 : (cutP n1 x b).left = b.left - x := by unfold cutP; rw [if_pos ib]
  rw [event_yes ⟨mayV_iff.2 hM3, rfl, may13 g0 g1 (by omega) (by omega) (by omega)⟩]
  show tradedR (lessP (lessP p n0 x) n1 x) t ⟨3, 13, [n0, n1, q, n3 - x, 0], []⟩ = _
  unfold tradedR
  show (match findP (lessP (lessP p n0 x) n1 x) n0, findP (lessP (lessP p n0 x) n1 x) n1 with | some a, some b => if n0 = n1 ∨ a.left < n3 - x ∨ b.left < n3 - x then _ else _ | _, _ => _) = _
  rw [f3, f4]
  dsimp only
  rw [l3, l4, if_neg (by omega)]
  show (lessP (lessP (lessP (lessP p n0 x) n1 x) n0 (n3 - x)) n1 (n3 - x), t, 0) = _
  congr 1
  have key : ∀ (l : List Opn) (i a j b k c : Int), 0 ≤ b → 0 ≤ c → lessP (lessP (lessP l i a) j b) k c = (((l.map (cutP i a)).map (cutP j b)).map (cutP k c)).filter fun o => decide (0 < o.left) := by
    intro l i a j b k c hb hc
    rw [less_less (p := l) hb]
    unfold lessP
    refine filter_map_filter _ _ _ fun x _ hx => ?_
    simp only [decide_eq_false_iff_not] at hx ⊢
    unfold cutP
    split
    · show ¬ 0 < x.left - c; omega
    · exact hx
  rw [less_less (p := p) (by omega : (0 : Int) ≤ n3)]
  rw [less_less (p := lessP (lessP p n0 x) n1 x) (by omega)]
  have step : lessP (lessP (lessP (lessP p n0 x) n1 x) n0 (n3 - x)) n1 (n3 - x) = ((((p.map (cutP n0 x)).map (cutP n1 x)).map (cutP n0 (n3 - x))).map (cutP n1 (n3 - x))).filter fun o => decide (0 < o.left) := by
    rw [key p _ _ _ _ _ _ (by omega) (by omega)]
    unfold lessP
    refine filter_map_filter _ _ _ fun x _ hx => ?_
    simp only [decide_eq_false_iff_not] at hx ⊢
    unfold cutP
    split
    · show ¬ 0 < x.left - _; omega
    · exact hx
  rw [← less_less (p := lessP (lessP p n0 x) n1 x) (by omega), step]
  congr 1
  simp only [List.map_map]
  refine List.map_congr_left fun y _ => ?_
  simp only [Function.comp]
  unfold cutP
  by_cases y0 : y.id = n0
  · have y1 : ¬ y.id = n1 := by omega
    simp only [y0, if_true, if_neg h3]
    congr 1; omega
  · by_cases y1 : y.id = n1
    · simp only [y1, if_true, if_neg (Ne.symm h3)]
      congr 1; omega
    · simp only [if_neg y0, if_neg y1]
end Go.Proofs.YtkehmbgcglbffaaDoor
