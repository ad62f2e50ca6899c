/-
  Plain facts for layer 15: what a posting comes to, place by place. No program is in sight. Conditions: none.
-/
import Derived.Test.YtchalebenpmnpaaGs
namespace Go.Proofs.Ytchalebenpmnpaa

abbrev Pl := Fin 65 × Fin 17
def keyRow (k : Pl) (r : Row) : Prop := r.acct = (k.1.val : Int) ∧ r.asset = (k.2.val : Int)
/-- what a map of entries holds -/
def AtM (m : List (Pl × Row)) (f g : Int → Int → Int) : Prop := ∀ k : Pl, ((getM m k).getD ⟨0, 0, 0, 0⟩).free = f k.1.val k.2.val ∧ ((getM m k).getD ⟨0, 0, 0, 0⟩).held = g k.1.val k.2.val ∧ ∀ r, getM m k = some r → keyRow k r
theorem AtM.put {m : List (Pl × Row)} {f g f' g' : Int → Int → Int} (h : AtM m f g) {k : Pl} {r : Row} (hk : keyRow k r) (h1 : ∀ q : Pl, f' q.1.val q.2.val = if q = k then r.free else f q.1.val q.2.val) (h2 : ∀ q : Pl, g' q.1.val q.2.val = if q = k then r.held else g q.1.val q.2.val) : AtM (putM m k r) f' g' := by
  intro q
  rw [getM_put, h1 q, h2 q]
  by_cases hq : q = k
  · subst hq; rw [if_pos rfl, if_pos rfl, if_pos rfl]; exact ⟨rfl, rfl, fun r' e => by injection e with e; subst e; exact hk⟩
  · rw [if_neg hq, if_neg hq, if_neg hq]; exact h q
theorem freeAt_take {l : List Row} {k : Nat} {r : Row} (h : l[k]? = some r) (a s : Int) : freeAt (l.take (k + 1)) a s = freeAt (l.take k) a s + if r.acct = a ∧ r.asset = s then r.free else 0 := by
  unfold freeAt; rw [List.take_add_one, h]
  by_cases h1 : r.acct = a <;> by_cases h2 : r.asset = s <;> simp [List.filter_append, isKey, h1, h2]
theorem heldAt_take {l : List Row} {k : Nat} {r : Row} (h : l[k]? = some r) (a s : Int) : heldAt (l.take (k + 1)) a s = heldAt (l.take k) a s + if r.acct = a ∧ r.asset = s then r.held else 0 := by
  unfold heldAt; rw [List.take_add_one, h]
  by_cases h1 : r.acct = a <;> by_cases h2 : r.asset = s <;> simp [List.filter_append, isKey, h1, h2]
theorem pl_of {r : Row} (h : there r.acct r.asset = true) : ∃ k : Pl, keyRow k r := by
  rw [there_iff] at h
  exact ⟨(⟨r.acct.toNat, by omega⟩, ⟨r.asset.toNat, by omega⟩), by show r.acct = ((r.acct.toNat : Nat) : Int); omega, by show r.asset = ((r.asset.toNat : Nat) : Int); omega⟩
theorem keyRow_eq {k q : Pl} {r : Row} (hk : keyRow k r) : (q = k) ↔ (r.acct = (q.1.val : Int) ∧ r.asset = (q.2.val : Int)) := by
  constructor
  · rintro rfl; exact hk
  · intro h
    obtain ⟨h1, h2⟩ := hk
    exact Prod.ext (Fin.ext (by omega)) (Fin.ext (by omega))
/-- rows of the list that was -/
theorem AtM.old {m : List (Pl × Row)} {l : List Row} (hp : l.Pairwise keyLt) {j : Nat} {r : Row} (h : AtM m (freeAt (l.take j)) (heldAt (l.take j))) (hx : l[j]? = some r) {k : Pl} (hk : keyRow k r) : AtM (putM m k r) (freeAt (l.take (j + 1))) (heldAt (l.take (j + 1))) := by
  have hz : freeAt (l.take j) r.acct r.asset = 0 ∧ heldAt (l.take j) r.acct r.asset = 0 := freeAt_none fun x hxm he => by
    obtain ⟨i, hi⟩ := List.getElem?_of_mem hxm
    have hij : i < j := by have := (List.getElem?_eq_some_iff.1 hi).1; rw [List.length_take] at this; omega
    rw [List.getElem?_take, if_pos hij] at hi
    have := pw_get hp hij hi hx
    unfold keyLt at this; omega
  refine h.put hk (fun q => ?_) (fun q => ?_)
  · rw [freeAt_take hx]
    by_cases hq : q = k
    · have := (keyRow_eq hk).1 hq
      rw [if_pos this, if_pos hq, ← this.1, ← this.2, hz.1, Int.zero_add]
    · rw [if_neg (fun e => hq ((keyRow_eq hk).2 e)), if_neg hq, Int.add_zero]
  · rw [heldAt_take hx]
    by_cases hq : q = k
    · have := (keyRow_eq hk).1 hq
      rw [if_pos this, if_pos hq, ← this.1, ← this.2, hz.2, Int.zero_add]
    · rw [if_neg (fun e => hq ((keyRow_eq hk).2 e)), if_neg hq, Int.add_zero]
/-- .. and of what is posted -/
theorem AtM.new {m : List (Pl × Row)} {l p : List Row} {j : Nat} {x : Row} (h : AtM m (fun a s => freeAt l a s + freeAt (p.take j) a s) (fun a s => heldAt l a s + heldAt (p.take j) a s)) (hx : p[j]? = some x) {k : Pl} (hk : keyRow k x) :
    AtM (putM m k ⟨x.acct, x.asset, ((getM m k).getD ⟨0, 0, 0, 0⟩).free + x.free, ((getM m k).getD ⟨0, 0, 0, 0⟩).held + x.held⟩) (fun a s => freeAt l a s + freeAt (p.take (j + 1)) a s) (fun a s => heldAt l a s + heldAt (p.take (j + 1)) a s) := by
  refine h.put hk (fun q => ?_) (fun q => ?_)
  · dsimp only
    rw [freeAt_take hx]
    by_cases hq : q = k
    · rw [if_pos ((keyRow_eq hk).1 hq), if_pos hq]; subst hq; rw [(h q).1]; dsimp only; omega
    · rw [if_neg (fun e => hq ((keyRow_eq hk).2 e)), if_neg hq]; omega
  · dsimp only
    rw [heldAt_take hx]
    by_cases hq : q = k
    · rw [if_pos ((keyRow_eq hk).1 hq), if_pos hq]; subst hq; rw [(h q).2.1]; dsimp only; omega
    · rw [if_neg (fun e => hq ((keyRow_eq hk).2 e)), if_neg hq]; omega
def nzB (r : Row) : Bool := !(decide (r.free = 0) && decide (r.held = 0))
theorem nzB_iff {r : Row} : nzB r = true ↔ (r.free ≠ 0 ∨ r.held ≠ 0) := by
  unfold nzB; by_cases h1 : r.free = 0 <;> by_cases h2 : r.held = 0 <;> simp [h1, h2]
theorem AtM.mem {m : List (Pl × Row)} {f g : Int → Int → Int} (hn : (m.map (·.1)).Nodup) (h : AtM m f g) {r : Row} (hz : r.free ≠ 0 ∨ r.held ≠ 0) : r ∈ m.map (·.2) ↔ (there r.acct r.asset = true ∧ f r.acct r.asset = r.free ∧ g r.acct r.asset = r.held) := by
  constructor
  · intro hm
    obtain ⟨⟨k, r'⟩, h1, rfl⟩ := List.mem_map.1 hm
    have h2 := (getM_some hn).2 h1
    obtain ⟨h3, h4, h5⟩ := h k
    obtain ⟨h6, h7⟩ := h5 _ h2
    rw [h2] at h3 h4
    dsimp only at h6 h7 hz ⊢
    rw [h6, h7]
    refine ⟨there_iff.2 ?_, h3.symm, h4.symm⟩
    have := k.1.isLt; have := k.2.isLt; omega
  · rintro ⟨h1, h2, h3⟩
    obtain ⟨k, hk⟩ := pl_of h1
    obtain ⟨h4, h5, h6⟩ := h k
    rw [← hk.1, ← hk.2] at h4 h5
    cases hg : getM m k with
    | none => rw [hg] at h4 h5; simp at h4 h5; omega
    | some r' =>
      rw [hg] at h4 h5
      have h7 := h6 _ hg
      have : r' = r := by
        obtain ⟨a, b, c, d⟩ := r'; obtain ⟨a', b', c', d'⟩ := r
        obtain ⟨e1, e2⟩ := h7; obtain ⟨e3, e4⟩ := hk
        simp only [Option.getD_some] at h4 h5
        simp only [Row.mk.injEq] at *
        omega
      rw [← this]
      exact List.mem_map.2 ⟨_, getM_mem hg, rfl⟩
/-- the rows of a map, those that are not empty, in their row -/
theorem AtM.rows {m : List (Pl × Row)} {f g : Int → Int → Int} (hn : (m.map (·.1)).Nodup) (h : AtM m f g) {zs : List Row} (hp : zs.Perm ((m.map (·.2)).filter nzB)) (hs : zs.Pairwise keyLt) : zs = rowsOf f g := by
  refine pw_eq hs (rowsOf_pw f g) fun r => ?_
  rw [hp.mem_iff, List.mem_filter, mem_rowsOf, nzB_iff]
  constructor
  · rintro ⟨h1, h2⟩
    obtain ⟨h3, h4, h5⟩ := (h.mem hn h2).1 h1
    exact ⟨h3, h2, h4, h5⟩
  · rintro ⟨h1, h2, h3, h4⟩
    exact ⟨(h.mem hn h2).2 ⟨h1, h3, h4⟩, h2⟩
theorem AtM.keys {m : List (Pl × Row)} {f g : Int → Int → Int} (hn : (m.map (·.1)).Nodup) (h : AtM m f g) : (((m.map (·.2)).filter nzB).map fun r => (r.acct, r.asset)).Nodup := by
  have h1 : ((m.map (·.2)).map fun r => (r.acct, r.asset)).Nodup := by
    have e : (m.map (·.2)).map (fun r => (r.acct, r.asset)) = (m.map (·.1)).map fun k : Pl => ((k.1.val : Int), (k.2.val : Int)) := by
      rw [List.map_map, List.map_map]
      refine List.map_congr_left fun ⟨k, r⟩ he => ?_
      have h2 := (h k).2.2 r ((getM_some hn).2 he)
      simp [h2.1, h2.2]
    rw [e, List.nodup_iff_pairwise_ne, List.pairwise_map]
    rw [List.nodup_iff_pairwise_ne] at hn
    refine hn.imp fun {a b} hab e => hab ?_
    simp only [Prod.mk.injEq] at e
    exact Prod.ext (Fin.ext (by omega)) (Fin.ext (by omega))
  exact h1.sublist (List.filter_sublist.map _)
/-- the worst of what is wrong -/
def worstOf (ps : List Row) : Int := if ps.any (fun r => decide (wrongR r = 47)) then 47 else if ps.any (fun r => decide (wrongR r = 41)) then 41 else 0
theorem wrongR_cases (r : Row) : wrongR r = 0 ∨ wrongR r = 41 ∨ wrongR r = 47 := by unfold wrongR; (repeat' split) <;> omega
theorem worstOf_snoc (ps : List Row) (r : Row) : worstOf (ps ++ [r]) = if wrongR r = 47 ∨ worstOf ps = 0 then wrongR r else worstOf ps := by
  unfold worstOf
  rcases wrongR_cases r with h | h | h <;> cases h1 : ps.any (fun r => decide (wrongR r = 47)) <;> cases h2 : ps.any (fun r => decide (wrongR r = 41)) <;> simp [List.any_append, h, h1, h2]
theorem worstOf_perm {ps qs : List Row} (h : ps.Perm qs) : worstOf ps = worstOf qs := by
  unfold worstOf
  rw [h.any_eq, h.any_eq]
/-- numbers that are near -/
def NearR (l : List Row) : Prop := ∀ r ∈ l, (-4503599627370496000 ≤ r.free ∧ r.free ≤ 4503599627370496000) ∧ (-4503599627370496000 ≤ r.held ∧ r.held ≤ 4503599627370496000)
theorem wrong_funds {r : Row} : wrongR r = 47 ↔ fundsB r = true := by
  unfold wrongR fundsB
  simp only [Bool.and_eq_true, bne_iff_ne, ne_eq, Bool.or_eq_true, decide_eq_true_eq]
  (repeat' split) <;> omega
theorem wrong_over {r : Row} (h : (-4503599627370496000 ≤ r.free ∧ r.free ≤ 4503599627370496000) ∧ (-4503599627370496000 ≤ r.held ∧ r.held ≤ 4503599627370496000)) (hf : fundsB r = false) : wrongR r = 41 ↔ overB r = true := by
  have hw : IntKind.i64.wrap (r.free + r.held) = r.free + r.held := IntWalk.i64_in _ (by omega)
  have hf' : ¬ (r.acct ≠ 0 ∧ (r.free < 0 ∨ r.held < 0)) := by
    intro h2
    rw [Bool.eq_false_iff] at hf
    exact hf (by unfold fundsB; simp only [Bool.and_eq_true, bne_iff_ne, ne_eq, Bool.or_eq_true, decide_eq_true_eq]; exact h2)
  unfold wrongR overB
  rw [hw]
  simp only [Bool.and_eq_true, bne_iff_ne, ne_eq, decide_eq_true_eq]
  unfold mostA
  (repeat' split) <;> omega
theorem worst_rows {m : List (Pl × Row)} {f g : Int → Int → Int} (hn : (m.map (·.1)).Nodup) (h : AtM m f g) (hN : NearR (m.map (·.2))) : worstOf (m.map (·.2)) = if (rowsOf f g).any fundsB then 47 else if (rowsOf f g).any overB then 41 else 0 := by
  have hin : ∀ r, wrongR r ≠ 0 → (r ∈ m.map (·.2) ↔ r ∈ rowsOf f g) := fun r hw => by
    have hz : r.free ≠ 0 ∨ r.held ≠ 0 := by
      rcases Classical.em (r.free = 0 ∧ r.held = 0) with ⟨h1, h2⟩ | h1
      · exfalso; apply hw; rw [wrongR_ok, h1, h2]; unfold mostA; omega
      · omega
    rw [h.mem hn hz, mem_rowsOf]
    exact ⟨fun ⟨a, b, c⟩ => ⟨a, hz, b, c⟩, fun ⟨a, _, b, c⟩ => ⟨a, b, c⟩⟩
  have h1 : (m.map (·.2)).any (fun r => decide (wrongR r = 47)) = (rowsOf f g).any fundsB := by
    rw [Bool.eq_iff_iff, List.any_eq_true, List.any_eq_true]
    constructor
    · rintro ⟨r, hr, hw⟩
      rw [decide_eq_true_eq] at hw
      exact ⟨r, (hin r (by omega)).1 hr, wrong_funds.1 hw⟩
    · rintro ⟨r, hr, hw⟩
      have := wrong_funds.2 hw
      exact ⟨r, (hin r (by omega)).2 hr, by rw [decide_eq_true_eq]; exact this⟩
  unfold worstOf
  rw [h1]
  cases hc : (rowsOf f g).any fundsB with
  | true => rfl
  | false =>
    have hfb : ∀ r ∈ rowsOf f g, fundsB r = false := fun r hr => by
      rw [List.any_eq_false] at hc
      simpa using hc r hr
    have h2 : (m.map (·.2)).any (fun r => decide (wrongR r = 41)) = (rowsOf f g).any overB := by
      rw [Bool.eq_iff_iff, List.any_eq_true, List.any_eq_true]
      constructor
      · rintro ⟨r, hr, hw⟩
        rw [decide_eq_true_eq] at hw
        have hr' := (hin r (by omega)).1 hr
        exact ⟨r, hr', (wrong_over (hN r hr) (hfb r hr')).1 hw⟩
      · rintro ⟨r, hr, hw⟩
        have hz := (mem_rowsOf.1 hr)
        have hr' : r ∈ m.map (·.2) := (h.mem hn hz.2.1).2 ⟨hz.1, hz.2.2.1, hz.2.2.2⟩
        exact ⟨r, hr', by rw [decide_eq_true_eq]; exact (wrong_over (hN r hr') (hfb r hr)).2 hw⟩
    rw [h2]
/-- what stands at places is near -/
theorem may_nearAt {l : List Row} (h : MayR l) (a s : Int) : (-72057594037927936 ≤ freeAt l a s ∧ freeAt l a s ≤ 72057594037927936) ∧ (-72057594037927936 ≤ heldAt l a s ∧ heldAt l a s ≤ 72057594037927936) := by
  obtain ⟨h1, h2, _⟩ := may_ref.1 h
  by_cases hk : ∃ r ∈ l, r.acct = a ∧ r.asset = s
  · obtain ⟨r, hr, rfl, rfl⟩ := hk
    have h3 := freeAt_mem h2 hr
    have h4 := (h1 r hr).2.2
    have h5 := h.1 r hr
    have h6 := there_iff.1 h5.1
    obtain ⟨h7, h8⟩ := h4
    have h9 := h5.2.2.1
    have h10 := h5.2.2.2
    unfold mostA at *
    by_cases h0 : r.acct = 0
    · have := h9 h0; omega
    · have := h10 h0; omega
  · have := freeAt_none (l := l) (a := a) (s := s) fun r hr e => hk ⟨r, hr, e⟩
    omega
theorem post_nearAt : ∀ (p : List Row), (∀ x ∈ p, PostOk x) → ∀ a s, (-1125899906842624 * p.length ≤ freeAt p a s ∧ freeAt p a s ≤ 1125899906842624 * p.length) ∧ (-1125899906842624 * p.length ≤ heldAt p a s ∧ heldAt p a s ≤ 1125899906842624 * p.length)
  | [], _, a, s => by simp [freeAt, heldAt]
  | x :: p, h, a, s => by
    have h1 := (post_d x).1 (h x (by simp))
    have h2 := post_nearAt p (fun y hy => h y (by simp [hy])) a s
    have e : freeAt (x :: p) a s = freeAt [x] a s + freeAt p a s := freeAt_append [x] p a s
    have e' : heldAt (x :: p) a s = heldAt [x] a s + heldAt p a s := heldAt_append [x] p a s
    have e2 : freeAt [x] a s = (if isKey a s x then x.free else 0) := by unfold freeAt; cases hk : isKey a s x <;> simp [hk]
    have e3 : heldAt [x] a s = (if isKey a s x then x.held else 0) := by unfold heldAt; cases hk : isKey a s x <;> simp [hk]
    rw [e, e', e2, e3]
    simp only [List.length_cons]
    constructor <;> constructor <;> split <;> omega
end Go.Proofs.Ytchalebenpmnpaa
