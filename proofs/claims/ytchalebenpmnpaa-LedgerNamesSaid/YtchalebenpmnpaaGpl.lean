/-
  Plain laws of layer 15: what is posted, there and back, in parts, in whatever row; held, paid, freed. No program is in sight. Conditions: none.
-/
import Derived.Test.YtchalebenpmnpaaGx
namespace Go.Proofs.Ytchalebenpmnpaa

theorem sum_one (n : Nat) (f : Nat → Int) (k : Nat) : ((List.range n).map fun c => if c = k then f c else 0).sum = if k < n then f k else 0 := by
  induction n with
  | zero => simp
  | succ n ih =>
    rw [List.range_succ, List.map_append, List.sum_append, ih]
    simp only [List.map_cons, List.map_nil, List.sum_cons, List.sum_nil, Int.add_zero]
    by_cases h1 : k < n
    · rw [if_pos h1, if_neg (by omega), if_pos (by omega), Int.add_zero]
    · by_cases h2 : n = k
      · subst h2; simp
      · rw [if_neg h1, if_neg h2, if_neg (by omega)]; rfl
theorem sum_add (xs : List Nat) (f g : Nat → Int) : (xs.map fun c => f c + g c).sum = (xs.map f).sum + (xs.map g).sum := by
  induction xs with
  | nil => rfl
  | cons x xs ih => simp only [List.map_cons, List.sum_cons, ih]; omega
theorem freeAt_cons (r : Row) (l : List Row) (a s : Int) : freeAt (r :: l) a s = (if r.acct = a ∧ r.asset = s then r.free else 0) + freeAt l a s := by
  unfold freeAt
  by_cases h1 : r.acct = a <;> by_cases h2 : r.asset = s <;> simp [isKey, h1, h2]
theorem heldAt_cons (r : Row) (l : List Row) (a s : Int) : heldAt (r :: l) a s = (if r.acct = a ∧ r.asset = s then r.held else 0) + heldAt l a s := by
  unfold heldAt
  by_cases h1 : r.acct = a <;> by_cases h2 : r.asset = s <;> simp [isKey, h1, h2]
theorem sumA_cons (r : Row) (l : List Row) (a : Int) : sumA (r :: l) a = (if r.asset = a then r.free + r.held else 0) + sumA l a := by
  unfold sumA
  by_cases h : r.asset = a <;> simp [h]
/-- all of an asset, account by account -/
theorem sumA_cols {l : List Row} (h : ∀ r ∈ l, there r.acct r.asset = true) (a : Int) : sumA l a = ((List.range 65).map fun c : Nat => freeAt l c a + heldAt l c a).sum := by
  induction l with
  | nil => simp [sumA, freeAt, heldAt]; decide
  | cons r l ih =>
    have hr := there_iff.1 (h r (by simp))
    rw [sumA_cons, ih (fun x hx => h x (by simp [hx]))]
    have e : ((List.range 65).map fun c : Nat => freeAt (r :: l) c a + heldAt (r :: l) c a) = (List.range 65).map fun c : Nat => (if c = r.acct.toNat then (if r.asset = a then r.free + r.held else 0) else 0) + (freeAt l c a + heldAt l c a) := by
      refine List.map_congr_left fun c _ => ?_
      rw [freeAt_cons, heldAt_cons]
      by_cases h1 : c = r.acct.toNat
      · have : r.acct = (c : Int) := by omega
        by_cases h2 : r.asset = a
        · rw [if_pos ⟨this, h2⟩, if_pos ⟨this, h2⟩, if_pos h1, if_pos h2]; omega
        · rw [if_neg (fun e => h2 e.2), if_neg (fun e => h2 e.2), if_pos h1, if_neg h2]; omega
      · have : ¬ r.acct = (c : Int) := by omega
        rw [if_neg (fun e => this e.1), if_neg (fun e => this e.1), if_neg h1]; omega
    have h9 := sum_add (List.range 65) (fun c => if c = r.acct.toNat then (if r.asset = a then r.free + r.held else 0) else 0) (fun c : Nat => freeAt l c a + heldAt l c a)
    have h10 := sum_one 65 (fun _ => if r.asset = a then r.free + r.held else 0) r.acct.toNat
    rw [if_pos (show r.acct.toNat < 65 by omega)] at h10
    rw [e, h9, h10]
theorem sumA_post {l p : List Row} (hl : ∀ r ∈ l, there r.acct r.asset = true) (hp : ∀ r ∈ p, there r.acct r.asset = true) {a : Int} (ha : 0 ≤ a ∧ a ≤ 16) : sumA (postL l p) a = sumA l a + sumA p a := by
  unfold postL
  rw [sumA_cols (rowsOf_there _ _), sumA_cols hl, sumA_cols hp, ← sum_add]
  congr 1
  refine List.map_congr_left fun c hc => ?_
  rw [List.mem_range] at hc
  obtain ⟨h1, h2⟩ := at_rowsOf (f := fun a s => freeAt l a s + freeAt p a s) (g := fun a s => heldAt l a s + heldAt p a s) (a := (c : Int)) (s := a) (there_iff.2 (by omega))
  show freeAt (rowsOf _ _) _ _ + heldAt (rowsOf _ _) _ _ = _
  rw [h1, h2]; omega
/-- what stands at a place behind a posting -/
theorem at_post {l p : List Row} (hl : ∀ r ∈ l, there r.acct r.asset = true) (hp : ∀ r ∈ p, there r.acct r.asset = true) (a s : Int) : freeAt (postL l p) a s = freeAt l a s + freeAt p a s ∧ heldAt (postL l p) a s = heldAt l a s + heldAt p a s := by
  by_cases h : there a s = true
  · exact at_rowsOf h
  · have h1 := at_out hl h
    have h2 := at_out hp h
    have h3 := at_out (rowsOf_there (fun a s => freeAt l a s + freeAt p a s) (fun a s => heldAt l a s + heldAt p a s)) h
    show freeAt (rowsOf _ _) _ _ = _ ∧ heldAt (rowsOf _ _) _ _ = _
    omega
/-- a posting that is taken -/
structure Taken (l p : List Row) : Prop where
  may : MayR l
  asked : AskedOk p
  len : p.length ≤ 64
  funds : ∀ r ∈ postL l p, fundsB r = false
  over : ∀ r ∈ postL l p, overB r = false
theorem taken_iff {l p out : List Row} : postR l p = (out, 0) ↔ Taken l p ∧ out = postL l p := by
  constructor
  · intro h
    unfold postR at h
    by_cases h1 : mayR l = true
    · rw [if_neg (by simp [h1])] at h
      by_cases h2 : askedR p = 0
      · rw [if_neg (by simp [h2])] at h
        by_cases h3 : (postL l p).any fundsB = true
        · rw [if_pos h3] at h; simp at h
        · rw [if_neg h3] at h
          by_cases h4 : (postL l p).any overB = true
          · rw [if_pos h4] at h; simp at h
          · rw [if_neg h4] at h
            simp only [Prod.mk.injEq, and_true] at h
            have h5 : p.length ≤ 64 ∧ AskedOk p := by
              unfold askedR at h2
              split at h2
              · omega
              · split at h2
                · rename_i h6 h7; exact ⟨by omega, h7⟩
                · omega
            refine ⟨⟨mayR_iff.1 h1, h5.2, h5.1, fun r hr => ?_, fun r hr => ?_⟩, h.symm⟩
            · rw [Bool.eq_false_iff]; intro h6; exact h3 (List.any_eq_true.2 ⟨r, hr, h6⟩)
            · rw [Bool.eq_false_iff]; intro h6; exact h4 (List.any_eq_true.2 ⟨r, hr, h6⟩)
      · rw [if_pos h2] at h
        simp only [Prod.mk.injEq] at h
        exact absurd h.2 h2
    · rw [if_pos (by simpa using h1)] at h; simp at h
  · rintro ⟨⟨h1, h2, h3, h4, h5⟩, rfl⟩
    have e2 : askedR p = 0 := by rw [askedR, if_neg (by omega), if_pos h2]
    have e3 : (postL l p).any fundsB = false := by rw [List.any_eq_false]; intro r hr; rw [h4 r hr]; simp
    have e4 : (postL l p).any overB = false := by rw [List.any_eq_false]; intro r hr; rw [h5 r hr]; simp
    simp [postR, mayR_iff.2 h1, e2, e3, e4]
theorem post_err {l p : List Row} (h : (postR l p).2 ≠ 0) : (postR l p).1 = [] := by
  unfold postR at h ⊢
  (repeat' split) <;> first | rfl | simp_all
theorem post_pair (l p : List Row) : postR l p = ((postR l p).1, (postR l p).2) := rfl
theorem MayR.there {l : List Row} (h : MayR l) : ∀ r ∈ l, there r.acct r.asset = true := fun r hr => (h.1 r hr).1
theorem AskedOk.there {p : List Row} (h : AskedOk p) : ∀ r ∈ p, there r.acct r.asset = true := fun r hr => (h.1 r hr).1
/-- what comes of it may be -/
theorem Taken.out {l p : List Row} (h : Taken l p) : MayR (postL l p) := by
  have hl := h.may.there
  have hp := h.asked.there
  have hat := fun a s => at_post hl hp a s
  have hpw : (postL l p).Pairwise keyLt := rowsOf_pw _ _
  have hth : ∀ r ∈ postL l p, there r.acct r.asset = true := rowsOf_there _ _
  have hsum : ∀ a : Int, 0 ≤ a ∧ a ≤ 16 → sumA (postL l p) a = 0 := fun a ha => by
    have h1 := h.may.2.2 a.toNat (by rw [List.mem_range]; omega)
    have h2 := h.asked.2 a.toNat (by rw [List.mem_range]; omega)
    rw [show ((a.toNat : Nat) : Int) = a by omega] at h1 h2
    rw [sumA_post hl hp ha]; omega
  have h0 : ∀ r ∈ postL l p, r.acct = 0 → r.held = 0 := fun r hr e => by
    have h1 := (freeAt_mem hpw hr).2
    rw [(hat r.acct r.asset).2, e] at h1
    have h2 := held0 (fun x hx e => ((h.may.1 x hx).2.2.1 e).1) r.asset
    have h3 := held0 (fun x hx e => (h.asked.1 x hx).2.2.2.2.2 e) r.asset
    omega
  have hpos : ∀ r ∈ postL l p, r.acct ≠ 0 → 0 ≤ r.free ∧ 0 ≤ r.held ∧ r.free + r.held ≤ mostA := fun r hr e => by
    have h1 := h.funds r hr
    have h2 := h.over r hr
    unfold fundsB at h1; unfold overB at h2
    rw [Bool.eq_false_iff] at h1 h2
    simp only [ne_eq, Bool.and_eq_true, bne_iff_ne, Bool.or_eq_true, decide_eq_true_eq] at h1 h2
    omega
  refine ⟨fun r hr => ⟨hth r hr, (mem_rowsOf.1 hr).2.1, fun e => ⟨h0 r hr e, ?_⟩, hpos r hr⟩, hpw, fun a ha => hsum a (by rw [List.mem_range] at ha; omega)⟩
  have h1 := there_iff.1 (hth r hr)
  have h2 := hsum r.asset (by omega)
  rw [sumA_parts (fun x hx => (there_iff.1 (hth x hx)).1), held0 h0] at h2
  have h3 := (freeAt_mem hpw hr).1
  rw [e] at h3
  have h4 : 0 ≤ posA (postL l p) r.asset := by
    unfold posA
    have : ∀ xs : List Int, (∀ x ∈ xs, 0 ≤ x) → 0 ≤ xs.sum := by
      intro xs
      induction xs with
      | nil => intro _; simp
      | cons x xs ih => intro hx; rw [List.sum_cons]; have := hx x (by simp); have := ih (fun y hy => hx y (by simp [hy])); omega
    refine this _ fun x hx => ?_
    obtain ⟨q, hq, rfl⟩ := List.mem_map.1 hx
    simp only [List.mem_filter, Bool.and_eq_true, decide_eq_true_eq] at hq
    have := hpos q hq.1 (by omega)
    omega
  omega
/-- rows that may be, from what stands at each place -/
theorem may_eq {l m : List Row} (hl : MayR l) (hm : MayR m) (h : ∀ a s, freeAt l a s = freeAt m a s ∧ heldAt l a s = heldAt m a s) : l = m := by
  rw [← rowsOf_at hl.sorted, ← rowsOf_at hm.sorted]
  exact rowsOf_congr fun a s _ => h a s
/-- a posting that comes to rows that may be is taken -/
theorem taken_of {l p m : List Row} (hl : MayR l) (ha : AskedOk p) (hn : p.length ≤ 64) (hm : MayR m) (h : ∀ a s, freeAt m a s = freeAt l a s + freeAt p a s ∧ heldAt m a s = heldAt l a s + heldAt p a s) : postR l p = (m, 0) := by
  have e : postL l p = m := by
    rw [← rowsOf_at hm.sorted]
    exact rowsOf_congr fun a s _ => ⟨(h a s).1.symm, (h a s).2.symm⟩
  rw [taken_iff]
  refine ⟨⟨hl, ha, hn, fun r hr => ?_, fun r hr => ?_⟩, e.symm⟩
  · rw [e] at hr
    have h1 := (hm.1 r hr).2.2.2
    rw [Bool.eq_false_iff]
    unfold fundsB
    simp only [ne_eq, Bool.and_eq_true, bne_iff_ne, Bool.or_eq_true, decide_eq_true_eq]
    rintro ⟨h2, h3⟩
    have := h1 h2; omega
  · rw [e] at hr
    have h1 := (hm.1 r hr).2.2.2
    rw [Bool.eq_false_iff]
    unfold overB
    simp only [ne_eq, Bool.and_eq_true, bne_iff_ne, decide_eq_true_eq]
    rintro ⟨h2, h3⟩
    have := h1 h2; omega
/-! ### there and back -/
def negR (r : Row) : Row := ⟨r.acct, r.asset, -r.free, -r.held⟩
def backP (p : List Row) : List Row := (p.map negR).reverse
theorem perm_sum {xs ys : List Int} (h : xs.Perm ys) : xs.sum = ys.sum := by
  induction h with
  | nil => rfl
  | cons x _ ih => simp only [List.sum_cons, ih]
  | swap x y l => simp only [List.sum_cons]; omega
  | trans _ _ h1 h2 => exact h1.trans h2
theorem freeAt_perm {l m : List Row} (h : l.Perm m) (a s : Int) : freeAt l a s = freeAt m a s ∧ heldAt l a s = heldAt m a s :=
  ⟨perm_sum ((h.filter _).map _), perm_sum ((h.filter _).map _)⟩
theorem sumA_perm {l m : List Row} (h : l.Perm m) (a : Int) : sumA l a = sumA m a := perm_sum ((h.filter _).map _)
theorem freeAt_neg : ∀ (p : List Row) (a s : Int), freeAt (p.map negR) a s = -freeAt p a s ∧ heldAt (p.map negR) a s = -heldAt p a s
  | [], a, s => by simp [freeAt, heldAt]
  | r :: p, a, s => by
    have ih := freeAt_neg p a s
    rw [List.map_cons, freeAt_cons, heldAt_cons, freeAt_cons, heldAt_cons, ih.1, ih.2]
    show (if r.acct = a ∧ r.asset = s then -r.free else 0) + _ = _ ∧ (if r.acct = a ∧ r.asset = s then -r.held else 0) + _ = _
    constructor <;> split <;> omega
theorem sumA_neg : ∀ (p : List Row) (a : Int), sumA (p.map negR) a = -sumA p a
  | [], a => by simp [sumA]
  | r :: p, a => by
    rw [List.map_cons, sumA_cons, sumA_cons, sumA_neg p a]
    show (if r.asset = a then -r.free + -r.held else 0) + _ = _
    split <;> omega
theorem back_asked {p : List Row} (h : AskedOk p) : AskedOk (backP p) := by
  refine ⟨fun x hx => ?_, fun a ha => ?_⟩
  · obtain ⟨y, hy, rfl⟩ := List.mem_map.1 (List.mem_reverse.1 hx)
    have := h.1 y hy
    unfold PostOk negR at *
    unfold mostA at *
    exact ⟨this.1, by dsimp only; omega, by dsimp only; omega, by dsimp only; omega, by dsimp only; omega, fun e => by have := this.2.2.2.2.2 e; dsimp only; omega⟩
  · unfold backP
    rw [sumA_perm (List.reverse_perm _), sumA_neg, h.2 a ha]; rfl
theorem back_law {l p : List Row} (h : Taken l p) : postR (postL l p) (backP p) = (l, 0) := by
  refine taken_of h.out (back_asked h.asked) (by simp [backP]; exact h.len) h.may fun a s => ?_
  have h1 := at_post h.may.there h.asked.there a s
  have h2 := freeAt_perm (List.reverse_perm (p.map negR)) a s
  have h3 := freeAt_neg p a s
  unfold backP
  omega
/-! ### in whatever row, in parts -/
theorem asked_perm {p q : List Row} (h : p.Perm q) : askedR p = askedR q := by
  have e : AskedOk p ↔ AskedOk q := by
    unfold AskedOk
    constructor
    · rintro ⟨h1, h2⟩; exact ⟨fun x hx => h1 x (h.mem_iff.2 hx), fun a ha => by rw [← sumA_perm h]; exact h2 a ha⟩
    · rintro ⟨h1, h2⟩; exact ⟨fun x hx => h1 x (h.mem_iff.1 hx), fun a ha => by rw [sumA_perm h]; exact h2 a ha⟩
  unfold askedR
  rw [h.length_eq]
  by_cases h1 : AskedOk q
  · simp only [h1, e.2 h1]
  · have h2 : ¬ AskedOk p := fun h3 => h1 (e.1 h3)
    simp only [h1, h2]
theorem post_perm {l p q : List Row} (h : p.Perm q) : postR l p = postR l q := by
  have e : postL l p = postL l q := rowsOf_congr fun a s _ => by
    have := freeAt_perm h a s
    omega
  unfold postR
  rw [asked_perm h, e]
theorem asked_append {p q : List Row} (h : AskedOk p) (g : AskedOk q) : AskedOk (p ++ q) := by
  refine ⟨fun x hx => ?_, fun a ha => ?_⟩
  · rcases List.mem_append.1 hx with hx | hx
    · exact h.1 x hx
    · exact g.1 x hx
  · rw [sumA_append, h.2 a ha, g.2 a ha]; rfl
theorem parts_law {l p q : List Row} (h : Taken l p) (g : Taken (postL l p) q) (hn : (p ++ q).length ≤ 64) : postR l (p ++ q) = (postL (postL l p) q, 0) := by
  refine taken_of h.may (asked_append h.asked g.asked) hn g.out fun a s => ?_
  have h1 := at_post h.may.there h.asked.there a s
  have h2 := at_post g.may.there g.asked.there a s
  have h3 := freeAt_append p q a s
  have h4 := heldAt_append p q a s
  omega
end Go.Proofs.Ytchalebenpmnpaa
