/-
  Plain words for layer 15 (ledger): rows as numbers, which rows may be, what stands at a place, what is posted; no program is in sight. Conditions: none.
-/
import Derived.PlainAid
namespace Go.Proofs.Ytchalebenpmnpaa

structure Row where
  acct : Int
  asset : Int
  free : Int
  held : Int
deriving DecidableEq, Inhabited

/-- the greatest amount -/
abbrev mostA : Int := 1125899906842624
def there (a s : Int) : Bool := decide (0 ≤ a) && decide (a ≤ 64) && decide (0 ≤ s) && decide (s ≤ 16)
theorem there_iff {a s : Int} : there a s = true ↔ 0 ≤ a ∧ a ≤ 64 ∧ 0 ≤ s ∧ s ≤ 16 := by simp [there, and_assoc]
def keyLt (r q : Row) : Prop := r.acct < q.acct ∨ (r.acct = q.acct ∧ r.asset < q.asset)
instance (r q : Row) : Decidable (keyLt r q) := inferInstanceAs (Decidable (_ ∨ _))
def RowOk (r : Row) : Prop := there r.acct r.asset = true ∧ (r.free ≠ 0 ∨ r.held ≠ 0) ∧ (r.acct = 0 → r.held = 0 ∧ r.free ≤ 0) ∧ (r.acct ≠ 0 → 0 ≤ r.free ∧ 0 ≤ r.held ∧ r.free + r.held ≤ mostA)
instance (r : Row) : Decidable (RowOk r) := inferInstanceAs (Decidable (_ ∧ _ ∧ _ ∧ _))
/-- all of an asset -/
def sumA (l : List Row) (a : Int) : Int := ((l.filter fun r => r.asset == a).map fun r => r.free + r.held).sum
def MayR (l : List Row) : Prop := (∀ r ∈ l, RowOk r) ∧ l.Pairwise keyLt ∧ ∀ a ∈ List.range 17, sumA l (a : Nat) = 0
instance (l : List Row) : Decidable (MayR l) := inferInstanceAs (Decidable (_ ∧ _ ∧ _))
def mayR (l : List Row) : Bool := decide (MayR l)
theorem mayR_iff {l : List Row} : mayR l = true ↔ MayR l := by simp [mayR]
def isKey (a s : Int) (r : Row) : Bool := r.acct == a && r.asset == s
theorem isKey_iff {a s : Int} {r : Row} : isKey a s r = true ↔ r.acct = a ∧ r.asset = s := by simp [isKey]
/-- what stands at a place -/
def getR (l : List Row) (a s : Int) : Row := (l.find? (isKey a s)).getD ⟨a, s, 0, 0⟩
/-- the parts of all that is said of a place -/
def freeAt (l : List Row) (a s : Int) : Int := ((l.filter (isKey a s)).map (·.free)).sum
def heldAt (l : List Row) (a s : Int) : Int := ((l.filter (isKey a s)).map (·.held)).sum
/-- a sum that is not too far -/
def told (n : Int) : Int × Int := if -4611686018427387904 ≤ n ∧ n ≤ 4611686018427387904 then (n, 0) else (0, 41)
def totalR (l : List Row) (a s : Int) : Int := (told ((getR l a s).free + (getR l a s).held)).1
def sumR (l : List Row) (a : Int) : Int := (told (sumA l a)).1
def ofR (l : List Row) (a : Int) : List Row := l.filter fun r => r.acct == a
/-- all places, in their row -/
def keysL : List (Int × Int) := (List.range 65).flatMap fun a : Nat => (List.range 17).map fun s : Nat => ((a : Int), (s : Int))
/-- the rows of what stands at each place -/
def rowAt (f g : Int → Int → Int) (k : Int × Int) : Option Row := if f k.1 k.2 = 0 ∧ g k.1 k.2 = 0 then none else some ⟨k.1, k.2, f k.1 k.2, g k.1 k.2⟩
def rowsOf (f g : Int → Int → Int) : List Row := keysL.filterMap (rowAt f g)
def PostOk (x : Row) : Prop := there x.acct x.asset = true ∧ x.free ≤ mostA ∧ -mostA ≤ x.free ∧ x.held ≤ mostA ∧ -mostA ≤ x.held ∧ (x.acct = 0 → x.held = 0)
instance (x : Row) : Decidable (PostOk x) := inferInstanceAs (Decidable (_ ∧ _))
def AskedOk (p : List Row) : Prop := (∀ x ∈ p, PostOk x) ∧ ∀ a ∈ List.range 17, sumA p (a : Nat) = 0
instance (p : List Row) : Decidable (AskedOk p) := inferInstanceAs (Decidable (_ ∧ _))
def askedR (p : List Row) : Int := if 64 < p.length then 40 else if AskedOk p then 0 else 1
def postL (l p : List Row) : List Row := rowsOf (fun a s => freeAt l a s + freeAt p a s) (fun a s => heldAt l a s + heldAt p a s)
def fundsB (r : Row) : Bool := r.acct != 0 && (decide (r.free < 0) || decide (r.held < 0))
def overB (r : Row) : Bool := r.acct != 0 && decide (mostA < r.free + r.held)
def postR (l p : List Row) : List Row × Int :=
  if !mayR l then ([], 4) else if askedR p ≠ 0 then ([], askedR p)
  else if (postL l p).any fundsB then ([], 47) else if (postL l p).any overB then ([], 41) else (postL l p, 0)

/-! ### rows that stand in their row -/
def SortedR (l : List Row) : Prop := l.Pairwise keyLt ∧ ∀ r ∈ l, there r.acct r.asset = true ∧ (r.free ≠ 0 ∨ r.held ≠ 0)
theorem MayR.sorted {l : List Row} (h : MayR l) : SortedR l := ⟨h.2.1, fun r hr => ⟨(h.1 r hr).1, (h.1 r hr).2.1⟩⟩
theorem keyLt_irr (r : Row) : ¬ keyLt r r := by unfold keyLt; omega
theorem keyLt_trans {r q t : Row} (h : keyLt r q) (g : keyLt q t) : keyLt r t := by unfold keyLt at *; omega
theorem keyLt_asymm {r q : Row} (h : keyLt r q) : ¬ keyLt q r := by unfold keyLt at *; omega
theorem pw_nodup {l : List Row} (h : l.Pairwise keyLt) : l.Nodup := h.imp fun {a b} hab e => by subst e; exact keyLt_irr a hab
theorem pw_eq {l m : List Row} (hl : l.Pairwise keyLt) (hm : m.Pairwise keyLt) (h : ∀ r, r ∈ l ↔ r ∈ m) : l = m := by
  refine List.Perm.eq_of_pairwise (le := keyLt) ?_ hl hm ((List.perm_ext_iff_of_nodup (pw_nodup hl) (pw_nodup hm)).2 h)
  intro a b _ _ h1 h2; exact absurd h2 (keyLt_asymm h1)
theorem key_one {l : List Row} (h : l.Pairwise keyLt) {r q : Row} (hr : r ∈ l) (hq : q ∈ l) (h1 : r.acct = q.acct) (h2 : r.asset = q.asset) : r = q := by
  induction l with
  | nil => cases hr
  | cons x l ih =>
    obtain ⟨hx, hl⟩ := List.pairwise_cons.1 h
    rcases List.mem_cons.1 hr with rfl | hr' <;> rcases List.mem_cons.1 hq with rfl | hq'
    · rfl
    · have := hx q hq'; unfold keyLt at this; omega
    · have := hx r hr'; unfold keyLt at this; omega
    · exact ih hl hr' hq'
theorem filter_key {l : List Row} (h : l.Pairwise keyLt) {r : Row} (hr : r ∈ l) : l.filter (isKey r.acct r.asset) = [r] := by
  induction l with
  | nil => cases hr
  | cons x l ih =>
    obtain ⟨hx, hl⟩ := List.pairwise_cons.1 h
    rcases List.mem_cons.1 hr with rfl | hr'
    · rw [List.filter_cons_of_pos (by simp [isKey])]
      congr 1
      rw [List.filter_eq_nil_iff]
      intro q hq hk
      have := hx q hq
      rw [isKey_iff] at hk
      unfold keyLt at this; omega
    · rw [List.filter_cons_of_neg, ih hl hr']
      intro hk
      rw [isKey_iff] at hk
      have := hx r hr'
      unfold keyLt at this; omega
theorem filter_nokey {l : List Row} {a s : Int} (h : ∀ r ∈ l, ¬ (r.acct = a ∧ r.asset = s)) : l.filter (isKey a s) = [] := by
  rw [List.filter_eq_nil_iff]; intro q hq hk; rw [isKey_iff] at hk; exact h q hq hk
theorem freeAt_mem {l : List Row} (h : l.Pairwise keyLt) {r : Row} (hr : r ∈ l) : freeAt l r.acct r.asset = r.free ∧ heldAt l r.acct r.asset = r.held := by
  simp [freeAt, heldAt, filter_key h hr]
theorem freeAt_none {l : List Row} {a s : Int} (h : ∀ r ∈ l, ¬ (r.acct = a ∧ r.asset = s)) : freeAt l a s = 0 ∧ heldAt l a s = 0 := by
  simp [freeAt, heldAt, filter_nokey h]
theorem getR_mem {l : List Row} (h : l.Pairwise keyLt) {r : Row} (hr : r ∈ l) : getR l r.acct r.asset = r := by
  have h1 : (l.filter (isKey r.acct r.asset)).head? = some r := by rw [filter_key h hr]; rfl
  rw [List.head?_filter] at h1
  simp [getR, h1]
theorem getR_none {l : List Row} {a s : Int} (h : ∀ r ∈ l, ¬ (r.acct = a ∧ r.asset = s)) : getR l a s = ⟨a, s, 0, 0⟩ := by
  have : l.find? (isKey a s) = none := by rw [List.find?_eq_none]; intro q hq hk; rw [isKey_iff] at hk; exact h q hq hk
  simp [getR, this]
/-- what stands at a place, by its parts -/
theorem getR_at {l : List Row} (h : l.Pairwise keyLt) (a s : Int) : getR l a s = ⟨a, s, freeAt l a s, heldAt l a s⟩ := by
  by_cases hk : ∃ r ∈ l, r.acct = a ∧ r.asset = s
  · obtain ⟨r, hr, rfl, rfl⟩ := hk
    rw [getR_mem h hr, (freeAt_mem h hr).1, (freeAt_mem h hr).2]
  · have hn : ∀ r ∈ l, ¬ (r.acct = a ∧ r.asset = s) := fun r hr hh => hk ⟨r, hr, hh⟩
    rw [getR_none hn, (freeAt_none hn).1, (freeAt_none hn).2]
theorem mem_keysL {a s : Int} : (a, s) ∈ keysL ↔ there a s = true := by
  rw [there_iff]
  simp only [keysL, List.mem_flatMap, List.mem_map, List.mem_range, Prod.mk.injEq]
  constructor
  · rintro ⟨x, hx, y, hy, rfl, rfl⟩; omega
  · rintro ⟨h1, h2, h3, h4⟩
    exact ⟨a.toNat, by omega, s.toNat, by omega, by omega, by omega⟩
theorem mem_rowsOf {f g : Int → Int → Int} {r : Row} : r ∈ rowsOf f g ↔ there r.acct r.asset = true ∧ (r.free ≠ 0 ∨ r.held ≠ 0) ∧ f r.acct r.asset = r.free ∧ g r.acct r.asset = r.held := by
  simp only [rowsOf, List.mem_filterMap, Prod.exists]
  constructor
  · rintro ⟨a, s, hk, he⟩
    unfold rowAt at he
    split at he
    · cases he
    · rename_i hz
      injection he with he; subst he
      exact ⟨mem_keysL.1 hk, by dsimp only at hz ⊢; omega, rfl, rfl⟩
  · rintro ⟨h1, h2, h3, h4⟩
    refine ⟨r.acct, r.asset, mem_keysL.2 h1, ?_⟩
    unfold rowAt
    rw [if_neg (by dsimp only; omega)]
    dsimp only
    rw [h3, h4]
theorem keysL_pw : keysL.Pairwise fun x y => x.1 < y.1 ∨ (x.1 = y.1 ∧ x.2 < y.2) := by
  unfold keysL
  rw [List.pairwise_flatMap]
  constructor
  · intro a _
    rw [List.pairwise_map]
    exact List.pairwise_lt_range.imp fun {x y} h => Or.inr ⟨rfl, by dsimp only; omega⟩
  · refine List.pairwise_lt_range.imp fun {a b} h x hx y hy => ?_
    obtain ⟨_, _, rfl⟩ := List.mem_map.1 hx
    obtain ⟨_, _, rfl⟩ := List.mem_map.1 hy
    exact Or.inl (by dsimp only; omega)
theorem rowsOf_pw (f g : Int → Int → Int) : (rowsOf f g).Pairwise keyLt := by
  refine List.Pairwise.filterMap (R := fun x y : Int × Int => x.1 < y.1 ∨ (x.1 = y.1 ∧ x.2 < y.2)) _ ?_ keysL_pw
  intro x y h r hr q hq
  unfold rowAt at hr hq
  split at hr
  · cases hr
  · split at hq
    · cases hq
    · injection hr with hr; injection hq with hq
      subst hr; subst hq
      exact h
theorem rowsOf_sorted (f g : Int → Int → Int) : SortedR (rowsOf f g) := ⟨rowsOf_pw f g, fun _ hr => let h := mem_rowsOf.1 hr; ⟨h.1, h.2.1⟩⟩
/-- rows that stand in their row are those of what stands at each place -/
theorem rowsOf_at {l : List Row} (h : SortedR l) : rowsOf (freeAt l) (heldAt l) = l := by
  refine pw_eq (rowsOf_pw _ _) h.1 fun r => ?_
  rw [mem_rowsOf]
  constructor
  · rintro ⟨_, h2, h3, h4⟩
    by_cases hk : ∃ q ∈ l, q.acct = r.acct ∧ q.asset = r.asset
    · obtain ⟨q, hq, e1, e2⟩ := hk
      have e3 := freeAt_mem h.1 hq
      rw [e1, e2, h3, h4] at e3
      have : q = r := by
        obtain ⟨_, _, _, _⟩ := q; obtain ⟨_, _, _, _⟩ := r
        simp only at e1 e2 e3
        rw [e1, e2, e3.1, e3.2]
      exact this ▸ hq
    · have := freeAt_none (l := l) (a := r.acct) (s := r.asset) fun q hq hh => hk ⟨q, hq, hh⟩
      omega
  · intro hr
    exact ⟨(h.2 r hr).1, (h.2 r hr).2, (freeAt_mem h.1 hr).1, (freeAt_mem h.1 hr).2⟩
theorem rowsOf_congr {f g f' g' : Int → Int → Int} (h : ∀ a s, there a s = true → f a s = f' a s ∧ g a s = g' a s) : rowsOf f g = rowsOf f' g' := by
  refine pw_eq (rowsOf_pw _ _) (rowsOf_pw _ _) fun r => ?_
  rw [mem_rowsOf, mem_rowsOf]
  constructor
  · rintro ⟨h1, h2, h3, h4⟩; have := h _ _ h1; exact ⟨h1, h2, by omega, by omega⟩
  · rintro ⟨h1, h2, h3, h4⟩; have := h _ _ h1; exact ⟨h1, h2, by omega, by omega⟩
theorem at_rowsOf {f g : Int → Int → Int} {a s : Int} (h : there a s = true) : freeAt (rowsOf f g) a s = f a s ∧ heldAt (rowsOf f g) a s = g a s := by
  by_cases hz : f a s = 0 ∧ g a s = 0
  · have := freeAt_none (l := rowsOf f g) (a := a) (s := s) fun r hr hk => by
      obtain ⟨_, h2, h3, h4⟩ := mem_rowsOf.1 hr
      rw [hk.1, hk.2] at h3 h4; omega
    omega
  · have hm : (⟨a, s, f a s, g a s⟩ : Row) ∈ rowsOf f g := mem_rowsOf.2 ⟨h, by dsimp only; omega, rfl, rfl⟩
    exact freeAt_mem (rowsOf_pw f g) hm
theorem at_out {l : List Row} (hl : ∀ r ∈ l, there r.acct r.asset = true) {a s : Int} (h : ¬ there a s = true) : freeAt l a s = 0 ∧ heldAt l a s = 0 :=
  freeAt_none fun r hr hk => h (by rw [← hk.1, ← hk.2]; exact hl r hr)
theorem rowsOf_there (f g : Int → Int → Int) : ∀ r ∈ rowsOf f g, there r.acct r.asset = true := fun _ hr => (mem_rowsOf.1 hr).1
theorem freeAt_append (l m : List Row) (a s : Int) : freeAt (l ++ m) a s = freeAt l a s + freeAt m a s := by simp [freeAt]
theorem heldAt_append (l m : List Row) (a s : Int) : heldAt (l ++ m) a s = heldAt l a s + heldAt m a s := by simp [heldAt]
theorem sumA_append (l m : List Row) (a : Int) : sumA (l ++ m) a = sumA l a + sumA m a := by simp [sumA]
end Go.Proofs.Ytchalebenpmnpaa
