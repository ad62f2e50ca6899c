/-
  Open orders and lots, plain: which may be, what becomes of them by an event. Conditions: none.
-/
import Derived.Test.YtkehmbgcglbffaaDoorEs
namespace Go.Proofs.YtkehmbgcglbffaaDoor
open Go.RowKit Go.PlainAid

structure Opn where
  acct : Int
  id : Int
  inst : Int
  side : Int
  price : Int
  left : Int
deriving DecidableEq, Inhabited
structure Lt where
  id : Int
  seller : Int
  inst : Int
  qty : Int
deriving DecidableEq, Inhabited
def encP (o : Opn) : List Value := [.int .i64 o.acct, .int .i64 o.id, .int .i64 o.inst, .int .u8 o.side, .int .i64 o.price, .int .i64 o.left]
theorem encP_len (o : Opn) : (encP o).length = 6 := rfl
theorem encP_one (o : Opn) : ∀ v ∈ encP o, v.oneCell' = true := by intro v hv; simp [encP] at hv; rcases hv with rfl | rfl | rfl | rfl | rfl | rfl <;> rfl
def encL (l : Lt) : List Value := [.int .i64 l.id, .int .i64 l.seller, .int .i64 l.inst, .int .i64 l.qty]
theorem encL_len (l : Lt) : (encL l).length = 4 := rfl
theorem encL_one (l : Lt) : ∀ v ∈ encL l, v.oneCell' = true := by intro v hv; simp [encL] at hv; rcases hv with rfl | rfl | rfl | rfl <;> rfl
def btw (n m : Int) : Bool := decide (1 ≤ n ∧ n ≤ m)
def MayO (o : Opn) : Prop := (1 ≤ o.acct ∧ o.acct ≤ 64) ∧ (1 ≤ o.id ∧ o.id ≤ 1099511627776) ∧ (1 ≤ o.inst ∧ o.inst ≤ 16) ∧ (o.side = 1 ∨ o.side = 2) ∧ (1 ≤ o.price ∧ o.price ≤ 1073741824) ∧ (1 ≤ o.left ∧ o.left ≤ 1048576)
instance (o : Opn) : Decidable (MayO o) := inferInstanceAs (Decidable (_ ∧ _))
def MayL (l : Lt) : Prop := (1 ≤ l.id ∧ l.id ≤ 1099511627776) ∧ (1 ≤ l.seller ∧ l.seller ≤ 64) ∧ (1 ≤ l.inst ∧ l.inst ≤ 16) ∧ (1 ≤ l.qty ∧ l.qty ≤ 1048576)
instance (l : Lt) : Decidable (MayL l) := inferInstanceAs (Decidable (_ ∧ _))
def keyO (a b : Opn) : Prop := a.acct < b.acct ∨ (a.acct = b.acct ∧ a.id < b.id)
instance (a b : Opn) : Decidable (keyO a b) := inferInstanceAs (Decidable (_ ∨ _))
def keyT (a b : Lt) : Prop := a.id < b.id
instance (a b : Lt) : Decidable (keyT a b) := inferInstanceAs (Decidable (_ < _))
def MayV (p : List Opn) (t : List Lt) : Prop := (p.length ≤ 128 ∧ t.length ≤ 32) ∧ p.Pairwise keyO ∧ t.Pairwise keyT ∧ (∀ o ∈ p, MayO o) ∧ (p.map (·.id)).Nodup ∧ ∀ l ∈ t, MayL l
instance (p : List Opn) (t : List Lt) : Decidable (MayV p t) := inferInstanceAs (Decidable (_ ∧ _))
@[irreducible] def mayV (p : List Opn) (t : List Lt) : Bool := decide (MayV p t)
theorem mayV_iff {p : List Opn} {t : List Lt} : mayV p t = true ↔ MayV p t := by unfold mayV; simp
theorem mayV_no {p : List Opn} {t : List Lt} : mayV p t = false ↔ ¬ MayV p t := by unfold mayV; simp
theorem keyO_irr (a : Opn) : ¬ keyO a a := by unfold keyO; omega
theorem keyO_trans {a b c : Opn} (h : keyO a b) (g : keyO b c) : keyO a c := by unfold keyO at *; omega
theorem keyO_asymm {a b : Opn} (h : keyO a b) : ¬ keyO b a := by unfold keyO at *; omega
theorem keyT_trans {a b c : Lt} (h : keyT a b) (g : keyT b c) : keyT a c := by unfold keyT at *; omega
/-! ### rows that rise -/
section
variable {α : Type} {R : α → α → Prop}
theorem pwg_get {l : List α} (h : l.Pairwise R) {i j : Nat} (hij : i < j) {x y : α} (hx : l[i]? = some x) (hy : l[j]? = some y) : R x y := by
  obtain ⟨hi, rfl⟩ := List.getElem?_eq_some_iff.1 hx
  obtain ⟨hj, rfl⟩ := List.getElem?_eq_some_iff.1 hy
  exact List.pairwise_iff_getElem.1 h i j hi hj hij
theorem pwg_snoc (htr : ∀ a b c, R a b → R b c → R a c) {l : List α} {k : Nat} {r : α} (h : (l.take k).Pairwise R) (hr : l[k]? = some r) (hk : k = 0 ∨ ∃ q, l[k - 1]? = some q ∧ R q r) : (l.take (k + 1)).Pairwise R := by
  rw [List.take_add_one, hr]
  refine List.pairwise_append.2 ⟨h, List.pairwise_singleton _ _, fun x hx y hy => ?_⟩
  simp at hy; subst hy
  rcases hk with rfl | ⟨q, hq, hR⟩
  · simp at hx
  · obtain ⟨j, hj⟩ := List.mem_iff_getElem?.1 hx
    rw [List.getElem?_take] at hj
    split at hj
    · rename_i hjk
      by_cases hjk1 : j = k - 1
      · subst hjk1; rw [hq] at hj; injection hj with hj; subst hj; exact hR
      · have hk1 : k - 1 < k := by omega
        have h1 : (l.take k)[j]? = some x := by rw [List.getElem?_take, if_pos hjk]; exact hj
        have h2 : (l.take k)[k - 1]? = some q := by rw [List.getElem?_take, if_pos hk1]; exact hq
        exact htr _ _ _ (pwg_get h (by omega) h1 h2) hR
    · cases hj
theorem all_of_get {p : α → Prop} {l : List α} (h : ∀ j, j < l.length → ∀ x, l[j]? = some x → p x) : ∀ x ∈ l, p x := fun x hx => by
  obtain ⟨j, hj⟩ := List.mem_iff_getElem?.1 hx
  exact h j (List.getElem?_eq_some_iff.1 hj).1 x hj
end
/-! ### what becomes of them -/
def findP (p : List Opn) (id : Int) : Option Opn := p.find? fun o => o.id == id
def findT (t : List Lt) (id : Int) : Option Lt := t.find? fun l => l.id == id
def ofP (p : List Opn) (a : Int) : List Opn := p.filter fun o => o.acct == a
def insP : List Opn → Opn → List Opn
  | [], o => [o]
  | x :: r, o => if keyO o x then o :: x :: r else x :: insP r o
def insT : List Lt → Lt → List Lt
  | [], o => [o]
  | x :: r, o => if keyT o x then o :: x :: r else x :: insT r o
def cutP (id q : Int) (o : Opn) : Opn := if o.id = id then { o with left := o.left - q } else o
def lessP (p : List Opn) (id q : Int) : List Opn := (p.map (cutP id q)).filter fun o => decide (0 < o.left)
def gone (t : List Lt) (id : Int) : List Lt := t.filter fun l => !(l.id == id)
def nth (e : Evt) (i : Nat) : Int := e.nums.getD i 0
def placedR (p : List Opn) (t : List Lt) (e : Evt) : List Opn × List Lt × Int :=
  if (findP p (nth e 0)).isSome then ([], [], 6) else if p.length = 128 then ([], [], 40)
  else (insP p ⟨nth e 1, nth e 0, nth e 2, nth e 3, nth e 4, nth e 5⟩, t, 0)
def cancelR (p : List Opn) (t : List Lt) (e : Evt) : List Opn × List Lt × Int := match findP p (nth e 0) with
  | none => ([], [], 5)
  | some o => (lessP p (nth e 0) o.left, t, 0)
def tradedR (p : List Opn) (t : List Lt) (e : Evt) : List Opn × List Lt × Int := match findP p (nth e 0), findP p (nth e 1) with
  | some a, some b => if nth e 0 = nth e 1 ∨ a.left < nth e 3 ∨ b.left < nth e 3 then ([], [], 1) else (lessP (lessP p (nth e 0) (nth e 3)) (nth e 1) (nth e 3), t, 0)
  | _, _ => ([], [], 5)
def openedR (p : List Opn) (t : List Lt) (e : Evt) : List Opn × List Lt × Int :=
  if (findT t (nth e 0)).isSome then ([], [], 6) else if t.length = 32 then ([], [], 40)
  else (p, insT t ⟨nth e 0, nth e 1, nth e 2, nth e 3⟩, 0)
def goneR (p : List Opn) (t : List Lt) (e : Evt) : List Opn × List Lt × Int :=
  if (findT t (nth e 0)).isSome then (p, gone t (nth e 0), 0) else ([], [], 5)
def doneR (p : List Opn) (t : List Lt) (e : Evt) : List Opn × List Lt × Int :=
  if e.kind = 11 then placedR p t e else if e.kind = 12 then cancelR p t e else if e.kind = 13 then tradedR p t e
  else if e.kind = 14 ∨ e.kind = 16 then openedR p t e else if e.kind = 18 ∨ e.kind = 19 then goneR p t e else (p, t, 0)
@[irreducible] def eventR (p : List Opn) (t : List Lt) (e : Evt) : List Opn × List Lt × Int :=
  if mayV p t = true ∧ e.v = 3 ∧ mayE e = true then doneR p t e else ([], [], 4)
/-! ### numbers of an event that may be -/
theorem fits_lo {v c n lo hi : Int} (h : fitsR v c n = true) (hb : boundR v c = some (lo, hi)) : lo ≤ n ∧ n ≤ hi := by
  unfold fitsR bLo bHi bIs at h
  rw [hb] at h
  simpa using h
theorem bnd_a : boundR 3 97 = some (1, 64) := by kernel_rfl
theorem bnd_i : boundR 3 105 = some (1, 16) := by kernel_rfl
theorem bnd_o : boundR 3 111 = some (1, 1099511627776) := by kernel_rfl
theorem bnd_c : boundR 3 99 = some (1, 1099511627776) := by kernel_rfl
theorem bnd_q : boundR 3 113 = some (1, 1048576) := by kernel_rfl
theorem bnd_m : boundR 3 109 = some (1, 1125899906842624) := by kernel_rfl
theorem bnd_z : boundR 3 122 = some (0, 1125899906842624) := by kernel_rfl
theorem bnd_p : boundR 3 112 = some (1, 1073741824) := by kernel_rfl
theorem bnd_s : boundR 3 115 = some (1, 2) := by kernel_rfl
theorem bnd_t : boundR 3 116 = some (1, 1099511627776) := by kernel_rfl
theorem all_nil {v : Int} {ns : List Int} (h : allR v [] ns = true) : ns = [] := by
  unfold allR at h
  simp only [List.length_nil, Bool.and_eq_true, decide_eq_true_eq] at h
  exact List.eq_nil_of_length_eq_zero h.1.symm
theorem all_cons {v c : Int} {cs ns : List Int} (h : allR v (c :: cs) ns = true) : ∃ n r, ns = n :: r ∧ fitsR v c n = true ∧ allR v cs r = true := by
  unfold allR at h
  simp only [List.length_cons, Bool.and_eq_true, decide_eq_true_eq] at h
  match ns, h with
  | n :: r, ⟨h1, h2⟩ =>
    simp only [List.zip_cons_cons, List.all_cons, Bool.and_eq_true] at h2
    refine ⟨n, r, rfl, h2.1, ?_⟩
    unfold allR
    simp only [List.length_cons] at h1
    simp [h2.2, show cs.length = r.length by omega]
theorem may_nums {e : Evt} (h : mayE e = true) (hv : e.v = 3) {k : Int} (hk : e.kind = k) {s : ByteArray} {t : Bool} (hf : fieldsR 3 k = some (s, t)) : allR 3 (bytesI s) e.nums = true ∧ textsR t e.texts = true := by
  unfold mayE at h
  rw [hv, hk, hf] at h
  simpa using h
end Go.Proofs.YtkehmbgcglbffaaDoor
