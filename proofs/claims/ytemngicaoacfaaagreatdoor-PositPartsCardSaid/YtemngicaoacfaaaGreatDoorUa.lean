/-
  Positions, plain: which may be, one that is added, what a deal and an event make of them. Conditions: none.
  Positions, plain: what the laws of layer 23 say of a deal. Conditions: none.
  Where a position stands, plain: what is put there. Conditions: none.
-/
import Derived.Test.YtemngicaoacfaaaGreatDoorVa
namespace Go.Proofs.YtemngicaoacfaaaGreatDoor
open Go.RowKit Go.PlainAid

structure Pos where
  acct : Int
  inst : Int
  bought : Int
  sold : Int
  spent : Int
  got : Int
deriving DecidableEq, Inhabited
def encS (o : Pos) : List Value := [.int .i64 o.acct, .int .i64 o.inst, .int .i64 o.bought, .int .i64 o.sold, .int .i64 o.spent, .int .i64 o.got]
theorem encS_len (o : Pos) : (encS o).length = 6 := rfl
theorem encS_one (o : Pos) : ∀ v ∈ encS o, v.oneCell' = true := by intro v hv; simp [encS] at hv; rcases hv with rfl | rfl | rfl | rfl | rfl | rfl <;> rfl
/-- the greatest number of a position -/
abbrev farS : Int := 4611686018427387904
def NumS (n : Int) : Prop := 0 ≤ n ∧ n ≤ farS
instance (n : Int) : Decidable (NumS n) := inferInstanceAs (Decidable (_ ∧ _))
def MayS (o : Pos) : Prop := (1 ≤ o.acct ∧ o.acct ≤ 64) ∧ (1 ≤ o.inst ∧ o.inst ≤ 16) ∧ (NumS o.bought ∧ NumS o.sold ∧ NumS o.spent ∧ NumS o.got) ∧ ¬ (o.bought = 0 ∧ o.sold = 0)
instance (o : Pos) : Decidable (MayS o) := inferInstanceAs (Decidable (_ ∧ _))
def keyS (a b : Pos) : Prop := a.acct < b.acct ∨ (a.acct = b.acct ∧ a.inst < b.inst)
instance (a b : Pos) : Decidable (keyS a b) := inferInstanceAs (Decidable (_ ∨ _))
def sameK (a b : Pos) : Prop := a.acct = b.acct ∧ a.inst = b.inst
instance (a b : Pos) : Decidable (sameK a b) := inferInstanceAs (Decidable (_ ∧ _))
def MayPs (l : List Pos) : Prop := l.Pairwise keyS ∧ ∀ o ∈ l, MayS o
instance (l : List Pos) : Decidable (MayPs l) := inferInstanceAs (Decidable (_ ∧ _))
@[irreducible] def mayPs (l : List Pos) : Bool := decide (MayPs l)
theorem mayPs_iff {l : List Pos} : mayPs l = true ↔ MayPs l := by unfold mayPs; simp
theorem mayPs_no {l : List Pos} : mayPs l = false ↔ ¬ MayPs l := by unfold mayPs; simp
theorem keyS_trans {a b c : Pos} (h : keyS a b) (g : keyS b c) : keyS a c := by unfold keyS at *; omega
theorem keyS_irr (a : Pos) : ¬ keyS a a := by unfold keyS; omega
theorem keyS_tri (a b : Pos) : keyS a b ∨ sameK a b ∨ keyS b a := by unfold keyS sameK; omega
/-- a sum, or the greatest number -/
def moreS (a b : Int) : Int := if farS - b < a then farS else a + b
theorem more_num {a b : Int} (ha : NumS a) (hb : NumS b) : NumS (moreS a b) ∧ a ≤ moreS a b := by
  obtain ⟨a1, a2⟩ := ha
  obtain ⟨b1, b2⟩ := hb
  unfold NumS moreS; split <;> omega
theorem more_zero {a : Int} (ha : NumS a) : moreS a 0 = a := by unfold NumS at ha; unfold moreS; split <;> omega
theorem zero_more {b : Int} (hb : NumS b) : moreS 0 b = b := by unfold NumS at hb; unfold moreS; split <;> omega
theorem more_more {a b c : Int} (hc : 0 ≤ c) : moreS (moreS a b) c = moreS a (b + c) := by unfold moreS; (repeat' split) <;> omega
theorem more_sum {a b : Int} (h : a + b ≤ farS) : moreS a b = a + b := by unfold moreS; split <;> omega
/-- not the greatest: the sum -/
theorem more_eq {a b : Int} (h : moreS a b ≠ farS) : moreS a b = a + b := by
  unfold moreS at h ⊢
  by_cases c : farS - b < a
  · rw [if_pos c] at h; exact absurd rfl h
  · rw [if_neg c]
def joinS (x p : Pos) : Pos := ⟨x.acct, x.inst, moreS x.bought p.bought, moreS x.sold p.sold, moreS x.spent p.spent, moreS x.got p.got⟩
def addS : List Pos → Pos → List Pos
  | [], p => [p]
  | x :: r, p => if keyS p x then p :: x :: r else if sameK x p then joinS x p :: r else x :: addS r p
def zS (a i : Int) : Pos := ⟨a, i, 0, 0, 0, 0⟩
def hasS (a i : Int) (x : Pos) : Bool := decide (x.acct = a ∧ x.inst = i)
def findS (l : List Pos) (a i : Int) : Option Pos := l.find? (hasS a i)
def getS (l : List Pos) (a i : Int) : Pos := (findS l a i).getD (zS a i)
def dealS (l : List Pos) (buyer seller inst qty paid fee : Int) : List Pos × Int :=
  if buyer = seller ∨ paid < fee then ([], 1) else (addS (addS l ⟨buyer, inst, qty, 0, paid, 0⟩) ⟨seller, inst, 0, qty, 0, paid - fee⟩, 0)
def tradeS (l : List Pos) (a b : Opn) (price qty fee : Int) : List Pos × Int :=
  if a.side = b.side ∨ a.inst ≠ b.inst then ([], 1) else if a.side = 2 then dealS l b.acct a.acct a.inst qty (price * qty) fee else dealS l a.acct b.acct a.inst qty (price * qty) fee
@[irreducible] def posR (l : List Pos) (p : List Opn) (t : List Lt) (e : Evt) : List Pos × Int :=
  if (eventR p t e).2.2 = 4 ∨ mayPs l = false then ([], 4)
  else if e.kind = 13 then if (eventR p t e).2.2 ≠ 0 then ([], (eventR p t e).2.2) else tradeS l ((findP p (nth e 0)).getD oZ) ((findP p (nth e 1)).getD oZ) (nth e 2) (nth e 3) (nth e 4)
  else if e.kind = 18 then if (eventR p t e).2.2 ≠ 0 then ([], (eventR p t e).2.2) else dealS l (nth e 1) ((findT t (nth e 0)).getD lZ).seller ((findT t (nth e 0)).getD lZ).inst ((findT t (nth e 0)).getD lZ).qty (nth e 2) (nth e 3)
  else (l, 0)
/-! ### one that is added -/
theorem mem_addS {p x : Pos} : ∀ {l : List Pos}, x ∈ addS l p → x ∈ l ∨ sameK x p
  | [], h => by simp [addS] at h; subst h; exact Or.inr ⟨rfl, rfl⟩
  | y :: r, h => by
    unfold addS at h
    split at h
    · rcases List.mem_cons.1 h with rfl | h
      · exact Or.inr ⟨rfl, rfl⟩
      · exact Or.inl h
    · split at h
      · rename_i hs
        rcases List.mem_cons.1 h with rfl | h
        · exact Or.inr ⟨hs.1, hs.2⟩
        · exact Or.inl (List.mem_cons_of_mem _ h)
      · rcases List.mem_cons.1 h with rfl | h
        · exact Or.inl (by simp)
        · rcases mem_addS h with h | h
          · exact Or.inl (List.mem_cons_of_mem _ h)
          · exact Or.inr h
theorem key_same {a b c : Pos} (h : sameK b c) : (keyS a b ↔ keyS a c) ∧ (keyS b a ↔ keyS c a) := by unfold keyS sameK at *; omega
theorem addS_pw {p : Pos} : ∀ {l : List Pos}, l.Pairwise keyS → (addS l p).Pairwise keyS
  | [], _ => by simp [addS]
  | x :: r, h => by
    obtain ⟨h1, h2⟩ := List.pairwise_cons.1 h
    unfold addS
    split
    · rename_i hk
      refine List.pairwise_cons.2 ⟨fun y hy => ?_, h⟩
      rcases List.mem_cons.1 hy with rfl | hy
      · exact hk
      · exact keyS_trans hk (h1 y hy)
    · split
      · rename_i hs
        exact List.pairwise_cons.2 ⟨fun y hy => h1 y hy, h2⟩
      · rename_i hk hs
        refine List.pairwise_cons.2 ⟨fun y hy => ?_, addS_pw h2⟩
        rcases mem_addS hy with hy | hy
        · exact h1 y hy
        · refine (key_same hy).1.2 ?_
          rcases keyS_tri p x with h3 | h3 | h3
          · exact absurd h3 hk
          · exact absurd ⟨h3.1.symm, h3.2.symm⟩ hs
          · exact h3
theorem addS_len (p : Pos) : ∀ l : List Pos, (addS l p).length ≤ l.length + 1
  | [] => by simp [addS]
  | x :: r => by
    have := addS_len p r
    unfold addS
    (repeat' split) <;> simp only [List.length_cons] <;> omega
/-- what may be added -/
def OkS (p : Pos) : Prop := (1 ≤ p.acct ∧ p.acct ≤ 64) ∧ (1 ≤ p.inst ∧ p.inst ≤ 16) ∧ (NumS p.bought ∧ NumS p.sold ∧ NumS p.spent ∧ NumS p.got) ∧ ¬ (p.bought = 0 ∧ p.sold = 0)
theorem okb_mk {b i q p : Int} (h1 : 1 ≤ b ∧ b ≤ 64) (h2 : 1 ≤ i ∧ i ≤ 16) (h3 : 1 ≤ q ∧ q ≤ 1048576) (h4 : 0 ≤ p ∧ p ≤ 1125899906842624) : OkS ⟨b, i, q, 0, p, 0⟩ := by
  refine ⟨h1, h2, ⟨?_, ?_, ?_, ?_⟩, ?_⟩ <;> (dsimp only; (try unfold NumS farS); omega)
theorem oks_mk {b i q p : Int} (h1 : 1 ≤ b ∧ b ≤ 64) (h2 : 1 ≤ i ∧ i ≤ 16) (h3 : 1 ≤ q ∧ q ≤ 1048576) (h4 : 0 ≤ p ∧ p ≤ 1125899906842624) : OkS ⟨b, i, 0, q, 0, p⟩ := by
  refine ⟨h1, h2, ⟨?_, ?_, ?_, ?_⟩, ?_⟩ <;> (dsimp only; (try unfold NumS farS); omega)
theorem find_cons (x : Pos) (r : List Pos) (a i : Int) : findS (x :: r) a i = if x.acct = a ∧ x.inst = i then some x else findS r a i := by
  unfold findS
  by_cases h : x.acct = a ∧ x.inst = i
  · rw [List.find?_cons_of_pos (by simpa [hasS] using h), if_pos h]
  · rw [List.find?_cons_of_neg (by simpa [hasS] using h), if_neg h]
theorem findS_some {l : List Pos} {a i : Int} {x : Pos} (h : findS l a i = some x) : x ∈ l ∧ x.acct = a ∧ x.inst = i := by
  unfold findS at h
  exact ⟨List.mem_of_find?_eq_some h, by have := List.find?_some h; simpa [hasS] using this⟩
theorem findS_none {l : List Pos} {a i : Int} (h : ∀ x ∈ l, ¬ (x.acct = a ∧ x.inst = i)) : findS l a i = none := by
  unfold findS
  rw [List.find?_eq_none]
  intro x hx; simpa [hasS] using h x hx
theorem findS_mem {l : List Pos} (hl : l.Pairwise keyS) {x : Pos} (hx : x ∈ l) : findS l x.acct x.inst = some x := by
  induction l with
  | nil => cases hx
  | cons y r ih =>
    obtain ⟨h1, h2⟩ := List.pairwise_cons.1 hl
    rw [find_cons]
    rcases List.mem_cons.1 hx with rfl | hx
    · rw [if_pos ⟨rfl, rfl⟩]
    · have := h1 x hx
      rw [if_neg (by unfold keyS at this; omega), ih h2 hx]
/-- the one of an account and an instrument, behind one that is added -/
theorem find_addS {p : Pos} (a i : Int) : ∀ {l : List Pos}, l.Pairwise keyS → findS (addS l p) a i = if p.acct = a ∧ p.inst = i then some (match findS l a i with | some x => joinS x p | none => p) else findS l a i
  | [], _ => by
    unfold addS
    rw [find_cons]
    rfl
  | x :: r, h => by
    obtain ⟨h1, h2⟩ := List.pairwise_cons.1 h
    have ih := find_addS (p := p) a i h2
    unfold addS
    split
    · rename_i hk
      rw [find_cons]
      by_cases e : p.acct = a ∧ p.inst = i
      · have : findS (x :: r) a i = none := findS_none fun y hy => by
          rcases List.mem_cons.1 hy with rfl | hy
          · unfold keyS at hk; omega
          · have := h1 y hy; unfold keyS at hk this; omega
        rw [if_pos e, if_pos e, this]
      · rw [if_neg e, if_neg e]
    · split
      · rename_i hs
        rw [find_cons, find_cons]
        have e0 : (joinS x p).acct = x.acct ∧ (joinS x p).inst = x.inst := ⟨rfl, rfl⟩
        rw [e0.1, e0.2]
        unfold sameK at hs
        by_cases e : x.acct = a ∧ x.inst = i
        · rw [if_pos e, if_pos (by omega), if_pos e]
        · rw [if_neg e, if_neg (by omega), if_neg e]
      · rename_i hk hs
        rw [find_cons, find_cons, ih]
        unfold sameK at hs
        by_cases e : x.acct = a ∧ x.inst = i
        · rw [if_pos e, if_neg (by omega), if_pos e]
        · rw [if_neg e, if_neg e]
theorem addS_may {l : List Pos} {p : Pos} (hl : MayPs l) (hp : OkS p) : MayPs (addS l p) := by
  have hpw := addS_pw (p := p) hl.1
  refine ⟨hpw, fun x hx => ?_⟩
  have hf := findS_mem hpw hx
  rw [find_addS _ _ hl.1] at hf
  by_cases e : p.acct = x.acct ∧ p.inst = x.inst
  · rw [if_pos e] at hf
    injection hf with hf
    cases hg : findS l x.acct x.inst with
    | none => rw [hg] at hf; dsimp only at hf; rw [← hf]; exact hp
    | some y =>
      rw [hg] at hf
      dsimp only at hf
      obtain ⟨g1, g2, g3⟩ := findS_some hg
      have hy := hl.2 y g1
      rw [← hf]
      obtain ⟨p1, p2, ⟨p3, p4, p5, p6⟩, p7⟩ := hp
      obtain ⟨y1, y2, ⟨y3, y4, y5, y6⟩, y7⟩ := hy
      refine ⟨y1, y2, ⟨(more_num y3 p3).1, (more_num y4 p4).1, (more_num y5 p5).1, (more_num y6 p6).1⟩, fun hz => ?_⟩
      have z1 : moreS y.bought p.bought = 0 := hz.1
      have z2 : moreS y.sold p.sold = 0 := hz.2
      have m1 := (more_num y3 p3).2
      have m2 := (more_num y4 p4).2
      unfold NumS at y3 y4
      omega
  · rw [if_neg e] at hf
    exact hl.2 x (findS_some hf).1
theorem join_zero {p : Pos} (hp : OkS p) : joinS (zS p.acct p.inst) p = p := by
  obtain ⟨_, _, ⟨p3, p4, p5, p6⟩, _⟩ := hp
  unfold joinS zS
  simp only [zero_more p3, zero_more p4, zero_more p5, zero_more p6]
theorem get_addS {l : List Pos} {p : Pos} (hl : MayPs l) (hp : OkS p) (a i : Int) : getS (addS l p) a i = if p.acct = a ∧ p.inst = i then joinS (getS l a i) p else getS l a i := by
  unfold getS
  rw [find_addS _ _ hl.1]
  by_cases e : p.acct = a ∧ p.inst = i
  · rw [if_pos e, if_pos e]
    cases findS l a i with
    | some x => rfl
    | none =>
      show p = joinS (zS a i) p
      rw [← e.1, ← e.2, join_zero hp]
  · rw [if_neg e, if_neg e]
theorem getS_mem {l : List Pos} (hl : MayPs l) {x : Pos} (hx : x ∈ l) : getS l x.acct x.inst = x := by
  unfold getS; rw [findS_mem hl.1 hx]; rfl
theorem getS_key {l : List Pos} (a i : Int) : (getS l a i).acct = a ∧ (getS l a i).inst = i := by
  unfold getS
  cases h : findS l a i with
  | none => exact ⟨rfl, rfl⟩
  | some x => exact (findS_some h).2
theorem getS_num {l : List Pos} (hl : MayPs l) (a i : Int) : NumS (getS l a i).bought ∧ NumS (getS l a i).sold ∧ NumS (getS l a i).spent ∧ NumS (getS l a i).got := by
  unfold getS
  cases h : findS l a i with
  | none => unfold zS NumS farS; simp
  | some x => exact (hl.2 x (findS_some h).1).2.2.1
/-- positions are what they tell -/
theorem pos_ext {l m : List Pos} (hl : MayPs l) (hm : MayPs m) (h : ∀ a i, getS l a i = getS m a i) : l = m := by
  have sub : ∀ {l m : List Pos}, MayPs l → MayPs m → (∀ a i, getS l a i = getS m a i) → ∀ x ∈ l, x ∈ m := by
    intro l m hl hm h x hx
    have h1 := h x.acct x.inst
    rw [getS_mem hl hx] at h1
    unfold getS at h1
    cases hf : findS m x.acct x.inst with
    | none =>
      rw [hf] at h1
      have := (hl.2 x hx).2.2.2
      exact absurd ⟨by rw [h1]; rfl, by rw [h1]; rfl⟩ this
    | some y =>
      rw [hf] at h1
      have : x = y := h1
      rw [this]; exact (findS_some hf).1
  refine List.Perm.eq_of_pairwise (le := keyS) (fun a b _ _ h g => absurd (keyS_trans h g) (keyS_irr a)) hl.1 hm.1 ?_
  refine (List.perm_ext_iff_of_nodup ?_ ?_).2 fun x => ⟨sub hl hm h x, sub hm hl (fun a i => (h a i).symm) x⟩
  · exact hl.1.imp fun {a b} hk e => by subst e; exact keyS_irr a hk
  · exact hm.1.imp fun {a b} hk e => by subst e; exact keyS_irr a hk
/-! ### what a deal makes -/
structure DealS (l out : List Pos) (b s inst qty paid fee : Int) : Prop where
  ne : b ≠ s
  fe : fee ≤ paid
  okb : OkS ⟨b, inst, qty, 0, paid, 0⟩
  oks : OkS ⟨s, inst, 0, qty, 0, paid - fee⟩
  out : out = addS (addS l ⟨b, inst, qty, 0, paid, 0⟩) ⟨s, inst, 0, qty, 0, paid - fee⟩
theorem DealS.may {l out : List Pos} {b s inst qty paid fee : Int} (h : DealS l out b s inst qty paid fee) (hl : MayPs l) : MayPs out := by
  rw [h.out]; exact addS_may (addS_may hl h.okb) h.oks
theorem DealS.get {l out : List Pos} {b s inst qty paid fee : Int} (h : DealS l out b s inst qty paid fee) (hl : MayPs l) (a i : Int) :
    getS out a i = if b = a ∧ inst = i then joinS (getS l a i) ⟨b, inst, qty, 0, paid, 0⟩ else if s = a ∧ inst = i then joinS (getS l a i) ⟨s, inst, 0, qty, 0, paid - fee⟩ else getS l a i := by
  have hn := h.ne
  rw [h.out, get_addS (addS_may hl h.okb) h.oks, get_addS hl h.okb]
  by_cases e1 : b = a ∧ inst = i
  · rw [if_neg (show ¬ (s = a ∧ inst = i) by omega), if_pos e1, if_pos e1]
  · rw [if_neg e1, if_neg e1]
/-- an event that is told: nothing, or a deal -/
theorem pos_cases {l : List Pos} {p : List Opn} {t : List Lt} {e : Evt} (h : (posR l p t e).2 = 0) :
    MayPs l ∧ ((e.kind ≠ 13 ∧ e.kind ≠ 18 ∧ (posR l p t e).1 = l) ∨
    (e.kind = 13 ∧ (eventR p t e).2.2 = 0 ∧ ∃ a b : Opn, findP p (nth e 0) = some a ∧ findP p (nth e 1) = some b ∧ a.side ≠ b.side ∧ a.inst = b.inst ∧ DealS l (posR l p t e).1 (if a.side = 2 then b.acct else a.acct) (if a.side = 2 then a.acct else b.acct) a.inst (nth e 3) (nth e 2 * nth e 3) (nth e 4) ∧ nth e 3 ≤ 1048576 ∧ 0 ≤ nth e 4 ∧ nth e 2 * nth e 3 ≤ 1125899906842624) ∨
    (e.kind = 18 ∧ (eventR p t e).2.2 = 0 ∧ ∃ x : Lt, findT t (nth e 0) = some x ∧ DealS l (posR l p t e).1 (nth e 1) x.seller x.inst x.qty (nth e 2) (nth e 3) ∧ x.qty ≤ 1048576 ∧ 0 ≤ nth e 3 ∧ nth e 2 ≤ 1125899906842624)) := by
  unfold posR at h ⊢
  by_cases h0 : (eventR p t e).2.2 = 4 ∨ mayPs l = false
  · rw [if_pos h0] at h; cases h
  rw [if_neg h0] at h ⊢
  have hl : MayPs l := mayPs_iff.1 (by cases hm : mayPs l with | true => rfl | false => exact absurd (Or.inr hm) h0)
  refine ⟨hl, ?_⟩
  by_cases k1 : e.kind = 13
  · rw [if_pos k1] at h ⊢
    by_cases h1 : (eventR p t e).2.2 ≠ 0
    · rw [if_pos h1] at h; exact absurd h h1
    rw [if_neg h1] at h ⊢
    have h2 : (eventR p t e).2.2 = 0 := by omega
    refine Or.inr (Or.inl ⟨k1, h2, ?_⟩)
    obtain ⟨⟨hM, hv, hE⟩, hd⟩ := event_ok h2
    rw [hd] at h2
    obtain ⟨n0, n1, n2, n3, n4, hn, g0, g1, g2, g3, g4⟩ := nums13 hE hv k1
    have e2 : nth e 2 = n2 := by simp [nth, hn]
    have e3 : nth e 3 = n3 := by simp [nth, hn]
    have e4 : nth e 4 = n4 := by simp [nth, hn]
    rcases done_cases hM hv hE h2 with ⟨k, _⟩ | ⟨k, _⟩ | ⟨_, hq3, a, b, f1, f2, f3, f4, f5, f6⟩ | ⟨k, _⟩ | ⟨k, _⟩ | ⟨k, _⟩ <;> try omega
    rw [f1, f2] at h ⊢
    have ha := hM.2.2.2.1 a ((find_iff hM.2.2.2.2.1).1 f1).1
    have hb := hM.2.2.2.1 b ((find_iff hM.2.2.2.2.1).1 f2).1
    refine ⟨a, b, rfl, rfl, ?_⟩
    have hpaid : 1 ≤ nth e 2 * nth e 3 ∧ nth e 2 * nth e 3 ≤ 1125899906842624 := by
      rw [e2, e3]
      have m1 : n2 * n3 ≤ 1073741824 * 1048576 := Int.mul_le_mul g2.2 g3.2 (by omega) (by omega)
      have m2 : 1 * 1 ≤ n2 * n3 := Int.mul_le_mul g2.1 g3.1 (by omega) (by omega)
      omega
    rw [e3] at hpaid ⊢
    unfold tradeS dealS at h ⊢
    simp only [Option.getD_some] at h ⊢
    unfold MayO at ha hb
    rw [e4]
    by_cases c1 : a.side = b.side ∨ a.inst ≠ b.inst
    · rw [if_pos c1] at h; cases h
    rw [if_neg c1] at h ⊢
    refine ⟨by omega, by omega, ?_, g3.2, g4.1, hpaid.2⟩
    rw [e3, e4] at h
    generalize nth e 2 * n3 = paid at *
    unfold farS at *
    by_cases c2 : a.side = 2
    · rw [if_pos c2] at h
      rw [if_pos c2, if_pos c2, if_pos c2]
      by_cases c3 : b.acct = a.acct ∨ paid < n4
      · rw [if_pos c3] at h; cases h
      rw [if_neg c3]
      exact ⟨by omega, by omega, okb_mk (by omega) (by omega) (by omega) (by omega), oks_mk (by omega) (by omega) (by omega) (by omega), rfl⟩
    · rw [if_neg c2] at h
      rw [if_neg c2, if_neg c2, if_neg c2]
      by_cases c3 : a.acct = b.acct ∨ paid < n4
      · rw [if_pos c3] at h; cases h
      rw [if_neg c3]
      exact ⟨by omega, by omega, okb_mk (by omega) (by omega) (by omega) (by omega), oks_mk (by omega) (by omega) (by omega) (by omega), rfl⟩
  rw [if_neg k1] at h ⊢
  by_cases k2 : e.kind = 18
  · rw [if_pos k2] at h ⊢
    by_cases h1 : (eventR p t e).2.2 ≠ 0
    · rw [if_pos h1] at h; exact absurd h h1
    rw [if_neg h1] at h ⊢
    have h2 : (eventR p t e).2.2 = 0 := by omega
    refine Or.inr (Or.inr ⟨k2, h2, ?_⟩)
    obtain ⟨⟨hM, hv, hE⟩, hd⟩ := event_ok h2
    rw [hd] at h2
    obtain ⟨n0, n1, n2, n3, hn, g0, g1, g2, g3⟩ := nums18 hE hv k2
    have e1 : nth e 1 = n1 := by simp [nth, hn]
    have e2 : nth e 2 = n2 := by simp [nth, hn]
    have e3 : nth e 3 = n3 := by simp [nth, hn]
    have hx : ∃ x, findT t (nth e 0) = some x := by
      have hdd : doneR p t e = goneR p t e := by unfold doneR; rw [if_neg (show ¬ e.kind = 11 by omega), if_neg (show ¬ e.kind = 12 by omega), if_neg k1, if_neg (show ¬ (e.kind = 14 ∨ e.kind = 16) by omega), if_pos (Or.inl k2)]
      rw [hdd] at h2
      unfold goneR at h2
      cases hf : findT t (nth e 0) with
      | none => rw [hf] at h2; cases h2
      | some x => exact ⟨x, rfl⟩
    obtain ⟨x, hx⟩ := hx
    rw [hx] at h ⊢
    have hxm := hM.2.2.2.2.2 x ((findT_iff hM.2.2.1).1 hx).1
    unfold MayL at hxm
    refine ⟨x, rfl, ?_⟩
    unfold dealS at h ⊢
    simp only [Option.getD_some] at h ⊢
    rw [e1, e2, e3] at h ⊢
    by_cases c3 : n1 = x.seller ∨ n2 < n3
    · rw [if_pos c3] at h; cases h
    rw [if_neg c3]
    refine ⟨?_, by omega, g3.1, g2.2⟩
    exact ⟨by omega, by omega, okb_mk (by omega) (by omega) (by omega) (by omega), oks_mk (by omega) (by omega) (by omega) (by omega), rfl⟩
  · rw [if_neg k2]
    exact Or.inl ⟨k1, k2, rfl⟩
theorem pos_err {l : List Pos} {p : List Opn} {t : List Lt} {e : Evt} (h : (posR l p t e).2 ≠ 0) : (posR l p t e).1 = [] := by
  unfold posR tradeS dealS at h ⊢
  (repeat' split at h) <;> first | rfl | (exact absurd rfl h) | (split <;> rfl)
theorem pos_may {l : List Pos} {p : List Opn} {t : List Lt} {e : Evt} (h : (posR l p t e).2 = 0) : MayPs (posR l p t e).1 := by
  obtain ⟨hl, h1 | ⟨_, _, a, b, _, _, _, _, hD, _⟩ | ⟨_, _, x, _, hD, _⟩⟩ := pos_cases h
  · rw [h1.2.2]; exact hl
  · exact hD.may hl
  · exact hD.may hl
theorem DealS.pos {l out : List Pos} {b s inst qty paid fee : Int} (h : DealS l out b s inst qty paid fee) : 0 < qty := by
  have h1 : 0 ≤ qty := h.okb.2.2.1.1.1
  have h2 : ¬ (qty = 0 ∧ (0 : Int) = 0) := h.okb.2.2.2
  omega
/-! ### no number is less, at most two are other ones -/
theorem join_ge {x p : Pos} (hx : NumS x.bought ∧ NumS x.sold ∧ NumS x.spent ∧ NumS x.got) (hp : OkS p) : x.bought ≤ (joinS x p).bought ∧ x.sold ≤ (joinS x p).sold ∧ x.spent ≤ (joinS x p).spent ∧ x.got ≤ (joinS x p).got := by
  obtain ⟨_, _, ⟨p3, p4, p5, p6⟩, _⟩ := hp
  exact ⟨(more_num hx.1 p3).2, (more_num hx.2.1 p4).2, (more_num hx.2.2.1 p5).2, (more_num hx.2.2.2 p6).2⟩
theorem deal_ge {l out : List Pos} {b s inst qty paid fee : Int} (h : DealS l out b s inst qty paid fee) (hl : MayPs l) (a i : Int) :
    (getS l a i).bought ≤ (getS out a i).bought ∧ (getS l a i).sold ≤ (getS out a i).sold ∧ (getS l a i).spent ≤ (getS out a i).spent ∧ (getS l a i).got ≤ (getS out a i).got := by
  rw [h.get hl]
  have hn := getS_num hl a i
  (repeat' split)
  · exact join_ge hn h.okb
  · exact join_ge hn h.oks
  · exact ⟨Int.le_refl _, Int.le_refl _, Int.le_refl _, Int.le_refl _⟩
theorem deal_other {l out : List Pos} {b s inst qty paid fee : Int} (h : DealS l out b s inst qty paid fee) (hl : MayPs l) {x : Pos} (hx : x ∈ out) (hne : x ≠ getS l x.acct x.inst) : x.inst = inst ∧ (x.acct = b ∨ x.acct = s) := by
  have h1 := h.get hl x.acct x.inst
  rw [getS_mem (h.may hl) hx] at h1
  by_cases e1 : b = x.acct ∧ inst = x.inst
  · exact ⟨e1.2.symm, Or.inl e1.1.symm⟩
  · rw [if_neg e1] at h1
    by_cases e2 : s = x.acct ∧ inst = x.inst
    · exact ⟨e2.2.symm, Or.inr e2.1.symm⟩
    · rw [if_neg e2] at h1; exact absurd h1 hne
theorem two_keys {I b s : Int} {L : List Pos} (hp : L.Pairwise keyS) (h : ∀ x ∈ L, x.inst = I ∧ (x.acct = b ∨ x.acct = s)) : L.length ≤ 2 := by
  match L, hp, h with
  | [], _, _ => simp
  | [_], _, _ => simp
  | [_, _], _, _ => simp
  | x :: y :: z :: r, hp, h =>
    obtain ⟨h1, h2⟩ := List.pairwise_cons.1 hp
    obtain ⟨h3, _⟩ := List.pairwise_cons.1 h2
    have a1 := h1 y (by simp)
    have a2 := h1 z (by simp)
    have a3 := h3 z (by simp)
    have b1 := h x (by simp)
    have b2 := h y (by simp)
    have b3 := h z (by simp)
    unfold keyS at a1 a2 a3
    omega
def chgS (l : List Pos) (x : Pos) : Bool := decide (x ≠ getS l x.acct x.inst)
/-- what the law asks of an event that is told -/
structure NeverS (l out : List Pos) : Prop where
  may : MayPs out
  mayl : MayPs l
  inst : ∃ I, ∀ x ∈ out, x ≠ getS l x.acct x.inst → x.inst = I
  ge : ∀ x ∈ out, (getS l x.acct x.inst).bought ≤ x.bought ∧ (getS l x.acct x.inst).sold ≤ x.sold ∧ (getS l x.acct x.inst).spent ≤ x.spent ∧ (getS l x.acct x.inst).got ≤ x.got
  two : (out.filter (chgS l)).length ≤ 2
  len : out.length ≤ l.length + 2
  now : ∀ x ∈ l, x.bought ≤ (getS out x.acct x.inst).bought ∧ x.sold ≤ (getS out x.acct x.inst).sold
theorem never_deal {l out : List Pos} {b s inst qty paid fee : Int} (h : DealS l out b s inst qty paid fee) (hl : MayPs l) : NeverS l out := by
  have hm := h.may hl
  refine ⟨hm, hl, ⟨inst, fun x hx hne => (deal_other h hl hx hne).1⟩, fun x hx => ?_, ?_, ?_, fun x hx => ?_⟩
  · have := deal_ge h hl x.acct x.inst
    rwa [getS_mem hm hx] at this
  · refine two_keys (I := inst) (b := b) (s := s) (hm.1.sublist List.filter_sublist) fun x hx => ?_
    obtain ⟨h1, h2⟩ := List.mem_filter.1 hx
    exact deal_other h hl h1 (of_decide_eq_true h2)
  · rw [h.out]
    have h1 := addS_len ⟨b, inst, qty, 0, paid, 0⟩ l
    have h2 := addS_len ⟨s, inst, 0, qty, 0, paid - fee⟩ (addS l ⟨b, inst, qty, 0, paid, 0⟩)
    omega
  · have := deal_ge h hl x.acct x.inst
    rw [getS_mem hl hx] at this
    exact ⟨this.1, this.2.1⟩
theorem never_same {l : List Pos} (hl : MayPs l) : NeverS l l := by
  refine ⟨hl, hl, ⟨0, fun x hx hne => absurd (getS_mem hl hx).symm hne⟩, fun x hx => ?_, ?_, by omega, fun x hx => ?_⟩
  · rw [getS_mem hl hx]; exact ⟨Int.le_refl _, Int.le_refl _, Int.le_refl _, Int.le_refl _⟩
  · have : l.filter (chgS l) = [] := List.filter_eq_nil_iff.2 fun x hx => by
      unfold chgS; rw [getS_mem hl hx]; simp
    rw [this]; simp
  · rw [getS_mem hl hx]; exact ⟨Int.le_refl _, Int.le_refl _⟩
theorem never_ok {l : List Pos} {p : List Opn} {t : List Lt} {e : Evt} (h : (posR l p t e).2 = 0) : NeverS l (posR l p t e).1 ∧ (e.kind ≠ 13 → e.kind ≠ 18 → (posR l p t e).1 = l) := by
  obtain ⟨hl, h1 | ⟨k, _, a, b, _, _, _, _, hD, _⟩ | ⟨k, _, x, _, hD, _⟩⟩ := pos_cases h
  · rw [h1.2.2]; exact ⟨never_same hl, fun _ _ => rfl⟩
  · exact ⟨never_deal hD hl, fun k1 => absurd k k1⟩
  · exact ⟨never_deal hD hl, fun _ k2 => absurd k k2⟩
/-! ### sums -/
def sumS (f : Pos → Int) (L : List Pos) : Int := (L.map f).sum
theorem sumS_nil (f : Pos → Int) : sumS f [] = 0 := rfl
theorem sumS_cons (f : Pos → Int) (x : Pos) (r : List Pos) : sumS f (x :: r) = f x + sumS f r := by unfold sumS; rw [List.map_cons, List.sum_cons]
theorem sumS_snoc (f : Pos → Int) (L : List Pos) (x : Pos) : sumS f (L ++ [x]) = sumS f L + f x := by
  induction L with
  | nil => rw [List.nil_append, sumS_cons, sumS_nil]; omega
  | cons y r ih => rw [List.cons_append, sumS_cons, sumS_cons, ih]; omega
theorem sumS_congr {f g : Pos → Int} {L : List Pos} (h : ∀ x ∈ L, f x = g x) : sumS f L = sumS g L := by
  unfold sumS; rw [List.map_congr_left h]
theorem sumS_zero {f : Pos → Int} {L : List Pos} (h : ∀ x ∈ L, f x = 0) : sumS f L = 0 := by
  induction L with
  | nil => rfl
  | cons x r ih => rw [sumS_cons, h x (by simp), ih fun y hy => h y (List.mem_cons_of_mem _ hy)]; rfl
/-- one account's, of one instrument -/
def oneS (a i v : Int) (x : Pos) : Int := if x.acct = a ∧ x.inst = i then v else 0
theorem sum_one {a i v : Int} : ∀ {L : List Pos}, L.Pairwise keyS → sumS (oneS a i v) L = if (findS L a i).isSome then v else 0
  | [], _ => by rw [sumS_nil]; rfl
  | x :: r, h => by
    obtain ⟨h1, h2⟩ := List.pairwise_cons.1 h
    rw [sumS_cons, sum_one h2, find_cons]
    unfold oneS
    by_cases e : x.acct = a ∧ x.inst = i
    · have : findS r a i = none := findS_none fun y hy => by have := h1 y hy; unfold keyS at this; omega
      rw [if_pos e, if_pos e, this]; simp
    · rw [if_neg e, if_neg e]; omega
theorem sum_one_bnd {a i v : Int} {L : List Pos} (h : L.Pairwise keyS) (hv : 0 ≤ v) : 0 ≤ sumS (oneS a i v) L ∧ sumS (oneS a i v) L ≤ v := by
  rw [sum_one h]; split <;> omega
def fullS (x : Pos) : Bool := x.bought == farS || (x.sold == farS || (x.spent == farS || x.got == farS))
/-- by how much the numbers of one are more than they were -/
structure DiffS (l out : List Pos) (b s inst qty paid fee : Int) : Prop where
  bought : ∀ x ∈ out, fullS x = false → x.bought - (getS l x.acct x.inst).bought = oneS b inst qty x
  sold : ∀ x ∈ out, fullS x = false → x.sold - (getS l x.acct x.inst).sold = oneS s inst qty x
  spent : ∀ x ∈ out, fullS x = false → x.spent - (getS l x.acct x.inst).spent = oneS b inst paid x
  got : ∀ x ∈ out, fullS x = false → x.got - (getS l x.acct x.inst).got = oneS s inst (paid - fee) x
  hasb : qty ≠ 0 → (findS out b inst).isSome = true
  hass : qty ≠ 0 → (findS out s inst).isSome = true
  qty0 : 0 ≤ qty ∧ qty ≤ 1125899906842624
  paid0 : 0 ≤ paid ∧ paid ≤ 1125899906842624
  fee0 : 0 ≤ fee ∧ fee ≤ paid
  pz : qty = 0 → paid = 0 ∧ fee = 0
  inst0 : qty ≠ 0 → 1 ≤ inst ∧ inst ≤ 16
theorem not_full {x : Pos} (h : fullS x = false) : x.bought ≠ farS ∧ x.sold ≠ farS ∧ x.spent ≠ farS ∧ x.got ≠ farS := by
  unfold fullS at h
  simp only [Bool.or_eq_false_iff, beq_eq_false_iff_ne] at h
  exact h
theorem diff_deal {l out : List Pos} {b s inst qty paid fee : Int} (h : DealS l out b s inst qty paid fee) (hl : MayPs l) (hq : qty ≤ 1125899906842624) (hp : paid ≤ 1125899906842624) (hf : 0 ≤ fee) (hq0 : 0 < qty) : DiffS l out b s inst qty paid fee := by
  have hm := h.may hl
  have hne := h.ne
  have hob := h.okb
  have hos := h.oks
  have h2 := h.fe
  unfold OkS NumS farS at hob hos
  simp only at hob hos
  have key : ∀ x ∈ out, x = if b = x.acct ∧ inst = x.inst then joinS (getS l x.acct x.inst) ⟨b, inst, qty, 0, paid, 0⟩ else if s = x.acct ∧ inst = x.inst then joinS (getS l x.acct x.inst) ⟨s, inst, 0, qty, 0, paid - fee⟩ else getS l x.acct x.inst := fun x hx => by
    have := h.get hl x.acct x.inst
    rwa [getS_mem hm hx] at this
  have nums := fun x : Pos => getS_num hl x.acct x.inst
  have fields : ∀ x ∈ out, fullS x = false →
      x.bought - (getS l x.acct x.inst).bought = oneS b inst qty x ∧ x.sold - (getS l x.acct x.inst).sold = oneS s inst qty x ∧
      x.spent - (getS l x.acct x.inst).spent = oneS b inst paid x ∧ x.got - (getS l x.acct x.inst).got = oneS s inst (paid - fee) x := by
    intro x hx hnf
    obtain ⟨f1, f2, f3, f4⟩ := not_full hnf
    have hk := key x hx
    obtain ⟨m1, m2, m3, m4⟩ := nums x
    generalize getS l x.acct x.inst = g at *
    unfold oneS
    by_cases e1 : b = x.acct ∧ inst = x.inst
    · rw [if_pos e1] at hk
      have t1 : x.bought = moreS g.bought qty := by rw [hk]; rfl
      have t2 : x.sold = moreS g.sold 0 := by rw [hk]; rfl
      have t3 : x.spent = moreS g.spent paid := by rw [hk]; rfl
      have t4 : x.got = moreS g.got 0 := by rw [hk]; rfl
      rw [more_zero m2] at t2
      rw [more_zero m4] at t4
      rw [t1] at f1
      rw [t3] at f3
      rw [more_eq f1] at t1
      rw [more_eq f3] at t3
      rw [if_pos (by omega), if_neg (by omega), if_pos (by omega), if_neg (by omega)]
      omega
    · rw [if_neg e1] at hk
      by_cases e2 : s = x.acct ∧ inst = x.inst
      · rw [if_pos e2] at hk
        have t1 : x.bought = moreS g.bought 0 := by rw [hk]; rfl
        have t2 : x.sold = moreS g.sold qty := by rw [hk]; rfl
        have t3 : x.spent = moreS g.spent 0 := by rw [hk]; rfl
        have t4 : x.got = moreS g.got (paid - fee) := by rw [hk]; rfl
        rw [more_zero m1] at t1
        rw [more_zero m3] at t3
        rw [t2] at f2
        rw [t4] at f4
        rw [more_eq f2] at t2
        rw [more_eq f4] at t4
        rw [if_neg (by omega), if_pos (by omega), if_neg (by omega), if_pos (by omega)]
        omega
      · rw [if_neg e2] at hk
        rw [← hk, if_neg (by omega), if_neg (by omega), if_neg (by omega), if_neg (by omega)]
        omega
  have hasx : ∀ a, (b = a ∨ s = a) → (findS out a inst).isSome = true := by
    intro a ha
    rw [h.out, find_addS _ _ (addS_pw hl.1), find_addS _ _ hl.1]
    rcases ha with rfl | rfl
    · simp only
      rw [if_neg (show ¬ (s = b ∧ True) by simp; omega)]
      simp
    · simp
  exact ⟨fun x hx hn => (fields x hx hn).1, fun x hx hn => (fields x hx hn).2.1, fun x hx hn => (fields x hx hn).2.2.1, fun x hx hn => (fields x hx hn).2.2.2, fun _ => hasx b (Or.inl rfl), fun _ => hasx s (Or.inr rfl), by omega, by omega, by omega, by omega, by omega⟩
theorem diff_same {l : List Pos} (hl : MayPs l) : DiffS l l 0 0 0 0 0 0 := by
  have h : ∀ x ∈ l, getS l x.acct x.inst = x := fun x hx => getS_mem hl hx
  refine ⟨fun x hx _ => ?_, fun x hx _ => ?_, fun x hx _ => ?_, fun x hx _ => ?_, by omega, by omega, by omega, by omega, by omega, by omega, by omega⟩ <;> (rw [h x hx]; unfold oneS; split <;> omega)
theorem diff_ok {l : List Pos} {p : List Opn} {t : List Lt} {e : Evt} (h : (posR l p t e).2 = 0) : ∃ b s I qty paid fee, DiffS l (posR l p t e).1 b s I qty paid fee ∧ (if e.kind = 13 then nth e 4 else if e.kind = 18 then nth e 3 else 0) = fee := by
  obtain ⟨hl, h1 | ⟨k, _, a, b, _, _, _, _, hD, c1, c2, c3⟩ | ⟨k, _, x, _, hD, c1, c2, c3⟩⟩ := pos_cases h
  · rw [h1.2.2]
    exact ⟨0, 0, 0, 0, 0, 0, diff_same hl, by rw [if_neg h1.1, if_neg h1.2.1]⟩
  · exact ⟨_, _, _, _, _, _, diff_deal hD hl (by omega) c3 c2 hD.pos, by rw [if_pos k]⟩
  · exact ⟨_, _, _, _, _, _, diff_deal hD hl (by omega) c3 c2 hD.pos, by rw [if_neg (by omega), if_pos k]⟩
/-- those of one instrument -/
def ofI (i : Int) (f : Pos → Int) (x : Pos) : Int := if x.inst = i then f x else 0
theorem sum_ofI {L : List Pos} {i a I v : Int} {f : Pos → Int} (hf : ∀ x ∈ L, x.inst = i → f x = oneS a I v x) : sumS (ofI i f) L = if i = I then sumS (oneS a I v) L else 0 := by
  by_cases e : i = I
  · rw [if_pos e]
    refine sumS_congr fun x hx => ?_
    unfold ofI
    by_cases e2 : x.inst = i
    · rw [if_pos e2, hf x hx e2]
    · rw [if_neg e2]; unfold oneS; rw [if_neg (by omega)]
  · rw [if_neg e]
    refine sumS_zero fun x hx => ?_
    unfold ofI
    by_cases e2 : x.inst = i
    · rw [if_pos e2, hf x hx e2]; unfold oneS; rw [if_neg (by omega)]
    · rw [if_neg e2]
theorem sum_ofI_bnd {L : List Pos} {i a I v : Int} (h : L.Pairwise keyS) (hv : 0 ≤ v) {f : Pos → Int} (hf : ∀ x ∈ L, x.inst = i → f x = oneS a I v x) : 0 ≤ sumS (ofI i f) L ∧ sumS (ofI i f) L ≤ v := by
  rw [sum_ofI hf]
  have := sum_one_bnd (a := a) (i := I) h hv
  split <;> omega
/-! ### traded in two parts -/
theorem join_join {x p q r : Pos} (h2 : 0 ≤ q.bought ∧ 0 ≤ q.sold ∧ 0 ≤ q.spent ∧ 0 ≤ q.got) (hr : r.bought = p.bought + q.bought ∧ r.sold = p.sold + q.sold ∧ r.spent = p.spent + q.spent ∧ r.got = p.got + q.got) : joinS (joinS x p) q = joinS x r := by
  unfold joinS
  simp only [more_more h2.1, more_more h2.2.1, more_more h2.2.2.1, more_more h2.2.2.2, hr.1, hr.2.1, hr.2.2.1, hr.2.2.2]
theorem deal_parts {l x w at_ : List Pos} {b s inst q1 q2 p1 p2 f1 f2 : Int} (hl : MayPs l) (h1 : DealS l x b s inst q1 p1 f1) (h2 : DealS x w b s inst q2 p2 f2) (h3 : DealS l at_ b s inst (q1 + q2) (p1 + p2) (f1 + f2)) : w = at_ := by
  have hx := h1.may hl
  refine pos_ext (h2.may hx) (h3.may hl) fun a i => ?_
  rw [h2.get hx, h1.get hl, h3.get hl]
  have o2 := h2.okb.2.2.1
  have o4 := h2.oks.2.2.1
  unfold NumS at o2 o4
  by_cases e1 : b = a ∧ inst = i
  · rw [if_pos e1, if_pos e1, if_pos e1]
    (refine join_join ⟨?_, ?_, ?_, ?_⟩ ⟨?_, ?_, ?_, ?_⟩ <;> dsimp only at o2 o4 ⊢ <;> omega)
  · rw [if_neg e1, if_neg e1, if_neg e1]
    by_cases e2 : s = a ∧ inst = i
    · rw [if_pos e2, if_pos e2, if_pos e2]
      (refine join_join ⟨?_, ?_, ?_, ?_⟩ ⟨?_, ?_, ?_, ?_⟩ <;> dsimp only at o2 o4 ⊢ <;> omega)
    · rw [if_neg e2, if_neg e2, if_neg e2]
/-- two events, one behind the other, and both at once -/
theorem pos_parts {l : List Pos} {p : List Opn} {a b price q1 q2 y z : Int} (h1 : (posR l p [] ⟨3, 13, [a, b, price, q1, y], []⟩).2 = 0)
    (h2 : (posR (posR l p [] ⟨3, 13, [a, b, price, q1, y], []⟩).1 (eventR p [] ⟨3, 13, [a, b, price, q1, y], []⟩).1 [] ⟨3, 13, [a, b, price, q2, z], []⟩).2 = 0)
    (h3 : (posR l p [] ⟨3, 13, [a, b, price, q1 + q2, y + z], []⟩).2 = 0) :
    (posR (posR l p [] ⟨3, 13, [a, b, price, q1, y], []⟩).1 (eventR p [] ⟨3, 13, [a, b, price, q1, y], []⟩).1 [] ⟨3, 13, [a, b, price, q2, z], []⟩).1 = (posR l p [] ⟨3, 13, [a, b, price, q1 + q2, y + z], []⟩).1 := by
  have k13 : ∀ {q f : Int}, (⟨3, 13, [a, b, price, q, f], []⟩ : Evt).kind = 13 := rfl
  obtain ⟨hl, c1 | ⟨_, e1, a1, b1, fa1, fb1, s1, i1, D1, _⟩ | ⟨c1, _⟩⟩ := pos_cases h1
  · exact absurd rfl c1.1
  · obtain ⟨hx, c2 | ⟨_, e2, a2, b2, fa2, fb2, s2, i2, D2, _⟩ | ⟨c2, _⟩⟩ := pos_cases h2
    · exact absurd rfl c2.1
    · obtain ⟨_, c3 | ⟨_, e3, a3, b3, fa3, fb3, s3, i3, D3, _⟩ | ⟨c3, _⟩⟩ := pos_cases h3
      · exact absurd rfl c3.1
      · have n0 : ∀ q f : Int, nth ⟨3, 13, [a, b, price, q, f], []⟩ 0 = a := fun _ _ => rfl
        have n1 : ∀ q f : Int, nth ⟨3, 13, [a, b, price, q, f], []⟩ 1 = b := fun _ _ => rfl
        have n2 : ∀ q f : Int, nth ⟨3, 13, [a, b, price, q, f], []⟩ 2 = price := fun _ _ => rfl
        have n3 : ∀ q f : Int, nth ⟨3, 13, [a, b, price, q, f], []⟩ 3 = q := fun _ _ => rfl
        have n4 : ∀ q f : Int, nth ⟨3, 13, [a, b, price, q, f], []⟩ 4 = f := fun _ _ => rfl
        rw [n0] at fa1 fa2 fa3
        rw [n1] at fb1 fb2 fb3
        rw [fa1] at fa3
        rw [fb1] at fb3
        injection fa3 with fa3
        injection fb3 with fb3
        subst fa3 fb3
        -- the orders behind the first part
        obtain ⟨⟨hM, hv, hE⟩, hd⟩ := event_ok e1
        have hM2 := event_may e1
        have hdone := e1
        rw [hd] at hdone
        rcases done_cases hM hv hE hdone with ⟨k, _⟩ | ⟨k, _⟩ | ⟨_, hq3, oa, ob, g1, g2, g3, g4, g5, g6⟩ | ⟨k, _⟩ | ⟨k, _⟩ | ⟨k, _⟩
        · exact absurd k (by simp)
        · exact absurd k (by simp)
        · rw [n0, fa1] at g1
          rw [n1, fb1] at g2
          injection g1 with g1
          injection g2 with g2
          subst g1 g2
          rw [hd, g6] at fa2 fb2 hM2
          rw [n0, n1, n3] at fa2 fb2 hM2
          dsimp only at fa2 fb2 hM2
          have same : ∀ {id : Int} {o o2 : Opn}, findP p id = some o → findP (lessP (lessP p a q1) b q1) id = some o2 → o2.acct = o.acct ∧ o2.side = o.side ∧ o2.inst = o.inst := by
            intro id o o2 f1 f2
            obtain ⟨m1, m2⟩ := (find_iff hM2.2.2.2.2.1).1 f2
            obtain ⟨⟨y1, my1, rfl⟩, _⟩ := mem_less.1 m1
            obtain ⟨⟨y2, my2, rfl⟩, _⟩ := mem_less.1 my1
            have hid : y2.id = id := by rw [cut_id, cut_id] at m2; exact m2
            have := (find_iff hM.2.2.2.2.1).2 ⟨my2, hid⟩
            rw [f1] at this
            injection this with this
            subst this
            unfold cutP
            (repeat' split) <;> exact ⟨rfl, rfl, rfl⟩
          obtain ⟨x1, x2, x3⟩ := same fa1 fa2
          obtain ⟨y1, y2, y3⟩ := same fb1 fb2
          rw [x1, x2, x3, y1] at D2
          rw [n2, n3, n4] at D1 D2 D3
          rw [show price * (q1 + q2) = price * q1 + price * q2 from Int.mul_add _ _ _] at D3
          exact deal_parts hl D1 D2 D3
        · exact absurd k (by simp)
        · exact absurd k (by simp)
        · exact absurd rfl k.2.2.1
      · exact absurd c3 (by simp)
    · exact absurd c2 (by simp)
  · exact absurd c1 (by simp)
theorem addS_new {p : Pos} : ∀ {l : List Pos} {i : Nat}, i ≤ l.length → (∀ x ∈ l.take i, keyS x p) → (∀ x ∈ l.drop i, keyS p x) → addS l p = l.take i ++ p :: l.drop i
  | [], i, _, _, _ => by simp [addS]
  | x :: r, 0, _, _, h => by
    have h0 := h x (by simp)
    unfold addS; rw [if_pos h0]; simp
  | x :: r, i + 1, hi, h1, h2 => by
    have hx := h1 x (by simp)
    have n1 : ¬ keyS p x := fun h => keyS_irr _ (keyS_trans h hx)
    have n2 : ¬ sameK x p := by unfold keyS sameK at *; omega
    have ih := addS_new (p := p) (l := r) (i := i) (by simpa using hi) (fun y hy => h1 y (by simp [hy])) (fun y hy => h2 y (by simpa using hy))
    unfold addS; rw [if_neg n1, if_neg n2, ih]; simp
theorem addS_old {p x : Pos} : ∀ {l : List Pos} {i : Nat}, l[i]? = some x → sameK x p → (∀ y ∈ l.take i, keyS y p) → addS l p = l.set i (joinS x p)
  | [], i, h, _, _ => by simp at h
  | y :: r, 0, h, hs, _ => by
    simp at h; subst h
    have n1 : ¬ keyS p y := by unfold keyS sameK at *; omega
    unfold addS; rw [if_neg n1, if_pos hs]; simp
  | y :: r, i + 1, h, hs, h1 => by
    have hx := h1 y (by simp)
    have n1 : ¬ keyS p y := fun h => keyS_irr _ (keyS_trans h hx)
    have n2 : ¬ sameK y p := by unfold keyS sameK at *; omega
    have ih := addS_old (p := p) (x := x) (l := r) (i := i) (by simpa using h) hs (fun z hz => h1 z (by simp [hz]))
    unfold addS; rw [if_neg n1, if_neg n2, ih]; simp
/-- how positions stand, as a number -/
def cmpS (a b : Int) : Int := if a < b then -1 else if b < a then 1 else 0
def rowS (a b : Pos) : Int := if cmpS a.acct b.acct = 0 then cmpS a.inst b.inst else cmpS a.acct b.acct
theorem rowS_lt {a b : Pos} : rowS a b < 0 ↔ keyS a b := by unfold rowS cmpS keyS; (repeat' split) <;> omega
theorem rowS_eq {a b : Pos} : rowS a b = 0 ↔ sameK a b := by unfold rowS cmpS sameK; (repeat' split) <;> omega
theorem rowS_gt {a b : Pos} : 0 < rowS a b ↔ keyS b a := by unfold rowS cmpS keyS; (repeat' split) <;> omega
/-- a place in a row: those ahead are less, those behind are not -/
structure PlaceS (l : List Pos) (p : Pos) (i : Nat) : Prop where
  le : i ≤ l.length
  lo : ∀ j x, j < i → l[j]? = some x → keyS x p
  hi : ∀ j x, i ≤ j → l[j]? = some x → ¬ keyS x p
theorem PlaceS.old {l : List Pos} {p x : Pos} {i : Nat} (h : PlaceS l p i) (hx : l[i]? = some x) (hs : sameK x p) : addS l p = l.set i (joinS x p) :=
  addS_old hx hs fun y hy => by
    obtain ⟨j, hj, he⟩ := List.mem_iff_getElem.1 hy
    rw [List.length_take] at hj
    rw [List.getElem_take] at he
    exact h.lo j y (by omega) (by rw [← he]; exact List.getElem?_eq_getElem _)
theorem PlaceS.new {l : List Pos} {p : Pos} {i : Nat} (h : PlaceS l p i) (hl : l.Pairwise keyS) (hn : ∀ x, l[i]? = some x → ¬ sameK x p) : addS l p = l.take i ++ p :: l.drop i := by
  refine addS_new h.le (fun y hy => ?_) (fun y hy => ?_)
  · obtain ⟨j, hj, he⟩ := List.mem_iff_getElem.1 hy
    rw [List.length_take] at hj
    rw [List.getElem_take] at he
    exact h.lo j y (by omega) (by rw [← he]; exact List.getElem?_eq_getElem _)
  · obtain ⟨j, hj, he⟩ := List.mem_iff_getElem.1 hy
    rw [List.getElem_drop] at he
    rw [List.length_drop] at hj
    have hy2 : l[i + j]? = some y := by rw [← he]; exact List.getElem?_eq_getElem _
    have h0 : l[i]? = some l[i] := List.getElem?_eq_getElem (by omega)
    have h1 := h.hi i _ (Nat.le_refl _) h0
    have h2 := hn _ h0
    have h3 : keyS p l[i] := by
      rcases keyS_tri l[i] p with h | h | h
      · exact absurd h h1
      · exact absurd h h2
      · exact h
    by_cases hj0 : j = 0
    · subst hj0
      rw [Nat.add_zero, h0] at hy2; injection hy2 with hy2; rw [← hy2]; exact h3
    · exact keyS_trans h3 (pwg_get hl (by omega) h0 hy2)
/-! ### what becomes of positions, case by case -/
theorem posR_form {l : List Pos} {p : List Opn} {t : List Lt} {e : Evt} (h : (eventR p t e).2.2 = 4 ∨ mayPs l = false) : posR l p t e = ([], 4) := by unfold posR; rw [if_pos h]
theorem posR_keep {l : List Pos} {p : List Opn} {t : List Lt} {e : Evt} (h : ¬ ((eventR p t e).2.2 = 4 ∨ mayPs l = false)) (k1 : e.kind ≠ 13) (k2 : e.kind ≠ 18) : posR l p t e = (l, 0) := by unfold posR; rw [if_neg h, if_neg k1, if_neg k2]
theorem posR_err {l : List Pos} {p : List Opn} {t : List Lt} {e : Evt} (h : ¬ ((eventR p t e).2.2 = 4 ∨ mayPs l = false)) (k : e.kind = 13 ∨ e.kind = 18) (hf : (eventR p t e).2.2 ≠ 0) : posR l p t e = ([], (eventR p t e).2.2) := by
  unfold posR; rw [if_neg h]
  by_cases k1 : e.kind = 13
  · rw [if_pos k1, if_pos hf]
  · rw [if_neg k1, if_pos (by omega), if_pos hf]
/-- what a trade that is told has -/
structure TradeN (p : List Opn) (e : Evt) (n0 n1 n2 n3 n4 : Int) (a b : Opn) : Prop where
  nums : e.nums = [n0, n1, n2, n3, n4]
  fa : findP p n0 = some a
  fb : findP p n1 = some b
  ma : (1 ≤ a.acct ∧ a.acct ≤ 64) ∧ (1 ≤ a.inst ∧ a.inst ≤ 16)
  mb : (1 ≤ b.acct ∧ b.acct ≤ 64) ∧ (1 ≤ b.inst ∧ b.inst ≤ 16)
  g2 : 1 ≤ n2 ∧ n2 ≤ 1073741824
  g3 : 1 ≤ n3 ∧ n3 ≤ 1048576
  g4 : 0 ≤ n4
  paid : 1 ≤ n2 * n3 ∧ n2 * n3 ≤ 1125899906842624
theorem trade_at {p : List Opn} {t : List Lt} {e : Evt} (h2 : (eventR p t e).2.2 = 0) (k1 : e.kind = 13) : ∃ n0 n1 n2 n3 n4 a b, TradeN p e n0 n1 n2 n3 n4 a b := by
  obtain ⟨⟨hM, hv, hE⟩, hd⟩ := event_ok h2
  rw [hd] at h2
  obtain ⟨n0, n1, n2, n3, n4, hn, g0, g1, g2, g3, g4⟩ := nums13 hE hv k1
  have e0 : nth e 0 = n0 := by simp [nth, hn]
  have e1 : nth e 1 = n1 := by simp [nth, hn]
  rcases done_cases hM hv hE h2 with ⟨k, _⟩ | ⟨k, _⟩ | ⟨_, hq3, a, b, f1, f2, f3, f4, f5, f6⟩ | ⟨k, _⟩ | ⟨k, _⟩ | ⟨k, _⟩ <;> try omega
  have ha := hM.2.2.2.1 a ((find_iff hM.2.2.2.2.1).1 f1).1
  have hb := hM.2.2.2.1 b ((find_iff hM.2.2.2.2.1).1 f2).1
  unfold MayO at ha hb
  have m1 : n2 * n3 ≤ 1073741824 * 1048576 := Int.mul_le_mul g2.2 g3.2 (by omega) (by omega)
  have m2 : 1 * 1 ≤ n2 * n3 := Int.mul_le_mul g2.1 g3.1 (by omega) (by omega)
  exact ⟨n0, n1, n2, n3, n4, a, b, hn, by rw [← e0]; exact f1, by rw [← e1]; exact f2, by omega, by omega, g2, g3, g4.1, by omega⟩
theorem posR_trade {l : List Pos} {p : List Opn} {t : List Lt} {e : Evt} {n0 n1 n2 n3 n4 : Int} {a b : Opn} (h : ¬ ((eventR p t e).2.2 = 4 ∨ mayPs l = false)) (h2 : (eventR p t e).2.2 = 0) (k1 : e.kind = 13) (hT : TradeN p e n0 n1 n2 n3 n4 a b) : posR l p t e = tradeS l a b n2 n3 n4 := by
  have hn := hT.nums
  have e0 : nth e 0 = n0 := by simp [nth, hn]
  have e1 : nth e 1 = n1 := by simp [nth, hn]
  have e2 : nth e 2 = n2 := by simp [nth, hn]
  have e3 : nth e 3 = n3 := by simp [nth, hn]
  have e4 : nth e 4 = n4 := by simp [nth, hn]
  unfold posR
  rw [if_neg h, if_pos k1, if_neg (by omega), e0, e1, e2, e3, e4, hT.fa, hT.fb]
  rfl
/-- what a sale that is told has -/
structure SoldN (t : List Lt) (e : Evt) (n0 n1 n2 n3 : Int) (x : Lt) : Prop where
  nums : e.nums = [n0, n1, n2, n3]
  fx : findT t n0 = some x
  mx : (1 ≤ x.seller ∧ x.seller ≤ 64) ∧ (1 ≤ x.inst ∧ x.inst ≤ 16) ∧ (1 ≤ x.qty ∧ x.qty ≤ 1048576)
  g1 : 1 ≤ n1 ∧ n1 ≤ 64
  g2 : 0 ≤ n2 ∧ n2 ≤ 1125899906842624
  g3 : 0 ≤ n3
theorem sold_at {p : List Opn} {t : List Lt} {e : Evt} (h2 : (eventR p t e).2.2 = 0) (k2 : e.kind = 18) : ∃ n0 n1 n2 n3 x, SoldN t e n0 n1 n2 n3 x := by
  obtain ⟨⟨hM, hv, hE⟩, hd⟩ := event_ok h2
  rw [hd] at h2
  obtain ⟨n0, n1, n2, n3, hn, g0, g1, g2, g3⟩ := nums18 hE hv k2
  have e0 : nth e 0 = n0 := by simp [nth, hn]
  have hx : ∃ x, findT t n0 = some x := by
    have hdd : doneR p t e = goneR p t e := by unfold doneR; rw [if_neg (show ¬ e.kind = 11 by omega), if_neg (show ¬ e.kind = 12 by omega), if_neg (show ¬ e.kind = 13 by omega), if_neg (show ¬ (e.kind = 14 ∨ e.kind = 16) by omega), if_pos (Or.inl k2)]
    rw [hdd] at h2
    unfold goneR at h2
    rw [e0] at h2
    cases hf : findT t n0 with
    | none => rw [hf] at h2; cases h2
    | some x => exact ⟨x, rfl⟩
  obtain ⟨x, hx⟩ := hx
  have hxm := hM.2.2.2.2.2 x ((findT_iff hM.2.2.1).1 hx).1
  unfold MayL at hxm
  exact ⟨n0, n1, n2, n3, x, hn, hx, by omega, by omega, by omega, by omega⟩
theorem posR_sold {l : List Pos} {p : List Opn} {t : List Lt} {e : Evt} {n0 n1 n2 n3 : Int} {x : Lt} (h : ¬ ((eventR p t e).2.2 = 4 ∨ mayPs l = false)) (h2 : (eventR p t e).2.2 = 0) (k2 : e.kind = 18) (hT : SoldN t e n0 n1 n2 n3 x) : posR l p t e = dealS l n1 x.seller x.inst x.qty n2 n3 := by
  have hn := hT.nums
  have e0 : nth e 0 = n0 := by simp [nth, hn]
  have e1 : nth e 1 = n1 := by simp [nth, hn]
  have e2 : nth e 2 = n2 := by simp [nth, hn]
  have e3 : nth e 3 = n3 := by simp [nth, hn]
  unfold posR
  rw [if_neg h, if_neg (by omega), if_pos k2, if_neg (by omega), e0, e1, e2, e3, hT.fx]
  rfl
end Go.Proofs.YtemngicaoacfaaaGreatDoor
