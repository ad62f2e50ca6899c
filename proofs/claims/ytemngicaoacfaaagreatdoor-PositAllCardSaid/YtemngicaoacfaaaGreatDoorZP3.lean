/-
  Part 3 of the texts of: PositAll: its row and its card: whatever the input: true; the input reads as it did. Conditions: what the row prints (the table of functions reads as the program's text lays it).
-/
import Derived.Test.YtemngicaoacfaaaGreatDoorZP2
import Derived.Laws.CopyOwn
import Derived.Lib.Overlaps
import Derived.Lib.AppendZerosOnto
namespace Go.Proofs.YtemngicaoacfaaaGreatDoor
open Go.RowKit Go.PlainAid

structure Pos where
  acct : Int
  inst : Int
  bought : Int
  sold : Int
  spent : Int
  got : Int
deriving DecidableEq, Inhabited
def encS (o : Pos) : List Value := [.int .i64 o.acct, .int .i64 o.inst, .int .i64 o.bought, .int .i64 o.sold, .int .i64 o.spent, .int .i64 o.got]
theorem encS_len (o : Pos) : (encS o).length = 6 := rfl
theorem encS_one (o : Pos) : ∀ v ∈ encS o, v.oneCell' = true := by intro v hv; simp [encS] at hv; rcases hv with rfl | rfl | rfl | rfl | rfl | rfl <;> rfl
abbrev farS : Int := 4611686018427387904
def NumS (n : Int) : Prop := 0 ≤ n ∧ n ≤ farS
instance (n : Int) : Decidable (NumS n) := inferInstanceAs (Decidable (_ ∧ _))
def MayS (o : Pos) : Prop := (1 ≤ o.acct ∧ o.acct ≤ 64) ∧ (1 ≤ o.inst ∧ o.inst ≤ 16) ∧ (NumS o.bought ∧ NumS o.sold ∧ NumS o.spent ∧ NumS o.got) ∧ ¬ (o.bought = 0 ∧ o.sold = 0)
instance (o : Pos) : Decidable (MayS o) := inferInstanceAs (Decidable (_ ∧ _))
def keyS (a b : Pos) : Prop := a.acct < b.acct ∨ (a.acct = b.acct ∧ a.inst < b.inst)
instance (a b : Pos) : Decidable (keyS a b) := inferInstanceAs (Decidable (_ ∨ _))
def sameK (a b : Pos) : Prop := a.acct = b.acct ∧ a.inst = b.inst
instance (a b : Pos) : Decidable (sameK a b) := inferInstanceAs (Decidable (_ ∧ _))
def MayPs (l : List Pos) : Prop := l.Pairwise keyS ∧ ∀ o ∈ l, MayS o
instance (l : List Pos) : Decidable (MayPs l) := inferInstanceAs (Decidable (_ ∧ _))
@[irreducible] def mayPs (l : List Pos) : Bool := decide (MayPs l)
theorem mayPs_iff {l : List Pos} : mayPs l = true ↔ MayPs l := by unfold mayPs; simp
theorem mayPs_no {l : List Pos} : mayPs l = false ↔ ¬ MayPs l := by unfold mayPs; simp
theorem keyS_trans {a b c : Pos} (h : keyS a b) (g : keyS b c) : keyS a c := by unfold keyS at *; omega
theorem keyS_irr (a : Pos) : ¬ keyS a a := by unfold keyS; omega
theorem keyS_tri (a b : Pos) : keyS a b ∨ sameK a b ∨ keyS b a := by unfold keyS sameK; omega
def moreS (a b : Int) : Int := if farS - b < a then farS else a + b
theorem more_num {a b : Int} (ha : NumS a) (hb : NumS b) : NumS (moreS a b) ∧ a ≤ moreS a b := by
  obtain ⟨a1, a2⟩ := ha
  obtain ⟨b1, b2⟩ := hb
  unfold NumS moreS; split <;> omega
theorem more_zero {a : Int} (ha : NumS a) : moreS a 0 = a := by unfold NumS at ha; unfold moreS; split <;> omega
theorem zero_more {b : Int} (hb : NumS b) : moreS 0 b = b := by unfold NumS at hb; unfold moreS; split <;> omega
theorem more_more {a b c : Int} (hc : 0 ≤ c) : moreS (moreS a b) c = moreS a (b + c) := by unfold moreS; (repeat' split) <;> omega
theorem more_sum {a b : Int} (h : a + b ≤ farS) : moreS a b = a + b := by unfold moreS; split <;> omega
theorem more_eq {a b : Int} (h : moreS a b ≠ farS) : moreS a b = a + b := by
  unfold moreS at h ⊢
  by_cases c : farS - b < a
  · rw [if_pos c] at h; exact absurd rfl h
  · rw [if_neg c]
def joinS (x p : Pos) : Pos := ⟨x.acct, x.inst, moreS x.bought p.bought, moreS x.sold p.sold, moreS x.spent p.spent, moreS x.got p.got⟩
def addS : List Pos → Pos → List Pos
  | [], p => [p]
  | x :: r, p => if keyS p x then p :: x :: r else if sameK x p then joinS x p :: r else x :: addS r p
def zS (a i : Int) : Pos := ⟨a, i, 0, 0, 0, 0⟩
def hasS (a i : Int) (x : Pos) : Bool := decide (x.acct = a ∧ x.inst = i)
def findS (l : List Pos) (a i : Int) : Option Pos := l.find? (hasS a i)
def getS (l : List Pos) (a i : Int) : Pos := (findS l a i).getD (zS a i)
def dealS (l : List Pos) (buyer seller inst qty paid fee : Int) : List Pos × Int :=
  if buyer = seller ∨ paid < fee then ([], 1) else (addS (addS l ⟨buyer, inst, qty, 0, paid, 0⟩) ⟨seller, inst, 0, qty, 0, paid - fee⟩, 0)
def tradeS (l : List Pos) (a b : Opn) (price qty fee : Int) : List Pos × Int :=
  if a.side = b.side ∨ a.inst ≠ b.inst then ([], 1) else if a.side = 2 then dealS l b.acct a.acct a.inst qty (price * qty) fee else dealS l a.acct b.acct a.inst qty (price * qty) fee
@[irreducible] def posR (l : List Pos) (p : List Opn) (t : List Lt) (e : Evt) : List Pos × Int :=
  if (eventR p t e).2.2 = 4 ∨ mayPs l = false then ([], 4)
  else if e.kind = 13 then if (eventR p t e).2.2 ≠ 0 then ([], (eventR p t e).2.2) else tradeS l ((findP p (nth e 0)).getD oZ) ((findP p (nth e 1)).getD oZ) (nth e 2) (nth e 3) (nth e 4)
  else if e.kind = 18 then if (eventR p t e).2.2 ≠ 0 then ([], (eventR p t e).2.2) else dealS l (nth e 1) ((findT t (nth e 0)).getD lZ).seller ((findT t (nth e 0)).getD lZ).inst ((findT t (nth e 0)).getD lZ).qty (nth e 2) (nth e 3)
  else (l, 0)
/-! ### one that is added -/
theorem mem_addS {p x : Pos} : ∀ {l : List Pos}, x ∈ addS l p → x ∈ l ∨ sameK x p
  | [], h => by simp [addS] at h; subst h; exact Or.inr ⟨rfl, rfl⟩
  | y :: r, h => by
    unfold addS at h
    split at h
    · rcases List.mem_cons.1 h with rfl | h
      · exact Or.inr ⟨rfl, rfl⟩
      · exact Or.inl h
    · split at h
      · rename_i hs
        rcases List.mem_cons.1 h with rfl | h
        · exact Or.inr ⟨hs.1, hs.2⟩
        · exact Or.inl (List.mem_cons_of_mem _ h)
      · rcases List.mem_cons.1 h with rfl | h
        · exact Or.inl (by simp)
        · rcases mem_addS h with h | h
          · exact Or.inl (List.mem_cons_of_mem _ h)
          · exact Or.inr h
theorem key_same {a b c : Pos} (h : sameK b c) : (keyS a b ↔ keyS a c) ∧ (keyS b a ↔ keyS c a) := by unfold keyS sameK at *; omega
theorem addS_pw {p : Pos} : ∀ {l : List Pos}, l.Pairwise keyS → (addS l p).Pairwise keyS
  | [], _ => by simp [addS]
  | x :: r, h => by
    obtain ⟨h1, h2⟩ := List.pairwise_cons.1 h
    unfold addS
    split
    · rename_i hk
      refine List.pairwise_cons.2 ⟨fun y hy => ?_, h⟩
      rcases List.mem_cons.1 hy with rfl | hy
      · exact hk
      · exact keyS_trans hk (h1 y hy)
    · split
      · rename_i hs
        exact List.pairwise_cons.2 ⟨fun y hy => h1 y hy, h2⟩
      · rename_i hk hs
        refine List.pairwise_cons.2 ⟨fun y hy => ?_, addS_pw h2⟩
        rcases mem_addS hy with hy | hy
        · exact h1 y hy
        · refine (key_same hy).1.2 ?_
          rcases keyS_tri p x with h3 | h3 | h3
          · exact absurd h3 hk
          · exact absurd ⟨h3.1.symm, h3.2.symm⟩ hs
          · exact h3
theorem addS_len (p : Pos) : ∀ l : List Pos, (addS l p).length ≤ l.length + 1
  | [] => by simp [addS]
  | x :: r => by
    have := addS_len p r
    unfold addS
    (repeat' split) <;> simp only [List.length_cons] <;> omega
def OkS (p : Pos) : Prop := (1 ≤ p.acct ∧ p.acct ≤ 64) ∧ (1 ≤ p.inst ∧ p.inst ≤ 16) ∧ (NumS p.bought ∧ NumS p.sold ∧ NumS p.spent ∧ NumS p.got) ∧ ¬ (p.bought = 0 ∧ p.sold = 0)
theorem okb_mk {b i q p : Int} (h1 : 1 ≤ b ∧ b ≤ 64) (h2 : 1 ≤ i ∧ i ≤ 16) (h3 : 1 ≤ q ∧ q ≤ 1048576) (h4 : 0 ≤ p ∧ p ≤ 1125899906842624) : OkS ⟨b, i, q, 0, p, 0⟩ := by
  refine ⟨h1, h2, ⟨?_, ?_, ?_, ?_⟩, ?_⟩ <;> (dsimp only; (try unfold NumS farS); omega)
theorem oks_mk {b i q p : Int} (h1 : 1 ≤ b ∧ b ≤ 64) (h2 : 1 ≤ i ∧ i ≤ 16) (h3 : 1 ≤ q ∧ q ≤ 1048576) (h4 : 0 ≤ p ∧ p ≤ 1125899906842624) : OkS ⟨b, i, 0, q, 0, p⟩ := by
  refine ⟨h1, h2, ⟨?_, ?_, ?_, ?_⟩, ?_⟩ <;> (dsimp only; (try unfold NumS farS); omega)
theorem find_cons (x : Pos) (r : List Pos) (a i : Int) : findS (x :: r) a i = if x.acct = a ∧ x.inst = i then some x else findS r a i := by
  unfold findS
  by_cases h : x.acct = a ∧ x.inst = i
  · rw [List.find?_cons_of_pos (by simpa [hasS] using h), if_pos h]
  · rw [List.find?_cons_of_neg (by simpa [hasS] using h), if_neg h]
theorem findS_some {l : List Pos} {a i : Int} {x : Pos} (h : findS l a i = some x) : x ∈ l ∧ x.acct = a ∧ x.inst = i := by
  unfold findS at h
  exact ⟨List.mem_of_find?_eq_some h, by have := List.find?_some h; simpa [hasS] using this⟩
theorem findS_none {l : List Pos} {a i : Int} (h : ∀ x ∈ l, ¬ (x.acct = a ∧ x.inst = i)) : findS l a i = none := by
  unfold findS
  rw [List.find?_eq_none]
  intro x hx; simpa [hasS] using h x hx
theorem findS_mem {l : List Pos} (hl : l.Pairwise keyS) {x : Pos} (hx : x ∈ l) : findS l x.acct x.inst = some x := by
  induction l with
  | nil => cases hx
  | cons y r ih =>
    obtain ⟨h1, h2⟩ := List.pairwise_cons.1 hl
    rw [find_cons]
    rcases List.mem_cons.1 hx with rfl | hx
    · rw [if_pos ⟨rfl, rfl⟩]
    · have := h1 x hx
      rw [if_neg (by unfold keyS at this; omega), ih h2 hx]
theorem find_addS {p : Pos} (a i : Int) : ∀ {l : List Pos}, l.Pairwise keyS → findS (addS l p) a i = if p.acct = a ∧ p.inst = i then some (match findS l a i with | some x => joinS x p | none => p) else findS l a i
  | [], _ => by
    unfold addS
    rw [find_cons]
    rfl
  | x :: r, h => by
    obtain ⟨h1, h2⟩ := List.pairwise_cons.1 h
    have ih := find_addS (p := p) a i h2
    unfold addS
    split
    · rename_i hk
      rw [find_cons]
      by_cases e : p.acct = a ∧ p.inst = i
      · have : findS (x :: r) a i = none := findS_none fun y hy => by
          rcases List.mem_cons.1 hy with rfl | hy
          · unfold keyS at hk; omega
          · have := h1 y hy; unfold keyS at hk this; omega
        rw [if_pos e, if_pos e, this]
      · rw [if_neg e, if_neg e]
    · split
      · rename_i hs
        rw [find_cons, find_cons]
        have e0 : (joinS x p).acct = x.acct ∧ (joinS x p).inst = x.inst := ⟨rfl, rfl⟩
        rw [e0.1, e0.2]
        unfold sameK at hs
        by_cases e : x.acct = a ∧ x.inst = i
        · rw [if_pos e, if_pos (by omega), if_pos e]
        · rw [if_neg e, if_neg (by omega), if_neg e]
      · rename_i hk hs
        rw [find_cons, find_cons, ih]
        unfold sameK at hs
        by_cases e : x.acct = a ∧ x.inst = i
        · rw [if_pos e, if_neg (by omega), if_pos e]
        · rw [if_neg e, if_neg e]
theorem addS_may {l : List Pos} {p : Pos} (hl : MayPs l) (hp : OkS p) : MayPs (addS l p) := by
  have hpw := addS_pw (p := p) hl.1
  refine ⟨hpw, fun x hx => ?_⟩
  have hf := findS_mem hpw hx
  rw [find_addS _ _ hl.1] at hf
  by_cases e : p.acct = x.acct ∧ p.inst = x.inst
  · rw [if_pos e] at hf
    injection hf with hf
    cases hg : findS l x.acct x.inst with
    | none => rw [hg] at hf; dsimp only at hf; rw [← hf]; exact hp
    | some y =>
      rw [hg] at hf
      dsimp only at hf
      obtain ⟨g1, g2, g3⟩ := findS_some hg
      have hy := hl.2 y g1
      rw [← hf]
      obtain ⟨p1, p2, ⟨p3, p4, p5, p6⟩, p7⟩ := hp
      obtain ⟨y1, y2, ⟨y3, y4, y5, y6⟩, y7⟩ := hy
      refine ⟨y1, y2, ⟨(more_num y3 p3).1, (more_num y4 p4).1, (more_num y5 p5).1, (more_num y6 p6).1⟩, fun hz => ?_⟩
      have z1 : moreS y.bought p.bought = 0 := hz.1
      have z2 : moreS y.sold p.sold = 0 := hz.2
      have m1 := (more_num y3 p3).2
      have m2 := (more_num y4 p4).2
      unfold NumS at y3 y4
      omega
  · rw [if_neg e] at hf
    exact hl.2 x (findS_some hf).1
theorem join_zero {p : Pos} (hp : OkS p) : joinS (zS p.acct p.inst) p = p := by
  obtain ⟨_, _, ⟨p3, p4, p5, p6⟩, _⟩ := hp
  unfold joinS zS
  simp only [zero_more p3, zero_more p4, zero_more p5, zero_more p6]
theorem get_addS {l : List Pos} {p : Pos} (hl : MayPs l) (hp : OkS p) (a i : Int) : getS (addS l p) a i = if p.acct = a ∧ p.inst = i then joinS (getS l a i) p else getS l a i := by
  unfold getS
  rw [find_addS _ _ hl.1]
  by_cases e : p.acct = a ∧ p.inst = i
  · rw [if_pos e, if_pos e]
    cases findS l a i with
    | some x => rfl
    | none =>
      show p = joinS (zS a i) p
      rw [← e.1, ← e.2, join_zero hp]
  · rw [if_neg e, if_neg e]
theorem getS_mem {l : List Pos} (hl : MayPs l) {x : Pos} (hx : x ∈ l) : getS l x.acct x.inst = x := by
  unfold getS; rw [findS_mem hl.1 hx]; rfl
theorem getS_key {l : List Pos} (a i : Int) : (getS l a i).acct = a ∧ (getS l a i).inst = i := by
  unfold getS
  cases h : findS l a i with
  | none => exact ⟨rfl, rfl⟩
  | some x => exact (findS_some h).2
theorem getS_num {l : List Pos} (hl : MayPs l) (a i : Int) : NumS (getS l a i).bought ∧ NumS (getS l a i).sold ∧ NumS (getS l a i).spent ∧ NumS (getS l a i).got := by
  unfold getS
  cases h : findS l a i with
  | none => unfold zS NumS farS; simp
  | some x => exact (hl.2 x (findS_some h).1).2.2.1
theorem pos_ext {l m : List Pos} (hl : MayPs l) (hm : MayPs m) (h : ∀ a i, getS l a i = getS m a i) : l = m := by
  have sub : ∀ {l m : List Pos}, MayPs l → MayPs m → (∀ a i, getS l a i = getS m a i) → ∀ x ∈ l, x ∈ m := by
    intro l m hl hm h x hx
    have h1 := h x.acct x.inst
    rw [getS_mem hl hx] at h1
    unfold getS at h1
    cases hf : findS m x.acct x.inst with
    | none =>
      rw [hf] at h1
      have := (hl.2 x hx).2.2.2
      exact absurd ⟨by rw [h1]; rfl, by rw [h1]; rfl⟩ this
    | some y =>
      rw [hf] at h1
      have : x = y := h1
      rw [this]; exact (findS_some hf).1
  refine List.Perm.eq_of_pairwise (le := keyS) (fun a b _ _ h g => absurd (keyS_trans h g) (keyS_irr a)) hl.1 hm.1 ?_
  refine (List.perm_ext_iff_of_nodup ?_ ?_).2 fun x => ⟨sub hl hm h x, sub hm hl (fun a i => (h a i).symm) x⟩
  · exact hl.1.imp fun {a b} hk e => by subst e; exact keyS_irr a hk
  · exact hm.1.imp fun {a b} hk e => by subst e; exact keyS_irr a hk
/-! ### what a deal makes -/
structure DealS (l out : List Pos) (b s inst qty paid fee : Int) : Prop where
  ne : b ≠ s
  fe : fee ≤ paid
  okb : OkS ⟨b, inst, qty, 0, paid, 0⟩
  oks : OkS ⟨s, inst, 0, qty, 0, paid - fee⟩
  out : out = addS (addS l ⟨b, inst, qty, 0, paid, 0⟩) ⟨s, inst, 0, qty, 0, paid - fee⟩
theorem DealS.may {l out : List Pos} {b s inst qty paid fee : Int} (h : DealS l out b s inst qty paid fee) (hl : MayPs l) : MayPs out := by
  rw [h.out]; exact addS_may (addS_may hl h.okb) h.oks
theorem DealS.get {l out : List Pos} {b s inst qty paid fee : Int} (h : DealS l out b s inst qty paid fee) (hl : MayPs l) (a i : Int) :
    getS out a i = if b = a ∧ inst = i then joinS (getS l a i) ⟨b, inst, qty, 0, paid, 0⟩ else if s = a ∧ inst = i then joinS (getS l a i) ⟨s, inst, 0, qty, 0, paid - fee⟩ else getS l a i := by
  have hn := h.ne
  rw [h.out, get_addS (addS_may hl h.okb) h.oks, get_addS hl h.okb]
  by_cases e1 : b = a ∧ inst = i
  · rw [if_neg (show ¬ (s = a ∧ inst = i) by omega), if_pos e1, if_pos e1]
  · rw [if_neg e1, if_neg e1]
theorem pos_cases {l : List Pos} {p : List Opn} {t : List Lt} {e : Evt} (h : (posR l p t e).2 = 0) :
    MayPs l ∧ ((e.kind ≠ 13 ∧ e.kind ≠ 18 ∧ (posR l p t e).1 = l) ∨
    (e.kind = 13 ∧ (eventR p t e).2.2 = 0 ∧ ∃ a b : Opn, findP p (nth e 0) = some a ∧ findP p (nth e 1) = some b ∧ a.side ≠ b.side ∧ a.inst = b.inst ∧ DealS l (posR l p t e).1 (if a.side = 2 then b.acct else a.acct) (if a.side = 2 then a.acct else b.acct) a.inst (nth e 3) (nth e 2 * nth e 3) (nth e 4) ∧ nth e 3 ≤ 1048576 ∧ 0 ≤ nth e 4 ∧ nth e 2 * nth e 3 ≤ 1125899906842624) ∨
    (e.kind = 18 ∧ (eventR p t e).2.2 = 0 ∧ ∃ x : Lt, findT t (nth e 0) = some x ∧ DealS l (posR l p t e).1 (nth e 1) x.seller x.inst x.qty (nth e 2) (nth e 3) ∧ x.qty ≤ 1048576 ∧ 0 ≤ nth e 3 ∧ nth e 2 ≤ 1125899906842624)) := by
  unfold posR at h ⊢
  by_cases h0 : (eventR p t e).2.2 = 4 ∨ mayPs l = false
  · rw [if_pos h0] at h; cases h
  rw [if_neg h0] at h ⊢
  have hl : MayPs l := mayPs_iff.1 (by cases hm : mayPs l with | true => rfl | false => exact absurd (Or.inr hm) h0)
  refine ⟨hl, ?_⟩
  by_cases k1 : e.kind = 13
  · rw [if_pos k1] at h ⊢
    by_cases h1 : (eventR p t e).2.2 ≠ 0
    · rw [if_pos h1] at h; exact absurd h h1
    rw [if_neg h1] at h ⊢
    have h2 : (eventR p t e).2.2 = 0 := by omega
    refine Or.inr (Or.inl ⟨k1, h2, ?_⟩)
    obtain ⟨⟨hM, hv, hE⟩, hd⟩ := event_ok h2
    rw [hd] at h2
    obtain ⟨n0, n1, n2, n3, n4, hn, g0, g1, g2, g3, g4⟩ := nums13 hE hv k1
    have e2 : nth e 2 = n2 := by simp [nth, hn]
    have e3 : nth e 3 = n3 := by simp [nth, hn]
    have e4 : nth e 4 = n4 := by simp [nth, hn]
    rcases done_cases hM hv hE h2 with ⟨k, _⟩ | ⟨k, _⟩ | ⟨_, hq3, a, b, f1, f2, f3, f4, f5, f6⟩ | ⟨k, _⟩ | ⟨k, _⟩ | ⟨k, _⟩ <;> try omega
    rw [f1, f2] at h ⊢
    have ha := hM.2.2.2.1 a ((find_iff hM.2.2.2.2.1).1 f1).1
    have hb := hM.2.2.2.1 b ((find_iff hM.2.2.2.2.1).1 f2).1
    refine ⟨a, b, rfl, rfl, ?_⟩
    have hpaid : 1 ≤ nth e 2 * nth e 3 ∧ nth e 2 * nth e 3 ≤ 1125899906842624 := by
      rw [e2, e3]
      have m1 : n2 * n3 ≤ 1073741824 * 1048576 := Int.mul_le_mul g2.2 g3.2 (by omega) (by omega)
      have m2 : 1 * 1 ≤ n2 * n3 := Int.mul_le_mul g2.1 g3.1 (by omega) (by omega)
      omega
    rw [e3] at hpaid ⊢
    unfold tradeS dealS at h ⊢
    simp only [Option.getD_some] at h ⊢
    unfold MayO at ha hb
    rw [e4]
    by_cases c1 : a.side = b.side ∨ a.inst ≠ b.inst
    · rw [if_pos c1] at h; cases h
    rw [if_neg c1] at h ⊢
    refine ⟨by omega, by omega, ?_, g3.2, g4.1, hpaid.2⟩
    rw [e3, e4] at h
    generalize nth e 2 * n3 = paid at *
    unfold farS at *
    by_cases c2 : a.side = 2
    · rw [if_pos c2] at h
      rw [if_pos c2, if_pos c2, if_pos c2]
      by_cases c3 : b.acct = a.acct ∨ paid < n4
      · rw [if_pos c3] at h; cases h
      rw [if_neg c3]
      exact ⟨by omega, by omega, okb_mk (by omega) (by omega) (by omega) (by omega), oks_mk (by omega) (by omega) (by omega) (by omega), rfl⟩
    · rw [if_neg c2] at h
      rw [if_neg c2, if_neg c2, if_neg c2]
      by_cases c3 : a.acct = b.acct ∨ paid < n4
      · rw [if_pos c3] at h; cases h
      rw [if_neg c3]
      exact ⟨by omega, by omega, okb_mk (by omega) (by omega) (by omega) (by omega), oks_mk (by omega) (by omega) (by omega) (by omega), rfl⟩
  rw [if_neg k1] at h ⊢
  by_cases k2 : e.kind = 18
  · rw [if_pos k2] at h ⊢
    by_cases h1 : (eventR p t e).2.2 ≠ 0
    · rw [if_pos h1] at h; exact absurd h h1
    rw [if_neg h1] at h ⊢
    have h2 : (eventR p t e).2.2 = 0 := by omega
    refine Or.inr (Or.inr ⟨k2, h2, ?_⟩)
    obtain ⟨⟨hM, hv, hE⟩, hd⟩ := event_ok h2
    rw [hd] at h2
    obtain ⟨n0, n1, n2, n3, hn, g0, g1, g2, g3⟩ := nums18 hE hv k2
    have e1 : nth e 1 = n1 := by simp [nth, hn]
    have e2 : nth e 2 = n2 := by simp [nth, hn]
    have e3 : nth e 3 = n3 := by simp [nth, hn]
    have hx : ∃ x, findT t (nth e 0) = some x := by
      have hdd : doneR p t e = goneR p t e := by unfold doneR; rw [if_neg (show ¬ e.kind = 11 by omega), if_neg (show ¬ e.kind = 12 by omega), if_neg k1, if_neg (show ¬ (e.kind = 14 ∨ e.kind = 16) by omega), if_pos (Or.inl k2)]
      rw [hdd] at h2
      unfold goneR at h2
      cases hf : findT t (nth e 0) with
      | none => rw [hf] at h2; cases h2
      | some x => exact ⟨x, rfl⟩
    obtain ⟨x, hx⟩ := hx
    rw [hx] at h ⊢
    have hxm := hM.2.2.2.2.2 x ((findT_iff hM.2.2.1).1 hx).1
    unfold MayL at hxm
    refine ⟨x, rfl, ?_⟩
    unfold dealS at h ⊢
    simp only [Option.getD_some] at h ⊢
    rw [e1, e2, e3] at h ⊢
    by_cases c3 : n1 = x.seller ∨ n2 < n3
    · rw [if_pos c3] at h; cases h
    rw [if_neg c3]
    refine ⟨?_, by omega, g3.1, g2.2⟩
    exact ⟨by omega, by omega, okb_mk (by omega) (by omega) (by omega) (by omega), oks_mk (by omega) (by omega) (by omega) (by omega), rfl⟩
  · rw [if_neg k2]
    exact Or.inl ⟨k1, k2, rfl⟩
theorem pos_err {l : List Pos} {p : List Opn} {t : List Lt} {e : Evt} (h : (posR l p t e).2 ≠ 0) : (posR l p t e).1 = [] := by
  unfold posR tradeS dealS at h ⊢
  (repeat' split at h) <;> first | rfl | (exact absurd rfl h) | (split <;> rfl)
theorem pos_may {l : List Pos} {p : List Opn} {t : List Lt} {e : Evt} (h : (posR l p t e).2 = 0) : MayPs (posR l p t e).1 := by
  obtain ⟨hl, h1 | ⟨_, _, a, b, _, _, _, _, hD, _⟩ | ⟨_, _, x, _, hD, _⟩⟩ := pos_cases h
  · rw [h1.2.2]; exact hl
  · exact hD.may hl
  · exact hD.may hl
theorem DealS.pos {l out : List Pos} {b s inst qty paid fee : Int} (h : DealS l out b s inst qty paid fee) : 0 < qty := by
  have h1 : 0 ≤ qty := h.okb.2.2.1.1.1
  have h2 : ¬ (qty = 0 ∧ (0 : Int) = 0) := h.okb.2.2.2
  omega
/-! ### no number is less, at most two are other ones -/
theorem join_ge {x p : Pos} (hx : NumS x.bought ∧ NumS x.sold ∧ NumS x.spent ∧ NumS x.got) (hp : OkS p) : x.bought ≤ (joinS x p).bought ∧ x.sold ≤ (joinS x p).sold ∧ x.spent ≤ (joinS x p).spent ∧ x.got ≤ (joinS x p).got := by
  obtain ⟨_, _, ⟨p3, p4, p5, p6⟩, _⟩ := hp
  exact ⟨(more_num hx.1 p3).2, (more_num hx.2.1 p4).2, (more_num hx.2.2.1 p5).2, (more_num hx.2.2.2 p6).2⟩
theorem deal_ge {l out : List Pos} {b s inst qty paid fee : Int} (h : DealS l out b s inst qty paid fee) (hl : MayPs l) (a i : Int) :
    (getS l a i).bought ≤ (getS out a i).bought ∧ (getS l a i).sold ≤ (getS out a i).sold ∧ (getS l a i).spent ≤ (getS out a i).spent ∧ (getS l a i).got ≤ (getS out a i).got := by
  rw [h.get hl]
  have hn := getS_num hl a i
  (repeat' split)
  · exact join_ge hn h.okb
  · exact join_ge hn h.oks
  · exact ⟨Int.le_refl _, Int.le_refl _, Int.le_refl _, Int.le_refl _⟩
theorem deal_other {l out : List Pos} {b s inst qty paid fee : Int} (h : DealS l out b s inst qty paid fee) (hl : MayPs l) {x : Pos} (hx : x ∈ out) (hne : x ≠ getS l x.acct x.inst) : x.inst = inst ∧ (x.acct = b ∨ x.acct = s) := by
  have h1 := h.get hl x.acct x.inst
  rw [getS_mem (h.may hl) hx] at h1
  by_cases e1 : b = x.acct ∧ inst = x.inst
  · exact ⟨e1.2.symm, Or.inl e1.1.symm⟩
  · rw [if_neg e1] at h1
    by_cases e2 : s = x.acct ∧ inst = x.inst
    · exact ⟨e2.2.symm, Or.inr e2.1.symm⟩
    · rw [if_neg e2] at h1; exact absurd h1 hne
theorem two_keys {I b s : Int} {L : List Pos} (hp : L.Pairwise keyS) (h : ∀ x ∈ L, x.inst = I ∧ (x.acct = b ∨ x.acct = s)) : L.length ≤ 2 := by
  match L, hp, h with
  | [], _, _ => simp
  | [_], _, _ => simp
  | [_, _], _, _ => simp
  | x :: y :: z :: r, hp, h =>
    obtain ⟨h1, h2⟩ := List.pairwise_cons.1 hp
    obtain ⟨h3, _⟩ := List.pairwise_cons.1 h2
    have a1 := h1 y (by simp)
    have a2 := h1 z (by simp)
    have a3 := h3 z (by simp)
    have b1 := h x (by simp)
    have b2 := h y (by simp)
    have b3 := h z (by simp)
    unfold keyS at a1 a2 a3
    omega
def chgS (l : List Pos) (x : Pos) : Bool := decide (x ≠ getS l x.acct x.inst)
structure NeverS (l out : List Pos) : Prop where
  may : MayPs out
  mayl : MayPs l
  inst : ∃ I, ∀ x ∈ out, x ≠ getS l x.acct x.inst → x.inst = I
  ge : ∀ x ∈ out, (getS l x.acct x.inst).bought ≤ x.bought ∧ (getS l x.acct x.inst).sold ≤ x.sold ∧ (getS l x.acct x.inst).spent ≤ x.spent ∧ (getS l x.acct x.inst).got ≤ x.got
  two : (out.filter (chgS l)).length ≤ 2
  len : out.length ≤ l.length + 2
  now : ∀ x ∈ l, x.bought ≤ (getS out x.acct x.inst).bought ∧ x.sold ≤ (getS out x.acct x.inst).sold
theorem never_deal {l out : List Pos} {b s inst qty paid fee : Int} (h : DealS l out b s inst qty paid fee) (hl : MayPs l) : NeverS l out := by
  have hm := h.may hl
  refine ⟨hm, hl, ⟨inst, fun x hx hne => (deal_other h hl hx hne).1⟩, fun x hx => ?_, ?_, ?_, fun x hx => ?_⟩
  · have := deal_ge h hl x.acct x.inst
    rwa [getS_mem hm hx] at this
  · refine two_keys (I := inst) (b := b) (s := s) (hm.1.sublist List.filter_sublist) fun x hx => ?_
    obtain ⟨h1, h2⟩ := List.mem_filter.1 hx
    exact deal_other h hl h1 (of_decide_eq_true h2)
  · rw [h.out]
    have h1 := addS_len ⟨b, inst, qty, 0, paid, 0⟩ l
    have h2 := addS_len ⟨s, inst, 0, qty, 0, paid - fee⟩ (addS l ⟨b, inst, qty, 0, paid, 0⟩)
    omega
  · have := deal_ge h hl x.acct x.inst
    rw [getS_mem hl hx] at this
    exact ⟨this.1, this.2.1⟩
theorem never_same {l : List Pos} (hl : MayPs l) : NeverS l l := by
  refine ⟨hl, hl, ⟨0, fun x hx hne => absurd (getS_mem hl hx).symm hne⟩, fun x hx => ?_, ?_, by omega, fun x hx => ?_⟩
  · rw [getS_mem hl hx]; exact ⟨Int.le_refl _, Int.le_refl _, Int.le_refl _, Int.le_refl _⟩
  · have : l.filter (chgS l) = [] := List.filter_eq_nil_iff.2 fun x hx => by
      unfold chgS; rw [getS_mem hl hx]; simp
    rw [this]; simp
  · rw [getS_mem hl hx]; exact ⟨Int.le_refl _, Int.le_refl _⟩
theorem never_ok {l : List Pos} {p : List Opn} {t : List Lt} {e : Evt} (h : (posR l p t e).2 = 0) : NeverS l (posR l p t e).1 ∧ (e.kind ≠ 13 → e.kind ≠ 18 → (posR l p t e).1 = l) := by
  obtain ⟨hl, h1 | ⟨k, _, a, b, _, _, _, _, hD, _⟩ | ⟨k, _, x, _, hD, _⟩⟩ := pos_cases h
  · rw [h1.2.2]; exact ⟨never_same hl, fun _ _ => rfl⟩
  · exact ⟨never_deal hD hl, fun k1 => absurd k k1⟩
  · exact ⟨never_deal hD hl, fun _ k2 => absurd k k2⟩
/-! ### sums -/
def sumS (f : Pos → Int) (L : List Pos) : Int := (L.map f).sum
theorem sumS_nil (f : Pos → Int) : sumS f [] = 0 := rfl
theorem sumS_cons (f : Pos → Int) (x : Pos) (r : List Pos) : sumS f (x :: r) = f x + sumS f r := by unfold sumS; rw [List.map_cons, List.sum_cons]
theorem sumS_snoc (f : Pos → Int) (L : List Pos) (x : Pos) : sumS f (L ++ [x]) = sumS f L + f x := by
  induction L with
  | nil => rw [List.nil_append, sumS_cons, sumS_nil]; omega
  | cons y r ih => rw [List.cons_append, sumS_cons, sumS_cons, ih]; omega
theorem sumS_congr {f g : Pos → Int} {L : List Pos} (h : ∀ x ∈ L, f x = g x) : sumS f L = sumS g L := by
  unfold sumS; rw [List.map_congr_left h]
theorem sumS_zero {f : Pos → Int} {L : List Pos} (h : ∀ x ∈ L, f x = 0) : sumS f L = 0 := by
  induction L with
  | nil => rfl
  | cons x r ih => rw [sumS_cons, h x (by simp), ih fun y hy => h y (List.mem_cons_of_mem _ hy)]; rfl
def oneS (a i v : Int) (x : Pos) : Int := if x.acct = a ∧ x.inst = i then v else 0
theorem sum_one {a i v : Int} : ∀ {L : List Pos}, L.Pairwise keyS → sumS (oneS a i v) L = if (findS L a i).isSome then v else 0
  | [], _ => by rw [sumS_nil]; rfl
  | x :: r, h => by
    obtain ⟨h1, h2⟩ := List.pairwise_cons.1 h
    rw [sumS_cons, sum_one h2, find_cons]
    unfold oneS
    by_cases e : x.acct = a ∧ x.inst = i
    · have : findS r a i = none := findS_none fun y hy => by have := h1 y hy; unfold keyS at this; omega
      rw [if_pos e, if_pos e, this]; simp
    · rw [if_neg e, if_neg e]; omega
theorem sum_one_bnd {a i v : Int} {L : List Pos} (h : L.Pairwise keyS) (hv : 0 ≤ v) : 0 ≤ sumS (oneS a i v) L ∧ sumS (oneS a i v) L ≤ v := by
  rw [sum_one h]; split <;> omega
def fullS (x : Pos) : Bool := x.bought == farS || (x.sold == farS || (x.spent == farS || x.got == farS))
structure DiffS (l out : List Pos) (b s inst qty paid fee : Int) : Prop where
  bought : ∀ x ∈ out, fullS x = false → x.bought - (getS l x.acct x.inst).bought = oneS b inst qty x
  sold : ∀ x ∈ out, fullS x = false → x.sold - (getS l x.acct x.inst).sold = oneS s inst qty x
  spent : ∀ x ∈ out, fullS x = false → x.spent - (getS l x.acct x.inst).spent = oneS b inst paid x
  got : ∀ x ∈ out, fullS x = false → x.got - (getS l x.acct x.inst).got = oneS s inst (paid - fee) x
  hasb : qty ≠ 0 → (findS out b inst).isSome = true
  hass : qty ≠ 0 → (findS out s inst).isSome = true
  qty0 : 0 ≤ qty ∧ qty ≤ 1125899906842624
  paid0 : 0 ≤ paid ∧ paid ≤ 1125899906842624
  fee0 : 0 ≤ fee ∧ fee ≤ paid
  pz : qty = 0 → paid = 0 ∧ fee = 0
  inst0 : qty ≠ 0 → 1 ≤ inst ∧ inst ≤ 16
theorem not_full {x : Pos} (h : fullS x = false) : x.bought ≠ farS ∧ x.sold ≠ farS ∧ x.spent ≠ farS ∧ x.got ≠ farS := by
  unfold fullS at h
  simp only [Bool.or_eq_false_iff, beq_eq_false_iff_ne] at h
  exact h
theorem diff_deal {l out : List Pos} {b s inst qty paid fee : Int} (h : DealS l out b s inst qty paid fee) (hl : MayPs l) (hq : qty ≤ 1125899906842624) (hp : paid ≤ 1125899906842624) (hf : 0 ≤ fee) (hq0 : 0 < qty) : DiffS l out b s inst qty paid fee := by
  have hm := h.may hl
  have hne := h.ne
  have hob := h.okb
  have hos := h.oks
  have h2 := h.fe
  unfold OkS NumS farS at hob hos
  simp only at hob hos
  have key : ∀ x ∈ out, x = if b = x.acct ∧ inst = x.inst then joinS (getS l x.acct x.inst) ⟨b, inst, qty, 0, paid, 0⟩ else if s = x.acct ∧ inst = x.inst then joinS (getS l x.acct x.inst) ⟨s, inst, 0, qty, 0, paid - fee⟩ else getS l x.acct x.inst := fun x hx => by
    have := h.get hl x.acct x.inst
    rwa [getS_mem hm hx] at this
  have nums := fun x : Pos => getS_num hl x.acct x.inst
  have fields : ∀ x ∈ out, fullS x = false →
      x.bought - (getS l x.acct x.inst).bought = oneS b inst qty x ∧ x.sold - (getS l x.acct x.inst).sold = oneS s inst qty x ∧
      x.spent - (getS l x.acct x.inst).spent = oneS b inst paid x ∧ x.got - (getS l x.acct x.inst).got = oneS s inst (paid - fee) x := by
    intro x hx hnf
    obtain ⟨f1, f2, f3, f4⟩ := not_full hnf
    have hk := key x hx
    obtain ⟨m1, m2, m3, m4⟩ := nums x
    generalize getS l x.acct x.inst = g at *
    unfold oneS
    by_cases e1 : b = x.acct ∧ inst = x.inst
    · rw [if_pos e1] at hk
      have t1 : x.bought = moreS g.bought qty := by rw [hk]; rfl
      have t2 : x.sold = moreS g.sold 0 := by rw [hk]; rfl
      have t3 : x.spent = moreS g.spent paid := by rw [hk]; rfl
      have t4 : x.got = moreS g.got 0 := by rw [hk]; rfl
      rw [more_zero m2] at t2
      rw [more_zero m4] at t4
      rw [t1] at f1
      rw [t3] at f3
      rw [more_eq f1] at t1
      rw [more_eq f3] at t3
      rw [if_pos (by omega), if_neg (by omega), if_pos (by omega), if_neg (by omega)]
      omega
    · rw [if_neg e1] at hk
      by_cases e2 : s = x.acct ∧ inst = x.inst
      · rw [if_pos e2] at hk
        have t1 : x.bought = moreS g.bought 0 := by rw [hk]; rfl
        have t2 : x.sold = moreS g.sold qty := by rw [hk]; rfl
        have t3 : x.spent = moreS g.spent 0 := by rw [hk]; rfl
        have t4 : x.got = moreS g.got (paid - fee) := by rw [hk]; rfl
        rw [more_zero m1] at t1
        rw [more_zero m3] at t3
        rw [t2] at f2
        rw [t4] at f4
        rw [more_eq f2] at t2
        rw [more_eq f4] at t4
        rw [if_neg (by omega), if_pos (by omega), if_neg (by omega), if_pos (by omega)]
        omega
      · rw [if_neg e2] at hk
        rw [← hk, if_neg (by omega), if_neg (by omega), if_neg (by omega), if_neg (by omega)]
        omega
  have hasx : ∀ a, (b = a ∨ s = a) → (findS out a inst).isSome = true := by
    intro a ha
    rw [h.out, find_addS _ _ (addS_pw hl.1), find_addS _ _ hl.1]
    rcases ha with rfl | rfl
    · simp only
      rw [if_neg (show ¬ (s = b ∧ True) by simp; omega)]
      simp
    · simp
  exact ⟨fun x hx hn => (fields x hx hn).1, fun x hx hn => (fields x hx hn).2.1, fun x hx hn => (fields x hx hn).2.2.1, fun x hx hn => (fields x hx hn).2.2.2, fun _ => hasx b (Or.inl rfl), fun _ => hasx s (Or.inr rfl), by omega, by omega, by omega, by omega, by omega⟩
theorem diff_same {l : List Pos} (hl : MayPs l) : DiffS l l 0 0 0 0 0 0 := by
  have h : ∀ x ∈ l, getS l x.acct x.inst = x := fun x hx => getS_mem hl hx
  refine ⟨fun x hx _ => ?_, fun x hx _ => ?_, fun x hx _ => ?_, fun x hx _ => ?_, by omega, by omega, by omega, by omega, by omega, by omega, by omega⟩ <;> (rw [h x hx]; unfold oneS; split <;> omega)
theorem diff_ok {l : List Pos} {p : List Opn} {t : List Lt} {e : Evt} (h : (posR l p t e).2 = 0) : ∃ b s I qty paid fee, DiffS l (posR l p t e).1 b s I qty paid fee ∧ (if e.kind = 13 then nth e 4 else if e.kind = 18 then nth e 3 else 0) = fee := by
  obtain ⟨hl, h1 | ⟨k, _, a, b, _, _, _, _, hD, c1, c2, c3⟩ | ⟨k, _, x, _, hD, c1, c2, c3⟩⟩ := pos_cases h
  · rw [h1.2.2]
    exact ⟨0, 0, 0, 0, 0, 0, diff_same hl, by rw [if_neg h1.1, if_neg h1.2.1]⟩
  · exact ⟨_, _, _, _, _, _, diff_deal hD hl (by omega) c3 c2 hD.pos, by rw [if_pos k]⟩
  · exact ⟨_, _, _, _, _, _, diff_deal hD hl (by omega) c3 c2 hD.pos, by rw [if_neg (by omega), if_pos k]⟩
def ofI (i : Int) (f : Pos → Int) (x : Pos) : Int := if x.inst = i then f x else 0
theorem sum_ofI {L : List Pos} {i a I v : Int} {f : Pos → Int} (hf : ∀ x ∈ L, x.inst = i → f x = oneS a I v x) : sumS (ofI i f) L = if i = I then sumS (oneS a I v) L else 0 := by
  by_cases e : i = I
  · rw [if_pos e]
    refine sumS_congr fun x hx => ?_
    unfold ofI
    by_cases e2 : x.inst = i
    · rw [if_pos e2, hf x hx e2]
    · rw [if_neg e2]; unfold oneS; rw [if_neg (by omega)]
  · rw [if_neg e]
    refine sumS_zero fun x hx => ?_
    unfold ofI
    by_cases e2 : x.inst = i
    · rw [if_pos e2, hf x hx e2]; unfold oneS; rw [if_neg (by omega)]
    · rw [if_neg e2]
theorem sum_ofI_bnd {L : List Pos} {i a I v : Int} (h : L.Pairwise keyS) (hv : 0 ≤ v) {f : Pos → Int} (hf : ∀ x ∈ L, x.inst = i → f x = oneS a I v x) : 0 ≤ sumS (ofI i f) L ∧ sumS (ofI i f) L ≤ v := by
  rw [sum_ofI hf]
  have := sum_one_bnd (a := a) (i := I) h hv
  split <;> omega
/-! ### traded in two parts -/
theorem join_join {x p q r : Pos} (h2 : 0 ≤ q.bought ∧ 0 ≤ q.sold ∧ 0 ≤ q.spent ∧ 0 ≤ q.got) (hr : r.bought = p.bought + q.bought ∧ r.sold = p.sold + q.sold ∧ r.spent = p.spent + q.spent ∧ r.got = p.got + q.got) : joinS (joinS x p) q = joinS x r := by
  unfold joinS
  simp only [more_more h2.1, more_more h2.2.1, more_more h2.2.2.1, more_more h2.2.2.2, hr.1, hr.2.1, hr.2.2.1, hr.2.2.2]
theorem deal_parts {l x w at_ : List Pos} {b s inst q1 q2 p1 p2 f1 f2 : Int} (hl : MayPs l) (h1 : DealS l x b s inst q1 p1 f1) (h2 : DealS x w b s inst q2 p2 f2) (h3 : DealS l at_ b s inst (q1 + q2) (p1 + p2) (f1 + f2)) : w = at_ := by
  have hx := h1.may hl
  refine pos_ext (h2.may hx) (h3.may hl) fun a i => ?_
  rw [h2.get hx, h1.get hl, h3.get hl]
  have o2 := h2.okb.2.2.1
  have o4 := h2.oks.2.2.1
  unfold NumS at o2 o4
  by_cases e1 : b = a ∧ inst = i
  · rw [if_pos e1, if_pos e1, if_pos e1]
    (refine join_join ⟨?_, ?_, ?_, ?_⟩ ⟨?_, ?_, ?_, ?_⟩ <;> dsimp only at o2 o4 ⊢ <;> omega)
  · rw [if_neg e1, if_neg e1, if_neg e1]
    by_cases e2 : s = a ∧ inst = i
    · rw [if_pos e2, if_pos e2, if_pos e2]
      (refine join_join ⟨?_, ?_, ?_, ?_⟩ ⟨?_, ?_, ?_, ?_⟩ <;> dsimp only at o2 o4 ⊢ <;> omega)
    · rw [if_neg e2, if_neg e2, if_neg e2]
theorem pos_parts {l : List Pos} {p : List Opn} {a b price q1 q2 y z : Int} (h1 : (posR l p [] ⟨3, 13, [a, b, price, q1, y], []⟩).2 = 0)
    (h2 : (posR (posR l p [] ⟨3, 13, [a, b, price, q1, y], []⟩).1 (eventR p [] ⟨3, 13, [a, b, price, q1, y], []⟩).1 [] ⟨3, 13, [a, b, price, q2, z], []⟩).2 = 0)
    (h3 : (posR l p [] ⟨3, 13, [a, b, price, q1 + q2, y + z], []⟩).2 = 0) :
    (posR (posR l p [] ⟨3, 13, [a, b, price, q1, y], []⟩).1 (eventR p [] ⟨3, 13, [a, b, price, q1, y], []⟩).1 [] ⟨3, 13, [a, b, price, q2, z], []⟩).1 = (posR l p [] ⟨3, 13, [a, b, price, q1 + q2, y + z], []⟩).1 := by
  have k13 : ∀ {q f : Int}, (⟨3, 13, [a, b, price, q, f], []⟩ : Evt).kind = 13 := rfl
  obtain ⟨hl, c1 | ⟨_, e1, a1, b1, fa1, fb1, s1, i1, D1, _⟩ | ⟨c1, _⟩⟩ := pos_cases h1
  · exact absurd rfl c1.1
  · obtain ⟨hx, c2 | ⟨_, e2, a2, b2, fa2, fb2, s2, i2, D2, _⟩ | ⟨c2, _⟩⟩ := pos_cases h2
    · exact absurd rfl c2.1
    · obtain ⟨_, c3 | ⟨_, e3, a3, b3, fa3, fb3, s3, i3, D3, _⟩ | ⟨c3, _⟩⟩ := pos_cases h3
      · exact absurd rfl c3.1
      · have n0 : ∀ q f : Int, nth ⟨3, 13, [a, b, price, q, f], []⟩ 0 = a := fun _ _ => rfl
        have n1 : ∀ q f : Int, nth ⟨3, 13, [a, b, price, q, f], []⟩ 1 = b := fun _ _ => rfl
        have n2 : ∀ q f : Int, nth ⟨3, 13, [a, b, price, q, f], []⟩ 2 = price := fun _ _ => rfl
        have n3 : ∀ q f : Int, nth ⟨3, 13, [a, b, price, q, f], []⟩ 3 = q := fun _ _ => rfl
        have n4 : ∀ q f : Int, nth ⟨3, 13, [a, b, price, q, f], []⟩ 4 = f := fun _ _ => rfl
        rw [n0] at fa1 fa2 fa3
        rw [n1] at fb1 fb2 fb3
        rw [fa1] at fa3
        rw [fb1] at fb3
        injection fa3 with fa3
        injection fb3 with fb3
        subst fa3 fb3
        -- the orders behind the first part
        obtain ⟨⟨hM, hv, hE⟩, hd⟩ := event_ok e1
        have hM2 := event_may e1
        have hdone := e1
        rw [hd] at hdone
        rcases done_cases hM hv hE hdone with ⟨k, _⟩ | ⟨k, _⟩ | ⟨_, hq3, oa, ob, g1, g2, g3, g4, g5, g6⟩ | ⟨k, _⟩ | ⟨k, _⟩ | ⟨k, _⟩
        · exact absurd k (by simp)
        · exact absurd k (by simp)
        · rw [n0, fa1] at g1
          rw [n1, fb1] at g2
          injection g1 with g1
          injection g2 with g2
          subst g1 g2
          rw [hd, g6] at fa2 fb2 hM2
          rw [n0, n1, n3] at fa2 fb2 hM2
          dsimp only at fa2 fb2 hM2
          have same : ∀ {id : Int} {o o2 : Opn}, findP p id = some o → findP (lessP (lessP p a q1) b q1) id = some o2 → o2.acct = o.acct ∧ o2.side = o.side ∧ o2.inst = o.inst := by
            intro id o o2 f1 f2
            obtain ⟨m1, m2⟩ := (find_iff hM2.2.2.2.2.1).1 f2
            obtain ⟨⟨y1, my1, rfl⟩, _⟩ := mem_less.1 m1
            obtain ⟨⟨y2, my2, rfl⟩, _⟩ := mem_less.1 my1
            have hid : y2.id = id := by rw [cut_id, cut_id] at m2; exact m2
            have := (find_iff hM.2.2.2.2.1).2 ⟨my2, hid⟩
            rw [f1] at this
            injection this with this
            subst this
            unfold cutP
            (repeat' split) <;> exact ⟨rfl, rfl, rfl⟩
          obtain ⟨x1, x2, x3⟩ := same fa1 fa2
          obtain ⟨y1, y2, y3⟩ := same fb1 fb2
          rw [x1, x2, x3, y1] at D2
          rw [n2, n3, n4] at D1 D2 D3
          rw [show price * (q1 + q2) = price * q1 + price * q2 from Int.mul_add _ _ _] at D3
          exact deal_parts hl D1 D2 D3
        · exact absurd k (by simp)
        · exact absurd k (by simp)
        · exact absurd rfl k.2.2.1
      · exact absurd c3 (by simp)
    · exact absurd c2 (by simp)
  · exact absurd c1 (by simp)
theorem addS_new {p : Pos} : ∀ {l : List Pos} {i : Nat}, i ≤ l.length → (∀ x ∈ l.take i, keyS x p) → (∀ x ∈ l.drop i, keyS p x) → addS l p = l.take i ++ p :: l.drop i
  | [], i, _, _, _ => by simp [addS]
  | x :: r, 0, _, _, h => by
    have h0 := h x (by simp)
    unfold addS; rw [if_pos h0]; simp
  | x :: r, i + 1, hi, h1, h2 => by
    have hx := h1 x (by simp)
    have n1 : ¬ keyS p x := fun h => keyS_irr _ (keyS_trans h hx)
    have n2 : ¬ sameK x p := by unfold keyS sameK at *; omega
    have ih := addS_new (p := p) (l := r) (i := i) (by simpa using hi) (fun y hy => h1 y (by simp [hy])) (fun y hy => h2 y (by simpa using hy))
    unfold addS; rw [if_neg n1, if_neg n2, ih]; simp
theorem addS_old {p x : Pos} : ∀ {l : List Pos} {i : Nat}, l[i]? = some x → sameK x p → (∀ y ∈ l.take i, keyS y p) → addS l p = l.set i (joinS x p)
  | [], i, h, _, _ => by simp at h
  | y :: r, 0, h, hs, _ => by
    simp at h; subst h
    have n1 : ¬ keyS p y := by unfold keyS sameK at *; omega
    unfold addS; rw [if_neg n1, if_pos hs]; simp
  | y :: r, i + 1, h, hs, h1 => by
    have hx := h1 y (by simp)
    have n1 : ¬ keyS p y := fun h => keyS_irr _ (keyS_trans h hx)
    have n2 : ¬ sameK y p := by unfold keyS sameK at *; omega
    have ih := addS_old (p := p) (x := x) (l := r) (i := i) (by simpa using h) hs (fun z hz => h1 z (by simp [hz]))
    unfold addS; rw [if_neg n1, if_neg n2, ih]; simp
def cmpS (a b : Int) : Int := if a < b then -1 else if b < a then 1 else 0
def rowS (a b : Pos) : Int := if cmpS a.acct b.acct = 0 then cmpS a.inst b.inst else cmpS a.acct b.acct
theorem rowS_lt {a b : Pos} : rowS a b < 0 ↔ keyS a b := by unfold rowS cmpS keyS; (repeat' split) <;> omega
theorem rowS_eq {a b : Pos} : rowS a b = 0 ↔ sameK a b := by unfold rowS cmpS sameK; (repeat' split) <;> omega
theorem rowS_gt {a b : Pos} : 0 < rowS a b ↔ keyS b a := by unfold rowS cmpS keyS; (repeat' split) <;> omega
structure PlaceS (l : List Pos) (p : Pos) (i : Nat) : Prop where
  le : i ≤ l.length
  lo : ∀ j x, j < i → l[j]? = some x → keyS x p
  hi : ∀ j x, i ≤ j → l[j]? = some x → ¬ keyS x p
theorem PlaceS.old {l : List Pos} {p x : Pos} {i : Nat} (h : PlaceS l p i) (hx : l[i]? = some x) (hs : sameK x p) : addS l p = l.set i (joinS x p) :=
  addS_old hx hs fun y hy => by
    obtain ⟨j, hj, he⟩ := List.mem_iff_getElem.1 hy
    rw [List.length_take] at hj
    rw [List.getElem_take] at he
    exact h.lo j y (by omega) (by rw [← he]; exact List.getElem?_eq_getElem _)
theorem PlaceS.new {l : List Pos} {p : Pos} {i : Nat} (h : PlaceS l p i) (hl : l.Pairwise keyS) (hn : ∀ x, l[i]? = some x → ¬ sameK x p) : addS l p = l.take i ++ p :: l.drop i := by
  refine addS_new h.le (fun y hy => ?_) (fun y hy => ?_)
  · obtain ⟨j, hj, he⟩ := List.mem_iff_getElem.1 hy
    rw [List.length_take] at hj
    rw [List.getElem_take] at he
    exact h.lo j y (by omega) (by rw [← he]; exact List.getElem?_eq_getElem _)
  · obtain ⟨j, hj, he⟩ := List.mem_iff_getElem.1 hy
    rw [List.getElem_drop] at he
    rw [List.length_drop] at hj
    have hy2 : l[i + j]? = some y := by rw [← he]; exact List.getElem?_eq_getElem _
    have h0 : l[i]? = some l[i] := List.getElem?_eq_getElem (by omega)
    have h1 := h.hi i _ (Nat.le_refl _) h0
    have h2 := hn _ h0
    have h3 : keyS p l[i] := by
      rcases keyS_tri l[i] p with h | h | h
      · exact absurd h h1
      · exact absurd h h2
      · exact h
    by_cases hj0 : j = 0
    · subst hj0
      rw [Nat.add_zero, h0] at hy2; injection hy2 with hy2; rw [← hy2]; exact h3
    · exact keyS_trans h3 (pwg_get hl (by omega) h0 hy2)
/-! ### what becomes of positions, case by case -/
theorem posR_form {l : List Pos} {p : List Opn} {t : List Lt} {e : Evt} (h : (eventR p t e).2.2 = 4 ∨ mayPs l = false) : posR l p t e = ([], 4) := by unfold posR; rw [if_pos h]
theorem posR_keep {l : List Pos} {p : List Opn} {t : List Lt} {e : Evt} (h : ¬ ((eventR p t e).2.2 = 4 ∨ mayPs l = false)) (k1 : e.kind ≠ 13) (k2 : e.kind ≠ 18) : posR l p t e = (l, 0) := by unfold posR; rw [if_neg h, if_neg k1, if_neg k2]
theorem posR_err {l : List Pos} {p : List Opn} {t : List Lt} {e : Evt} (h : ¬ ((eventR p t e).2.2 = 4 ∨ mayPs l = false)) (k : e.kind = 13 ∨ e.kind = 18) (hf : (eventR p t e).2.2 ≠ 0) : posR l p t e = ([], (eventR p t e).2.2) := by
  unfold posR; rw [if_neg h]
  by_cases k1 : e.kind = 13
  · rw [if_pos k1, if_pos hf]
  · rw [if_neg k1, if_pos (by omega), if_pos hf]
structure TradeN (p : List Opn) (e : Evt) (n0 n1 n2 n3 n4 : Int) (a b : Opn) : Prop where
  nums : e.nums = [n0, n1, n2, n3, n4]
  fa : findP p n0 = some a
  fb : findP p n1 = some b
  ma : (1 ≤ a.acct ∧ a.acct ≤ 64) ∧ (1 ≤ a.inst ∧ a.inst ≤ 16)
  mb : (1 ≤ b.acct ∧ b.acct ≤ 64) ∧ (1 ≤ b.inst ∧ b.inst ≤ 16)
  g2 : 1 ≤ n2 ∧ n2 ≤ 1073741824
  g3 : 1 ≤ n3 ∧ n3 ≤ 1048576
  g4 : 0 ≤ n4
  paid : 1 ≤ n2 * n3 ∧ n2 * n3 ≤ 1125899906842624
theorem trade_at {p : List Opn} {t : List Lt} {e : Evt} (h2 : (eventR p t e).2.2 = 0) (k1 : e.kind = 13) : ∃ n0 n1 n2 n3 n4 a b, TradeN p e n0 n1 n2 n3 n4 a b := by
  obtain ⟨⟨hM, hv, hE⟩, hd⟩ := event_ok h2
  rw [hd] at h2
  obtain ⟨n0, n1, n2, n3, n4, hn, g0, g1, g2, g3, g4⟩ := nums13 hE hv k1
  have e0 : nth e 0 = n0 := by simp [nth, hn]
  have e1 : nth e 1 = n1 := by simp [nth, hn]
  rcases done_cases hM hv hE h2 with ⟨k, _⟩ | ⟨k, _⟩ | ⟨_, hq3, a, b, f1, f2, f3, f4, f5, f6⟩ | ⟨k, _⟩ | ⟨k, _⟩ | ⟨k, _⟩ <;> try omega
  have ha := hM.2.2.2.1 a ((find_iff hM.2.2.2.2.1).1 f1).1
  have hb := hM.2.2.2.1 b ((find_iff hM.2.2.2.2.1).1 f2).1
  unfold MayO at ha hb
  have m1 : n2 * n3 ≤ 1073741824 * 1048576 := Int.mul_le_mul g2.2 g3.2 (by omega) (by omega)
  have m2 : 1 * 1 ≤ n2 * n3 := Int.mul_le_mul g2.1 g3.1 (by omega) (by omega)
  exact ⟨n0, n1, n2, n3, n4, a, b, hn, by rw [← e0]; exact f1, by rw [← e1]; exact f2, by omega, by omega, g2, g3, g4.1, by omega⟩
theorem posR_trade {l : List Pos} {p : List Opn} {t : List Lt} {e : Evt} {n0 n1 n2 n3 n4 : Int} {a b : Opn} (h : ¬ ((eventR p t e).2.2 = 4 ∨ mayPs l = false)) (h2 : (eventR p t e).2.2 = 0) (k1 : e.kind = 13) (hT : TradeN p e n0 n1 n2 n3 n4 a b) : posR l p t e = tradeS l a b n2 n3 n4 := by
  have hn := hT.nums
  have e0 : nth e 0 = n0 := by simp [nth, hn]
  have e1 : nth e 1 = n1 := by simp [nth, hn]
  have e2 : nth e 2 = n2 := by simp [nth, hn]
  have e3 : nth e 3 = n3 := by simp [nth, hn]
  have e4 : nth e 4 = n4 := by simp [nth, hn]
  unfold posR
  rw [if_neg h, if_pos k1, if_neg (by omega), e0, e1, e2, e3, e4, hT.fa, hT.fb]
  rfl
structure SoldN (t : List Lt) (e : Evt) (n0 n1 n2 n3 : Int) (x : Lt) : Prop where
  nums : e.nums = [n0, n1, n2, n3]
  fx : findT t n0 = some x
  mx : (1 ≤ x.seller ∧ x.seller ≤ 64) ∧ (1 ≤ x.inst ∧ x.inst ≤ 16) ∧ (1 ≤ x.qty ∧ x.qty ≤ 1048576)
  g1 : 1 ≤ n1 ∧ n1 ≤ 64
  g2 : 0 ≤ n2 ∧ n2 ≤ 1125899906842624
  g3 : 0 ≤ n3
theorem sold_at {p : List Opn} {t : List Lt} {e : Evt} (h2 : (eventR p t e).2.2 = 0) (k2 : e.kind = 18) : ∃ n0 n1 n2 n3 x, SoldN t e n0 n1 n2 n3 x := by
  obtain ⟨⟨hM, hv, hE⟩, hd⟩ := event_ok h2
  rw [hd] at h2
  obtain ⟨n0, n1, n2, n3, hn, g0, g1, g2, g3⟩ := nums18 hE hv k2
  have e0 : nth e 0 = n0 := by simp [nth, hn]
  have hx : ∃ x, findT t n0 = some x := by
    have hdd : doneR p t e = goneR p t e := by unfold doneR; rw [if_neg (show ¬ e.kind = 11 by omega), if_neg (show ¬ e.kind = 12 by omega), if_neg (show ¬ e.kind = 13 by omega), if_neg (show ¬ (e.kind = 14 ∨ e.kind = 16) by omega), if_pos (Or.inl k2)]
    rw [hdd] at h2
    unfold goneR at h2
    rw [e0] at h2
    cases hf : findT t n0 with
    | none => rw [hf] at h2; cases h2
    | some x => exact ⟨x, rfl⟩
  obtain ⟨x, hx⟩ := hx
  have hxm := hM.2.2.2.2.2 x ((findT_iff hM.2.2.1).1 hx).1
  unfold MayL at hxm
  exact ⟨n0, n1, n2, n3, x, hn, hx, by omega, by omega, by omega, by omega⟩
theorem posR_sold {l : List Pos} {p : List Opn} {t : List Lt} {e : Evt} {n0 n1 n2 n3 : Int} {x : Lt} (h : ¬ ((eventR p t e).2.2 = 4 ∨ mayPs l = false)) (h2 : (eventR p t e).2.2 = 0) (k2 : e.kind = 18) (hT : SoldN t e n0 n1 n2 n3 x) : posR l p t e = dealS l n1 x.seller x.inst x.qty n2 n3 := by
  have hn := hT.nums
  have e0 : nth e 0 = n0 := by simp [nth, hn]
  have e1 : nth e 1 = n1 := by simp [nth, hn]
  have e2 : nth e 2 = n2 := by simp [nth, hn]
  have e3 : nth e 3 = n3 := by simp [nth, hn]
  unfold posR
  rw [if_neg h, if_neg (by omega), if_pos k2, if_neg (by omega), e0, e1, e2, e3, hT.fx]
  rfl

abbrev KeyX := Fin 256 × Fin 256
def kk (a i : Int) : KeyX := (Fin.ofNat 256 a.toNat, Fin.ofNat 256 i.toNat)
theorem kk_inj {a i b j : Int} (ha : 0 ≤ a ∧ a ≤ 255) (hi : 0 ≤ i ∧ i ≤ 255) (hb : 0 ≤ b ∧ b ≤ 255) (hj : 0 ≤ j ∧ j ≤ 255) : kk a i = kk b j ↔ a = b ∧ i = j := by
  unfold kk
  rw [Prod.mk.injEq, Fin.ext_iff, Fin.ext_iff]
  show a.toNat % 256 = b.toNat % 256 ∧ i.toNat % 256 = j.toNat % 256 ↔ _
  omega
def sumP (x p : Pos) : Pos := ⟨p.acct, p.inst, x.bought + p.bought, x.sold + p.sold, x.spent + p.spent, x.got + p.got⟩
def z0 : Pos := ⟨0, 0, 0, 0, 0, 0⟩
def addM (m : List (KeyX × Pos)) (p : Pos) : List (KeyX × Pos) := putM m (kk p.acct p.inst) (sumP ((getM m (kk p.acct p.inst)).getD z0) p)
structure SumsOk (m : List (KeyX × Pos)) (l : List Pos) (B : Int) : Prop where
  nd : (m.map (·.1)).Nodup
  keys : ∀ e ∈ m, ∃ a i : Int, (1 ≤ a ∧ a ≤ 64) ∧ (1 ≤ i ∧ i ≤ 16) ∧ e.1 = kk a i
  get : ∀ a i : Int, (0 ≤ a ∧ a ≤ 255) → (0 ≤ i ∧ i ≤ 255) → getM m (kk a i) = findS l a i
  le : ∀ x ∈ l, x.bought ≤ B ∧ x.sold ≤ B ∧ x.spent ≤ B ∧ x.got ≤ B
theorem SumsOk.weaken {m : List (KeyX × Pos)} {l : List Pos} {B C : Int} (h : SumsOk m l B) (hB : B ≤ C) : SumsOk m l C := ⟨h.nd, h.keys, h.get, fun x hx => by have := h.le x hx; omega⟩
theorem sums_nil : SumsOk [] [] 0 := ⟨by simp, (fun e h => by cases h), (fun a i _ _ => rfl), (fun x h => by cases h)⟩
theorem putM_keys {m : List (KeyX × Pos)} {k : KeyX} {v : Pos} : ∀ e ∈ putM m k v, e.1 = k ∨ e ∈ m := by
  intro e he
  unfold putM at he
  split at he
  · obtain ⟨f, hf, rfl⟩ := List.mem_map.1 he
    by_cases h : f.1 = k
    · rw [if_pos h]; exact Or.inl rfl
    · rw [if_neg h]; exact Or.inr hf
  · rcases List.mem_append.1 he with h | h
    · exact Or.inr h
    · simp at h; subst h; exact Or.inl rfl
theorem putM_nd {m : List (KeyX × Pos)} {k : KeyX} {v : Pos} (h : (m.map (·.1)).Nodup) : ((putM m k v).map (·.1)).Nodup := by
  unfold putM
  split
  · rw [List.map_map]
    have : m.map ((fun e : KeyX × Pos => e.1) ∘ fun e => if e.1 = k then (k, v) else e) = m.map (·.1) := List.map_congr_left fun e _ => by
      by_cases h : e.1 = k <;> simp [h]
    rw [this]; exact h
  · rename_i hn
    have hnn : getM m k = none := by cases hg : getM m k with | none => rfl | some v => rw [hg] at hn; simp at hn
    rw [List.map_append, List.nodup_append]
    refine ⟨h, by simp, fun a ha b hb => ?_⟩
    simp at hb; subst hb
    obtain ⟨e, he, rfl⟩ := List.mem_map.1 ha
    exact getM_none.1 hnn e he
theorem sums_add {m : List (KeyX × Pos)} {l : List Pos} {p : Pos} {B : Int} (h : SumsOk m l B) (hl : MayPs l) (hp : OkS p) (h1 : p.bought ≤ 1125899906842624 ∧ p.sold ≤ 1125899906842624 ∧ p.spent ≤ 1125899906842624 ∧ p.got ≤ 1125899906842624) (hB : 0 ≤ B ∧ B + 1125899906842624 ≤ farS) : SumsOk (addM m p) (addS l p) (B + 1125899906842624) := by
  have ha : 0 ≤ p.acct ∧ p.acct ≤ 255 := by have := hp.1; omega
  have hi : 0 ≤ p.inst ∧ p.inst ≤ 255 := by have := hp.2.1; omega
  have hj : ∀ x ∈ l, joinS x p = ⟨x.acct, x.inst, x.bought + p.bought, x.sold + p.sold, x.spent + p.spent, x.got + p.got⟩ := fun x hx => by
    have := h.le x hx
    unfold joinS
    rw [more_sum (by omega), more_sum (by omega), more_sum (by omega), more_sum (by omega)]
  refine ⟨putM_nd h.nd, fun e he => ?_, fun a i ga gi => ?_, fun x hx => ?_⟩
  · rcases putM_keys e he with h2 | h2
    · exact ⟨p.acct, p.inst, hp.1, hp.2.1, h2⟩
    · exact h.keys e h2
  · rw [addM, getM_put, find_addS a i hl.1]
    by_cases hk : kk a i = kk p.acct p.inst
    · have he := (kk_inj ga gi ha hi).1 hk
      rw [if_pos hk, if_pos ⟨he.1.symm, he.2.symm⟩, h.get _ _ ha hi, ← he.1, ← he.2]
      congr 1
      cases hf : findS l a i with
      | none =>
        show sumP z0 p = p
        unfold sumP z0
        cases p; simp
      | some x =>
        obtain ⟨hx, hx1, hx2⟩ := findS_some hf
        show sumP x p = joinS x p
        rw [hj x hx]
        unfold sumP
        rw [hx1, hx2, he.1, he.2]
    · rw [if_neg hk, if_neg (fun e => hk ((kk_inj ga gi ha hi).2 ⟨e.1.symm, e.2.symm⟩)), h.get _ _ ga gi]
  · have hm := addS_may hl hp
    have hf := findS_mem hm.1 hx
    rw [find_addS _ _ hl.1] at hf
    have hpn := hp.2.2.1
    unfold NumS at hpn
    by_cases hk : p.acct = x.acct ∧ p.inst = x.inst
    · rw [if_pos hk] at hf
      cases hg : findS l x.acct x.inst with
      | none => rw [hg] at hf; injection hf with hf; change p = x at hf; subst hf; omega
      | some y =>
        rw [hg] at hf
        injection hf with hf
        obtain ⟨hy, _, _⟩ := findS_some hg
        have hyl := h.le y hy
        have hjy := hj y hy
        change joinS y p = x at hf
        rw [hjy] at hf
        subst hf
        simp only
        omega
    · rw [if_neg hk] at hf
      obtain ⟨hy, _, _⟩ := findS_some hf
      have := h.le x hy
      omega
theorem sums_len {m : List (KeyX × Pos)} {l : List Pos} {B : Int} (h : SumsOk m l B) (hl : MayPs l) : l.length = m.length := by
  have hr : ∀ x ∈ l, (0 ≤ x.acct ∧ x.acct ≤ 255) ∧ (0 ≤ x.inst ∧ x.inst ≤ 255) := fun x hx => by have := hl.2 x hx; unfold MayS at this; omega
  have hn : (l.map fun x => kk x.acct x.inst).Nodup := by
    rw [List.nodup_iff_pairwise_ne, List.pairwise_map]
    refine List.Pairwise.imp_of_mem (fun {x y} hx hy hk => ?_) hl.1
    intro e
    have := (kk_inj (hr x hx).1 (hr x hx).2 (hr y hy).1 (hr y hy).2).1 e
    unfold keyS at hk; omega
  have hp : (l.map fun x => kk x.acct x.inst).Perm (m.map (·.1)) := (List.perm_ext_iff_of_nodup hn h.nd).2 fun k => by
    constructor
    · intro hk
      obtain ⟨x, hx, rfl⟩ := List.mem_map.1 hk
      have hg := h.get _ _ (hr x hx).1 (hr x hx).2
      rw [findS_mem hl.1 hx] at hg
      exact List.mem_map.2 ⟨_, getM_mem hg, rfl⟩
    · intro hk
      obtain ⟨e, he, rfl⟩ := List.mem_map.1 hk
      obtain ⟨a, i, ha, hi, hk⟩ := h.keys e he
      have hg := h.get a i (by omega) (by omega)
      rw [← hk, (getM_some h.nd).2 (show (e.1, e.2) ∈ m from he)] at hg
      obtain ⟨hx, h1, h2⟩ := findS_some hg.symm
      exact List.mem_map.2 ⟨e.2, hx, by rw [h1, h2, hk]⟩
  have := hp.length_eq
  simpa using this
theorem sums_at {m : List (KeyX × Pos)} {l : List Pos} {B : Int} (h : SumsOk m l B) (hl : MayPs l) {x : Pos} (hx : x ∈ l) : getM m (kk x.acct x.inst) = some x := by
  have hr := hl.2 x hx
  unfold MayS at hr
  rw [h.get _ _ (by omega) (by omega), findS_mem hl.1 hx]

theorem elemS : ElemT Tryz.prog 22 39 6 48 := elem_of Tryz.underlying22 (by kernel_rfl) (by omega)
set_option maxRecDepth 20000 in
theorem indexf_S {xs : List Pos} {m : Nat} {ad : Option Addr} {cap : Nat} {w : World} (base : Nat) (p : Pos → Bool) (F : FuncId) (caps : Array Value) (he : entersB Tryz.prog F = true) (hbw : base ≤ w.heap.size) (hF : ∀ x, x ∈ xs → ∀ w', Below base w w' → Calls Tryz.prog F (#[] ++ [Value.agg (encS x).toArray].toArray ++ caps) w' fun e w'' => e = .returned (.bool (p x)) ∧ Below w'.heap.size w' w'') (hm : xs.length = m) (HS : SlR encS 6 w ad cap xs) : Calls Tryz.prog 48 #[.slice ad m cap, .func (.func F) #[] caps] w fun e w' => (∃ i, e = .returned (.int .i64 i) ∧ ((i = -1 ∧ ∀ x ∈ xs, p x = false) ∨ ∃ (k : Nat) (r : Pos), i = k ∧ xs[k]? = some r ∧ p r = true ∧ ∀ x ∈ xs.take k, p x = false)) ∧ Below w.heap.size w w' := by
  subst hm
  have hw := Below.refl w.heap.size w
  have hla := HS.le
  have hma := HS.max
  refine fn_enter 19 Tryz.func48 rfl rfl rfl ?_
  repeat' (first | (refine lw_pure rfl (pv_move rfl) ?_) | (refine lw_pure rfl (pv_assign rfl) ?_) | (refine is_cw ?_; first | (refine cw_seq ?_) | (refine cw_region ?_) | (refine cw_block ?_)) | (refine is_qw ?_; first | (with_reducible refine qw_then ?_)) | (refine lw_nil ?_) | ((refine is_bi ?_; first | (refine lw_pure rfl (pv_lenl (tS rfl) rfl) ?_))))
  refine cw_loop (σ := Nat) (fun k => [(0, .slice ad xs.length cap), (1, .func (.func F) #[] caps), (7, .int .i64 (xs.length : Nat)), (8, .int .i64 (k : Nat))]) (fun k wr => k ≤ xs.length ∧ Below w.heap.size w wr ∧ ∀ x ∈ xs.take k, p x = false) (fun k => xs.length - k) 0 (by repeat' (first | exact trivial | refine ⟨rfl, ?_⟩)) ⟨Nat.zero_le _, hw, by simp⟩ ?_
  clear hw
  rintro k wr ⟨hk, hw, hn⟩
  by_cases hlt : k < xs.length
  · have hxk : xs[k]? = some xs[k] := List.getElem?_eq_getElem hlt
    have hmem := List.getElem_mem hlt
    obtain ⟨ab, ao, rfl, -, -⟩ := HS.at (by intro h; rw [h] at hlt; simp at hlt)
    generalize xs[k] = x at hxk hmem
    repeat' (first | (refine lw_pure rfl (pv_move rfl) ?_) | (refine lw_pure rfl (pv_assign rfl) ?_) | (refine is_cw ?_; first | (refine cw_seq ?_) | (refine cw_region ?_) | (refine is_cd ?_; refine cw_true rfl (by first | assumption | exact decide_eq_true (by omega) | exact dec_notT (by omega)) ?_) | (refine cw_skip ?_) | (refine cw_block ?_)) | (refine is_qw ?_; first | (with_reducible refine qw_then ?_)) | (refine lw_nil ?_) | ((refine is_bin ?_; first | (refine lw_pure rfl (pv_lss rfl rfl) ?_))) | ((refine is_load ?_; first | (refine lw_pure rfl (pv_loada (tA rfl) rfl (by first | exact SlR.lda (HS.mono hw) hxk) (by rfl)) ?_))) | ((refine is_ia ?_; first | (refine lw_pure rfl (pv_ian (tS rfl) rfl rfl (by omega)) ?_))))
    refine lw_callv (f := F) rfl he rfl rfl (hF x hmem _ (hw.mono hbw)) ?_; rintro e w1 ⟨rfl, hb⟩; refine ⟨_, rfl, ?_⟩; replace hw := grow_trans hw hb; clear hb
    cases hp : p x with
    | true =>
      repeat' (first | (refine lw_pure rfl (pv_move rfl) ?_) | (refine lw_pure rfl (pv_assign rfl) ?_) | (refine is_cw ?_; first | (refine cw_seq ?_) | (refine cw_region ?_) | (refine cw_true rfl rfl ?_) | (refine cw_ret ?_)) | (refine is_qw ?_; first | (with_reducible refine qw_then ?_) | (with_reducible refine qw_then_ret ?_) | (with_reducible refine qw_in_ret ?_)) | (refine lw_nil ?_))
      exact qw_ret1 rfl rfl ⟨⟨_, rfl, Or.inr ⟨k, x, rfl, hxk, hp, hn⟩⟩, hw⟩
    | false =>
      repeat' (first | (refine lw_pure rfl (pv_move rfl) ?_) | (refine is_cw ?_; first | (refine cw_region ?_) | (refine cw_false rfl rfl ?_) | (refine cw_skip ?_)) | (refine is_qw ?_; first | (with_reducible refine qw_then ?_) | (with_reducible refine qw_in ?_)) | (refine lw_nil ?_) | ((refine is_bin ?_; first | (refine lw_pure rfl (pv_inc rfl rfl (by omega)) ?_))))
      refine qw_round (k + 1) (by repeat' (first | exact trivial | refine ⟨rfl, ?_⟩)) ⟨by omega, hw, ?_⟩ (by omega)
      intro y hy
      rw [List.take_add_one, hxk] at hy
      rcases List.mem_append.1 hy with hy | hy
      · exact hn y hy
      · simp at hy; subst hy; exact hp
  · have hkl : k = xs.length := by omega
    subst hkl
    rw [List.take_length] at hn
    repeat' (first | (refine lw_pure rfl (pv_assign rfl) ?_) | (refine is_cw ?_; first | (refine cw_seq ?_) | (refine cw_region ?_) | (refine is_cd ?_; refine cw_false rfl (by first | assumption | exact decide_eq_false (by omega) | exact dec_notF (by omega)) ?_) | (refine cw_exit ?_) | (refine cw_ret ?_)) | (refine is_qw ?_; first | (with_reducible refine qw_then ?_) | (with_reducible refine qw_in_hit ?_) | (with_reducible refine qw_then_exit ?_)) | (refine lw_nil ?_) | ((refine is_bin ?_; first | (refine lw_pure rfl (pv_lss rfl rfl) ?_))))
    exact qw_ret1 rfl rfl ⟨⟨_, rfl, Or.inl ⟨rfl, hn⟩⟩, hw⟩

set_option maxRecDepth 20000 in
theorem clone_S {xs : List Pos} {m : Nat} {ad : Option Addr} {cap : Nat} {w : World} (hm : xs.length = m) (HS : SlR encS 6 w ad cap xs) (hl : xs.length ≤ 1048576) : Calls Tryz.prog 44 #[.slice ad m cap] w fun e w' => (∃ v, e = .returned v ∧ Own encS 6 39 w.heap.size w' v xs) ∧ Below w.heap.size w w' := by
  subst hm
  have hw := Below.refl w.heap.size w
  refine fn_enter 8 Tryz.func44 rfl rfl rfl ?_
  cases ad with
  | none =>
    obtain ⟨rfl, rfl⟩ := HS.ofNone rfl
    repeat' (first | (refine lw_pure rfl (pv_move rfl) ?_) | (refine lw_pure rfl (pv_assign rfl) ?_) | (refine lw_pure rfl (pv_slnil (tS rfl) rfl rfl) ?_) | (refine is_cw ?_; first | (refine cw_seq ?_) | (refine cw_region ?_) | (refine cw_true rfl rfl ?_) | (refine cw_ret ?_)) | (refine is_qw ?_; first | (with_reducible refine qw_then ?_) | (with_reducible refine qw_then_ret ?_)) | (refine lw_nil ?_))
    exact qw_ret1 rfl rfl ⟨⟨_, rfl, Own.nil _⟩, hw⟩
  | some ad =>
    repeat' (first | (refine lw_pure rfl (pv_move rfl) ?_) | (refine lw_pure rfl (pv_assign rfl) ?_) | (refine lw_pure rfl (pv_slnil (tS rfl) rfl rfl) ?_) | (refine is_cw ?_; first | (refine cw_seq ?_) | (refine cw_region ?_) | (refine cw_false rfl rfl ?_) | (refine cw_skip ?_)) | (refine is_qw ?_; first | (with_reducible refine qw_then ?_)) | (refine lw_nil ?_))
    refine lw_bs0 (enc := encS) elemS rfl ?_; intro wn hO hb hz
    repeat' (first | (refine lw_pure rfl (pv_move rfl) ?_))
    refine lw_app elemS encS_len encS_one rfl rfl rfl hO (HS.mono (grow_trans hw hb)) rfl (by omega) (by simp; omega) (by simp [maxLen]; omega) ?_; intro vm wn hOm hg hb9
    replace hb := hb.trans hb9
    repeat' (first | (refine lw_pure rfl (pv_assign rfl) ?_) | (refine is_cw ?_; first | (refine cw_ret ?_)) | (refine is_qw ?_; first | (with_reducible refine qw_then ?_)) | (refine lw_nil ?_))
    exact qw_ret1 rfl rfl ⟨⟨_, rfl, hOm⟩, hb⟩

theorem neq_S (x y : Pos) (w : World) : (binOp .neq 39 (.agg (encS x).toArray) (.agg (encS y).toArray)).run Tryz.prog w = .ok (.bool (!decide (x = y))) w := by
  have hS : (Tryz.prog).underlying 39 = some (.struct ((Tryz.prog).fieldsOf 39)) := by kernel_rfl
  have hp : (Tryz.prog).stoodInHeld 39 = false := by kernel_rfl
  unfold encS
  rw [run_neq_struct, show (10000 : Nat) = 9999 + 1 from rfl, run_equalIn_agg w 9999 39 _ _ hS hp]
  have h : (decide (x = y)) = (x.acct == y.acct && (x.inst == y.inst && (x.bought == y.bought && (x.sold == y.sold && (x.spent == y.spent && x.got == y.got))))) := by
    rw [Bool.eq_iff_iff]
    cases x; cases y; simp
  rw [h]
  simp only [Program.fieldsOf, Tryz.underlying39]
  go_simp
  by_cases h1 : x.acct = y.acct <;> by_cases h2 : x.inst = y.inst <;> by_cases h3 : x.bought = y.bought <;> by_cases h4 : x.sold = y.sold <;> by_cases h5 : x.spent = y.spent <;> by_cases h6 : x.got = y.got <;> simp [*]
theorem eql_S (x y : Pos) (w : World) : (binOp .eql 39 (.agg (encS x).toArray) (.agg (encS y).toArray)).run Tryz.prog w = .ok (.bool (decide (x = y))) w := by
  have hS : (Tryz.prog).underlying 39 = some (.struct ((Tryz.prog).fieldsOf 39)) := by kernel_rfl
  have hp : (Tryz.prog).stoodInHeld 39 = false := by kernel_rfl
  unfold encS
  rw [run_eql_struct, show (10000 : Nat) = 9999 + 1 from rfl, run_equalIn_agg w 9999 39 _ _ hS hp]
  have h : (decide (x = y)) = (x.acct == y.acct && (x.inst == y.inst && (x.bought == y.bought && (x.sold == y.sold && (x.spent == y.spent && x.got == y.got))))) := by
    rw [Bool.eq_iff_iff]
    cases x; cases y; simp
  rw [h]
  simp only [Program.fieldsOf, Tryz.underlying39]
  go_simp
  by_cases h1 : x.acct = y.acct <;> by_cases h2 : x.inst = y.inst <;> by_cases h3 : x.bought = y.bought <;> by_cases h4 : x.sold = y.sold <;> by_cases h5 : x.spent = y.spent <;> by_cases h6 : x.got = y.got <;> simp [*]
theorem pv_neqS {n : Nat} {l : Fr} {w : World} {d : Option Nat} {t' ty : TypeId} {x y : Operand} {pos : String} {af : Array Edge} {g : Option (Nat × Bool)} (a b : Pos) (hx : ev l x = some (.agg (encS a).toArray)) (hy : ev l y = some (.agg (encS b).toArray)) : Pv Tryz.prog n l ⟨d, .binOp .neq 39 x y t', ty, pos, af, g⟩ (.bool (!decide (a = b))) w := ⟨fun A hA => by
  have h1 : (eqGuard .neq 39 x y (.agg (encS a).toArray) (.agg (encS b).toArray)).run Tryz.prog w = .ok () w := run_eqGuard_agg w .neq 39 x y _ _ (by kernel_rfl)
  have h2 := neq_S a b w
  simp [execOp, hA.ev hx, hA.ev hy, h1, h2]⟩
theorem pv_eqlS {n : Nat} {l : Fr} {w : World} {d : Option Nat} {t' ty : TypeId} {x y : Operand} {pos : String} {af : Array Edge} {g : Option (Nat × Bool)} (a b : Pos) (hx : ev l x = some (.agg (encS a).toArray)) (hy : ev l y = some (.agg (encS b).toArray)) : Pv Tryz.prog n l ⟨d, .binOp .eql 39 x y t', ty, pos, af, g⟩ (.bool (decide (a = b))) w := ⟨fun A hA => by
  have h1 : (eqGuard .eql 39 x y (.agg (encS a).toArray) (.agg (encS b).toArray)).run Tryz.prog w = .ok () w := run_eqGuard_agg w .eql 39 x y _ _ (by kernel_rfl)
  have h2 := eql_S a b w
  simp [execOp, hA.ev hx, hA.ev hy, h1, h2]⟩

set_option maxRecDepth 20000 in
theorem total_c (n : Int) (w : World) : Calls Tryz.prog 57 #[.int .i64 n] w fun e w' => e = .returned (.bool (decide (NumS n))) ∧ w = w' := by
  refine fn_enter 9 Tryz.func57 rfl rfl rfl ?_
  repeat' (first | (refine lw_pure rfl (pv_move rfl) ?_) | (refine lw_pure rfl (pv_assign rfl) ?_) | (refine is_cw ?_; first | (refine cw_seq ?_) | (refine cw_region ?_) | (refine cw_ret ?_)) | (refine is_qw ?_; first | (with_reducible refine qw_then ?_)) | (refine lw_nil ?_) | (refine is_guarded ?_; first | (refine lw_on rfl rfl (by first | assumption | exact decide_eq_true (by omega) | exact decide_eq_false (by omega) | exact dec_notT (by omega) | exact dec_notF (by omega)) ?_) | (refine lw_not rfl rfl rfl (by first | assumption | exact decide_eq_true (by omega) | exact decide_eq_false (by omega) | exact dec_notT (by omega) | exact dec_notF (by omega)) ?_) | (refine lw_gs_t rfl rfl rfl (fun hc => ?_) (fun hc => ?_) <;> (first | replace hc := of_decide_eq_true hc | replace hc := of_decide_eq_false hc | replace hc := dec_nT hc | replace hc := dec_nF hc | skip) <;> (try (exfalso; omega)))) | ((refine is_bin ?_; first | (refine lw_pure rfl (pv_leq rfl rfl) ?_) | (refine lw_pure rfl (pv_geq rfl rfl) ?_))) | (refine is_pk ?_; refine lw_pure rfl (pv_pick_t rfl (by first | assumption | exact decide_eq_true (by omega) | exact dec_notT (by omega)) rfl) ?_) | (refine is_pk ?_; refine lw_pure rfl (pv_pick_f rfl (by first | assumption | exact decide_eq_false (by omega) | exact dec_notF (by omega)) rfl) ?_))
  all_goals (refine qw_ret1 rfl rfl ⟨ret_bool ?_, rfl⟩; first | (rw [decide_eq_decide]; unfold NumS farS; omega) | (symm; rw [decide_eq_true_eq]; unfold NumS farS; omega) | (symm; rw [decide_eq_false_iff_not]; unfold NumS farS; omega))
theorem rowS_or (x y : Pos) : orI (cmpI x.acct y.acct) (cmpI x.inst y.inst) = rowS x y := rfl
set_option maxRecDepth 20000 in
theorem comp_d (x y : Pos) (w : World) : Calls Tryz.prog 58 #[.agg (encS x).toArray, .agg (encS y).toArray] w fun e w' => e = .returned (.int .i64 (rowS x y)) ∧ BelowD w w' := by
  have hE := BelowD.refl w
  refine fn_enter 17 Tryz.func58 rfl rfl rfl ?_
  refine cw_seq (cw_region ?_)
  refine lw_boxD rfl rfl (cs := encS x) rfl ?_; intro N1 wn hN1 HA hb
  replace hE := hE.trans hb
  refine lw_boxD rfl rfl (cs := encS y) rfl ?_; intro N2 wm hN2 HB hb2
  replace HA := HA.mono hb2.b
  replace hE := hE.trans hb2
  have hd := BelowD.refl wm
  have hw := hd.b
  repeat' (first | (refine lw_pure rfl (pv_assign rfl) ?_) | (refine is_cw ?_; first | (refine cw_seq ?_)) | (refine is_qw ?_; first | (with_reducible refine qw_then ?_)) | (refine lw_nil ?_))
  refine cw_drawn (fun w' => BelowD wm w') (by kernel_rfl) (by repeat (first | exact NoPanic.body | with_reducible refine NoPanic.then ?_ | with_reducible refine NoPanic.inBlock ?_)) (fun hNP => ?_)
  have hS := hd.drew
  (refine at0 0 rfl (fun w' hq => pv_fa (tF rfl) rfl) ?_)
  (refine at0 1 rfl (fun w' hq => pv_load (t1 rfl) rfl (by first | exact PT.ld0 (HA.mono hq.b) rfl | exact PT.ld (HA.mono hq.b) rfl | exact PT.ld0 (HB.mono hq.b) rfl | exact PT.ld (HB.mono hq.b) rfl)) ?_)
  (refine at0 2 rfl (fun w' hq => pv_fa (tF rfl) rfl) ?_)
  (refine at0 3 rfl (fun w' hq => pv_load (t1 rfl) rfl (by first | exact PT.ld0 (HA.mono hq.b) rfl | exact PT.ld (HA.mono hq.b) rfl | exact PT.ld0 (HB.mono hq.b) rfl | exact PT.ld (HB.mono hq.b) rfl)) ?_)
  (refine at0 5 rfl (fun w' hq => pv_fa (tF rfl) rfl) ?_)
  (refine at0 6 rfl (fun w' hq => pv_load (t1 rfl) rfl (by first | exact PT.ld0 (HA.mono hq.b) rfl | exact PT.ld (HA.mono hq.b) rfl | exact PT.ld0 (HB.mono hq.b) rfl | exact PT.ld (HB.mono hq.b) rfl)) ?_)
  (refine at0 7 rfl (fun w' hq => pv_fa (tF rfl) rfl) ?_)
  (refine at0 8 rfl (fun w' hq => pv_load (t1 rfl) rfl (by first | exact PT.ld0 (HA.mono hq.b) rfl | exact PT.ld (HA.mono hq.b) rfl | exact PT.ld0 (HB.mono hq.b) rfl | exact PT.ld (HB.mono hq.b) rfl)) ?_)
  refine aw_act 4 (by kernel_rfl) rfl rfl rfl ?_
  refine act_call (f := 92) (by kernel_rfl) rfl (cmp_c _ _ _) ?_; rintro e w1 ⟨rfl, rfl⟩; refine ⟨_, rfl, hS, fun hS => ?_⟩
  refine aw_act 9 (by kernel_rfl) rfl rfl rfl ?_
  refine act_call (f := 92) (by kernel_rfl) rfl (cmp_c _ _ _) ?_; rintro e w1 ⟨rfl, rfl⟩; refine ⟨_, rfl, hS, fun hS => ?_⟩
  refine aw_act 10 (by kernel_rfl) rfl rfl rfl ?_
  refine act_bsD (vs := [.int .i64 (cmpI x.acct y.acct), .int .i64 (cmpI x.inst y.inst)]) (cs := [.int .i64 (cmpI x.acct y.acct), .int .i64 (cmpI x.inst y.inst)]) elemN rfl rfl (by omega) (by omega) rfl (by simp [Value.cells]) rfl ?_; intro wb HC hb; refine ⟨hS.trans hb, fun hS => ?_⟩
  refine aw_act 11 (by kernel_rfl) rfl rfl rfl ?_
  refine act_call (f := 91) (by kernel_rfl) rfl (or_c _ _ _ _ HC) ?_; rintro e w1 ⟨rfl, rfl⟩; refine ⟨_, rfl, hS, fun hS => ?_⟩
  (refine at0 12 rfl (fun w' hq => pv_assign rfl) ?_)
  refine aw_done (by kernel_rfl) ?_
  replace hd := hS; have hw := hd.b; clear hS hNP
  repeat' (first | (refine is_cw ?_; first | (refine cw_ret ?_)) | (refine is_qw ?_; first | (with_reducible refine qw_then ?_)))
  exact qw_ret1 rfl rfl ⟨rfl, hE.trans hd⟩
theorem comp_c (x y : Pos) (w : World) : Calls Tryz.prog 58 #[.agg (encS x).toArray, .agg (encS y).toArray] w fun e w' => e = .returned (.int .i64 (rowS x y)) ∧ Below w.heap.size w w' := (comp_d x y w).mono fun _ _ h => ⟨h.1, h.2.b⟩
theorem comp_e {x y : Pos} {r : Int} (h : rowS x y = r) (w : World) : Calls Tryz.prog 58 #[.agg (encS x).toArray, .agg (encS y).toArray] w fun e w' => e = .returned (.int .i64 r) ∧ Below w.heap.size w w' := by subst h; exact comp_c x y w
set_option maxRecDepth 20000 in
theorem equal_S {p q : List Pos} {m n : Nat} {a b : Option Addr} {ca cb : Nat} {w : World} (hm : p.length = m) (hn : q.length = n) (HP : SlR encS 6 w a ca p) (HQ : SlR encS 6 w b cb q) : Calls Tryz.prog 59 #[.slice a m ca, .slice b n cb] w fun e w' => e = .returned (.bool (decide (p = q))) ∧ Below w.heap.size w w' := by
  subst hm hn
  have hw := Below.refl w.heap.size w
  have hca := HP.le
  have hcm := HP.max
  refine fn_enter 26 Tryz.func59 rfl rfl rfl ?_
  by_cases hl : p.length = q.length
  · repeat' ((fail_if_success (refine is_seqb ?_)); (fail_if_success (refine is_blk ?_)); first | (refine lw_pure rfl (pv_move rfl) ?_) | (refine lw_pure rfl (pv_assign rfl) ?_) | (refine is_cw ?_; first | (refine cw_seq ?_) | (refine cw_region ?_) | (refine is_cd ?_; refine cw_false rfl (by first | assumption | exact decide_eq_false (by omega) | exact dec_notF (by omega)) ?_) | (refine cw_skip ?_)) | (refine is_qw ?_; first | (with_reducible refine qw_then ?_)) | (refine lw_nil ?_) | ((refine is_bin ?_; first | (refine lw_pure rfl (pv_neq rfl rfl) ?_))) | ((refine is_bi ?_; first | (refine lw_pure rfl (pv_lenl (tS rfl) rfl) ?_))))
    repeat' (first | (refine is_cw ?_; first | (refine cw_block ?_)))
    refine cw_loop (σ := Nat) (fun k => [(0, .slice a p.length ca), (1, .slice b q.length cb), (12, .int .i64 (p.length : Nat)), (13, .int .i64 (k : Nat))]) (fun k wr => k ≤ p.length ∧ Below w.heap.size w wr ∧ ∀ j, j < k → p[j]? = q[j]?) (fun k => p.length - k) 0 (by repeat' (first | exact trivial | refine ⟨rfl, ?_⟩)) ⟨Nat.zero_le _, hw, by omega⟩ ?_
    clear hw
    rintro k wr ⟨hk, hw, hn⟩
    by_cases hlt : k < p.length
    · have hxk : p[k]? = some p[k] := List.getElem?_eq_getElem hlt
      have hyk : q[k]? = some (q[k]'(by omega)) := List.getElem?_eq_getElem _
      obtain ⟨ab, ao, rfl, -, -⟩ := HP.at (by intro h; rw [h] at hlt; simp at hlt)
      obtain ⟨bb, bo, rfl, -, -⟩ := HQ.at (by intro h; rw [h] at hl; rw [hl] at hlt; simp at hlt)
      generalize p[k] = x at hxk
      generalize q[k] = y at hyk
      repeat' (first | (refine lw_pure rfl (pv_move rfl) ?_) | (refine lw_pure rfl (pv_assign rfl) ?_) | (refine is_cw ?_; first | (refine cw_seq ?_) | (refine cw_region ?_) | (refine is_cd ?_; refine cw_true rfl (by first | assumption | exact decide_eq_true (by omega) | exact dec_notT (by omega)) ?_) | (refine cw_skip ?_) | (refine cw_block ?_)) | (refine is_qw ?_; first | (with_reducible refine qw_then ?_)) | (refine lw_nil ?_) | ((refine is_bin ?_; first | (refine lw_pure rfl (pv_lss rfl rfl) ?_))))
      refine cw_drawn (fun w' => Below w.heap.size w w') (by kernel_rfl) (by repeat (first | exact NoPanic.body | with_reducible refine NoPanic.then ?_ | with_reducible refine NoPanic.inBlock ?_)) (fun hNP => ?_)
      have hS := hw.drew
      (refine at0 0 rfl (fun w' hq => pv_move rfl) ?_)
      (refine at0 1 rfl (fun w' hq => pv_move rfl) ?_)
      (refine at0 2 rfl (fun w' hq => pv_ian (tS rfl) rfl rfl (by omega)) ?_)
      (refine at0 3 rfl (fun w' hq => pv_loada (tA rfl) rfl (by first | exact SlR.lda (HP.mono hq) hxk | exact SlR.lda (HQ.mono hq) hyk) (by rfl)) ?_)
      (refine at0 4 rfl (fun w' hq => pv_move rfl) ?_)
      (refine at0 5 rfl (fun w' hq => pv_move rfl) ?_)
      (refine at0 6 rfl (fun w' hq => pv_ian (tS rfl) rfl rfl (by omega)) ?_)
      (refine at0 7 rfl (fun w' hq => pv_loada (tA rfl) rfl (by first | exact SlR.lda (HP.mono hq) hxk | exact SlR.lda (HQ.mono hq) hyk) (by rfl)) ?_)
      (refine at0 8 rfl (fun w' hq => pv_neqS _ _ rfl rfl) ?_)
      refine aw_done (by kernel_rfl) ?_
      replace hw := hS; clear hS hNP
      by_cases hxy : x = y
      · repeat' (first | (refine lw_pure rfl (pv_move rfl) ?_) | (refine is_cw ?_; first | (refine cw_region ?_) | (refine is_cd ?_; refine cw_false rfl (by first | assumption | exact decide_eq_false (by omega) | exact dec_notF (by omega)) ?_) | (refine cw_skip ?_)) | (refine is_qw ?_; first | (with_reducible refine qw_then ?_) | (with_reducible refine qw_in ?_)) | (refine lw_nil ?_) | ((refine is_bin ?_; first | (refine lw_pure rfl (pv_inc rfl rfl (by omega)) ?_))))
        refine qw_round (k + 1) (by repeat' (first | exact trivial | refine ⟨rfl, ?_⟩)) ⟨by omega, hw, ?_⟩ (by omega)
        intro j hj
        by_cases hjk : j = k
        · subst hjk; rw [hxk, hyk, hxy]
        · exact hn j (by omega)
      · repeat' (first | (refine lw_pure rfl (pv_assign rfl) ?_) | (refine is_cw ?_; first | (refine cw_seq ?_) | (refine cw_region ?_) | (refine is_cd ?_; refine cw_true rfl (by first | assumption | exact decide_eq_true (by omega) | exact dec_notT (by omega)) ?_) | (refine cw_ret ?_)) | (refine is_qw ?_; first | (with_reducible refine qw_then ?_) | (with_reducible refine qw_then_ret ?_) | (with_reducible refine qw_in_ret ?_)) | (refine lw_nil ?_))
        refine qw_ret1 rfl rfl ⟨ret_bool ?_, hw⟩
        symm; rw [decide_eq_false_iff_not]; rintro rfl
        rw [hxk] at hyk; injection hyk with hyk; exact hxy hyk
    · have hkl : k = p.length := by omega
      subst hkl
      have he : p = q := List.ext_getElem? fun j => by
        by_cases hj : j < p.length
        · exact hn j hj
        · rw [List.getElem?_eq_none (by omega), List.getElem?_eq_none (by omega)]
      repeat' (first | (refine lw_pure rfl (pv_assign rfl) ?_) | (refine is_cw ?_; first | (refine cw_seq ?_) | (refine cw_region ?_) | (refine is_cd ?_; refine cw_false rfl (by first | assumption | exact decide_eq_false (by omega) | exact dec_notF (by omega)) ?_) | (refine cw_exit ?_) | (refine cw_ret ?_)) | (refine is_qw ?_; first | (with_reducible refine qw_then ?_) | (with_reducible refine qw_in_hit ?_) | (with_reducible refine qw_then_exit ?_)) | (refine lw_nil ?_) | ((refine is_bin ?_; first | (refine lw_pure rfl (pv_lss rfl rfl) ?_))))
      exact qw_ret1 rfl rfl ⟨ret_bool (by simp [he]), hw⟩
  · repeat' (first | (refine lw_pure rfl (pv_move rfl) ?_) | (refine lw_pure rfl (pv_assign rfl) ?_) | (refine is_cw ?_; first | (refine cw_seq ?_) | (refine cw_region ?_) | (refine is_cd ?_; refine cw_true rfl (by first | assumption | exact decide_eq_true (by omega) | exact dec_notT (by omega)) ?_) | (refine cw_ret ?_)) | (refine is_qw ?_; first | (with_reducible refine qw_then ?_) | (with_reducible refine qw_then_ret ?_)) | (refine lw_nil ?_) | ((refine is_bin ?_; first | (refine lw_pure rfl (pv_neq rfl rfl) ?_))) | ((refine is_bi ?_; first | (refine lw_pure rfl (pv_lenl (tS rfl) rfl) ?_))))
    exact qw_ret1 rfl rfl ⟨ret_bool (by symm; rw [decide_eq_false_iff_not]; rintro rfl; exact hl rfl), hw⟩
set_option maxRecDepth 20000 in
theorem same_S {p q : List Pos} {m n : Nat} {a b : Option Addr} {ca cb : Nat} {w : World} (hm : p.length = m) (hn : q.length = n) (HP : SlR encS 6 w a ca p) (HQ : SlR encS 6 w b cb q) : Calls Tryz.prog 38 #[.slice a m ca, .slice b n cb] w fun e w' => e = .returned (.bool (decide (p = q))) ∧ Below w.heap.size w w' := by
  have hw := Below.refl w.heap.size w
  refine fn_enter 8 Tryz.func38 rfl rfl rfl ?_
  repeat' (first | (refine lw_pure rfl (pv_move rfl) ?_) | (refine lw_pure rfl (pv_assign rfl) ?_) | (refine lw_call (f := 59) (by kernel_rfl) rfl rfl (equal_S hm hn (HP.mono hw) (HQ.mono hw)) ?_; rintro e w1 ⟨rfl, hb⟩; refine ⟨_, rfl, ?_⟩; replace hw := grow_trans hw hb; clear hb) | (refine is_cw ?_; first | (refine cw_seq ?_) | (refine cw_region ?_) | (refine cw_ret ?_)) | (refine is_qw ?_; first | (with_reducible refine qw_then ?_)) | (refine lw_nil ?_))
  exact qw_ret1 rfl rfl ⟨rfl, hw⟩
theorem same_t {p : List Pos} {m n : Nat} {a b : Option Addr} {ca cb : Nat} {w : World} (hm : p.length = m) (hn : p.length = n) (HP : SlR encS 6 w a ca p) (HQ : SlR encS 6 w b cb p) : Calls Tryz.prog 38 #[.slice a m ca, .slice b n cb] w fun e w' => e = .returned (.bool true) ∧ Below w.heap.size w w' := (same_S hm hn HP HQ).mono fun _ _ h => ⟨by rw [h.1]; simp, h.2⟩
set_option maxRecDepth 20000 in
theorem getF_c (o : Pos) (a i : Int) (N M : Nat) (w : World) (h : PT w N 3 [.int .i64 a]) (h2 : PT w M 3 [.int .i64 i]) : Calls Tryz.prog 49 #[.agg (encS o).toArray, .pointer (some ⟨N, 0, none⟩), .pointer (some ⟨M, 0, none⟩)] w fun e w' => e = .returned (.bool (hasS a i o)) ∧ Below w.heap.size w w' := by
  have hE := Ext.refl w
  have hw := Below.refl w.heap.size w
  refine fn_enter 15 Tryz.func49 rfl rfl rfl ?_
  repeat' (first | (refine is_cw ?_; first | (refine cw_seq ?_) | (refine cw_region ?_)))
  refine lw_boxN rfl rfl (cs := encS o) rfl ?_; intro N1 wn hN HA hb
  replace hw := grow_trans hw hb
  clear hb
  replace hE := hE.mono hw; replace h := h.mono hw; replace h2 := h2.mono hw; clear hw; have hw := Below.refl wn.heap.size wn
  repeat' (first | (refine lw_pure rfl (pv_move rfl) ?_) | (refine lw_pure rfl (pv_assign rfl) ?_) | (refine is_cw ?_; first | (refine cw_seq ?_) | (refine cw_region ?_) | (refine cw_ret ?_)) | (refine is_qw ?_; first | (with_reducible refine qw_then ?_)) | (refine lw_nil ?_) | (refine is_guarded ?_; first | (refine lw_on rfl rfl (by first | assumption | exact decide_eq_true (by omega) | exact decide_eq_false (by omega) | exact dec_notT (by omega) | exact dec_notF (by omega)) ?_) | (refine lw_not rfl rfl rfl (by first | assumption | exact decide_eq_true (by omega) | exact decide_eq_false (by omega) | exact dec_notT (by omega) | exact dec_notF (by omega)) ?_) | (refine lw_gs_t rfl rfl rfl (fun hc => ?_) (fun hc => ?_) <;> (first | replace hc := of_decide_eq_true hc | replace hc := of_decide_eq_false hc | replace hc := dec_nT hc | replace hc := dec_nF hc | skip) <;> (try (exfalso; omega)))) | ((refine is_bin ?_; first | (refine lw_pure rfl (pv_eql rfl rfl) ?_))) | ((refine is_load ?_; first | (refine lw_pure rfl (pv_load (t1 rfl) rfl (by first | exact PT.ld0 (HA.mono hw) rfl | exact PT.ld (HA.mono hw) rfl | exact PT.ld0 (h.mono hw) rfl | exact PT.ld (h.mono hw) rfl | exact PT.ld0 (h2.mono hw) rfl | exact PT.ld (h2.mono hw) rfl)) ?_))) | ((refine is_fa ?_; first | (refine lw_pure rfl (pv_fa (tF rfl) rfl) ?_))) | (refine is_pk ?_; refine lw_pure rfl (pv_pick_t rfl (by first | assumption | exact decide_eq_true (by omega) | exact dec_notT (by omega)) rfl) ?_) | (refine is_pk ?_; refine lw_pure rfl (pv_pick_f rfl (by first | assumption | exact decide_eq_false (by omega) | exact dec_notF (by omega)) rfl) ?_))
  all_goals (refine qw_ret1 rfl rfl ⟨ret_bool ?_, (hE.mono hw).b⟩; unfold hasS; first | (rw [decide_eq_decide]; omega) | (symm; rw [decide_eq_true_eq]; omega) | (symm; rw [decide_eq_false_iff_not]; omega))
set_option maxRecDepth 20000 in
theorem get_c {l : List Pos} {m : Nat} {a : Option Addr} {ca : Nat} {w : World} (ac i : Int) (hm : l.length = m) (HP : SlR encS 6 w a ca l) : Calls Tryz.prog 18 #[.slice a m ca, .int .i64 ac, .int .i64 i] w fun e w' => e = .returned (.agg (encS (getS l ac i)).toArray) ∧ Below w.heap.size w w' := by
  subst hm
  have hE := Ext.refl w
  have hw := Below.refl w.heap.size w
  have hca := HP.le
  have hcm := HP.max
  refine fn_enter 20 Tryz.func18 rfl rfl rfl ?_
  repeat' (first | (refine is_cw ?_; first | (refine cw_seq ?_) | (refine cw_region ?_)))
  refine lw_boxN rfl rfl (cs := [.int .i64 ac]) rfl ?_; intro N1 w1 hN1 HA hb
  replace hw := grow_trans hw hb
  clear hb
  refine lw_boxN rfl rfl (cs := [.int .i64 i]) rfl ?_; intro N2 w2 hN2 HB hb
  replace HA := HA.mono hb
  replace hw := grow_trans hw hb
  clear hb
  refine lw_allocN rfl (by first | exact tyv_27 | exact tyv_28 | exact tyv_38 | exact tyv_39 | exact tyv_48 | exact tyv_49 | exact tyv_52 | exact tyv_53 | exact tyv_68 | exact tyv_69 | exact tyv_79 | exact tyv_80 | exact tyv_94 | exact tyv_95 | exact tyv_131 | exact tyv_132) rfl ?_; intro N3 w3 hN3 H hb
  replace hN3 : w.heap.size ≤ N3 := Nat.le_trans hw.size hN3
  replace HA := HA.mono hb
  replace HB := HB.mono hb
  replace hw := grow_trans hw hb
  clear hb
  replace hE := hE.mono hw; replace HP := HP.mono hw; clear hw; have hw := Below.refl w3.heap.size w3
  repeat' (first | (refine lw_pure rfl (pv_move rfl) ?_) | (refine is_cw ?_; first | (refine cw_seq ?_) | (refine cw_region ?_)) | (refine is_qw ?_; first | (with_reducible refine qw_then ?_)) | (refine lw_nil ?_) | (refine lw_pure rfl (pv_makeFunc rfl rfl) ?_))
  refine lw_call (f := 48) (by kernel_rfl) rfl rfl (indexf_S w3.heap.size (hasS ac i) 49 #[.pointer (some ⟨N1, 0, none⟩), .pointer (some ⟨N2, 0, none⟩)] (by kernel_rfl) (Nat.le_refl _) (fun x _ w' hb => by simpa using getF_c x ac i N1 N2 w' (HA.mono hb) (HB.mono hb)) rfl HP) ?_; rintro e w4 ⟨⟨j, rfl, hi⟩, hb⟩; refine ⟨_, rfl, ?_⟩
  replace hE := hE.mono hb
  replace HP := HP.mono hb
  replace HA := HA.mono hb
  replace HB := HB.mono hb
  replace H := H.mono hb
  clear hb hw
  have hw := Below.refl w4.heap.size w4
  rcases hi with ⟨rfl, hn⟩ | ⟨k, r, rfl, hxk, hr, hn⟩
  · have hf : getS l ac i = zS ac i := by unfold getS findS; rw [find_none hn]; rfl
    rw [hf]
    repeat' (first | (refine lw_pure rfl (pv_move rfl) ?_) | (refine lw_pure rfl (pv_assign rfl) ?_) | (refine is_cw ?_; first | (refine cw_seq ?_) | (refine cw_region ?_) | (refine cw_true rfl rfl ?_)) | (refine is_qw ?_; first | (with_reducible refine qw_then ?_)) | (refine lw_nil ?_) | ((refine is_bin ?_; first | (refine lw_pure rfl (pv_lss rfl rfl) ?_))) | ((refine is_load ?_; first | (refine lw_pure rfl (pv_load (t1 rfl) rfl (by first | exact PT.ld0 (HA.mono hw) rfl | exact PT.ld (HA.mono hw) rfl | exact PT.ld0 (HB.mono hw) rfl | exact PT.ld (HB.mono hw) rfl)) ?_))) | ((refine is_bd ?_; first | (refine lw_pure rfl (tyB_39 rfl rfl rfl) ?_))))
    refine lw_storea (vs := encS (zS ac i)) H (tZ rfl) rfl rfl rfl rfl (encS_one _) ?_; intro w5 H2 hg hz
    replace hE := hE.grown hg (by intro q hq; injection hq with hq; omega)
    have hw := Below.refl w5.heap.size w5
    repeat' (first | (refine is_cw ?_; first | (refine cw_ret ?_)) | (refine is_qw ?_; first | (with_reducible refine qw_then ?_) | (with_reducible refine qw_then_ret ?_)) | (refine lw_nil ?_))
    exact qw_retc rfl rfl (agg_ld (tA rfl) rfl (fun i u hu => H2.ld0 hu)) ⟨rfl, hE.b⟩
  · have hf : getS l ac i = r := by unfold getS findS; rw [find_at hxk hr hn]; rfl
    have hlt : k < l.length := (List.getElem?_eq_some_iff.1 hxk).1
    obtain ⟨ab, ao, rfl, -, -⟩ := HP.at (by intro h; rw [h] at hlt; simp at hlt)
    rw [hf]
    repeat' (first | (refine lw_pure rfl (pv_move rfl) ?_) | (refine lw_pure rfl (pv_assign rfl) ?_) | (refine is_cw ?_; first | (refine cw_seq ?_) | (refine cw_region ?_) | (refine cw_false rfl rfl ?_) | (refine cw_skip ?_)) | (refine is_qw ?_; first | (with_reducible refine qw_then ?_)) | (refine lw_nil ?_) | ((refine is_bin ?_; first | (refine lw_pure rfl (pv_lss rfl rfl) ?_))) | ((refine is_load ?_; first | (refine lw_pure rfl (pv_loada (tA rfl) rfl (by first | exact SlR.lda (HP.mono hw) hxk) (by rfl)) ?_))) | ((refine is_ia ?_; first | (refine lw_pure rfl (pv_ian (tS rfl) rfl rfl (by omega)) ?_))))
    refine lw_storea (vs := encS r) (H.mono hw) (tZ rfl) rfl rfl rfl rfl (encS_one _) ?_; intro w5 H2 hg hz
    replace hE := (hE.mono hw).grown hg (by intro q hq; injection hq with hq; omega)
    clear hw
    have hw := Below.refl w5.heap.size w5
    repeat' (first | (refine is_cw ?_; first | (refine cw_ret ?_)) | (refine is_qw ?_; first | (with_reducible refine qw_then ?_)) | (refine lw_nil ?_))
    exact qw_retc rfl rfl (agg_ld (tA rfl) rfl (fun i u hu => H2.ld0 hu)) ⟨rfl, hE.b⟩
theorem total_e {n : Int} {b : Bool} (h : decide (NumS n) = b) (w : World) : Calls Tryz.prog 57 #[.int .i64 n] w fun e w' => e = .returned (.bool b) ∧ w = w' := by subst h; exact total_c n w

theorem run_copy_k (P : Program) (w : World) (dT sT ty elem : TypeId) {k : Nat} (g o dLen dCap : Nat) (a : Addr) (sLen sCap : Nat) (cur : Array Value) (t : TypeId) (cs : List Value)
    (hu : P.underlying dT = some (.slice elem)) (hs : (P.info? elem).map (·.size) = some k)
    (hg : w.heap[g]? = some (.cells cur t (0, 0))) (hn : cs.length = Nat.min sLen dLen * k)
    (hsrc : ∀ j v, cs[j]? = some v → w.cell? (a.add j) = some v) (hfit : o + cs.length ≤ cur.size) (h1 : ∀ v ∈ cs, v.oneCell' = true) :
    (Builtin.copy_ #[dT, sT] ty #[.slice (some ⟨g, o, none⟩) dLen dCap, .slice (some a) sLen sCap]).run P w =
      .ok (goInt (Nat.min sLen dLen)) (w.setRow g (cur.toList.take o ++ cs ++ cur.toList.drop (o + cs.length)).toArray) := by
  have hl := run_loadCells_list (P := P) w a cs hsrc
  have hst := run_storeCells_at P g o t cs 0 cur w hg (by simpa using hfit) h1
  cases hq : P.info? elem with
  | none => simp [hq] at hs
  | some i =>
    have hi : i.size = k := by simpa [hq] using hs
    simp [Builtin.copy_, run_underlying hu, Builtin.lenOf, Builtin.firstCells, sizeOf, typeInfo, hq, hi, ← hn, hl, hst]
theorem run_copy_zero (P : Program) (w : World) (dT sT ty elem : TypeId) {k : Nat} (d a : Option Addr) (dLen dCap sLen sCap : Nat) (hu : P.underlying dT = some (.slice elem)) (hs : (P.info? elem).map (·.size) = some k) (hn : Nat.min sLen dLen = 0) :
    (Builtin.copy_ #[dT, sT] ty #[.slice d dLen dCap, .slice a sLen sCap]).run P w = .ok (goInt 0) w := by
  cases hq : P.info? elem with
  | none => simp [hq] at hs
  | some i =>
    have hl0 : ∀ ad : Addr, (loadCells ad 0).run P w = .ok #[] w := fun ad => run_loadCells_list (P := P) w ad [] (by simp)
    cases a with
    | none => cases d <;> simp [Builtin.copy_, run_underlying hu, Builtin.lenOf, Builtin.firstCells, sizeOf, typeInfo, hq, hn, storeCells]
    | some a => cases d <;> simp [Builtin.copy_, run_underlying hu, Builtin.lenOf, Builtin.firstCells, sizeOf, typeInfo, hq, hn, storeCells, hl0]
theorem copy_some {P : Program} {w : World} {dT sT ty elem : TypeId} {k : Nat} (hu : P.underlying dT = some (.slice elem)) (hs : (P.info? elem).map (·.size) = some k) (_hk : 0 < k) {dp sp : Option Addr} {dLen dCap sLen sCap g off : Nat} {cur cs : List Value} {t : TypeId} (hg : w.heap[g]? = some (.cells cur.toArray t (0, 0))) (hn : cs.length = Nat.min sLen dLen * k)
    (hpos : 0 < Nat.min sLen dLen → dp = some ⟨g, off, none⟩ ∧ ∃ ad, sp = some ad ∧ ∀ j v, cs[j]? = some v → w.cell? (ad.add j) = some v) (hfit : off + cs.length ≤ cur.length) (h1 : ∀ v ∈ cs, v.oneCell' = true) :
    ∃ v w', (Builtin.copy_ #[dT, sT] ty #[.slice dp dLen dCap, .slice sp sLen sCap]).run P w = .ok v w' ∧ w'.heap[g]? = some (.cells (splice cur off cs).toArray t (0, 0)) ∧ w.grownBy w' (some g) := by
  by_cases h0 : Nat.min sLen dLen = 0
  · have hc : cs = [] := List.eq_nil_of_length_eq_zero (by rw [hn, h0, Nat.zero_mul])
    subst hc
    exact ⟨_, w, run_copy_zero P w dT sT ty elem dp sp dLen dCap sLen sCap hu hs h0, by simpa [splice] using hg, ⟨rfl, rfl, rfl, Nat.le_refl _, fun _ _ _ => rfl⟩⟩
  · obtain ⟨rfl, ad, rfl, hsrc⟩ := hpos (by omega)
    refine ⟨_, _, run_copy_k P w dT sT ty elem g off dLen dCap ad sLen sCap cur.toArray t cs hu hs hg hn hsrc (by simpa using hfit) h1, ?_, ⟨rfl, rfl, rfl, by simp, fun q hq hne => setRow_other w g q _ (fun e => hne (by rw [e]))⟩⟩
    simpa [splice] using setRow_heap w g _ _ t _ hg
def waitsT (ops : Array Oper) : Nat → Nat → Nat → Bool
  | 0, _, _ => false
  | m + 1, f, i => match ops[f]? with
    | some o => o.after.toList.any fun e => Region.binds .any e && (Nat.beq e.on i || waitsT ops m e.on i)
    | none => false
def ClosedL (ops : Array Oper) (listed : Array Bool) : Prop := ∀ (j : Nat) (o : Oper), ops[j]? = some o → listed.getD j false = true → ∀ e ∈ o.after, Region.binds .any e = true → listed.getD e.on false = true
def closedB (ops : Array Oper) (listed : Array Bool) : Bool := (List.range ops.size).all fun j => match ops[j]? with
  | some o => !listed.getD j false || o.after.toList.all fun e => !Region.binds .any e || listed.getD e.on false
  | none => true
theorem closed_of {ops : Array Oper} {listed : Array Bool} (h : closedB ops listed = true) : ClosedL ops listed := fun j o ho hl e he hb => by
  have hj : j < ops.size := (Array.getElem?_eq_some_iff.1 ho).1
  have h1 := List.all_eq_true.1 h j (List.mem_range.2 hj)
  rw [ho] at h1
  dsimp only at h1
  rw [hl] at h1
  simp only [Bool.not_true, Bool.false_or] at h1
  have h2 := List.all_eq_true.1 h1 e (by simpa using he)
  rw [hb] at h2
  simpa using h2
theorem ClosedL.step {ops : Array Oper} {listed : Array Bool} (h : ClosedL ops listed) {i : Nat} (hi : i ∈ Region.ready .any ops listed) : ClosedL ops (listed.setIfInBounds i true) := fun j o ho hl e he hb => by
  by_cases hij : i = j
  · subst hij
    obtain ⟨_, o', ho', hall⟩ := mem_ready.1 hi
    rw [ho] at ho'; injection ho' with ho'; subst ho'
    exact getD_set_true (hall e he hb)
  · rw [getD_set_ne false hij] at hl
    exact getD_set_true (h j o ho hl e he hb)
theorem waitsT_listed {ops : Array Oper} {listed : Array Bool} (hc : ClosedL ops listed) : ∀ {m f i : Nat}, waitsT ops m f i = true → (∀ o, ops[f]? = some o → ∀ e ∈ o.after, Region.binds .any e = true → listed.getD e.on false = true) → listed.getD i false = true
  | 0, _, _, h, _ => by cases h
  | m + 1, f, i, h, hf => by
    unfold waitsT at h
    cases ho : ops[f]? with
    | none => rw [ho] at h; cases h
    | some o =>
      rw [ho] at h
      rw [List.any_eq_true] at h
      obtain ⟨e, he, h2⟩ := h
      rw [Bool.and_eq_true] at h2
      have hl := hf o ho e (by simpa using he) h2.1
      rcases (Bool.or_eq_true _ _).mp h2.2 with h3 | h3
      · rw [← Nat.eq_of_beq_eq_true h3]; exact hl
      · exact waitsT_listed hc h3 fun o' ho' e' he' hb' => hc e.on o' ho' hl e' he' hb'
section
variable {P : Program} {ops : Array Oper} {Q : Exit → Act → World → Prop} {U : World → Prop} {f : Nat}
theorem wpAnyF_firstT {i : Nat} {oi : Oper} {v : Value} {m : Nat} (hif : i ≠ f) (hwait : waitsT ops m f i = true) (hi : ops[i]? = some oi) (hsel : ∀ (j : Nat) (o : Oper) cs b, ops[j]? = some o → o.op ≠ .select cs b)
    (hQ : ∀ c a w, Q (.panic c) (a.put oi.dst v) w → Q (.panic c) a w) :
    ∀ (fuel : Nat) (listed : Array Bool) (a : Act) (w : World), ClosedL ops listed →
      (∀ j oj, ops[j]? = some oj → j ≠ i → listed.getD j true = false → (∀ e ∈ oj.after, Region.binds .any e = true → e.on ≠ i) → oi.apart ops oj = true) →
      i ∈ Region.ready .any ops listed → listed.getD f true = false → YieldsIf P ops U oi v a → U w →
      wpAnyF P .any ops Q f U fuel (listed.setIfInBounds i true) (a.put oi.dst v) w → wpAnyF P .any ops Q f U (fuel + 1) listed a w := by
  intro fuel
  induction fuel with
  | zero =>
    intro listed a w _ _ hr _ hy hS H
    refine ⟨fun h => (by rw [h] at hr; cases hr), fun j hj => ?_⟩
    by_cases hji : j = i
    · subst hji; exact hy.wpOp hi hS ⟨fun _ => hS, H⟩
    · have := ready_mono hj hji
      rw [H.1] at this
      cases this
  | succ fuel ih =>
    intro listed a w hcl hfree hr hf hy hS H
    refine ⟨fun h => (by rw [h] at hr; cases hr), fun j hj => ?_⟩
    by_cases hji : j = i
    · subst hji; exact hy.wpOp hi hS ⟨fun _ => hS, H⟩
    · have h1 := H.2 j (ready_mono hj hji)
      obtain ⟨hjun, oj, hoj, hall⟩ := mem_ready.1 hj
      have h0 := (mem_ready.1 hr).1
      have hlt : i < listed.size := by
        rcases Nat.lt_or_ge i listed.size with h' | h'
        · exact h'
        · simp [Array.getElem?_eq_none h'] at h0
      have h00 : listed.getD i false = false := by simpa [hlt] using h0
      have hun : ∀ e ∈ oj.after, Region.binds .any e = true → e.on ≠ i := fun e he hb heq => by
        have h1 := hall e he hb
        rw [heq, h00] at h1; cases h1
      have hjf : j ≠ f := fun e => by
        subst e
        have := waitsT_listed hcl hwait fun o' ho' e' he' hb' => by
          rw [hoj] at ho'; injection ho' with ho'; subst ho'
          exact hall e' he' hb'
        rw [h00] at this; cases this
      have h2 := wpOp_putIf hoj (hfree j oj hoj hji hjun hun) (fun cs b => hsel i oi cs b hi) (fun cs b => hsel j oj cs b hoj) hQ hy h1
      have hfree' : ∀ k ok, ops[k]? = some ok → k ≠ i → (listed.setIfInBounds j true).getD k true = false →
          (∀ e ∈ ok.after, Region.binds .any e = true → e.on ≠ i) → oi.apart ops ok = true := fun k ok hk hki hun hno => by
        refine hfree k ok hk hki ?_ hno
        by_cases hjk : j = k
        · subst hjk; exact hjun
        · rw [getD_set_ne true hjk] at hun; exact hun
      refine wpOp_mono (fun a' w' h3 => ?_) h2
      have hU' : U w' := h3.2.1 (by rw [getD_set_ne true hjf, getD_set_ne true hif]; exact hf)
      refine ⟨fun _ => hU', ih (listed.setIfInBounds j true) a' w' (hcl.step hj) hfree' (ready_mono hr (Ne.symm hji)) (by rw [getD_set_ne true hjf]; exact hf) h3.1 hU' ?_⟩
      rw [Array.setIfInBounds_comm _ _ hji]
      exact h3.2.2
end
section
variable {n : Nat} {l : Fr} {P : Program} {w : World} {Q : Exit → Act → World → Prop} {ops : Array Oper} {U : World → Prop} {fuel : Nat} {listed : Array Bool} {f : Nat}
theorem fw_takeT (i m : Nat) {d : Nat} {op : Op} {ty : TypeId} {pos : String} {af : Array Edge} {v : Value} (ho : ops[i]? = some ⟨some d, op, ty, pos, af, none⟩) (hwt : waitsT ops m f i = true) (hcl : closedB ops listed = true) (hif : Nat.beq i f = false) (hfl : listed.getD f true = false)
    (hs : Region.noSelect ops = true) (hf : Region.free .any ops listed i = true) (hr : (Region.ready .any ops listed).contains i = true) (hQ : NoPanic Q) (hU : U w) (hd : Nat.blt d n = true)
    (hv : ∀ w, U w → Pv P n l ⟨some d, op, ty, pos, af, none⟩ v w) (h : FW P n ops Q f U fuel (listed.setIfInBounds i true) ((d, v) :: l) w) : FW P n ops Q f U (fuel + 1) listed l w := ⟨fun a ha =>
  wpAnyF_firstT (fun e => by subst e; simp at hif) hwt ho (Region.noSelect_spec hs) (fun c a w => hQ c _ v a w) fuel listed a w (closed_of hcl) (Region.free_spec ho hf) (by simpa using hr) hfl (Or.inl ⟨rfl, fun w hw => (hv w hw).out a ha⟩) hU (h.out _ (ha.put hd v))⟩
theorem fw_one (i : Nat) {o : Oper} (hr : Region.ready .any ops listed = [i]) (ho : ops[i]? = some o) (hg : guardOn ops l o.guard = true) (hd : inD o.dst n = true) (hfs : (listed.setIfInBounds i true).getD f true = true)
    (h : Act1 P n l o w fun v w' => FW P n ops Q f U fuel (listed.setIfInBounds i true) (putD o.dst v l) w') : FW P n ops Q f U (fuel + 1) listed l w := ⟨fun a ha => by
  refine ⟨fun h0 => (by rw [hr] at h0; cases h0), fun j hj => ?_⟩
  rw [hr, List.mem_singleton] at hj; subst hj
  unfold wpOp; rw [ho]
  dsimp only
  rw [if_pos (wanted_of ha hg)]
  exact Or.inl (h.out a ha _ _ fun v w' hZ => ⟨fun hf => (by rw [hfs] at hf; cases hf), hZ.out _ (ha.putD hd v)⟩)⟩
theorem fw_done (hr : Region.ready .any ops listed = []) (h : QW n Q .normal l w) : FW P n ops Q f U fuel listed l w := ⟨fun a ha => by
  cases fuel with
  | zero => exact ⟨hr, h.out a ha⟩
  | succ m => exact ⟨fun _ => h.out a ha, by rw [hr]; simp⟩⟩
end
section
variable {P : Program} {n : Nat} {l : Fr} {w : World} {d : Option Nat} {t t' ty : TypeId} {x y : Operand} {pos : String} {af : Array Edge} {g : Option (Nat × Bool)} {a b : Int}
theorem u64_in (a : Int) (h : 0 ≤ a ∧ a ≤ 18446744073709551615) : IntKind.u64.wrap a = a := by
  rw [IntKind.wrap_u64]; omega
theorem pv_addu (hx : ev l x = some (.int .u64 a)) (hy : ev l y = some (.int .u64 b)) (h : 0 ≤ a + b ∧ a + b ≤ 18446744073709551615) : Pv P n l ⟨d, .binOp .add t x y t', ty, pos, af, g⟩ (.int .u64 (a + b)) w := by
  have := pv_add_w (P := P) (n := n) (w := w) (d := d) (ty := ty) (pos := pos) (af := af) (g := g) (t := t) (t' := t') hx hy
  rwa [u64_in _ h] at this
theorem pv_mulu (hx : ev l x = some (.int .u64 a)) (hy : ev l y = some (.int .u64 b)) (h : 0 ≤ a * b ∧ a * b ≤ 18446744073709551615) : Pv P n l ⟨d, .binOp .mul t x y t', ty, pos, af, g⟩ (.int .u64 (a * b)) w := by
  have := pv_mul_w (P := P) (n := n) (w := w) (d := d) (ty := ty) (pos := pos) (af := af) (g := g) (t := t) (t' := t') hx hy
  rwa [u64_in _ h] at this
theorem pv_convu (ht : cvB P t t' .u64 = true) {k : IntKind} (hx : ev l x = some (.int k a)) (h : 0 ≤ a ∧ a ≤ 18446744073709551615) : Pv P n l ⟨d, .convert t t' x, ty, pos, af, g⟩ (.int .u64 a) w := by
  have := pv_conv_w (P := P) (n := n) (w := w) (d := d) (ty := ty) (pos := pos) (af := af) (g := g) ht hx
  rwa [u64_in _ h] at this
theorem u64_and32 (n : Int) : bits .and .u64 n 4294967295 = n % 4294967296 := by
  have h127 : (BitVec.ofInt 64 4294967295).toNat = 2 ^ 32 - 1 := by decide
  have key : (BitVec.ofInt 64 n &&& BitVec.ofInt 64 4294967295).toNat = (n % ((2 ^ 64 : Nat) : Int)).toNat % 2 ^ 32 := by
    rw [BitVec.toNat_and, BitVec.toNat_ofInt, h127, Nat.and_two_pow_sub_one_eq_mod]
  show IntKind.u64.wrap ((BitVec.ofInt 64 n &&& BitVec.ofInt 64 4294967295).toNat : Nat) = n % 4294967296
  rw [key, IntKind.wrap_u64]
  omega
theorem pv_and32u (hx : ev l x = some (.int .u64 a)) (hy : ev l y = some (.int .u64 4294967295)) : Pv P n l ⟨d, .binOp .and t x y t', ty, pos, af, g⟩ (.int .u64 (a % 4294967296)) w := ⟨fun A hA => by
  have h : (Op.intBits .and .u64 a 4294967295 : Sem Value) = pure (.int .u64 (a % 4294967296)) := by rw [← u64_and32 a]; rfl
  simp [execOp, hA.ev hx, hA.ev hy, eqGuard, binOp, h]⟩
theorem pv_shr32u {k' : IntKind} (hx : ev l x = some (.int .u64 a)) (hy : ev l y = some (.int k' 32)) : Pv P n l ⟨d, .binOp .shr t x y t', ty, pos, af, g⟩ (.int .u64 (a / 4294967296)) w := by
  have h := pv_shr (P := P) (n := n) (w := w) (d := d) (ty := ty) (pos := pos) (af := af) (g := g) (t := t) (t' := t') hx hy (by omega)
  have e : a.fdiv (2 ^ (min (32 : Int).toNat IntKind.u64.bits)) = a / 4294967296 := by
    rw [show ((2 : Int) ^ (min (32 : Int).toNat IntKind.u64.bits)) = 4294967296 by decide, Int.fdiv_eq_ediv_of_nonneg _ (by omega)]
  rwa [e] at h
theorem pv_half {k k' : IntKind} {m q : Nat} (hx : ev l x = some (.int k a)) (hy : ev l y = some (.int k' 1)) (ha : a = (m : Int)) (hq : m / 2 = q) (hk : 1 ≤ k.bits) : Pv P n l ⟨d, .binOp .shr t x y t', ty, pos, af, g⟩ (.int k (q : Nat)) w := by
  have h := pv_shr (P := P) (n := n) (w := w) (d := d) (ty := ty) (pos := pos) (af := af) (g := g) (t := t) (t' := t') hx hy (by omega)
  have e : a.fdiv (2 ^ (min (1 : Int).toNat k.bits)) = (q : Nat) := by
    rw [show min (1 : Int).toNat k.bits = 1 by have : (1 : Int).toNat = 1 := rfl; omega, Int.fdiv_eq_ediv_of_nonneg _ (by decide), ha, ← hq]
    omega
  rwa [e] at h
end
set_option maxRecDepth 20000 in
theorem within_c {n : Int} (h : NumS n) (w : World) : Calls Tryz.prog 119 #[.int .i64 n] w fun e w' => e = .returned (.int .i64 n) ∧ w = w' := by
  unfold NumS farS at h
  refine fn_enter 6 Tryz.func119 rfl rfl rfl ?_
  repeat' (first | (refine lw_pure rfl (pv_move rfl) ?_) | (refine lw_pure rfl (pv_assign rfl) ?_) | (refine is_cw ?_; first | (refine cw_seq ?_) | (refine cw_region ?_) | (refine cw_ret ?_)) | (refine is_qw ?_; first | (with_reducible refine qw_then ?_)) | (refine lw_nil ?_) | ((refine is_bi ?_; first | (refine lw_pure rfl (pv_min rfl rfl) ?_) | (refine lw_pure rfl (pv_max rfl rfl) ?_))))
  exact qw_ret1 rfl rfl ⟨ret_int (by (repeat' split) <;> omega), rfl⟩
set_option maxRecDepth 20000 in
theorem cap_c {a b : Int} (ha : NumS a) (hb : NumS b) (w : World) : Calls Tryz.prog 99 #[.int .i64 a, .int .i64 b] w fun e w' => e = .returned (.int .i64 (moreS a b)) ∧ w = w' := by
  have ga := ha
  have gb := hb
  unfold NumS farS at ga gb
  refine fn_enter 16 Tryz.func99 rfl rfl rfl ?_
  repeat' (first | (refine lw_pure rfl (pv_move rfl) ?_) | (refine lw_pure rfl (pv_assign rfl) ?_) | (refine is_cw ?_; first | (refine cw_seq ?_) | (refine cw_region ?_)) | (refine is_qw ?_; first | (with_reducible refine qw_then ?_)) | (refine lw_nil ?_))
  refine lw_call (f := 119) (by kernel_rfl) rfl rfl (within_c ha _) ?_; rintro e w1 ⟨rfl, rfl⟩; refine ⟨_, rfl, ?_⟩
  repeat' (first | (refine lw_pure rfl (pv_move rfl) ?_))
  refine lw_call (f := 119) (by kernel_rfl) rfl rfl (within_c hb _) ?_; rintro e w1 ⟨rfl, rfl⟩; refine ⟨_, rfl, ?_⟩
  repeat' (first | (refine lw_pure rfl (pv_move rfl) ?_) | (refine lw_pure rfl (pv_assign rfl) ?_) | (refine is_cw ?_; first | (refine cw_seq ?_) | (refine cw_region ?_) | (refine cw_skip ?_) | (refine cw_ret ?_)) | (refine is_qw ?_; first | (with_reducible refine qw_then ?_) | (with_reducible refine qw_then_ret ?_)) | (refine lw_nil ?_) | ((refine is_bin ?_; first | (refine lw_pure rfl (pv_gtr rfl rfl) ?_) | (refine lw_pure rfl (pv_add rfl rfl (by omega)) ?_) | (refine lw_pure rfl (pv_sub rfl rfl (by omega)) ?_))) | (refine is_cw ?_; refine cw_split rfl (fun hc => ?_) (fun hc => ?_) <;> (first | replace hc := of_decide_eq_true hc | replace hc := of_decide_eq_false hc | replace hc := dec_nT hc | replace hc := dec_nF hc | skip) <;> (try (exfalso; omega))))
  all_goals (refine qw_ret1 rfl rfl ⟨ret_int ?_, rfl⟩; unfold moreS farS; (repeat' split) <;> omega)
set_option maxRecDepth 20000 in
theorem mul64_c {x y : Int} (hx : 0 ≤ x ∧ x ≤ 1073741824) (hy : 0 ≤ y ∧ y ≤ 1048576) (hxy : 0 ≤ x * y ∧ x * y ≤ 1125899906842624) (w : World) : Calls Tryz.prog 68 #[.int .u64 x, .int .u64 y] w fun e w' => e = .returned (.tuple #[.int .u64 0, .int .u64 (x * y)]) ∧ w = w' := by
  have hx0 : x % 4294967296 = x := by omega
  have hx1 : x / 4294967296 = 0 := by omega
  have hy0 : y % 4294967296 = y := by omega
  have hy1 : y / 4294967296 = 0 := by omega
  generalize hp : x * y = p at hxy ⊢
  refine fn_enter 51 Tryz.func68 rfl rfl rfl ?_
  repeat' (first | (refine lw_pure rfl (pv_move rfl) ?_) | (refine lw_pure rfl (pv_assign rfl) ?_) | (refine lw_pure rfl (pv_and32u rfl rfl) ?_; (try rw [hx0]); (try rw [hy0])) | (refine lw_pure rfl (pv_shr32u rfl rfl) ?_; (try rw [hx1]); (try rw [hy1])) | (refine lw_pure rfl (pv_mulu rfl rfl (by first | (rw [hp]; omega) | omega)) ?_; (try rw [hp])) | (refine lw_pure rfl (pv_addu rfl rfl (by omega)) ?_) | (refine is_cw ?_; first | (refine cw_seq ?_) | (refine cw_region ?_) | (refine cw_ret ?_)) | (refine is_qw ?_; first | (with_reducible refine qw_then ?_)) | (refine lw_nil ?_))
  exact qw_ret2 rfl rfl rfl ⟨by congr 1; simp; omega, rfl⟩
set_option maxRecDepth 20000 in
theorem mul_c {x y : Int} (hx : 0 ≤ x ∧ x ≤ 1073741824) (hy : 0 ≤ y ∧ y ≤ 1048576) (hxy : 0 ≤ x * y ∧ x * y ≤ 1125899906842624) (w : World) : Calls Tryz.prog 46 #[.int .i64 x, .int .i64 y] w fun e w' => e = .returned (.tuple #[.int .i64 (x * y), .int .i64 0]) ∧ w = w' := by
  have hm := mul64_c hx hy hxy w
  generalize x * y = p at hm hxy
  refine fn_enter 30 Tryz.func46 rfl rfl rfl ?_
  repeat' (first | (refine lw_pure rfl (pv_move rfl) ?_) | (refine lw_pure rfl (pv_assign rfl) ?_) | (refine lw_pure rfl (pv_convu (tCv rfl rfl) rfl (by omega)) ?_) | (refine is_cw ?_; first | (refine cw_seq ?_) | (refine cw_region ?_) | (refine is_cd ?_; refine cw_false rfl (by first | assumption | exact decide_eq_false (by omega) | exact dec_notF (by omega)) ?_) | (refine cw_skip ?_)) | (refine is_qw ?_; first | (with_reducible refine qw_then ?_)) | (refine lw_nil ?_) | (refine is_guarded ?_; first | (refine lw_on rfl rfl (by first | assumption | exact decide_eq_true (by omega) | exact decide_eq_false (by omega) | exact dec_notT (by omega) | exact dec_notF (by omega)) ?_)) | ((refine is_bin ?_; first | (refine lw_pure rfl (pv_lss rfl rfl) ?_))) | (refine is_pk ?_; refine lw_pure rfl (pv_pick_f rfl (by first | assumption | exact decide_eq_false (by omega) | exact dec_notF (by omega)) rfl) ?_))
  refine lw_call (f := 68) (by kernel_rfl) rfl rfl (hm) ?_; rintro e w1 ⟨rfl, rfl⟩; refine ⟨_, rfl, ?_⟩
  repeat' (first | (refine lw_pure rfl (pv_move rfl) ?_) | (refine lw_pure rfl (pv_assign rfl) ?_) | (refine is_cw ?_; first | (refine cw_seq ?_) | (refine cw_region ?_) | (refine is_cd ?_; refine cw_false rfl (by first | assumption | exact decide_eq_false (by omega) | exact dec_notF (by omega)) ?_) | (refine cw_skip ?_) | (refine cw_ret ?_)) | (refine is_qw ?_; first | (with_reducible refine qw_then ?_)) | (refine lw_nil ?_) | (refine is_guarded ?_; first | (refine lw_on rfl rfl rfl ?_)) | ((refine is_bin ?_; first | (refine lw_pure rfl (pv_neq rfl rfl) ?_) | (refine lw_pure rfl (pv_gtr rfl rfl) ?_))) | (refine is_pk ?_; refine lw_pure rfl (pv_pick_f rfl rfl rfl) ?_) | (refine lw_pure rfl (pv_extract rfl rfl) ?_) | (refine is_cv ?_; refine lw_pure rfl (pv_conv (tCv rfl rfl) rfl (by omega)) ?_))
  exact qw_ret2 rfl rfl rfl ⟨rfl, rfl⟩
section
variable {P : Program} {n : Nat} {l : Fr} {w : World} {d : Option Nat} {t t' ty : TypeId} {x y : Operand} {pos : String} {af : Array Edge} {g : Option (Nat × Bool)} {a b : Int}
theorem pv_capl {ad : Option Addr} {m c e : Nat} (ht : slB P t e = true) (hx : ev l x = some (.slice ad m c)) : Pv P n l ⟨d, .call ⟨.builtin .cap, #[x], #[t]⟩, ty, pos, af, g⟩ (.int .i64 c) w := ⟨fun A hA => by
  obtain ⟨u, hu, _⟩ := slB_of ht
  simp [execOp, resolve, hA.ev hx, invoke, builtin, Builtin.cap_, run_underlying hu, goInt]⟩
end
theorem splice_take {α : Type} {L cs : List α} {off : Nat} (h : off ≤ L.length) : (splice L off cs).take (off + cs.length) = L.take off ++ cs := by
  unfold splice
  rw [← List.append_assoc]
  exact List.take_left' (by rw [List.length_append, List.length_take]; omega)
theorem splice_low {α : Type} {L cs : List α} {off a : Nat} (h : off ≤ L.length) (ha : a ≤ off) : (splice L off cs).take a = L.take a := by
  unfold splice
  rw [List.take_append_of_le_length (by rw [List.length_take]; omega), List.take_take, Nat.min_eq_left ha]
theorem splice_drop {α : Type} {L cs : List α} {off : Nat} (h : off ≤ L.length) : (splice L off cs).drop off = cs ++ L.drop (off + cs.length) := by
  unfold splice
  exact List.drop_left' (by rw [List.length_take]; omega)
theorem splice_up {α : Type} {L A B : List α} {a : Nat} (h : a + A.length ≤ L.length) : (splice (splice L a A) (a + A.length) B).take (a + A.length + B.length) = L.take a ++ (A ++ B) := by
  rw [splice_take (by rw [length_splice _ _ _ h]; omega), splice_take (by omega), List.append_assoc]
theorem splice_dn {α : Type} {L A B : List α} {a : Nat} (h : a + A.length ≤ L.length) : (splice (splice L (a + A.length) B) a A).take (a + A.length + B.length) = L.take a ++ (A ++ B) := by
  have e : splice (splice L (a + A.length) B) a A = (L.take a ++ (A ++ B)) ++ L.drop (a + A.length + B.length) := by
    rw [splice, splice_low h (by omega), splice_drop h]; simp
  rw [e]
  exact List.take_left' (by rw [List.length_append, List.length_append, List.length_take]; omega)
section
variable {α : Type} {enc : α → List Value} {k nb : Nat} {P : Program} {n : Nat} {l : Fr} {w : World} {Q : Exit → Act → World → Prop} {ops : Array Oper} {os : List Oper} {d : Nat} {ty : TypeId} {pos : String} {af : Array Edge} {x y : Operand} {S T : TypeId} {base g cap : Nat} {xs : List α}
theorem own_of {cur : List Value} (hk : ∀ x, (enc x).length = k) (hb : base ≤ g) (hg : w.heap[g]? = some (.cells cur.toArray T (0, 0))) (hle : xs.length ≤ cap) (hmax : cap ≤ maxLen) (hsz : cur.length = cap * k) (htk : cur.take (xs.length * k) = xs.flatMap enc) : Own enc k T base w (.slice (some ⟨g, 0, none⟩) xs.length cap) xs :=
  ⟨by rw [flat_len enc k hk], Or.inr ⟨g, cap, cur.toArray, rfl, hb, hg, hle, hmax, by simpa using hsz, by simpa using htk⟩⟩
theorem lw_appz (E : ElemT P S T k nb) {tn : TypeId} (htn : P.underlying tn = some (.int .i64)) (hk : ∀ x, (enc x).length = k) {i q : Nat} {b : Int} (hd : Nat.blt d n = true) (hx : ev l x = some (.slice (some ⟨g, 0, none⟩) i cap)) (hy : ev l y = some (.int .i64 b)) (hb : b = (q : Int)) (hs : SlR enc k w (some ⟨g, 0, none⟩) cap xs) (hi : xs.length = i) (hq : 0 < q) (hgr : cap < i + q) (hsz : (i + q) * nb ≤ 140737488355328) (hmx : i + q ≤ maxLen)
    (h : ∀ (N G : Nat) (row : List Value) (w' : World), w.heap.size ≤ N → row.length = G * k → row.take (i * k) = xs.flatMap enc → w'.heap[N]? = some (.cells row.toArray T (0, 0)) → i + q ≤ G → G ≤ maxLen → Below w.heap.size w w' → LW P n ops Q os ((d, .slice (some ⟨N, 0, none⟩) (i + q) G) :: l) w') :
    LW P n ops Q (⟨some d, .call ⟨.builtin .append, #[x, y], #[S, tn]⟩, ty, pos, af, none⟩ :: os) l w := by
  subst hb hi
  obtain ⟨inf, z, hif, hz, hisz, hby, hzs⟩ := E.info
  have hk0 := E.pos
  have hold : (Builtin.firstCells inf.size xs.length (.slice (some ⟨g, 0, none⟩) xs.length cap)).run P w.drew = .ok (xs.flatMap enc).toArray w.drew := by
    rw [hisz]
    exact run_firstCells_some w.drew k xs.length ⟨g, 0, none⟩ xs.length cap (xs.flatMap enc) (flat_len enc k hk xs) (fun j v hj => SlR.flat hk hs j v hj)
  have hmm : maxLen ≤ 9223372036854775807 := by unfold maxLen; omega
  have hrun := Lib.run_append_grow_zeros w S tn ty T inf z .i64 .i64 E.sl htn hif hz (some ⟨g, 0, none⟩) xs.length cap (xs.flatMap enc) hold q hq (by omega) hgr (by omega) (by rw [hby]; have := Nat.mul_le_mul_right nb (show q ≤ xs.length + q by omega); omega) (by rw [hby]; exact growslice_fits hgr hsz)
  obtain ⟨G, hG⟩ : ∃ G, G = grownCap w (xs.length + q) cap T := ⟨_, rfl⟩
  rw [← hG] at hrun
  have hG1 : xs.length + q ≤ G := by rw [hG]; exact grownCap_ge w _ _ _
  have hG2 : G ≤ maxLen := by rw [hG]; exact grownCap_le_maxLen w _ _ _ hmx
  obtain ⟨row, hrow⟩ : ∃ row : List Value, row.toArray = (xs.flatMap enc).toArray ++ Builtin.zeroCells z.cells q ++ Builtin.zeroCells z.cells (G - (xs.length + q)) := ⟨_, Array.toArray_toList⟩
  rw [← hrow] at hrun
  have hrow2 : row = xs.flatMap enc ++ ((Builtin.zeroCells z.cells q).toList ++ (Builtin.zeroCells z.cells (G - (xs.length + q))).toList) := by
    have := congrArg Array.toList hrow; simpa using this
  have hzl : ∀ m, (Builtin.zeroCells z.cells m).toList.length = m * k := fun m => by simp [Builtin.zeroCells, hzs]
  refine lw_eff hd (w' := w.drew.alloc (.cells row.toArray T)) ⟨fun A hA => ?_⟩ (h w.heap.size G row _ (Nat.le_refl _) ?_ ?_ (heap_alloc_new w.drew _) hG1 hG2 (grow_trans (below_drew w) (below_alloc _ _)))
  · simp [execOp, resolve, hA.ev hx, hA.ev hy, invoke, builtin, hrun]
  · rw [hrow2, List.length_append, List.length_append, hzl, hzl, flat_len enc k hk, ← Nat.add_mul, ← Nat.add_mul]; congr 1; omega
  · rw [hrow2]; exact List.take_left' (flat_len enc k hk xs)
theorem copy_min {sLen dLen m : Nat} (h : (sLen ≤ dLen ∧ sLen = m) ∨ (dLen ≤ sLen ∧ dLen = m)) : Nat.min sLen dLen = m := by
  rcases h with ⟨h1, h2⟩ | ⟨h1, h2⟩
  · exact (Nat.min_eq_left h1).trans h2
  · exact (Nat.min_eq_right h1).trans h2
theorem lw_copyd {dT sT elem t : TypeId} {off m : Nat} {dp sp : Option Addr} {dLen dCap sLen sCap : Nat} {cur cs : List Value} {ad : Addr} (hu : P.underlying dT = some (.slice elem)) (hs : (P.info? elem).map (·.size) = some k) (hk : 0 < k) (hd : Nat.blt d n = true) (hx : ev l x = some (.slice dp dLen dCap)) (hy : ev l y = some (.slice sp sLen sCap)) (hg : w.heap[g]? = some (.cells cur.toArray t (0, 0)))
    (hdp : dp = some ⟨g, off, none⟩) (hsp : sp = some ad) (hmin : (sLen ≤ dLen ∧ sLen = m) ∨ (dLen ≤ sLen ∧ dLen = m)) (hn : cs.length = m * k) (hc : ∀ j v, cs[j]? = some v → w.cell? (ad.add j) = some v) (hfit : off + cs.length ≤ cur.length) (h1 : ∀ v ∈ cs, v.oneCell' = true)
    (h : ∀ v w', w'.heap[g]? = some (.cells (splice cur off cs).toArray t (0, 0)) → w.grownBy w' (some g) → LW P n ops Q os ((d, v) :: l) w') : LW P n ops Q (⟨some d, .call ⟨.builtin .copy, #[x, y], #[dT, sT]⟩, ty, pos, af, none⟩ :: os) l w := by
  obtain ⟨v, w', h2, h3, h4⟩ := copy_some (ty := ty) (sT := sT) (dCap := dCap) (sCap := sCap) hu hs hk hg (show cs.length = Nat.min sLen dLen * k by rw [copy_min hmin]; exact hn) (fun _ => ⟨hdp, ad, hsp, hc⟩) hfit h1
  refine lw_some (Φ := fun v u => u = w') hd (fun A hA => ⟨v, w', ?_, rfl⟩) (fun v u hu => hu ▸ h v w' h3 h4)
  simp [execOp, resolve, hA.ev hx, hA.ev hy, invoke, builtin, h2]
end
section
variable {P : Program} {n : Nat} {l : Fr} {w : World} {ty : TypeId} {pos : String} {af : Array Edge} {gd : Option (Nat × Bool)} {x y : Operand} {k g : Nat} {d : Option Nat} {Z : Value → World → Prop}
theorem act_copyd {dT sT elem t : TypeId} {off m : Nat} {dp sp : Option Addr} {dLen dCap sLen sCap : Nat} {cur cs : List Value} {ad : Addr} (hu : P.underlying dT = some (.slice elem)) (hs : (P.info? elem).map (·.size) = some k) (hk : 0 < k) (hx : ev l x = some (.slice dp dLen dCap)) (hy : ev l y = some (.slice sp sLen sCap)) (hg : w.heap[g]? = some (.cells cur.toArray t (0, 0)))
    (hdp : dp = some ⟨g, off, none⟩) (hsp : sp = some ad) (hmin : (sLen ≤ dLen ∧ sLen = m) ∨ (dLen ≤ sLen ∧ dLen = m)) (hn : cs.length = m * k) (hc : ∀ j v, cs[j]? = some v → w.cell? (ad.add j) = some v) (hfit : off + cs.length ≤ cur.length) (h1 : ∀ v ∈ cs, v.oneCell' = true)
    (h : ∀ v w', w'.heap[g]? = some (.cells (splice cur off cs).toArray t (0, 0)) → w.grownBy w' (some g) → Z v w') : Act1 P n l ⟨d, .call ⟨.builtin .copy, #[x, y], #[dT, sT]⟩, ty, pos, af, gd⟩ w Z := by
  obtain ⟨v, w', h2, h3, h4⟩ := copy_some (ty := ty) (sT := sT) (dCap := dCap) (sCap := sCap) hu hs hk hg (show cs.length = Nat.min sLen dLen * k by rw [copy_min hmin]; exact hn) (fun _ => ⟨hdp, ad, hsp, hc⟩) hfit h1
  exact act_ev (v := v) (w' := w') ⟨fun A hA => by simp [execOp, resolve, hA.ev hx, hA.ev hy, invoke, builtin, h2]⟩ (h _ _ h3 h4)
end
theorem heap_shape {w : World} {N : Nat} {cs : Array Value} {T : TypeId} (h : w.heap[N]? = some (.cells cs T (0, 0))) : w.shape? N = some (T, cs.size) ∧ ∀ o, w.frozen? ⟨N, o, none⟩ = false := by
  refine ⟨by unfold World.shape?; rw [h], fun o => ?_⟩
  unfold World.frozen?
  simp [h]
theorem overlap_S {n : Nat} {l : Fr} {w : World} {d : Option Nat} {ty : TypeId} {pos : String} {af : Array Edge} {g : Option (Nat × Bool)} {x y : Operand} {ts : Array TypeId} {M B : Nat} {cs : List Value} {cur : Array Value} {sp : Option Addr} {o lb cb : Nat} (hx : ev l x = some (.slice (some ⟨M, 0, none⟩) 1 1)) (hy : ev l y = some (.slice sp lb cb)) (hsp : sp = some ⟨B, o, none⟩) (hM : PT w M 39 cs) (hB : w.heap[B]? = some (.cells cur 39 (0, 0))) (hne : M ≠ B) (h0 : cur.size ≠ 0) :
    Pv Tryz.prog n l ⟨d, .call ⟨.value (.func 117), #[x, y], ts⟩, ty, pos, af, g⟩ (.bool false) w := by
  subst hsp
  obtain ⟨s1, f1⟩ := heap_shape hM
  obtain ⟨s2, f2⟩ := heap_shape hB
  refine pv_ext (args := [x, y]) (vs := [.slice (some ⟨M, 0, none⟩) 1 1, .slice (some ⟨B, o, none⟩) lb cb]) (by simp [evs, hx, hy]) ?_
  have hz : ∀ w, (sizeOf 39).run Tryz.prog w = .ok 6 w := fun w => sizeB_run (tZ rfl) w
  rw [run_callFunc_extern (fn := Tryz.f117) (by kernel_rfl) (by kernel_rfl) (by kernel_rfl) (by kernel_rfl) (e := Extern.SlicesOverlaps.overlaps #[22, 22] #[4]) (by kernel_rfl),
    Lib.run_overlaps_apart w 22 4 39 Tryz.underlying22 6 hz ⟨M, 0, none⟩ ⟨B, o, none⟩ 1 1 lb cb hne _ _ _ _ s1 s2 h0 (f1 _) (f1 _)]
  rfl
set_option maxRecDepth 20000 in
set_option maxHeartbeats 4000000 in
theorem insert_S {xs : List Pos} {v : Value} {w : World} (base : Nat) (i : Nat) (y : Pos) {M : Nat} (hi : i ≤ xs.length) (hl : xs.length ≤ 65536) (hbw : base ≤ w.heap.size) (hO : Own encS 6 39 base w v xs) (HY : PT w M 39 (encS y)) (hM : v.ownBlock ≠ some M) : Calls Tryz.prog 98 #[v, .int .i64 (i : Nat), .slice (some ⟨M, 0, none⟩) 1 1] w fun e w' => (∃ v', e = .returned v' ∧ Own encS 6 39 base w' v' (xs.take i ++ y :: xs.drop i)) ∧ Below base w w' := by
  have hb0 := Below.refl base w
  have hOb : ∀ q, v.ownBlock = some q → base ≤ q := fun q hq => (hO.lt q hq).1
  have hMw := HY.lt
  have HY1 : SlR encS 6 w (some ⟨M, 0, none⟩) 1 [y] := PT.slR (xs := [y]) encS_len (by simpa using HY) rfl (by omega)
  obtain ⟨ad, cap, rfl, HS, hbase⟩ := Own.slR encS_len hO
  have hla := HS.le
  have hma := HS.max
  have hw := Below.refl w.heap.size w
  by_cases hin : i = xs.length
  · subst hin
    refine fn_enter 95 Tryz.func98 rfl rfl rfl ?_
    repeat' (first | (refine lw_pure rfl (pv_move rfl) ?_) | (refine lw_pure rfl (pv_assign rfl) ?_) | (refine lw_app (xs := xs) (ys := [y]) elemS encS_len encS_one rfl rfl rfl hO HY1 rfl hbw (by simp; omega) (by simp [maxLen]; omega) ?_; intro v2 w2 hO2 hg2 hb2) | (refine is_cw ?_; first | (refine cw_seq ?_) | (refine cw_region ?_) | (refine cw_false rfl rfl ?_) | (refine is_cd ?_; refine cw_true rfl (by first | assumption | exact decide_eq_true (by omega) | exact dec_notT (by omega)) ?_) | (refine cw_skip ?_) | (refine cw_ret ?_)) | (refine is_qw ?_; first | (with_reducible refine qw_then ?_) | (with_reducible refine qw_then_ret ?_)) | (refine lw_nil ?_) | ((refine is_bin ?_; first | (refine lw_pure rfl (pv_eql rfl rfl) ?_))) | ((refine is_bi ?_; first | (refine lw_pure rfl (pv_lenl (tS rfl) rfl) ?_))) | (refine is_sl ?_; refine lw_pure rfl (pv_slice_l (tS rfl) rfl rfl (by omega)) ?_))
    refine qw_ret1 rfl rfl ⟨⟨_, rfl, ?_⟩, hb2⟩
    rw [List.take_length, List.drop_length]; exact hO2
  · obtain ⟨g, rfl⟩ : ∃ g, ad = some ⟨g, 0, none⟩ := by
      cases ad with
      | none => have := (HS.ofNone rfl).1; subst this; simp at hin hi; omega
      | some a =>
        obtain ⟨b, o, sp⟩ := a
        obtain ⟨h1, _⟩ := HS.ofSome _ rfl (by omega)
        have h2 := (hbase _ rfl).2
        simp only at h1 h2
        exact ⟨b, by rw [h1, h2]⟩
    have hgb : base ≤ g := (hbase _ rfl).1
    have hgM : g ≠ M := fun e => hM (by rw [← e]; rfl)
    obtain ⟨cur, -, hg, -, hmx, hsz, htk⟩ := Own.heap' hO
    have hgw : g < w.heap.size := (Array.getElem?_eq_some_iff.1 hg).1
    have hti : (xs.take i).length = i := by rw [List.length_take]; omega
    have hdl : ((xs.drop i).flatMap encS).length = (xs.length - i) * 6 := by rw [flat_len encS 6 encS_len, List.length_drop]
    have hyl : (encS y).length = 6 := encS_len y
    have hrl : (xs.take i ++ y :: xs.drop i).length = xs.length + 1 := by simp; omega
    have hrf : (xs.take i ++ y :: xs.drop i).flatMap encS = (xs.take i).flatMap encS ++ (encS y ++ (xs.drop i).flatMap encS) := by rw [List.flatMap_append, List.flatMap_cons]
    have e9 : ((i : Int) + 1).toNat = i + 1 := by omega
    have e8 : ((xs.length : Int) + 1).toNat = xs.length + 1 := by omega
    -- the rest, read at its place
    have hrd : ∀ W : World, SlR encS 6 W (some ⟨g, 0, none⟩) cap xs → ∀ j v, ((xs.drop i).flatMap encS)[j]? = some v → W.cell? ((⟨g, i * 6, none⟩ : Addr).add j) = some v := fun W h j v hj => by
      rw [← flat_drop encS 6 encS_len, List.getElem?_drop] at hj
      have := SlR.flat encS_len h (i * 6 + j) v hj
      rw [Addr.add_lit] at this ⊢
      rw [← this]; congr 2; omega
    by_cases hcap : cap < xs.length + 1
    · refine fn_enter 95 Tryz.func98 rfl rfl rfl ?_
      repeat' (first | (refine lw_pure rfl (pv_move rfl) ?_) | (refine lw_pure rfl (pv_assign rfl) ?_) | (refine lw_pure rfl (pv_capl (tS rfl) rfl) ?_) | (refine is_cw ?_; first | (refine cw_seq ?_) | (refine cw_region ?_) | (refine cw_false rfl rfl ?_) | (refine is_cd ?_; refine cw_true rfl (by first | assumption | exact decide_eq_true (by omega) | exact dec_notT (by omega)) ?_) | (refine is_cd ?_; refine cw_false rfl (by first | assumption | exact decide_eq_false (by omega) | exact dec_notF (by omega)) ?_) | (refine cw_skip ?_)) | (refine is_qw ?_; first | (with_reducible refine qw_then ?_)) | (refine lw_nil ?_) | ((refine is_bin ?_; first | (refine lw_pure rfl (pv_eql rfl rfl) ?_) | (refine lw_pure rfl (pv_gtr rfl rfl) ?_) | (refine lw_pure rfl (pv_inc rfl rfl (by omega)) ?_) | (refine lw_pure rfl (pv_sub rfl rfl (by omega)) ?_))) | ((refine is_bi ?_; first | (refine lw_pure rfl (pv_lenl (tS rfl) rfl) ?_))) | (refine is_sl ?_; refine lw_pure rfl (pv_slice_l (tS rfl) rfl rfl (by omega)) ?_) | (refine is_sl ?_; refine lw_pure rfl (pv_slice_h (tS rfl) rfl rfl (by omega)) ?_))
      refine lw_appz (xs := xs.take i) (i := i) (q := xs.length + 1 - i) (cap := cap) elemS Tryz.underlying3 encS_len rfl rfl rfl (by omega) ⟨by rw [hti]; omega, hma, (fun h => by cases h), fun ad had hc => by
        obtain ⟨h1, h2, h3⟩ := HS.ofSome ad had hc
        exact ⟨h1, h2, fun j x hx => h3 j x (by rw [List.getElem?_take] at hx; split at hx <;> first | exact hx | cases hx)⟩⟩ hti (by omega) (by omega) (by omega) (by simp [maxLen]; omega) ?_
      intro N G row w1 hN hrowl hrowt hN1 hG1 hG2 hb
      have hiq : i + (xs.length + 1 - i) = xs.length + 1 := by omega
      rw [hiq] at hG1 ⊢
      have hB1 : Below base w w1 := hb0.trans (hb.mono hbw)
      replace HY := HY.mono hb
      have HS1 := HS.mono hb
      have hgN : g ≠ N := by omega
      have hMN : M ≠ N := by omega
      have hNw : N < w1.heap.size := (Array.getElem?_eq_some_iff.1 hN1).1
      clear hb hw
      have hw := Below.refl w1.heap.size w1
      repeat' (first | (refine lw_pure rfl (pv_move rfl) ?_) | (refine lw_pure rfl (pv_assign rfl) ?_) | (refine is_cw ?_; first | (refine cw_seq ?_) | (refine cw_region ?_)) | (refine is_qw ?_; first | (with_reducible refine qw_then ?_)) | (refine lw_nil ?_) | (refine is_sl ?_; refine lw_pure rfl (pv_slice_l (tS rfl) rfl rfl (by omega)) ?_))
      refine lw_copyd (k := 6) (g := N) (off := i * 6) (m := 1) (cur := row) (cs := encS y) (ad := ⟨M, 0, none⟩) Tryz.underlying22 (by kernel_rfl) (by omega) rfl rfl rfl hN1 (by rw [if_neg (by omega)]; simp [Addr.add_lit]) rfl (by omega) (by rw [hyl]) (fun j v hj => by rw [Addr.add_lit]; exact HY.ld0 hj) (by rw [hyl, hrowl]; omega) (fun v hv => encS_one y v hv) ?_
      intro vc w2 hN2 hg2
      have hB2 : Below base w w2 := hB1.grown hg2 (Nat.le_trans hbw hB1.size) (by intro q hq; injection hq with hq; omega)
      have HS2 := HS1.grown hg2 (fun ad had e => by cases had; injection e with e; exact hgN e)
      have hrow2 : (splice row (i * 6) (encS y)).length = G * 6 := by rw [length_splice _ _ _ (by rw [hyl, hrowl]; omega), hrowl]
      have hB2s := hB2.size
      clear hw
      have hw := Below.refl w2.heap.size w2
      repeat' (first | (refine is_cw ?_; first | (refine cw_seq ?_)) | (refine is_qw ?_; first | (with_reducible refine qw_then ?_)) | (refine lw_nil ?_))
      refine cw_drawn (fun w' => w2.grownBy w' (some N)) (by kernel_rfl) (by repeat (first | exact NoPanic.body | with_reducible refine NoPanic.then ?_ | with_reducible refine NoPanic.inBlock ?_)) (fun hNP => ?_)
      have hS := gb_of (below_drew w2) (some N)
      (refine at0 0 rfl (fun w' hq => pv_move rfl) ?_)
      (refine at0 1 rfl (fun w' hq => pv_move rfl) ?_)
      (refine at0 2 rfl (fun w' hq => pv_move rfl) ?_)
      (refine at0 3 rfl (fun w' hq => pv_inc rfl rfl (by omega)) ?_)
      (refine at0 4 rfl (fun w' hq => pv_slice_l (tS rfl) rfl rfl (by omega)) ?_)
      (refine at0 5 rfl (fun w' hq => pv_move rfl) ?_)
      (refine at0 6 rfl (fun w' hq => pv_move rfl) ?_)
      (refine at0 7 rfl (fun w' hq => pv_slice_l (tS rfl) rfl rfl (by omega)) ?_)
      refine aw_act 8 (by kernel_rfl) rfl rfl rfl ?_
      refine act_copyd (k := 6) (g := N) (off := i * 6 + (encS y).length) (m := xs.length - i) (cur := splice row (i * 6) (encS y)) (cs := (xs.drop i).flatMap encS) (ad := ⟨g, i * 6, none⟩) Tryz.underlying22 (by kernel_rfl) (by omega) rfl rfl hN2 (by (try simp only [Int.toNat_natCast]); (try rw [e9]); rw [if_neg (by omega)]; simp [Addr.add_lit, hyl] <;> omega) (by rw [if_neg (by omega)]; simp [Addr.add_lit]) (by omega) hdl (fun j v hj => hrd w2 HS2 j v hj) (by rw [hdl, hrow2, hyl]; omega) (flat_one encS_one _) ?_; intro vd w3 hN3 hg3; refine ⟨gb_trans hS hg3, fun hS => ?_⟩
      refine aw_done (by kernel_rfl) ?_
      replace hb1 := hS; clear hS hNP
      have hw := Below.refl w3.heap.size w3
      have hB3 : Below base w w3 := hB2.grown hb1 (Nat.le_trans hbw hB2s) (by intro q hq; injection hq with hq; omega)
      repeat' (first | (refine lw_pure rfl (pv_move rfl) ?_) | (refine lw_pure rfl (pv_assign rfl) ?_) | (refine is_cw ?_; first | (refine cw_seq ?_) | (refine cw_region ?_) | (refine cw_ret ?_)) | (refine is_qw ?_; first | (with_reducible refine qw_then ?_) | (with_reducible refine qw_then_ret ?_)) | (refine lw_nil ?_))
      refine qw_ret1 rfl rfl ⟨⟨_, rfl, ?_⟩, hB3⟩
      rw [← hrl]
      refine own_of encS_len (by omega) hN3 (by omega) hG2 (by rw [length_splice _ _ _ (by rw [hdl, hrow2, hyl]; omega), hrow2]) ?_
      rw [hrl, hrf, show (xs.length + 1) * 6 = i * 6 + (encS y).length + ((xs.drop i).flatMap encS).length by rw [hyl, hdl]; omega, splice_up (by rw [hyl, hrowl]; omega), hrowt]
    · have hcur : cur.toList.length = cap * 6 := by simpa using hsz
      have hg' : w.heap[g]? = some (.cells cur.toList.toArray 39 (0, 0)) := by simpa using hg
      refine fn_enter 95 Tryz.func98 rfl rfl rfl ?_
      repeat' (first | (refine lw_pure rfl (pv_move rfl) ?_) | (refine lw_pure rfl (pv_assign rfl) ?_) | (refine lw_pure rfl (pv_capl (tS rfl) rfl) ?_) | (refine lw_pure rfl (overlap_S (o := (i + 1) * 6) rfl rfl (by (try simp only [Int.toNat_natCast]); (try rw [e9]); rw [if_neg (by omega)]; simp [Addr.add_lit]) HY hg (fun e => hgM e.symm) (by omega)) ?_) | (refine is_cw ?_; first | (refine cw_seq ?_) | (refine cw_region ?_) | (refine cw_true rfl rfl ?_) | (refine cw_false rfl rfl ?_) | (refine is_cd ?_; refine cw_false rfl (by first | assumption | exact decide_eq_false (by omega) | exact dec_notF (by omega)) ?_) | (refine cw_skip ?_)) | (refine is_qw ?_; first | (with_reducible refine qw_then ?_)) | (refine lw_nil ?_) | ((refine is_bin ?_; first | (refine lw_pure rfl (pv_eql rfl rfl) ?_) | (refine lw_pure rfl (pv_gtr rfl rfl) ?_) | (refine lw_pure rfl (pv_inc rfl rfl (by omega)) ?_))) | ((refine is_un ?_; first | (refine lw_pure rfl (pv_not rfl) ?_))) | ((refine is_bi ?_; first | (refine lw_pure rfl (pv_lenl (tS rfl) rfl) ?_))) | (refine is_sl ?_; refine lw_pure rfl (pv_slice_l (tS rfl) rfl rfl (by omega)) ?_) | (refine is_sl ?_; refine lw_pure rfl (pv_slice_h (tS rfl) rfl rfl (by omega)) ?_))
      refine cw_drawn (fun w' => w.grownBy w' (some g)) (by kernel_rfl) (by repeat (first | exact NoPanic.body | with_reducible refine NoPanic.then ?_ | with_reducible refine NoPanic.inBlock ?_)) (fun hNP => ?_)
      have hS := gb_of (below_drew w) (some g)
      (refine at0 0 rfl (fun w' hq => pv_move rfl) ?_)
      (refine at0 1 rfl (fun w' hq => pv_move rfl) ?_)
      (refine at0 2 rfl (fun w' hq => pv_move rfl) ?_)
      (refine at0 3 rfl (fun w' hq => pv_inc rfl rfl (by omega)) ?_)
      (refine at0 4 rfl (fun w' hq => pv_slice_l (tS rfl) rfl rfl (by omega)) ?_)
      (refine at0 5 rfl (fun w' hq => pv_move rfl) ?_)
      (refine at0 6 rfl (fun w' hq => pv_move rfl) ?_)
      (refine at0 7 rfl (fun w' hq => pv_slice_l (tS rfl) rfl rfl (by omega)) ?_)
      refine aw_act 8 (by kernel_rfl) rfl rfl rfl ?_
      refine act_copyd (k := 6) (g := g) (off := i * 6 + (encS y).length) (m := xs.length - i) (cur := cur.toList) (cs := (xs.drop i).flatMap encS) (ad := ⟨g, i * 6, none⟩) Tryz.underlying22 (by kernel_rfl) (by omega) rfl rfl hg' (by (try simp only [Int.toNat_natCast]); (try rw [e9]); rw [if_neg (by omega)]; simp [Addr.add_lit, hyl] <;> omega) (by rw [if_neg (by omega)]; simp [Addr.add_lit]) (by omega) hdl (fun j v hj => hrd w HS j v hj) (by rw [hdl, hcur, hyl]; omega) (flat_one encS_one _) ?_; intro vd w2 hN2 hg2; refine ⟨gb_trans hS hg2, fun hS => ?_⟩
      refine aw_done (by kernel_rfl) ?_
      replace hb1 := hS; clear hS hNP
      have hrow2 : (splice cur.toList (i * 6 + (encS y).length) ((xs.drop i).flatMap encS)).length = cap * 6 := by rw [length_splice _ _ _ (by rw [hdl, hcur, hyl]; omega), hcur]
      have HY2 := HY.grown hb1 (by intro h; injection h with h; exact hgM h)
      have hB2 : Below base w w2 := hb0.grown hb1 hbw (by intro q hq; injection hq with hq; omega)
      have hB2s := hB2.size
      have hw := Below.refl w2.heap.size w2
      repeat' (first | (refine lw_pure rfl (pv_move rfl) ?_) | (refine is_cw ?_; first | (refine cw_seq ?_) | (refine cw_region ?_)) | (refine is_qw ?_; first | (with_reducible refine qw_then ?_)) | (refine is_sl ?_; refine lw_pure rfl (pv_slice_l (tS rfl) rfl rfl (by omega)) ?_))
      refine lw_copyd (k := 6) (g := g) (off := i * 6) (m := 1) (cur := splice cur.toList (i * 6 + (encS y).length) ((xs.drop i).flatMap encS)) (cs := encS y) (ad := ⟨M, 0, none⟩) Tryz.underlying22 (by kernel_rfl) (by omega) rfl rfl rfl hN2 (by rw [if_neg (by omega)]; simp [Addr.add_lit]) rfl (by omega) (by rw [hyl]) (fun j v hj => by rw [Addr.add_lit]; exact HY2.ld0 hj) (by rw [hrow2, hyl]; omega) (fun v hv => encS_one y v hv) ?_
      intro vc w3 hN3 hg3
      have hB3 : Below base w w3 := hB2.grown hg3 (Nat.le_trans hbw hB2s) (by intro q hq; injection hq with hq; omega)
      clear hw
      have hw := Below.refl w3.heap.size w3
      repeat' (first | (refine lw_pure rfl (pv_move rfl) ?_) | (refine lw_pure rfl (pv_assign rfl) ?_) | (refine is_cw ?_; first | (refine cw_seq ?_) | (refine cw_region ?_) | (refine cw_ret ?_)) | (refine is_qw ?_; first | (with_reducible refine qw_then ?_) | (with_reducible refine qw_then_ret ?_)) | (refine lw_nil ?_))
      refine qw_ret1 rfl rfl ⟨⟨_, rfl, ?_⟩, hB3⟩
      (try simp only [Int.toNat_natCast])
      (try rw [e8])
      rw [← hrl]
      refine own_of encS_len (by omega) hN3 (by omega) hmx (by rw [length_splice _ _ _ (by rw [hrow2, hyl]; omega), hrow2]) ?_
      rw [hrl, hrf, show (xs.length + 1) * 6 = i * 6 + (encS y).length + ((xs.drop i).flatMap encS).length by rw [hyl, hdl]; omega, splice_dn (by rw [hyl, hcur]; omega), ← flat_take encS 6 encS_len, ← htk, List.take_take, Nat.min_eq_left (by omega)]


set_option maxRecDepth 20000 in
set_option maxHeartbeats 4000000 in
theorem search_S {l : List Pos} {m : Nat} {a : Option Addr} {ca : Nat} {w : World} (p : Pos) (hm : l.length = m) (hl : l.length ≤ 65536) (hpw : l.Pairwise keyS) (HS : SlR encS 6 w a ca l) : Calls Tryz.prog 97 #[.slice a m ca, .agg (encS p).toArray, .func (.func 58) #[] #[]] w fun e w' => (∃ (i : Nat) (b : Bool), e = .returned (.tuple #[.int .i64 (i : Nat), .bool b]) ∧ PlaceS l p i ∧ (b = true → ∃ x, l[i]? = some x ∧ sameK x p) ∧ (b = false → ∀ x, l[i]? = some x → ¬ sameK x p)) ∧ Below w.heap.size w w' := by
  subst hm
  have hE := Ext.refl w
  have hw := Below.refl w.heap.size w
  have hca := HS.le
  have hcm := HS.max
  refine fn_enter 49 Tryz.func97 rfl rfl rfl ?_
  repeat' (first | (refine is_cw ?_; first | (refine cw_seq ?_) | (refine cw_region ?_)))
  refine lw_boxN rfl rfl (cs := encS p) rfl ?_; intro N w1 hN HB hb
  replace hw := grow_trans hw hb
  clear hb
  replace hE := hE.mono hw; replace HS := HS.mono hw; clear hw; have hw := Below.refl w1.heap.size w1
  repeat' (first | (refine lw_pure rfl (pv_move rfl) ?_) | (refine lw_pure rfl (pv_assign rfl) ?_) | (refine is_cw ?_; first | (refine cw_seq ?_) | (refine cw_region ?_) | (refine cw_block ?_)) | (refine is_qw ?_; first | (with_reducible refine qw_then ?_)) | (refine lw_nil ?_) | ((refine is_bi ?_; first | (refine lw_pure rfl (pv_lenl (tS rfl) rfl) ?_))))
  refine cw_loop (σ := Nat × Nat) (fun s => [(0, .slice a l.length ca), (2, .func (.func 58) #[] #[]), (4, .pointer (some ⟨N, 0, none⟩)), (8, .int .i64 (l.length : Nat)), (9, .int .i64 (s.1 : Nat)), (10, .int .i64 (s.2 : Nat))]) (fun s wr => (s.1 ≤ s.2 ∧ s.2 ≤ l.length) ∧ Below w1.heap.size w1 wr ∧ (∀ j x, j < s.1 → l[j]? = some x → keyS x p) ∧ (∀ j x, s.2 ≤ j → l[j]? = some x → ¬ keyS x p)) (fun s => s.2 - s.1) (0, l.length) (by repeat' (first | exact trivial | refine ⟨rfl, ?_⟩)) ⟨⟨Nat.zero_le _, Nat.le_refl _⟩, hw, (fun j x hj => absurd hj (Nat.not_lt_zero _)), (fun j x hj hx => by have h1 := (List.getElem?_eq_some_iff.1 hx).1; have h2 : l.length ≤ j := hj; omega)⟩ ?_
  clear hw
  rintro ⟨lo, hi⟩ wr ⟨⟨h1, h2⟩, hw, hlo, hhi⟩
  dsimp only at h1 h2 hlo hhi
  change CW _ _ _ _ [(0, .slice a l.length ca), (2, .func (.func 58) #[] #[]), (4, .pointer (some ⟨N, 0, none⟩)), (8, .int .i64 (l.length : Nat)), (9, .int .i64 (lo : Nat)), (10, .int .i64 (hi : Nat))] wr
  by_cases hlt : lo < hi
  · obtain ⟨q, hq⟩ : ∃ q, (lo + hi) / 2 = q := ⟨_, rfl⟩
    have hq1 : lo ≤ q ∧ q < hi := by omega
    have hlt1 : q < l.length := by omega
    have hxq : l[q]? = some l[q] := List.getElem?_eq_getElem hlt1
    obtain ⟨ab, ao, rfl, -, -⟩ := HS.at (by intro h; rw [h] at hlt1; simp at hlt1)
    generalize l[q] = y at hxq
    repeat' (first | (refine lw_pure rfl (pv_move rfl) ?_) | (refine lw_pure rfl (pv_assign rfl) ?_) | (refine lw_pure rfl (pv_half (m := lo + hi) rfl rfl (by omega) hq (by decide)) ?_) | (refine lw_pure rfl (pv_convu (tCv rfl rfl) rfl (by omega)) ?_) | (refine is_cw ?_; first | (refine cw_seq ?_) | (refine cw_region ?_) | (refine is_cd ?_; refine cw_true rfl (by first | assumption | exact decide_eq_true (by omega) | exact dec_notT (by omega)) ?_) | (refine cw_skip ?_) | (refine cw_block ?_)) | (refine is_qw ?_; first | (with_reducible refine qw_then ?_)) | (refine lw_nil ?_) | ((refine is_bin ?_; first | (refine lw_pure rfl (pv_lss rfl rfl) ?_) | (refine lw_pure rfl (pv_add rfl rfl (by omega)) ?_))) | (refine is_cv ?_; refine lw_pure rfl (pv_conv (tCv rfl rfl) rfl (by omega)) ?_))
    refine cw_drawn (fun w' => Below w1.heap.size w1 w') (by kernel_rfl) (by repeat (first | exact NoPanic.body | with_reducible refine NoPanic.then ?_ | with_reducible refine NoPanic.inBlock ?_)) (fun hNP => ?_)
    have hS := hw.drew
    (refine at0 0 rfl (fun w' hq => pv_move rfl) ?_)
    (refine at0 1 rfl (fun w' hq => pv_move rfl) ?_)
    (refine at0 2 rfl (fun w' hq => pv_move rfl) ?_)
    (refine at0 3 rfl (fun w' hq => pv_ian (tS rfl) rfl rfl (by omega)) ?_)
    (refine at0 4 rfl (fun w' hq => pv_loada (tA rfl) rfl (by first | exact SlR.lda (HS.mono hq) hxq | exact PT.lda (HB.mono hq)) (by rfl)) ?_)
    (refine at0 5 rfl (fun w' hq => pv_loada (tA rfl) rfl (by first | exact SlR.lda (HS.mono hq) hxq | exact PT.lda (HB.mono hq)) (by rfl)) ?_)
    refine aw_act 6 (by kernel_rfl) rfl rfl rfl ?_
    refine act_callv (f := 58) rfl (by kernel_rfl) rfl (comp_c y p _) ?_; rintro e w2 ⟨rfl, hb⟩; refine ⟨_, rfl, grow_trans hS hb, fun hS => ?_⟩
    (refine at0 7 rfl (fun w' hq => pv_lss rfl rfl) ?_)
    refine aw_done (by kernel_rfl) ?_
    replace hw := hS; clear hS hNP
    by_cases hy : rowS y p < 0
    · have hyk := rowS_lt.1 hy
      repeat' (first | (refine lw_pure rfl (pv_move rfl) ?_) | (refine lw_pure rfl (pv_assign rfl) ?_) | (refine is_cw ?_; first | (refine cw_region ?_) | (refine is_cd ?_; refine cw_true rfl (by first | assumption | exact decide_eq_true (by omega) | exact dec_notT (by omega)) ?_)) | (refine is_qw ?_; first | (with_reducible refine qw_then ?_) | (with_reducible refine qw_in ?_)) | (refine lw_nil ?_) | ((refine is_bin ?_; first | (refine lw_pure rfl (pv_inc rfl rfl (by omega)) ?_))))
      refine qw_round (q + 1, hi) (by repeat' (first | exact trivial | refine ⟨rfl, ?_⟩)) ⟨⟨by show q + 1 ≤ hi; omega, h2⟩, hw, ?_, hhi⟩ (by show hi - (q + 1) < hi - lo; omega)
      intro j x hj hx
      replace hj : j < q + 1 := hj
      by_cases hjq : j = q
      · subst hjq; rw [hxq] at hx; injection hx with hx; subst hx; exact hyk
      · exact keyS_trans (pwg_get hpw (by omega) hx hxq) hyk
    · have hyk : ¬ keyS y p := fun h => hy (rowS_lt.2 h)
      repeat' (first | (refine lw_pure rfl (pv_move rfl) ?_) | (refine lw_pure rfl (pv_assign rfl) ?_) | (refine is_cw ?_; first | (refine cw_region ?_) | (refine is_cd ?_; refine cw_false rfl (by first | assumption | exact decide_eq_false (by omega) | exact dec_notF (by omega)) ?_)) | (refine is_qw ?_; first | (with_reducible refine qw_then ?_) | (with_reducible refine qw_in ?_)) | (refine lw_nil ?_))
      refine qw_round (lo, q) (by repeat' (first | exact trivial | refine ⟨rfl, ?_⟩)) ⟨⟨hq1.1, by show q ≤ l.length; omega⟩, hw, hlo, ?_⟩ (by show q - lo < hi - lo; omega)
      intro j x hj hx hk
      replace hj : q ≤ j := hj
      by_cases hjq : j = q
      · subst hjq; rw [hxq] at hx; injection hx with hx; subst hx; exact hyk hk
      · exact hyk (keyS_trans (pwg_get hpw (by omega) hxq hx) hk)
  · obtain rfl : hi = lo := by omega
    have hP : PlaceS l p hi := ⟨h2, hlo, fun j x hj => hhi j x hj⟩
    repeat' (first | (refine lw_pure rfl (pv_move rfl) ?_) | (refine is_cw ?_; first | (refine cw_seq ?_) | (refine cw_region ?_) | (refine is_cd ?_; refine cw_false rfl (by first | assumption | exact decide_eq_false (by omega) | exact dec_notF (by omega)) ?_) | (refine cw_exit ?_)) | (refine is_qw ?_; first | (with_reducible refine qw_then ?_) | (with_reducible refine qw_in_hit ?_) | (with_reducible refine qw_then_exit ?_)) | (refine lw_nil ?_) | ((refine is_bin ?_; first | (refine lw_pure rfl (pv_lss rfl rfl) ?_))))
    by_cases hn : hi < l.length
    · have hxq : l[hi]? = some l[hi] := List.getElem?_eq_getElem hn
      obtain ⟨ab, ao, rfl, -, -⟩ := HS.at (by intro h; rw [h] at hn; simp at hn)
      generalize l[hi] = y at hxq
      refine cw_drawn (fun w' => Below w1.heap.size w1 w') (by kernel_rfl) (by repeat (first | exact NoPanic.body | with_reducible refine NoPanic.then ?_ | with_reducible refine NoPanic.inBlock ?_)) (fun hNP => ?_)
      have hS := hw.drew
      all_goals (refine at0 0 rfl (fun w' hq => pv_move rfl) ?_)
      all_goals (refine at0 1 rfl (fun w' hq => pv_move rfl) ?_)
      all_goals (refine at0 2 rfl (fun w' hq => pv_move rfl) ?_)
      all_goals (refine at0 3 rfl (fun w' hq => pv_lss rfl rfl) ?_)
      all_goals (refine at0 4 rfl (fun w' hq => pv_move rfl) ?_)
      all_goals (refine at2 5 rfl rfl rfl (fun w' hq => pv_move rfl) ?_)
      all_goals (refine at2 6 rfl rfl rfl (fun w' hq => pv_move rfl) ?_)
      all_goals (refine at2 7 rfl rfl rfl (fun w' hq => pv_move rfl) ?_)
      all_goals (refine at2 8 rfl rfl rfl (fun w' hq => pv_ian (tS rfl) rfl rfl (by omega)) ?_)
      all_goals (refine at2 9 rfl rfl rfl (fun w' hq => pv_loada (tA rfl) rfl (by first | exact SlR.lda (HS.mono hq) hxq | exact PT.lda (HB.mono hq)) (by rfl)) ?_)
      all_goals (refine at2 10 rfl rfl rfl (fun w' hq => pv_loada (tA rfl) rfl (by first | exact SlR.lda (HS.mono hq) hxq | exact PT.lda (HB.mono hq)) (by rfl)) ?_)
      all_goals first | (refine an3 11 rfl rfl rfl ?_) | (refine an0 11 rfl rfl rfl ?_) | (refine aw_act_g 11 (by kernel_rfl) rfl rfl rfl (by first | rfl | assumption | exact decide_eq_true (by omega) | exact decide_eq_false (by omega) | exact dec_notT (by omega) | exact dec_notF (by omega)) rfl ?_; refine act_callv (f := 58) rfl (by kernel_rfl) rfl (comp_c y p _) ?_; rintro e w2 ⟨rfl, hb⟩; refine ⟨_, rfl, grow_trans hS hb, fun hS => ?_⟩)
      all_goals (refine at2 12 rfl rfl rfl (fun w' hq => pv_eql rfl rfl) ?_)
      all_goals (refine at0 13 rfl (fun w' hq => pv_pick_t rfl (by first | assumption | exact decide_eq_true (by omega) | exact dec_notT (by omega)) rfl) ?_)
      all_goals (refine at0 14 rfl (fun w' hq => pv_assign rfl) ?_)
      all_goals (refine at0 15 rfl (fun w' hq => pv_assign rfl) ?_)
      all_goals (refine aw_done (by kernel_rfl) ?_; replace hw := hS; clear hS hNP)
      repeat' (first | (refine is_cw ?_; first | (refine cw_ret ?_)) | (refine is_qw ?_; first | (with_reducible refine qw_then ?_)))
      refine qw_ret2 rfl rfl rfl ⟨⟨hi, decide (rowS y p = 0), rfl, hP, fun h => ⟨y, hxq, rowS_eq.1 (of_decide_eq_true h)⟩, fun h x hx hs => ?_⟩, (hE.mono hw).b⟩
      rw [hxq] at hx; injection hx with hx; subst hx
      exact (of_decide_eq_false h) (rowS_eq.2 hs)
    · skip
      refine cw_drawn (fun w' => Below w1.heap.size w1 w') (by kernel_rfl) (by repeat (first | exact NoPanic.body | with_reducible refine NoPanic.then ?_ | with_reducible refine NoPanic.inBlock ?_)) (fun hNP => ?_)
      have hS := hw.drew
      all_goals (refine at0 0 rfl (fun w' hq => pv_move rfl) ?_)
      all_goals (refine at0 1 rfl (fun w' hq => pv_move rfl) ?_)
      all_goals (refine at0 2 rfl (fun w' hq => pv_move rfl) ?_)
      all_goals (refine at0 3 rfl (fun w' hq => pv_lss rfl rfl) ?_)
      all_goals (refine at0 4 rfl (fun w' hq => pv_move rfl) ?_)
      all_goals (refine an2 5 rfl rfl rfl ?_)
      all_goals (refine an2 6 rfl rfl rfl ?_)
      all_goals (refine an2 7 rfl rfl rfl ?_)
      all_goals (refine an2 8 rfl rfl rfl ?_)
      all_goals (refine an2 9 rfl rfl rfl ?_)
      all_goals (refine an2 10 rfl rfl rfl ?_)
      all_goals first | (refine an3 11 rfl rfl rfl ?_) | (refine an0 11 rfl rfl rfl ?_) | (refine aw_act_g 11 (by kernel_rfl) rfl rfl rfl (by first | rfl | assumption | exact decide_eq_true (by omega) | exact decide_eq_false (by omega) | exact dec_notT (by omega) | exact dec_notF (by omega)) rfl ?_; skip)
      all_goals (refine an2 12 rfl rfl rfl ?_)
      all_goals (refine at0 13 rfl (fun w' hq => pv_pick_f rfl (by first | assumption | exact decide_eq_false (by omega) | exact dec_notF (by omega)) rfl) ?_)
      all_goals (refine at0 14 rfl (fun w' hq => pv_assign rfl) ?_)
      all_goals (refine at0 15 rfl (fun w' hq => pv_assign rfl) ?_)
      all_goals (refine aw_done (by kernel_rfl) ?_; replace hw := hS; clear hS hNP)
      repeat' (first | (refine is_cw ?_; first | (refine cw_ret ?_)) | (refine is_qw ?_; first | (with_reducible refine qw_then ?_)))
      exact qw_ret2 rfl rfl rfl ⟨⟨hi, false, rfl, hP, (fun h => by cases h), fun _ x hx _ => absurd (List.getElem?_eq_some_iff.1 hx).1 hn⟩, (hE.mono hw).b⟩
set_option maxRecDepth 20000 in
set_option maxHeartbeats 2000000 in
theorem bought_c {q n : Int} {x : Pos} (a i : Int) (hq : NumS q) (hn : NumS n) (hx : NumS x.bought ∧ NumS x.sold ∧ NumS x.spent ∧ NumS x.got) (w : World) : Calls Tryz.prog 66 #[.agg #[.int .i64 q, .int .i64 n], .agg (encS x).toArray] w fun e w' => e = .returned (.agg (encS (joinS x ⟨a, i, q, 0, n, 0⟩)).toArray) ∧ Below w.heap.size w w' := by
  have hE := Ext.refl w
  have hw := Below.refl w.heap.size w
  have hJ : (((encS x).set 2 (.int .i64 (moreS x.bought q))).set 4 (.int .i64 (moreS x.spent n))) = encS (joinS x ⟨a, i, q, 0, n, 0⟩) := by
    unfold joinS encS
    simp only [more_zero hx.2.1, more_zero hx.2.2.2]
    rfl
  refine fn_enter 18 Tryz.func66 rfl rfl rfl ?_
  repeat' (first | (refine is_cw ?_; first | (refine cw_seq ?_) | (refine cw_region ?_)))
  refine lw_boxN rfl rfl (cs := [.int .i64 q, .int .i64 n]) rfl ?_; intro N2 w2 hN2 HC hb
  replace hw := grow_trans hw hb
  clear hb
  refine lw_boxN rfl rfl (cs := encS x) rfl ?_; intro N3 w3 hN3 HX hb
  replace hN3 : w.heap.size ≤ N3 := Nat.le_trans hw.size hN3
  replace HC := HC.mono hb
  replace hw := grow_trans hw hb
  clear hb
  refine lw_allocN rfl (by first | exact tyv_27 | exact tyv_28 | exact tyv_38 | exact tyv_39 | exact tyv_48 | exact tyv_49 | exact tyv_52 | exact tyv_53 | exact tyv_68 | exact tyv_69 | exact tyv_79 | exact tyv_80 | exact tyv_94 | exact tyv_95 | exact tyv_131 | exact tyv_132) rfl ?_; intro N4 w4 hN4 HZ hb
  have h34 : N3 ≠ N4 := by have := HX.lt; omega
  replace hN4 : w.heap.size ≤ N4 := Nat.le_trans hw.size hN4
  replace HC := HC.mono hb
  replace HX := HX.mono hb
  replace hw := grow_trans hw hb
  clear hb
  replace hE := hE.mono hw; clear hw; have hw := Below.refl w4.heap.size w4
  repeat' (first | (refine is_cw ?_; first | (refine cw_seq ?_)) | (refine is_qw ?_; first | (with_reducible refine qw_then ?_)) | (refine lw_nil ?_))
  refine cw_drawnF 11 (fun w' => Below w4.heap.size w4 w' ∧ PT w' N3 39 (encS x)) (by kernel_rfl) (by repeat (first | exact NoPanic.body | with_reducible refine NoPanic.then ?_ | with_reducible refine NoPanic.inBlock ?_)) (fun hNP => ?_)
  have hU := And.intro hw.drew (HX.mono (below_drew _))
  first | (refine fw_takeT 0 9 rfl (by kernel_rfl) (by kernel_rfl) rfl rfl (by kernel_rfl) (by kernel_rfl) (by kernel_rfl) hNP hU rfl (fun w' hq => pv_fa (tF rfl) rfl) ?_)
  first | (refine fw_takeT 1 9 rfl (by kernel_rfl) (by kernel_rfl) rfl rfl (by kernel_rfl) (by kernel_rfl) (by kernel_rfl) hNP hU rfl (fun w' hq => pv_load (t1 rfl) rfl (by first | exact PT.ld0 hq.2 rfl | exact PT.ld hq.2 rfl)) ?_)
  first | (refine fw_takeT 2 9 rfl (by kernel_rfl) (by kernel_rfl) rfl rfl (by kernel_rfl) (by kernel_rfl) (by kernel_rfl) hNP hU rfl (fun w' hq => pv_fa (tF rfl) rfl) ?_)
  first | (refine fw_takeT 3 9 rfl (by kernel_rfl) (by kernel_rfl) rfl rfl (by kernel_rfl) (by kernel_rfl) (by kernel_rfl) hNP hU rfl (fun w' hq => pv_load (t1 rfl) rfl (by first | exact PT.ld0 (HC.mono hq.1) rfl | exact PT.ld (HC.mono hq.1) rfl)) ?_)
  first | (refine fw_takeT 5 9 rfl (by kernel_rfl) (by kernel_rfl) rfl rfl (by kernel_rfl) (by kernel_rfl) (by kernel_rfl) hNP hU rfl (fun w' hq => pv_fa (tF rfl) rfl) ?_)
  first | (refine fw_takeT 6 9 rfl (by kernel_rfl) (by kernel_rfl) rfl rfl (by kernel_rfl) (by kernel_rfl) (by kernel_rfl) hNP hU rfl (fun w' hq => pv_load (t1 rfl) rfl (by first | exact PT.ld0 hq.2 rfl | exact PT.ld hq.2 rfl)) ?_)
  first | (refine fw_takeT 7 9 rfl (by kernel_rfl) (by kernel_rfl) rfl rfl (by kernel_rfl) (by kernel_rfl) (by kernel_rfl) hNP hU rfl (fun w' hq => pv_fa (tF rfl) rfl) ?_)
  first | (refine fw_takeT 8 9 rfl (by kernel_rfl) (by kernel_rfl) rfl rfl (by kernel_rfl) (by kernel_rfl) (by kernel_rfl) hNP hU rfl (fun w' hq => pv_load (t1 rfl) rfl (by first | exact PT.ld0 (HC.mono hq.1) rfl | exact PT.ld (HC.mono hq.1) rfl)) ?_)
  refine fw_act 4 (by kernel_rfl) rfl rfl rfl ?_
  refine act_call (f := 99) (by kernel_rfl) rfl (cap_c hx.1 hq _) ?_; rintro e w5 ⟨rfl, rfl⟩; refine ⟨_, rfl, hU, fun hU => ?_⟩
  first | (refine fw_takeT 10 9 rfl (by kernel_rfl) (by kernel_rfl) rfl rfl (by kernel_rfl) (by kernel_rfl) (by kernel_rfl) hNP hU rfl (fun w' hq => pv_fa (tF rfl) rfl) ?_)
  refine fw_act 9 (by kernel_rfl) rfl rfl rfl ?_
  refine act_call (f := 99) (by kernel_rfl) rfl (cap_c hx.2.2.1 hn _) ?_; rintro e w5 ⟨rfl, rfl⟩; refine ⟨_, rfl, hU, fun hU => ?_⟩
  obtain ⟨hw, HX⟩ := hU; clear hNP
  refine fw_one 11 (by kernel_rfl) rfl rfl rfl (by kernel_rfl) ?_
  refine act_store HX (tZ rfl) rfl rfl rfl (by simp [encS]) ?_; intro w6 HX2 hg hz
  first | (refine fw_one 12 (by kernel_rfl) rfl rfl rfl (by kernel_rfl) ?_; refine act_pv (pv_fa (tF rfl) rfl) ?_)
  refine fw_one 13 (by kernel_rfl) rfl rfl rfl (by kernel_rfl) ?_
  refine act_store HX2 (tZ rfl) rfl rfl rfl (by simp [encS]) ?_; intro w7 HX3 hg2 hz2
  refine fw_done (by kernel_rfl) ?_
  rw [hJ] at HX3
  replace hE := ((hE.mono hw).grown hg (by intro q hq; injection hq with hq; omega)).grown hg2 (by intro q hq; injection hq with hq; omega)
  replace HZ := ((HZ.mono hw).grown hg (by intro h; injection h with h; exact h34 h)).grown hg2 (by intro h; injection h with h; exact h34 h)
  clear hw
  have hw := Below.refl w7.heap.size w7
  repeat' (first | (refine is_cw ?_; first | (refine cw_seq ?_) | (refine cw_region ?_)) | (refine is_qw ?_; first | (with_reducible refine qw_then ?_)) | ((refine is_load ?_; first | (refine lw_pure rfl (pv_loada (tA rfl) rfl (by first | exact PT.lda (HX3.mono hw)) (by rfl)) ?_))))
  refine lw_storea (vs := encS (joinS x ⟨a, i, q, 0, n, 0⟩)) HZ (tZ rfl) rfl rfl rfl rfl (encS_one _) ?_; intro w8 H8 hg3 hz3
  replace hE := hE.grown hg3 (by intro q hq; injection hq with hq; omega)
  have hw := Below.refl w8.heap.size w8
  repeat' (first | (refine is_cw ?_; first | (refine cw_ret ?_)) | (refine is_qw ?_; first | (with_reducible refine qw_then ?_)) | (refine lw_nil ?_))
  exact qw_retc rfl rfl (agg_ld (tA rfl) rfl (fun i u hu => H8.ld0 hu)) ⟨rfl, hE.b⟩

set_option maxRecDepth 20000 in
set_option maxHeartbeats 2000000 in
theorem sold_c {q n : Int} {x : Pos} (a i : Int) (hq : NumS q) (hn : NumS n) (hx : NumS x.bought ∧ NumS x.sold ∧ NumS x.spent ∧ NumS x.got) (w : World) : Calls Tryz.prog 67 #[.agg #[.int .i64 q, .int .i64 n], .agg (encS x).toArray] w fun e w' => e = .returned (.agg (encS (joinS x ⟨a, i, 0, q, 0, n⟩)).toArray) ∧ Below w.heap.size w w' := by
  have hE := Ext.refl w
  have hw := Below.refl w.heap.size w
  have hJ : (((encS x).set 3 (.int .i64 (moreS x.sold q))).set 5 (.int .i64 (moreS x.got n))) = encS (joinS x ⟨a, i, 0, q, 0, n⟩) := by
    unfold joinS encS
    simp only [more_zero hx.1, more_zero hx.2.2.1]
    rfl
  refine fn_enter 18 Tryz.func67 rfl rfl rfl ?_
  repeat' (first | (refine is_cw ?_; first | (refine cw_seq ?_) | (refine cw_region ?_)))
  refine lw_boxN rfl rfl (cs := [.int .i64 q, .int .i64 n]) rfl ?_; intro N2 w2 hN2 HC hb
  replace hw := grow_trans hw hb
  clear hb
  refine lw_boxN rfl rfl (cs := encS x) rfl ?_; intro N3 w3 hN3 HX hb
  replace hN3 : w.heap.size ≤ N3 := Nat.le_trans hw.size hN3
  replace HC := HC.mono hb
  replace hw := grow_trans hw hb
  clear hb
  refine lw_allocN rfl (by first | exact tyv_27 | exact tyv_28 | exact tyv_38 | exact tyv_39 | exact tyv_48 | exact tyv_49 | exact tyv_52 | exact tyv_53 | exact tyv_68 | exact tyv_69 | exact tyv_79 | exact tyv_80 | exact tyv_94 | exact tyv_95 | exact tyv_131 | exact tyv_132) rfl ?_; intro N4 w4 hN4 HZ hb
  have h34 : N3 ≠ N4 := by have := HX.lt; omega
  replace hN4 : w.heap.size ≤ N4 := Nat.le_trans hw.size hN4
  replace HC := HC.mono hb
  replace HX := HX.mono hb
  replace hw := grow_trans hw hb
  clear hb
  replace hE := hE.mono hw; clear hw; have hw := Below.refl w4.heap.size w4
  repeat' (first | (refine is_cw ?_; first | (refine cw_seq ?_)) | (refine is_qw ?_; first | (with_reducible refine qw_then ?_)) | (refine lw_nil ?_))
  refine cw_drawnF 11 (fun w' => Below w4.heap.size w4 w' ∧ PT w' N3 39 (encS x)) (by kernel_rfl) (by repeat (first | exact NoPanic.body | with_reducible refine NoPanic.then ?_ | with_reducible refine NoPanic.inBlock ?_)) (fun hNP => ?_)
  have hU := And.intro hw.drew (HX.mono (below_drew _))
  first | (refine fw_takeT 0 9 rfl (by kernel_rfl) (by kernel_rfl) rfl rfl (by kernel_rfl) (by kernel_rfl) (by kernel_rfl) hNP hU rfl (fun w' hq => pv_fa (tF rfl) rfl) ?_)
  first | (refine fw_takeT 1 9 rfl (by kernel_rfl) (by kernel_rfl) rfl rfl (by kernel_rfl) (by kernel_rfl) (by kernel_rfl) hNP hU rfl (fun w' hq => pv_load (t1 rfl) rfl (by first | exact PT.ld0 hq.2 rfl | exact PT.ld hq.2 rfl)) ?_)
  first | (refine fw_takeT 2 9 rfl (by kernel_rfl) (by kernel_rfl) rfl rfl (by kernel_rfl) (by kernel_rfl) (by kernel_rfl) hNP hU rfl (fun w' hq => pv_fa (tF rfl) rfl) ?_)
  first | (refine fw_takeT 3 9 rfl (by kernel_rfl) (by kernel_rfl) rfl rfl (by kernel_rfl) (by kernel_rfl) (by kernel_rfl) hNP hU rfl (fun w' hq => pv_load (t1 rfl) rfl (by first | exact PT.ld0 (HC.mono hq.1) rfl | exact PT.ld (HC.mono hq.1) rfl)) ?_)
  first | (refine fw_takeT 5 9 rfl (by kernel_rfl) (by kernel_rfl) rfl rfl (by kernel_rfl) (by kernel_rfl) (by kernel_rfl) hNP hU rfl (fun w' hq => pv_fa (tF rfl) rfl) ?_)
  first | (refine fw_takeT 6 9 rfl (by kernel_rfl) (by kernel_rfl) rfl rfl (by kernel_rfl) (by kernel_rfl) (by kernel_rfl) hNP hU rfl (fun w' hq => pv_load (t1 rfl) rfl (by first | exact PT.ld0 hq.2 rfl | exact PT.ld hq.2 rfl)) ?_)
  first | (refine fw_takeT 7 9 rfl (by kernel_rfl) (by kernel_rfl) rfl rfl (by kernel_rfl) (by kernel_rfl) (by kernel_rfl) hNP hU rfl (fun w' hq => pv_fa (tF rfl) rfl) ?_)
  first | (refine fw_takeT 8 9 rfl (by kernel_rfl) (by kernel_rfl) rfl rfl (by kernel_rfl) (by kernel_rfl) (by kernel_rfl) hNP hU rfl (fun w' hq => pv_load (t1 rfl) rfl (by first | exact PT.ld0 (HC.mono hq.1) rfl | exact PT.ld (HC.mono hq.1) rfl)) ?_)
  refine fw_act 4 (by kernel_rfl) rfl rfl rfl ?_
  refine act_call (f := 99) (by kernel_rfl) rfl (cap_c hx.2.1 hq _) ?_; rintro e w5 ⟨rfl, rfl⟩; refine ⟨_, rfl, hU, fun hU => ?_⟩
  first | (refine fw_takeT 10 9 rfl (by kernel_rfl) (by kernel_rfl) rfl rfl (by kernel_rfl) (by kernel_rfl) (by kernel_rfl) hNP hU rfl (fun w' hq => pv_fa (tF rfl) rfl) ?_)
  refine fw_act 9 (by kernel_rfl) rfl rfl rfl ?_
  refine act_call (f := 99) (by kernel_rfl) rfl (cap_c hx.2.2.2 hn _) ?_; rintro e w5 ⟨rfl, rfl⟩; refine ⟨_, rfl, hU, fun hU => ?_⟩
  obtain ⟨hw, HX⟩ := hU; clear hNP
  refine fw_one 11 (by kernel_rfl) rfl rfl rfl (by kernel_rfl) ?_
  refine act_store HX (tZ rfl) rfl rfl rfl (by simp [encS]) ?_; intro w6 HX2 hg hz
  first | (refine fw_one 12 (by kernel_rfl) rfl rfl rfl (by kernel_rfl) ?_; refine act_pv (pv_fa (tF rfl) rfl) ?_)
  refine fw_one 13 (by kernel_rfl) rfl rfl rfl (by kernel_rfl) ?_
  refine act_store HX2 (tZ rfl) rfl rfl rfl (by simp [encS]) ?_; intro w7 HX3 hg2 hz2
  refine fw_done (by kernel_rfl) ?_
  rw [hJ] at HX3
  replace hE := ((hE.mono hw).grown hg (by intro q hq; injection hq with hq; omega)).grown hg2 (by intro q hq; injection hq with hq; omega)
  replace HZ := ((HZ.mono hw).grown hg (by intro h; injection h with h; exact h34 h)).grown hg2 (by intro h; injection h with h; exact h34 h)
  clear hw
  have hw := Below.refl w7.heap.size w7
  repeat' (first | (refine is_cw ?_; first | (refine cw_seq ?_) | (refine cw_region ?_)) | (refine is_qw ?_; first | (with_reducible refine qw_then ?_)) | ((refine is_load ?_; first | (refine lw_pure rfl (pv_loada (tA rfl) rfl (by first | exact PT.lda (HX3.mono hw)) (by rfl)) ?_))))
  refine lw_storea (vs := encS (joinS x ⟨a, i, 0, q, 0, n⟩)) HZ (tZ rfl) rfl rfl rfl rfl (encS_one _) ?_; intro w8 H8 hg3 hz3
  replace hE := hE.grown hg3 (by intro q hq; injection hq with hq; omega)
  have hw := Below.refl w8.heap.size w8
  repeat' (first | (refine is_cw ?_; first | (refine cw_ret ?_)) | (refine is_qw ?_; first | (with_reducible refine qw_then ?_)) | (refine lw_nil ?_))
  exact qw_retc rfl rfl (agg_ld (tA rfl) rfl (fun i u hu => H8.ld0 hu)) ⟨rfl, hE.b⟩

theorem act_callw {P : Program} {n : Nat} {l : Fr} {w : World} {d : Option Nat} {f : FuncId} {x : Operand} {first cap : Array Value} {args : List Operand} {ts : Array TypeId} {ty : TypeId} {pos : String} {af : Array Edge} {g : Option (Nat × Bool)} {vs : List Value} {R : Ending → World → Prop} {Z : Value → World → Prop} (hx : ev l x = some (.func (.func f) first cap)) (he : entersB P f = true) (hvs : evs l args = some vs)
    (hc : Calls P f (first ++ vs.toArray ++ cap) w R) (h : ∀ e w', R e w' → ∃ v, e = .returned v ∧ Z v w') : Act1 P n l ⟨d, .call ⟨.value x, args.toArray, ts⟩, ty, pos, af, g⟩ w Z := ⟨fun a ha K Q hK => by
  have hr := run_call (P := P) (w := w) (ts := ts) (d := d) (ty := ty) (pos := pos) (af := af) (g := g) he ha hx hvs
  unfold Oper.wp; rw [hr]
  refine Calls.mono hc fun e w' hr => ?_
  obtain ⟨v, rfl, hl⟩ := h e w' hr
  exact hK v w' hl⟩
set_option maxRecDepth 20000 in
set_option maxHeartbeats 4000000 in
theorem putS_c {l : List Pos} {m : Nat} {a : Option Addr} {ca : Nat} {w : World} (F : FuncId) (first : Array Value) (p : Pos) (he : entersB Tryz.prog F = true) (hm : l.length = m) (hl : l.length ≤ 65535) (hpw : l.Pairwise keyS) (HS : SlR encS 6 w a ca l)
    (hF : ∀ x : Pos, (x ∈ l ∨ x = zS p.acct p.inst) → ∀ w', Calls Tryz.prog F (first ++ [Value.agg (encS x).toArray].toArray ++ #[]) w' fun e w'' => e = .returned (.agg (encS (joinS x p)).toArray) ∧ Below w'.heap.size w' w'') (hz : joinS (zS p.acct p.inst) p = p) :
    Calls Tryz.prog 65 #[.slice a m ca, .int .i64 p.acct, .int .i64 p.inst, .func (.func F) first #[]] w fun e w' => (∃ v, e = .returned v ∧ Own encS 6 39 w.heap.size w' v (addS l p)) ∧ Below w.heap.size w w' := by
  subst hm
  have hE := Ext.refl w
  have hw := Below.refl w.heap.size w
  have hca := HS.le
  have hcm := HS.max
  have hF0 : ∀ w', Calls Tryz.prog F (first ++ [Value.agg (encS (zS p.acct p.inst)).toArray].toArray ++ #[]) w' fun e w'' => e = .returned (.agg (encS p).toArray) ∧ Below w'.heap.size w' w'' := fun w' => by have h := hF _ (Or.inr rfl) w'; rwa [hz] at h
  refine fn_enter 44 Tryz.func65 rfl rfl rfl ?_
  repeat' (first | (refine lw_pure rfl (pv_move rfl) ?_) | (refine lw_pure rfl (pv_assign rfl) ?_) | (refine is_cw ?_; first | (refine cw_seq ?_) | (refine cw_region ?_)) | (refine is_qw ?_; first | (with_reducible refine qw_then ?_)) | (refine lw_nil ?_) | ((refine is_bd ?_; first | (refine lw_pure rfl (tyB_39 rfl rfl rfl) ?_))))
  refine lw_varN rfl (by first | exact tyv_27 | exact tyv_28 | exact tyv_38 | exact tyv_39 | exact tyv_48 | exact tyv_49 | exact tyv_52 | exact tyv_53 | exact tyv_68 | exact tyv_69 | exact tyv_79 | exact tyv_80 | exact tyv_94 | exact tyv_95 | exact tyv_131 | exact tyv_132) rfl (tZ rfl) (fun _ => rfl) rfl rfl ?_; intro N9 wn hN9 HB hb; replace hN9 := Nat.le_trans hw.size hN9; replace hw := grow_trans hw hb; clear hb
  replace HB : PT wn N9 39 (encS (zS p.acct p.inst)) := HB
  replace hE := hE.mono hw; replace HS := HS.mono hw; clear hw; have hw := Below.refl wn.heap.size wn
  repeat' (first | (refine lw_pure rfl (pv_move rfl) ?_) | (refine is_cw ?_; first | (refine cw_seq ?_) | (refine cw_region ?_)) | (refine is_qw ?_; first | (with_reducible refine qw_then ?_)) | (refine lw_nil ?_) | ((refine is_load ?_; first | (refine lw_pure rfl (pv_loada (tA rfl) rfl (by first | exact PT.lda (HB.mono hw)) (by rfl)) ?_))))
  refine lw_call (f := 97) (by kernel_rfl) rfl rfl (search_S (zS p.acct p.inst) rfl (by omega) hpw HS) ?_; rintro e w1 ⟨⟨i, b, rfl, hP, hb1, hb2⟩, hb⟩; refine ⟨_, rfl, ?_⟩
  replace hE := hE.mono (grow_trans hw hb)
  replace HS := HS.mono (grow_trans hw hb)
  replace HB := HB.mono (grow_trans hw hb)
  clear hb hw
  have hw := Below.refl w1.heap.size w1
  have hP' : PlaceS l p i := ⟨hP.le, hP.lo, hP.hi⟩
  have hle := hP.le
  have hE0 := hE.le
  cases b with
  | false =>
    have hadd := hP'.new hpw (fun x hx => hb2 rfl x hx)
    repeat' (first | (refine lw_pure rfl (pv_move rfl) ?_) | (refine lw_pure rfl (pv_assign rfl) ?_) | (refine is_cw ?_; first | (refine cw_seq ?_) | (refine cw_region ?_) | (refine cw_true rfl rfl ?_)) | (refine is_qw ?_; first | (with_reducible refine qw_then ?_)) | (refine lw_nil ?_) | ((refine is_un ?_; first | (refine lw_pure rfl (pv_not rfl) ?_))) | (refine lw_pure rfl (pv_extract rfl rfl) ?_))
    refine cw_drawn (fun w' => Below w1.heap.size w1 w') (by kernel_rfl) (by repeat (first | exact NoPanic.body | with_reducible refine NoPanic.then ?_ | with_reducible refine NoPanic.inBlock ?_)) (fun hNP => ?_)
    have hS := hw.drew
    (refine at0 0 rfl (fun w' hq => pv_move rfl) ?_)
    (refine at0 2 rfl (fun w' hq => pv_move rfl) ?_)
    (refine at0 3 rfl (fun w' hq => pv_move rfl) ?_)
    (refine at0 4 rfl (fun w' hq => pv_loada (tA rfl) rfl (by first | exact PT.lda (HB.mono hq)) (by rfl)) ?_)
    refine aw_act 1 (by kernel_rfl) rfl rfl rfl ?_
    refine act_call (f := 44) (by kernel_rfl) rfl (clone_S rfl (HS.mono hS) (by omega)) ?_; rintro e w2 ⟨⟨v2, rfl, hO⟩, hb⟩; refine ⟨_, rfl, grow_trans hS hb, fun hS => ?_⟩
    refine aw_act 5 (by kernel_rfl) rfl rfl rfl ?_
    refine act_callw (f := F) rfl he rfl (hF0 _) ?_; rintro e w3 ⟨rfl, hb⟩; replace hO := hO.mono hb; refine ⟨_, rfl, grow_trans hS hb, fun hS => ?_⟩
    refine aw_act 6 (by kernel_rfl) rfl rfl rfl ?_
    refine act_bs (vs := [.agg (encS p).toArray]) (cs := encS p) elemS rfl rfl (by omega) (by omega) (by simp [Value.cells]) (by simp [Value.cells, encS]) ?_; intro wb HX hb; have hne : v2.ownBlock ≠ some w3.heap.size := fun h => absurd (hO.lt _ h).2 (Nat.lt_irrefl _); replace hO := hO.mono hb; refine ⟨grow_trans hS hb, fun hS => ?_⟩
    refine aw_act 7 (by kernel_rfl) rfl rfl rfl ?_
    refine act_call (f := 98) (by kernel_rfl) rfl (insert_S w1.heap.size i p hle (by omega) hS.size hO HX hne) ?_; rintro e w4 ⟨⟨v4, rfl, hO4⟩, hb⟩; refine ⟨_, rfl, hS.trans hb, fun hS => ?_⟩
    (refine at0 8 rfl (fun w' hq => pv_assign rfl) ?_)
    refine aw_done (by kernel_rfl) ?_
    replace hw := hS; clear hS hNP
    repeat' (first | (refine is_cw ?_; first | (refine cw_ret ?_)) | (refine is_qw ?_; first | (with_reducible refine qw_then ?_) | (with_reducible refine qw_then_ret ?_)))
    refine qw_ret1 rfl rfl ⟨⟨_, rfl, ?_⟩, (hE.mono hw).b⟩
    rw [hadd]; exact hO4.weaken hE.le
  | true =>
    obtain ⟨x, hx, hsk⟩ := hb1 rfl
    have hadd := hP'.old hx hsk
    have hil : i < l.length := (List.getElem?_eq_some_iff.1 hx).1
    have hmem : x ∈ l := List.mem_of_getElem? hx
    repeat' (first | (refine lw_pure rfl (pv_move rfl) ?_) | (refine lw_pure rfl (pv_assign rfl) ?_) | (refine is_cw ?_; first | (refine cw_seq ?_) | (refine cw_region ?_) | (refine cw_false rfl rfl ?_) | (refine cw_skip ?_)) | (refine is_qw ?_; first | (with_reducible refine qw_then ?_)) | (refine lw_nil ?_) | ((refine is_un ?_; first | (refine lw_pure rfl (pv_not rfl) ?_))) | (refine lw_pure rfl (pv_extract rfl rfl) ?_))
    refine lw_call (f := 44) (by kernel_rfl) rfl rfl (clone_S rfl (HS.mono hw) (by omega)) ?_; rintro e w2 ⟨⟨v2, rfl, hO⟩, hb⟩; refine ⟨_, rfl, ?_⟩
    replace hE := hE.mono (grow_trans hw hb)
    have hsz : w1.heap.size ≤ w2.heap.size := (grow_trans hw hb).size
    clear hb hw
    have hw := Below.refl w2.heap.size w2
    obtain ⟨ad, cap, rfl, HO, hbase⟩ := Own.slR encS_len hO
    obtain ⟨g, rfl⟩ : ∃ g, ad = some ⟨g, 0, none⟩ := by
      cases ad with
      | none => have := (HO.ofNone rfl).1; subst this; simp at hil
      | some a =>
        obtain ⟨b, o, sp⟩ := a
        obtain ⟨h1, _⟩ := HO.ofSome _ rfl (by have := HO.le; omega)
        have h2 := (hbase _ rfl).2
        simp only at h1 h2
        exact ⟨b, by rw [h1, h2]⟩
    have hgb := (hbase _ rfl).1
    have hox := HO.le
    have hom := HO.max
    repeat' (first | (refine lw_pure rfl (pv_move rfl) ?_) | (refine lw_pure rfl (pv_assign rfl) ?_) | (refine is_cw ?_; first | (refine cw_seq ?_) | (refine cw_region ?_)) | (refine is_qw ?_; first | (with_reducible refine qw_then ?_)) | (refine lw_nil ?_) | ((refine is_load ?_; first | (refine lw_pure rfl (pv_loada (tA rfl) rfl (by first | exact SlR.lda (HO.mono hw) hx) (by rfl)) ?_))) | ((refine is_ia ?_; first | (refine lw_pure rfl (pv_ian (tS rfl) rfl rfl (by omega)) ?_))))
    refine lw_callv (f := F) rfl he rfl rfl (hF x (Or.inl hmem) _) ?_; rintro e w3 ⟨rfl, hb⟩; refine ⟨_, rfl, ?_⟩
    replace hO := hO.mono (grow_trans hw hb)
    replace hE := hE.mono (grow_trans hw hb)
    clear hb hw
    have hw := Below.refl w3.heap.size w3
    repeat' (first | ((refine is_ia ?_; first | (refine lw_pure rfl (pv_ian (tS rfl) rfl rfl (by omega)) ?_))))
    refine lw_storeO (u := joinS x p) (i := i) (tZ rfl) encS_len encS_one rfl (by omega) rfl rfl hO hil ?_; intro w4 hO4 hg hz4
    have hgw : w.heap.size ≤ g := Nat.le_trans hE0 hgb
    replace hE := hE.grown hg (by intro q hq; injection hq with hq; omega)
    clear hw
    have hw := Below.refl w4.heap.size w4
    repeat' (first | (refine lw_pure rfl (pv_move rfl) ?_) | (refine lw_pure rfl (pv_assign rfl) ?_) | (refine is_cw ?_; first | (refine cw_seq ?_) | (refine cw_region ?_) | (refine cw_ret ?_)) | (refine is_qw ?_; first | (with_reducible refine qw_then ?_)) | (refine lw_nil ?_))
    refine qw_ret1 rfl rfl ⟨⟨_, rfl, ?_⟩, hE.b⟩
    rw [hadd]
    exact hO4.weaken hE0

set_option maxRecDepth 20000 in
set_option maxHeartbeats 16000000 in
theorem may_S {l : List Pos} {m : Nat} {a : Option Addr} {ca : Nat} {w : World} (hm : l.length = m) (HS : SlR encS 6 w a ca l) : Calls Tryz.prog 23 #[.slice a m ca] w fun e w' => e = .returned (.bool (mayPs l)) ∧ Below w.heap.size w w' := by
  subst hm
  have hw := Below.refl w.heap.size w
  have hca := HS.le
  have hcm := HS.max
  refine fn_enter 82 Tryz.func23 rfl rfl rfl ?_
  repeat' (first | (refine lw_pure rfl (pv_move rfl) ?_) | (refine lw_pure rfl (pv_assign rfl) ?_) | (refine is_cw ?_; first | (refine cw_seq ?_) | (refine cw_region ?_) | (refine cw_block ?_)) | (refine is_qw ?_; first | (with_reducible refine qw_then ?_)) | (refine lw_nil ?_) | ((refine is_bi ?_; first | (refine lw_pure rfl (pv_lenl (tS rfl) rfl) ?_))))
  refine cw_loop (σ := Nat) (fun k => [(0, .slice a l.length ca), (6, .slice a l.length ca), (7, .int .i64 (l.length : Nat)), (8, .int .i64 (k : Nat))]) (fun k wr => k ≤ l.length ∧ Below w.heap.size w wr ∧ MayPs (l.take k)) (fun k => l.length - k) 0 (by repeat' (first | exact trivial | refine ⟨rfl, ?_⟩)) ⟨Nat.zero_le _, hw, by simp [MayPs]⟩ ?_
  clear hw
  rintro k wr ⟨hk, hw, hn⟩
  by_cases hlt : k < l.length
  · have hxk : l[k]? = some l[k] := List.getElem?_eq_getElem hlt
    have hlt1 : k - 1 < l.length := by omega
    have hxj : l[k - 1]? = some l[k - 1] := List.getElem?_eq_getElem hlt1
    obtain ⟨ab, ao, rfl, -, -⟩ := HS.at (by intro h; rw [h] at hlt; simp at hlt)
    have hidx : 0 < k → ((k : Int) - 1) = ((k - 1 : Nat) : Int) := by omega
    have hmem := List.getElem_mem hlt
    generalize l[k] = x at hxk hmem
    generalize l[k - 1] = y at hxj
    have hno : ¬ MayS x → mayPs l = false := fun h => mayPs_no.2 fun hM => h (hM.2 _ hmem)
    have n0 : decide ((1 ≤ x.acct ∧ x.acct ≤ 64) ∧ (1 ≤ x.inst ∧ x.inst ≤ 16)) = false → mayPs l = false := fun h => hno fun hM => (decide_eq_false_iff_not.1 h) ⟨hM.1, hM.2.1⟩
    have n1 : decide (NumS x.bought) = false → mayPs l = false := fun h => hno fun hM => (decide_eq_false_iff_not.1 h) hM.2.2.1.1
    have n2 : decide (NumS x.sold) = false → mayPs l = false := fun h => hno fun hM => (decide_eq_false_iff_not.1 h) hM.2.2.1.2.1
    have n3 : decide (NumS x.spent) = false → mayPs l = false := fun h => hno fun hM => (decide_eq_false_iff_not.1 h) hM.2.2.1.2.2.1
    have n4 : decide (NumS x.got) = false → mayPs l = false := fun h => hno fun hM => (decide_eq_false_iff_not.1 h) hM.2.2.1.2.2.2
    have n5 : (x.bought = 0 ∧ x.sold = 0) → mayPs l = false := fun h => hno fun hM => hM.2.2.2 h
    have n6 : 0 < k → 0 ≤ rowS y x → mayPs l = false := fun h0 h => mayPs_no.2 fun hM => by
      have := rowS_lt.2 (pwg_get hM.1 (by omega) hxj hxk); omega
    have hok : decide ((1 ≤ x.acct ∧ x.acct ≤ 64) ∧ (1 ≤ x.inst ∧ x.inst ≤ 16)) = true → decide (NumS x.bought) = true → decide (NumS x.sold) = true → decide (NumS x.spent) = true → decide (NumS x.got) = true → ¬ (x.bought = 0 ∧ x.sold = 0) → (k = 0 ∨ rowS y x < 0) → MayPs (l.take (k + 1)) := fun a0 a1 a2 a3 a4 a5 a6 => by
      have a0 := of_decide_eq_true a0
      refine ⟨pwg_snoc (R := keyS) (fun _ _ _ h g => keyS_trans h g) hn.1 hxk (a6.imp id fun h => ⟨y, hxj, rowS_lt.1 h⟩), fun z hz => ?_⟩
      rw [List.take_add_one, hxk] at hz
      rcases List.mem_append.1 hz with hz | hz
      · exact hn.2 z hz
      · simp at hz; subst hz
        exact ⟨a0.1, a0.2, ⟨of_decide_eq_true a1, of_decide_eq_true a2, of_decide_eq_true a3, of_decide_eq_true a4⟩, a5⟩
    repeat' (first | (refine lw_pure rfl (pv_move rfl) ?_) | (refine is_cw ?_; first | (refine cw_seq ?_) | (refine cw_region ?_) | (refine is_cd ?_; refine cw_true rfl (by first | assumption | exact decide_eq_true (by omega) | exact dec_notT (by omega)) ?_) | (refine cw_skip ?_) | (refine cw_block ?_)) | (refine is_qw ?_; first | (with_reducible refine qw_then ?_)) | (refine lw_nil ?_) | ((refine is_bin ?_; first | (refine lw_pure rfl (pv_lss rfl rfl) ?_))) | ((refine is_load ?_; first | (refine lw_pure rfl (pv_loada (tA rfl) rfl (by first | exact SlR.lda (HS.mono hw) hxk) (by rfl)) ?_))) | ((refine is_ia ?_; first | (refine lw_pure rfl (pv_ian (tS rfl) rfl rfl (by omega)) ?_))))
    refine lw_allocN rfl (by first | exact tyv_27 | exact tyv_28 | exact tyv_38 | exact tyv_39 | exact tyv_48 | exact tyv_49 | exact tyv_52 | exact tyv_53 | exact tyv_68 | exact tyv_69 | exact tyv_79 | exact tyv_80 | exact tyv_94 | exact tyv_95 | exact tyv_131 | exact tyv_132) rfl ?_; intro N4 wn hN4 H0 hb
    replace hN4 : w.heap.size ≤ N4 := Nat.le_trans hw.size hN4
    replace hw := grow_trans hw hb
    clear hb
    refine lw_pure rfl (pv_assign rfl) ?_
    refine lw_storea (vs := encS x) H0 (tZ rfl) rfl rfl rfl rfl (encS_one _) ?_; intro w2 HX hg hz
    replace hw := st_hw hw hg hN4
    clear hg hz H0
    have hE := Ext.mk hw
    replace HS := HS.mono hw
    clear hw
    have hw := Below.refl w2.heap.size w2
    refine lw_nil ?_; (with_reducible refine qw_then ?_)
    refine cw_cut (σ := Bool) (fun b => ([(0, .slice (some ⟨ab, ao, none⟩) l.length ca), (3, .int .i64 (k : Nat)), (4, .pointer (some ⟨N4, 0, none⟩)), (5, .bool b), (6, .slice (some ⟨ab, ao, none⟩) l.length ca), (7, .int .i64 (l.length : Nat)), (8, .int .i64 (k : Nat))])) (fun b w' => Below w2.heap.size w2 w' ∧ b = decide ((1 ≤ x.acct ∧ x.acct ≤ 64) ∧ (1 ≤ x.inst ∧ x.inst ≤ 16))) ?_ ?_
    · repeat' (first | (refine lw_pure rfl (pv_move rfl) ?_) | (refine lw_pure rfl (pv_assign rfl) ?_) | (refine is_cw ?_; first | (refine cw_region ?_)) | (refine lw_nil ?_) | (refine is_guarded ?_; first | (refine lw_not rfl rfl rfl rfl ?_) | (refine lw_on rfl rfl (by first | assumption | exact decide_eq_true (by omega) | exact decide_eq_false (by omega) | exact dec_notT (by omega) | exact dec_notF (by omega)) ?_) | (refine lw_not rfl rfl rfl (by first | assumption | exact decide_eq_true (by omega) | exact decide_eq_false (by omega) | exact dec_notT (by omega) | exact dec_notF (by omega)) ?_) | (refine lw_gs_t rfl rfl rfl (fun hc => ?_) (fun hc => ?_) <;> (first | replace hc := of_decide_eq_true hc | replace hc := of_decide_eq_false hc | replace hc := dec_nT hc | replace hc := dec_nF hc | skip) <;> (try (exfalso; omega)))) | ((refine is_bin ?_; first | (refine lw_pure rfl (pv_leq rfl rfl) ?_) | (refine lw_pure rfl (pv_geq rfl rfl) ?_))) | ((refine is_load ?_; first | (refine lw_pure rfl (pv_load (t1 rfl) rfl (by first | exact PT.ld0 (HX.mono hw) rfl | exact PT.ld (HX.mono hw) rfl)) ?_))) | ((refine is_fa ?_; first | (refine lw_pure rfl (pv_fa (tF rfl) rfl) ?_))) | (refine is_pk ?_; refine lw_pure rfl (pv_pick_f rfl rfl rfl) ?_) | (refine is_pk ?_; refine lw_pure rfl (pv_pick_t rfl (by first | assumption | exact decide_eq_true (by omega) | exact dec_notT (by omega)) rfl) ?_) | (refine is_pk ?_; refine lw_pure rfl (pv_pick_f rfl (by first | assumption | exact decide_eq_false (by omega) | exact dec_notF (by omega)) rfl) ?_))
      all_goals (refine qw_join _ (by repeat' (first | exact trivial | refine ⟨rfl, ?_⟩)) ⟨hw, ?_⟩; first | (symm; rw [decide_eq_true_eq]; omega) | (symm; rw [decide_eq_false_iff_not]; omega) | (rw [decide_eq_decide]; omega) | (rw [← decide_not, decide_eq_decide]; omega) | (simp [*]; done))
    rintro T w3 ⟨hw, hT⟩
    replace hE := hE.mono hw; replace HS := HS.mono hw; replace HX := HX.mono hw; clear hw; have hw := Below.refl w3.heap.size w3
    rw [← hT] at n0 hok
    clear hT
    generalize h1 : decide (NumS x.bought) = b1 at n1 hok
    generalize h2 : decide (NumS x.sold) = b2 at n2 hok
    generalize h3 : decide (NumS x.spent) = b3 at n3 hok
    generalize h4 : decide (NumS x.got) = b4 at n4 hok
    have hways : T = false ∨ (T = true ∧ b1 = false) ∨ (T = true ∧ b1 = true ∧ b2 = false) ∨ (T = true ∧ b1 = true ∧ b2 = true ∧ b3 = false) ∨ (T = true ∧ b1 = true ∧ b2 = true ∧ b3 = true ∧ b4 = false) ∨ (T = true ∧ b1 = true ∧ b2 = true ∧ b3 = true ∧ b4 = true ∧ ((x.bought = 0 ∧ x.sold = 0) ∨ (x.bought ≠ 0 ∧ k = 0) ∨ (x.bought ≠ 0 ∧ 0 < k ∧ 0 ≤ rowS y x) ∨ (x.bought ≠ 0 ∧ 0 < k ∧ rowS y x < 0) ∨ (x.bought = 0 ∧ x.sold ≠ 0 ∧ k = 0) ∨ (x.bought = 0 ∧ x.sold ≠ 0 ∧ 0 < k ∧ 0 ≤ rowS y x) ∨ (x.bought = 0 ∧ x.sold ≠ 0 ∧ 0 < k ∧ rowS y x < 0))) := by
      cases T <;> cases b1 <;> cases b2 <;> cases b3 <;> cases b4 <;> simp <;> omega
    refine cw_seq ?_
    refine cw_drawn (fun w' => Below w3.heap.size w3 w') (by kernel_rfl) (by repeat (first | exact NoPanic.body | with_reducible refine NoPanic.then ?_ | with_reducible refine NoPanic.inBlock ?_)) (fun hNP => ?_)
    have hS := hw.drew
    rcases hways with rfl | ⟨rfl, rfl⟩ | ⟨rfl, rfl, rfl⟩ | ⟨rfl, rfl, rfl, rfl⟩ | ⟨rfl, rfl, rfl, rfl, rfl⟩ | ⟨rfl, rfl, rfl, rfl, rfl, ⟨hz1, hz2⟩ | ⟨hz1, hz2⟩ | ⟨hz1, hz2, hz3⟩ | ⟨hz1, hz2, hz3⟩ | ⟨hz1, hz2, hz3⟩ | ⟨hz1, hz2, hz3, hz4⟩ | ⟨hz1, hz2, hz3, hz4⟩⟩
    all_goals (refine at0 0 rfl (fun w' hq => pv_move rfl) ?_)
    all_goals (refine at0 1 rfl (fun w' hq => pv_not rfl) ?_)
    all_goals (refine at0 2 rfl (fun w' hq => pv_move rfl) ?_)
    all_goals first | (refine an1 3 rfl rfl rfl rfl ?_) | (refine at1 3 rfl rfl rfl rfl (fun w' hq => pv_fa (tF rfl) rfl) ?_)
    all_goals first | (refine an1 4 rfl rfl rfl rfl ?_) | (refine at1 4 rfl rfl rfl rfl (fun w' hq => pv_load (t1 rfl) rfl (by first | exact PT.ld0 (HX.mono hq) rfl | exact PT.ld (HX.mono hq) rfl | exact SlR.ld (HS.mono hq) hxj rfl | exact SlR.ld1 (HS.mono hq) hxj rfl)) ?_)
    all_goals first | (refine an3 5 rfl rfl rfl ?_) | (refine an0 5 rfl rfl rfl ?_) | (refine aw_act_g 5 (by kernel_rfl) rfl rfl rfl (by first | rfl | assumption | exact decide_eq_true (by omega) | exact decide_eq_false (by omega) | exact dec_notT (by omega) | exact dec_notF (by omega)) rfl ?_; refine act_call (f := 57) (by kernel_rfl) rfl (total_e h1 _) ?_; rintro e w4 ⟨rfl, rfl⟩; refine ⟨_, rfl, hS, fun hS => ?_⟩)
    all_goals first | (refine an1 6 rfl rfl rfl rfl ?_) | (refine at1 6 rfl rfl rfl rfl (fun w' hq => pv_not rfl) ?_)
    all_goals first | (refine at0 7 rfl (fun w' hq => pv_pick_t rfl rfl rfl) ?_) | (refine at0 7 rfl (fun w' hq => pv_pick_f rfl rfl rfl) ?_)
    all_goals (refine at0 8 rfl (fun w' hq => pv_move rfl) ?_)
    all_goals first | (refine an1 9 rfl rfl rfl rfl ?_) | (refine at1 9 rfl rfl rfl rfl (fun w' hq => pv_fa (tF rfl) rfl) ?_)
    all_goals first | (refine an1 10 rfl rfl rfl rfl ?_) | (refine at1 10 rfl rfl rfl rfl (fun w' hq => pv_load (t1 rfl) rfl (by first | exact PT.ld0 (HX.mono hq) rfl | exact PT.ld (HX.mono hq) rfl | exact SlR.ld (HS.mono hq) hxj rfl | exact SlR.ld1 (HS.mono hq) hxj rfl)) ?_)
    all_goals first | (refine an3 11 rfl rfl rfl ?_) | (refine an0 11 rfl rfl rfl ?_) | (refine aw_act_g 11 (by kernel_rfl) rfl rfl rfl (by first | rfl | assumption | exact decide_eq_true (by omega) | exact decide_eq_false (by omega) | exact dec_notT (by omega) | exact dec_notF (by omega)) rfl ?_; refine act_call (f := 57) (by kernel_rfl) rfl (total_e h2 _) ?_; rintro e w4 ⟨rfl, rfl⟩; refine ⟨_, rfl, hS, fun hS => ?_⟩)
    all_goals first | (refine an1 12 rfl rfl rfl rfl ?_) | (refine at1 12 rfl rfl rfl rfl (fun w' hq => pv_not rfl) ?_)
    all_goals first | (refine at0 13 rfl (fun w' hq => pv_pick_t rfl rfl rfl) ?_) | (refine at0 13 rfl (fun w' hq => pv_pick_f rfl rfl rfl) ?_)
    all_goals (refine at0 14 rfl (fun w' hq => pv_move rfl) ?_)
    all_goals first | (refine an1 15 rfl rfl rfl rfl ?_) | (refine at1 15 rfl rfl rfl rfl (fun w' hq => pv_fa (tF rfl) rfl) ?_)
    all_goals first | (refine an1 16 rfl rfl rfl rfl ?_) | (refine at1 16 rfl rfl rfl rfl (fun w' hq => pv_load (t1 rfl) rfl (by first | exact PT.ld0 (HX.mono hq) rfl | exact PT.ld (HX.mono hq) rfl | exact SlR.ld (HS.mono hq) hxj rfl | exact SlR.ld1 (HS.mono hq) hxj rfl)) ?_)
    all_goals first | (refine an3 17 rfl rfl rfl ?_) | (refine an0 17 rfl rfl rfl ?_) | (refine aw_act_g 17 (by kernel_rfl) rfl rfl rfl (by first | rfl | assumption | exact decide_eq_true (by omega) | exact decide_eq_false (by omega) | exact dec_notT (by omega) | exact dec_notF (by omega)) rfl ?_; refine act_call (f := 57) (by kernel_rfl) rfl (total_e h3 _) ?_; rintro e w4 ⟨rfl, rfl⟩; refine ⟨_, rfl, hS, fun hS => ?_⟩)
    all_goals first | (refine an1 18 rfl rfl rfl rfl ?_) | (refine at1 18 rfl rfl rfl rfl (fun w' hq => pv_not rfl) ?_)
    all_goals first | (refine at0 19 rfl (fun w' hq => pv_pick_t rfl rfl rfl) ?_) | (refine at0 19 rfl (fun w' hq => pv_pick_f rfl rfl rfl) ?_)
    all_goals (refine at0 20 rfl (fun w' hq => pv_move rfl) ?_)
    all_goals first | (refine an1 21 rfl rfl rfl rfl ?_) | (refine at1 21 rfl rfl rfl rfl (fun w' hq => pv_fa (tF rfl) rfl) ?_)
    all_goals first | (refine an1 22 rfl rfl rfl rfl ?_) | (refine at1 22 rfl rfl rfl rfl (fun w' hq => pv_load (t1 rfl) rfl (by first | exact PT.ld0 (HX.mono hq) rfl | exact PT.ld (HX.mono hq) rfl | exact SlR.ld (HS.mono hq) hxj rfl | exact SlR.ld1 (HS.mono hq) hxj rfl)) ?_)
    all_goals first | (refine an3 23 rfl rfl rfl ?_) | (refine an0 23 rfl rfl rfl ?_) | (refine aw_act_g 23 (by kernel_rfl) rfl rfl rfl (by first | rfl | assumption | exact decide_eq_true (by omega) | exact decide_eq_false (by omega) | exact dec_notT (by omega) | exact dec_notF (by omega)) rfl ?_; refine act_call (f := 57) (by kernel_rfl) rfl (total_e h4 _) ?_; rintro e w4 ⟨rfl, rfl⟩; refine ⟨_, rfl, hS, fun hS => ?_⟩)
    all_goals first | (refine an1 24 rfl rfl rfl rfl ?_) | (refine at1 24 rfl rfl rfl rfl (fun w' hq => pv_not rfl) ?_)
    all_goals first | (refine at0 25 rfl (fun w' hq => pv_pick_t rfl rfl rfl) ?_) | (refine at0 25 rfl (fun w' hq => pv_pick_f rfl rfl rfl) ?_)
    all_goals (refine at0 26 rfl (fun w' hq => pv_move rfl) ?_)
    all_goals first | (refine an1 27 rfl rfl rfl rfl ?_) | (refine at1 27 rfl rfl rfl rfl (fun w' hq => pv_fa (tF rfl) rfl) ?_)
    all_goals first | (refine an1 28 rfl rfl rfl rfl ?_) | (refine at1 28 rfl rfl rfl rfl (fun w' hq => pv_load (t1 rfl) rfl (by first | exact PT.ld0 (HX.mono hq) rfl | exact PT.ld (HX.mono hq) rfl | exact SlR.ld (HS.mono hq) hxj rfl | exact SlR.ld1 (HS.mono hq) hxj rfl)) ?_)
    all_goals first | (refine an1 29 rfl rfl rfl rfl ?_) | (refine at1 29 rfl rfl rfl rfl (fun w' hq => pv_eql rfl rfl) ?_)
    all_goals first | (refine an1 30 rfl rfl rfl rfl ?_) | (refine at1 30 rfl rfl rfl rfl (fun w' hq => pv_move rfl) ?_)
    all_goals first | (refine an0 31 rfl rfl rfl ?_) | (refine an2 31 rfl rfl rfl ?_) | (refine at2 31 rfl rfl rfl (fun w' hq => pv_fa (tF rfl) rfl) ?_)
    all_goals first | (refine an0 32 rfl rfl rfl ?_) | (refine an2 32 rfl rfl rfl ?_) | (refine at2 32 rfl rfl rfl (fun w' hq => pv_load (t1 rfl) rfl (by first | exact PT.ld0 (HX.mono hq) rfl | exact PT.ld (HX.mono hq) rfl | exact SlR.ld (HS.mono hq) hxj rfl | exact SlR.ld1 (HS.mono hq) hxj rfl)) ?_)
    all_goals first | (refine an0 33 rfl rfl rfl ?_) | (refine an2 33 rfl rfl rfl ?_) | (refine at2 33 rfl rfl rfl (fun w' hq => pv_eql rfl rfl) ?_)
    all_goals first | (refine an1 34 rfl rfl rfl rfl ?_) | (refine at1 34 rfl rfl rfl rfl (fun w' hq => pv_pick_t rfl (by first | assumption | exact decide_eq_true (by omega) | exact dec_notT (by omega)) rfl) ?_) | (refine at1 34 rfl rfl rfl rfl (fun w' hq => pv_pick_f rfl (by first | assumption | exact decide_eq_false (by omega) | exact dec_notF (by omega)) rfl) ?_)
    all_goals first | (refine at0 35 rfl (fun w' hq => pv_pick_t rfl rfl rfl) ?_) | (refine at0 35 rfl (fun w' hq => pv_pick_f rfl rfl rfl) ?_)
    all_goals (refine at0 36 rfl (fun w' hq => pv_move rfl) ?_)
    all_goals first | (refine an1 37 rfl rfl rfl rfl ?_) | (refine at1 37 rfl rfl rfl rfl (fun w' hq => pv_move rfl) ?_) | (refine an2 37 rfl rfl rfl ?_) | (refine at2 37 rfl rfl rfl (fun w' hq => pv_move rfl) ?_)
    all_goals first | (refine an1 38 rfl rfl rfl rfl ?_) | (refine at1 38 rfl rfl rfl rfl (fun w' hq => pv_gtr rfl rfl) ?_) | (refine an2 38 rfl rfl rfl ?_) | (refine at2 38 rfl rfl rfl (fun w' hq => pv_gtr rfl rfl) ?_)
    all_goals first | (refine an1 39 rfl rfl rfl rfl ?_) | (refine at1 39 rfl rfl rfl rfl (fun w' hq => pv_move rfl) ?_) | (refine an2 39 rfl rfl rfl ?_) | (refine at2 39 rfl rfl rfl (fun w' hq => pv_move rfl) ?_)
    all_goals first | (refine an0 40 rfl rfl rfl ?_) | (refine an2 40 rfl rfl rfl ?_) | (refine at2 40 rfl rfl rfl (fun w' hq => pv_move rfl) ?_)
    all_goals first | (refine an0 41 rfl rfl rfl ?_) | (refine an2 41 rfl rfl rfl ?_) | (refine at2 41 rfl rfl rfl (fun w' hq => pv_move rfl) ?_)
    all_goals first | (refine an0 42 rfl rfl rfl ?_) | (refine an2 42 rfl rfl rfl ?_) | (refine at2 42 rfl rfl rfl (fun w' hq => pv_sub rfl rfl (by omega)) ?_)
    all_goals first | (refine an0 43 rfl rfl rfl ?_) | (refine an2 43 rfl rfl rfl ?_) | (refine at2 43 rfl rfl rfl (fun w' hq => pv_iap (hidx (by omega)) (tS rfl) rfl rfl hlt1) ?_)
    all_goals first | (refine an0 44 rfl rfl rfl ?_) | (refine an2 44 rfl rfl rfl ?_) | (refine at2 44 rfl rfl rfl (fun w' hq => pv_loada (tA rfl) rfl (by first | exact PT.lda (HX.mono hq) | exact SlR.lda (HS.mono hq) hxj) (by rfl)) ?_)
    all_goals first | (refine an0 45 rfl rfl rfl ?_) | (refine an2 45 rfl rfl rfl ?_) | (refine at2 45 rfl rfl rfl (fun w' hq => pv_loada (tA rfl) rfl (by first | exact PT.lda (HX.mono hq) | exact SlR.lda (HS.mono hq) hxj) (by rfl)) ?_)
    all_goals first | (refine an3 46 rfl rfl rfl ?_) | (refine an0 46 rfl rfl rfl ?_) | (refine aw_act_g 46 (by kernel_rfl) rfl rfl rfl (by first | rfl | assumption | exact decide_eq_true (by omega) | exact decide_eq_false (by omega) | exact dec_notT (by omega) | exact dec_notF (by omega)) rfl ?_; refine act_call (f := 58) (by kernel_rfl) rfl (comp_c y x _) ?_; rintro e w4 ⟨rfl, hb⟩; refine ⟨_, rfl, grow_trans hS hb, fun hS => ?_⟩)
    all_goals first | (refine an0 47 rfl rfl rfl ?_) | (refine an2 47 rfl rfl rfl ?_) | (refine at2 47 rfl rfl rfl (fun w' hq => pv_geq rfl rfl) ?_)
    all_goals first | (refine an1 48 rfl rfl rfl rfl ?_) | (refine at1 48 rfl rfl rfl rfl (fun w' hq => pv_pick_t rfl (by first | assumption | exact decide_eq_true (by omega) | exact dec_notT (by omega)) rfl) ?_) | (refine at1 48 rfl rfl rfl rfl (fun w' hq => pv_pick_f rfl (by first | assumption | exact decide_eq_false (by omega) | exact dec_notF (by omega)) rfl) ?_) | (refine an2 48 rfl rfl rfl ?_) | (refine at2 48 rfl rfl rfl (fun w' hq => pv_pick_t rfl (by first | assumption | exact decide_eq_true (by omega) | exact dec_notT (by omega)) rfl) ?_) | (refine at2 48 rfl rfl rfl (fun w' hq => pv_pick_f rfl (by first | assumption | exact decide_eq_false (by omega) | exact dec_notF (by omega)) rfl) ?_)
    all_goals first | (refine at0 49 rfl (fun w' hq => pv_pick_t rfl rfl rfl) ?_) | (refine at0 49 rfl (fun w' hq => pv_pick_f rfl rfl rfl) ?_) | (refine at0 49 rfl (fun w' hq => pv_pick_t rfl (by first | assumption | exact decide_eq_true (by omega) | exact dec_notT (by omega)) rfl) ?_) | (refine at0 49 rfl (fun w' hq => pv_pick_f rfl (by first | assumption | exact decide_eq_false (by omega) | exact dec_notF (by omega)) rfl) ?_)
    all_goals (refine aw_done (by kernel_rfl) ?_; replace hw := hS; clear hS hNP)
    all_goals repeat' (first | (refine lw_pure rfl (pv_move rfl) ?_) | (refine lw_pure rfl (pv_assign rfl) ?_) | (refine is_cw ?_; first | (refine cw_seq ?_) | (refine cw_region ?_) | (refine cw_true rfl rfl ?_) | (refine cw_false rfl rfl ?_) | (refine is_cd ?_; refine cw_true rfl (by first | assumption | exact decide_eq_true (by omega) | exact dec_notT (by omega)) ?_) | (refine is_cd ?_; refine cw_false rfl (by first | assumption | exact decide_eq_false (by omega) | exact dec_notF (by omega)) ?_) | (refine cw_skip ?_) | (refine cw_ret ?_)) | (refine is_qw ?_; first | (with_reducible refine qw_then ?_) | (with_reducible refine qw_in ?_) | (with_reducible refine qw_then_ret ?_) | (with_reducible refine qw_in_ret ?_)) | (refine lw_nil ?_) | ((refine is_bin ?_; first | (refine lw_pure rfl (pv_inc rfl rfl (by omega)) ?_))))
    all_goals first | (exact qw_ret1 rfl rfl ⟨ret_bool (by first | exact (n0 rfl).symm | exact (n1 rfl).symm | exact (n2 rfl).symm | exact (n3 rfl).symm | exact (n4 rfl).symm | exact (n5 ⟨by omega, by omega⟩).symm | exact (n6 (by omega) (by omega)).symm), (hE.mono hw).b⟩) | (exact qw_round (k + 1) (by repeat' (first | exact trivial | refine ⟨rfl, ?_⟩)) ⟨by omega, (hE.mono hw).b, hok rfl rfl rfl rfl rfl (by omega) (by omega)⟩ (by omega))
  · have hkl : l.take k = l := List.take_of_length_le (by omega)
    rw [hkl] at hn
    repeat' (first | (refine lw_pure rfl (pv_assign rfl) ?_) | (refine is_cw ?_; first | (refine cw_seq ?_) | (refine cw_region ?_) | (refine is_cd ?_; refine cw_false rfl (by first | assumption | exact decide_eq_false (by omega) | exact dec_notF (by omega)) ?_) | (refine cw_exit ?_) | (refine cw_ret ?_)) | (refine is_qw ?_; first | (with_reducible refine qw_then ?_) | (with_reducible refine qw_in_hit ?_) | (with_reducible refine qw_then_exit ?_)) | (refine lw_nil ?_) | ((refine is_bin ?_; first | (refine lw_pure rfl (pv_lss rfl rfl) ?_))))
    exact qw_ret1 rfl rfl ⟨ret_bool (mayPs_iff.2 hn).symm, hw⟩

theorem zS_num (a i : Int) : NumS (zS a i).bought ∧ NumS (zS a i).sold ∧ NumS (zS a i).spent ∧ NumS (zS a i).got := by unfold zS NumS farS; simp
theorem mem_num {l : List Pos} (hM : MayPs l) {x : Pos} {a i : Int} (h : x ∈ l ∨ x = zS a i) : NumS x.bought ∧ NumS x.sold ∧ NumS x.spent ∧ NumS x.got := by
  rcases h with h | rfl
  · exact (hM.2 x h).2.2.1
  · exact zS_num a i
set_option maxRecDepth 20000 in
set_option maxHeartbeats 4000000 in
theorem deal_c {l : List Pos} {m : Nat} {a : Option Addr} {ca : Nat} {b s inst qty paid fee : Int} {w : World} (hm : l.length = m) (hl : l.length ≤ 65534) (hM : MayPs l) (HS : SlR encS 6 w a ca l) (h1 : 1 ≤ b ∧ b ≤ 64) (h2 : 1 ≤ s ∧ s ≤ 64) (h3 : 1 ≤ inst ∧ inst ≤ 16) (h4 : 1 ≤ qty ∧ qty ≤ 1048576) (h5 : 0 ≤ paid ∧ paid ≤ 1125899906842624) (h6 : 0 ≤ fee) :
    Calls Tryz.prog 45 #[.agg #[.int .i64 b, .int .i64 s, .int .i64 inst, .int .i64 qty, .int .i64 paid, .int .i64 fee], .slice a m ca] w fun e w' => (∃ vo, e = .returned (.tuple #[vo, .int .i64 (dealS l b s inst qty paid fee).2]) ∧ Own encS 6 39 w.heap.size w' vo (dealS l b s inst qty paid fee).1) ∧ Below w.heap.size w w' := by
  subst hm
  have hE := Ext.refl w
  have hw := Below.refl w.heap.size w
  have hca := HS.le
  have hcm := HS.max
  have hq : NumS qty := by unfold NumS farS; omega
  have hp : NumS paid := by unfold NumS farS; omega
  refine fn_enter 45 Tryz.func45 rfl rfl rfl ?_
  repeat' (first | (refine is_cw ?_; first | (refine cw_seq ?_) | (refine cw_region ?_)))
  refine lw_boxN rfl rfl (cs := [.int .i64 b, .int .i64 s, .int .i64 inst, .int .i64 qty, .int .i64 paid, .int .i64 fee]) rfl ?_; intro N2 w2 hN2 HD hb
  replace hw := grow_trans hw hb
  clear hb
  replace hE := hE.mono hw; replace HS := HS.mono hw; clear hw; have hw := Below.refl w2.heap.size w2
  by_cases hbad : b = s ∨ paid < fee
  · have hd : dealS l b s inst qty paid fee = ([], 1) := by unfold dealS; rw [if_pos hbad]
    rw [hd]
    repeat' (first | (refine lw_pure rfl (pv_move rfl) ?_) | (refine lw_pure rfl (pv_assign rfl) ?_) | (refine is_cw ?_; first | (refine cw_seq ?_) | (refine cw_region ?_) | (refine cw_true rfl rfl ?_) | (refine is_cd ?_; refine cw_true rfl (by first | assumption | exact decide_eq_true (by omega) | exact dec_notT (by omega)) ?_) | (refine cw_ret ?_)) | (refine is_qw ?_; first | (with_reducible refine qw_then ?_) | (with_reducible refine qw_then_ret ?_)) | (refine lw_nil ?_) | (refine is_guarded ?_; first | (refine lw_on rfl rfl (by first | assumption | exact decide_eq_true (by omega) | exact decide_eq_false (by omega) | exact dec_notT (by omega) | exact dec_notF (by omega)) ?_) | (refine lw_not rfl rfl rfl (by first | assumption | exact decide_eq_true (by omega) | exact decide_eq_false (by omega) | exact dec_notT (by omega) | exact dec_notF (by omega)) ?_) | (refine lw_gs_f rfl rfl rfl (fun hc => ?_) (fun hc => ?_) <;> (first | replace hc := of_decide_eq_true hc | replace hc := of_decide_eq_false hc | replace hc := dec_nT hc | replace hc := dec_nF hc | skip) <;> (try (exfalso; omega)))) | ((refine is_bin ?_; first | (refine lw_pure rfl (pv_eql rfl rfl) ?_) | (refine lw_pure rfl (pv_gtr rfl rfl) ?_))) | ((refine is_load ?_; first | (refine lw_pure rfl (pv_load (t1 rfl) rfl (by first | exact PT.ld0 (HD.mono hw) rfl | exact PT.ld (HD.mono hw) rfl)) ?_))) | ((refine is_fa ?_; first | (refine lw_pure rfl (pv_fa (tF rfl) rfl) ?_))) | (refine is_pk ?_; refine lw_pure rfl (pv_pick_t rfl (by first | assumption | exact decide_eq_true (by omega) | exact dec_notT (by omega)) rfl) ?_) | (refine is_pk ?_; refine lw_pure rfl (pv_pick_f rfl (by first | assumption | exact decide_eq_false (by omega) | exact dec_notF (by omega)) rfl) ?_))
    all_goals exact qw_ret2 rfl rfl rfl ⟨⟨_, rfl, Own.nil _⟩, (hE.mono hw).b⟩
  · have hd : dealS l b s inst qty paid fee = (addS (addS l ⟨b, inst, qty, 0, paid, 0⟩) ⟨s, inst, 0, qty, 0, paid - fee⟩, 0) := by unfold dealS; rw [if_neg hbad]
    rw [hd]
    have hg : NumS (paid - fee) := by unfold NumS farS; omega
    have o1 := okb_mk h1 h3 h4 h5
    have o2 := oks_mk (p := paid - fee) h2 h3 h4 (by omega)
    have hM1 := addS_may hM o1
    have hl1 := addS_len ⟨b, inst, qty, 0, paid, 0⟩ l
    repeat' (first | (refine lw_pure rfl (pv_move rfl) ?_) | (refine lw_pure rfl (pv_assign rfl) ?_) | (refine is_cw ?_; first | (refine cw_seq ?_) | (refine cw_region ?_) | (refine is_cd ?_; refine cw_false rfl (by first | assumption | exact decide_eq_false (by omega) | exact dec_notF (by omega)) ?_) | (refine cw_skip ?_)) | (refine is_qw ?_; first | (with_reducible refine qw_then ?_)) | (refine lw_nil ?_) | (refine is_guarded ?_; first | (refine lw_on rfl rfl (by first | assumption | exact decide_eq_true (by omega) | exact decide_eq_false (by omega) | exact dec_notT (by omega) | exact dec_notF (by omega)) ?_)) | ((refine is_bin ?_; first | (refine lw_pure rfl (pv_eql rfl rfl) ?_) | (refine lw_pure rfl (pv_gtr rfl rfl) ?_))) | ((refine is_load ?_; first | (refine lw_pure rfl (pv_load (t1 rfl) rfl (by first | exact PT.ld0 (HD.mono hw) rfl | exact PT.ld (HD.mono hw) rfl)) ?_))) | ((refine is_fa ?_; first | (refine lw_pure rfl (pv_fa (tF rfl) rfl) ?_))) | ((refine is_bd ?_; first | (refine lw_pure rfl (tyB_95 rfl rfl rfl) ?_))) | (refine is_pk ?_; refine lw_pure rfl (pv_pick_f rfl (by first | assumption | exact decide_eq_false (by omega) | exact dec_notF (by omega)) rfl) ?_) | (refine lw_pure rfl (pv_makeFunc rfl rfl) ?_))
    refine lw_call (f := 65) (by kernel_rfl) rfl rfl (putS_c (p := ⟨b, inst, qty, 0, paid, 0⟩) 66 #[.agg #[.int .i64 qty, .int .i64 paid]] (by kernel_rfl) rfl (by omega) hM.1 (HS.mono hw) (fun x hx w' => bought_c b inst hq hp (mem_num hM hx) w') (join_zero o1)) ?_; rintro e w3 ⟨⟨v1, rfl, hO1⟩, hb⟩; refine ⟨_, rfl, ?_⟩
    replace hE := hE.mono (grow_trans hw hb)
    replace HD := HD.mono (grow_trans hw hb)
    obtain ⟨a1, c1, rfl, HS1, -⟩ := Own.slR encS_len hO1
    clear hb hw hO1
    have hw := Below.refl w3.heap.size w3
    repeat' (first | (refine lw_pure rfl (pv_move rfl) ?_) | (refine lw_pure rfl (pv_assign rfl) ?_) | (refine is_cw ?_; first | (refine cw_seq ?_) | (refine cw_region ?_)) | (refine is_qw ?_; first | (with_reducible refine qw_then ?_)) | (refine lw_nil ?_) | ((refine is_bin ?_; first | (refine lw_pure rfl (pv_sub rfl rfl (by omega)) ?_))) | ((refine is_load ?_; first | (refine lw_pure rfl (pv_load (t1 rfl) rfl (by first | exact PT.ld0 (HD.mono hw) rfl | exact PT.ld (HD.mono hw) rfl)) ?_))) | ((refine is_fa ?_; first | (refine lw_pure rfl (pv_fa (tF rfl) rfl) ?_))) | ((refine is_bd ?_; first | (refine lw_pure rfl (tyB_95 rfl rfl rfl) ?_))) | (refine lw_pure rfl (pv_makeFunc rfl rfl) ?_))
    refine lw_call (f := 65) (by kernel_rfl) rfl rfl (putS_c (p := ⟨s, inst, 0, qty, 0, paid - fee⟩) 67 #[.agg #[.int .i64 qty, .int .i64 (paid - fee)]] (by kernel_rfl) rfl (by omega) hM1.1 (HS1.mono hw) (fun x hx w' => sold_c s inst hq hg (mem_num hM1 hx) w') (join_zero o2)) ?_; rintro e w4 ⟨⟨v2, rfl, hO2⟩, hb⟩; refine ⟨_, rfl, ?_⟩
    replace hO2 := hO2.weaken (Nat.le_trans hE.le hw.size)
    replace hE := hE.mono (grow_trans hw hb)
    clear hb hw
    have hw := Below.refl w4.heap.size w4
    repeat' (first | (refine lw_pure rfl (pv_assign rfl) ?_) | (refine is_cw ?_; first | (refine cw_ret ?_)) | (refine is_qw ?_; first | (with_reducible refine qw_then ?_)) | (refine lw_nil ?_))
    exact qw_ret2 rfl rfl rfl ⟨⟨_, rfl, hO2⟩, hE.b⟩
theorem mayS_e {l : List Pos} {m : Nat} {a : Option Addr} {ca : Nat} {w : World} {r : Bool} (h : mayPs l = r) (hm : l.length = m) (HS : SlR encS 6 w a ca l) : Calls Tryz.prog 23 #[.slice a m ca] w fun e w' => e = .returned (.bool r) ∧ Below w.heap.size w w' := by subst h; exact may_S hm HS
theorem deal_e {l : List Pos} {m : Nat} {a : Option Addr} {ca : Nat} {b s inst qty paid fee : Int} {w : World} {R : List Pos × Int} (hR : dealS l b s inst qty paid fee = R) (hm : l.length = m) (hl : l.length ≤ 65534) (hM : MayPs l) (HS : SlR encS 6 w a ca l) (h1 : 1 ≤ b ∧ b ≤ 64) (h2 : 1 ≤ s ∧ s ≤ 64) (h3 : 1 ≤ inst ∧ inst ≤ 16) (h4 : 1 ≤ qty ∧ qty ≤ 1048576) (h5 : 0 ≤ paid ∧ paid ≤ 1125899906842624) (h6 : 0 ≤ fee) :
    Calls Tryz.prog 45 #[.agg #[.int .i64 b, .int .i64 s, .int .i64 inst, .int .i64 qty, .int .i64 paid, .int .i64 fee], .slice a m ca] w fun e w' => (∃ vo, e = .returned (.tuple #[vo, .int .i64 R.2]) ∧ Own encS 6 39 w.heap.size w' vo R.1) ∧ Below w.heap.size w w' := by subst hR; exact deal_c hm hl hM HS h1 h2 h3 h4 h5 h6
theorem find_e {p : List Opn} {m : Nat} {a : Option Addr} {ca : Nat} {w : World} {id : Int} {o : Opn} (h : findP p id = some o) (hm : p.length = m) (HP : SlR encP 6 w a ca p) : Calls Tryz.prog 21 #[.slice a m ca, .int .i64 id] w fun e w' => e = .returned (.tuple #[.agg (encP o).toArray, .bool true]) ∧ Below w.heap.size w w' := by
  have h1 := find_c id hm HP
  rw [h] at h1; exact h1
theorem lot_e {p : List Lt} {m : Nat} {a : Option Addr} {ca : Nat} {w : World} {id : Int} {o : Lt} (h : findT p id = some o) (hm : p.length = m) (HP : SlR encL 4 w a ca p) : Calls Tryz.prog 22 #[.slice a m ca, .int .i64 id] w fun e w' => e = .returned (.tuple #[.agg (encL o).toArray, .bool true]) ∧ Below w.heap.size w w' := by
  have h1 := lotx_c id hm HP
  rw [h] at h1; exact h1
set_option maxRecDepth 20000 in
set_option maxHeartbeats 8000000 in
theorem pev_c {l : List Pos} {p : List Opn} {t : List Lt} {e : Evt} {ml mp mt mn mx : Nat} {al ap at_ an ax : Option Addr} {cl cp ct cn cx : Nat} {w : World} (h8 : 0 ≤ e.kind ∧ e.kind ≤ 255) (hml : l.length = ml) (hl : l.length ≤ 65534) (hmp : p.length = mp) (hmt : t.length = mt) (hmn : e.nums.length = mn) (hmx : e.texts.length = mx) (HS : SlR encS 6 w al cl l) (HP : SlR encP 6 w ap cp p) (HL : SlR encL 4 w at_ ct t) (HN : SlR encI 1 w an cn e.nums) (HX : SlR encT 1 w ax cx e.texts) (hT : TxtIn e.texts) (hK : KnW w) :
    Calls Tryz.prog 13 #[.slice al ml cl, .slice ap mp cp, .slice at_ mt ct, .agg #[.int .u8 e.v, .int .u8 e.kind, .slice an mn cn, .slice ax mx cx]] w fun e1 w' => (∃ vo, e1 = .returned (.tuple #[vo, .int .i64 (posR l p t e).2]) ∧ Own encS 6 39 w.heap.size w' vo (posR l p t e).1) ∧ Below w.heap.size w w' := by
  have hE := Ext.refl w
  have hw := Below.refl w.heap.size w
  have hcl := HS.le
  have hclm := HS.max
  refine fn_enter 147 Tryz.func13 rfl rfl rfl ?_
  repeat' (first | (refine is_cw ?_; first | (refine cw_seq ?_) | (refine cw_region ?_)))
  refine lw_boxN rfl rfl (cs := [.int .u8 e.v, .int .u8 e.kind, .slice an mn cn, .slice ax mx cx]) rfl ?_; intro N7 w7 hN7 HV hb
  replace hw := grow_trans hw hb
  clear hb
  replace hE := hE.mono hw; replace HS := HS.mono hw; replace HP := HP.mono hw; replace HL := HL.mono hw; replace HN := HN.mono hw; replace HX := HX.mono hw; replace hK := hK.mono hw; clear hw; have hw := Below.refl w7.heap.size w7
  repeat' (first | (refine lw_pure rfl (pv_move rfl) ?_) | (refine lw_pure rfl (pv_assign rfl) ?_) | (refine is_cw ?_; first | (refine cw_seq ?_) | (refine cw_region ?_)) | (refine is_qw ?_; first | (with_reducible refine qw_then ?_)) | (refine lw_nil ?_) | ((refine is_load ?_; first | (refine lw_pure rfl (pv_loada (tA rfl) rfl (by first | exact PT.lda (HV.mono hw)) (by rfl)) ?_))))
  refine lw_call (f := 20) (by kernel_rfl) rfl rfl (ev_c h8 hmp hmt hmn hmx HP HL HN HX hT hK) ?_; rintro e1 w1 ⟨⟨vo, vt, rfl, -, -⟩, hb⟩; refine ⟨_, rfl, ?_⟩
  replace hw := grow_trans hw hb
  clear hb
  replace hE := hE.mono hw; replace HS := HS.mono hw; replace HP := HP.mono hw; replace HL := HL.mono hw; replace HN := HN.mono hw; replace HV := HV.mono hw; clear hw; have hw := Below.refl w1.heap.size w1
  clear HX hK
  by_cases h4 : (eventR p t e).2.2 = 4
  · rw [posR_form (Or.inl h4)]
    repeat' (first | (refine lw_pure rfl (pv_move rfl) ?_) | (refine lw_pure rfl (pv_assign rfl) ?_) | (refine is_cw ?_; first | (refine cw_seq ?_) | (refine cw_region ?_) | (refine cw_true rfl rfl ?_) | (refine cw_ret ?_)) | (refine is_qw ?_; first | (with_reducible refine qw_then ?_) | (with_reducible refine qw_then_ret ?_)) | (refine lw_nil ?_) | (refine is_guarded ?_; first | (refine lw_not rfl rfl rfl (by first | assumption | exact decide_eq_true (by omega) | exact decide_eq_false (by omega) | exact dec_notT (by omega) | exact dec_notF (by omega)) ?_)) | ((refine is_bin ?_; first | (refine lw_pure rfl (pv_eql rfl rfl) ?_))) | (refine is_pk ?_; refine lw_pure rfl (pv_pick_t rfl (by first | assumption | exact decide_eq_true (by omega) | exact dec_notT (by omega)) rfl) ?_) | (refine lw_pure rfl (pv_extract rfl rfl) ?_))
    all_goals exact qw_ret2 rfl rfl rfl ⟨⟨_, rfl, Own.nil _⟩, (hE.mono hw).b⟩
  cases hmy : mayPs l with
  | false =>
    rw [posR_form (Or.inr hmy)]
    repeat' (first | (refine lw_pure rfl (pv_move rfl) ?_) | (refine lw_pure rfl (pv_assign rfl) ?_) | (refine lw_call (f := 23) (by kernel_rfl) rfl rfl (mayS_e hmy hml (HS.mono hw)) ?_; rintro e1 w2 ⟨rfl, hb⟩; refine ⟨_, rfl, ?_⟩; replace hw := grow_trans hw hb; clear hb) | (refine is_cw ?_; first | (refine cw_seq ?_) | (refine cw_region ?_) | (refine cw_true rfl rfl ?_) | (refine cw_ret ?_)) | (refine is_qw ?_; first | (with_reducible refine qw_then ?_) | (with_reducible refine qw_then_ret ?_)) | (refine lw_nil ?_) | (refine is_guarded ?_; first | (refine lw_on rfl rfl (by first | assumption | exact decide_eq_true (by omega) | exact decide_eq_false (by omega) | exact dec_notT (by omega) | exact dec_notF (by omega)) ?_)) | ((refine is_bin ?_; first | (refine lw_pure rfl (pv_eql rfl rfl) ?_))) | ((refine is_un ?_; first | (refine lw_pure rfl (pv_not rfl) ?_))) | (refine is_pk ?_; refine lw_pure rfl (pv_pick_f rfl (by first | assumption | exact decide_eq_false (by omega) | exact dec_notF (by omega)) rfl) ?_) | (refine lw_pure rfl (pv_extract rfl rfl) ?_))
    all_goals exact qw_ret2 rfl rfl rfl ⟨⟨_, rfl, Own.nil _⟩, (hE.mono hw).b⟩
  | true =>
    have hM := mayPs_iff.1 hmy
    have hgo : ¬ ((eventR p t e).2.2 = 4 ∨ mayPs l = false) := by rw [hmy]; simp [h4]
    repeat' ((fail_if_success (refine is_seqb ?_)); (fail_if_success (refine is_blk ?_)); first | (refine lw_pure rfl (pv_move rfl) ?_) | (refine lw_pure rfl (pv_assign rfl) ?_) | (refine lw_call (f := 23) (by kernel_rfl) rfl rfl (mayS_e hmy hml (HS.mono hw)) ?_; rintro e1 w2 ⟨rfl, hb⟩; refine ⟨_, rfl, ?_⟩; replace hw := grow_trans hw hb; clear hb) | (refine is_cw ?_; first | (refine cw_seq ?_) | (refine cw_region ?_) | (refine cw_false rfl rfl ?_) | (refine cw_skip ?_)) | (refine is_qw ?_; first | (with_reducible refine qw_then ?_)) | (refine lw_nil ?_) | (refine is_guarded ?_; first | (refine lw_on rfl rfl (by first | assumption | exact decide_eq_true (by omega) | exact decide_eq_false (by omega) | exact dec_notT (by omega) | exact dec_notF (by omega)) ?_)) | ((refine is_bin ?_; first | (refine lw_pure rfl (pv_eql rfl rfl) ?_))) | ((refine is_fa ?_; first | (refine lw_pure rfl (pv_fa (tF rfl) rfl) ?_))) | ((refine is_un ?_; first | (refine lw_pure rfl (pv_not rfl) ?_))) | (refine is_pk ?_; refine lw_pure rfl (pv_pick_f rfl (by first | assumption | exact decide_eq_false (by omega) | exact dec_notF (by omega)) rfl) ?_) | (refine lw_pure rfl (pv_extract rfl rfl) ?_))
    by_cases k1 : e.kind = 13
    · by_cases hf : (eventR p t e).2.2 = 0
      · obtain ⟨n0, n1, n2, n3, n4, oa, ob, hT⟩ := trade_at hf k1
        rw [posR_trade hgo hf k1 hT]
        have hns := hT.nums
        have hfa := hT.fa
        have hfb := hT.fb
        have hma := hT.ma
        have hmb := hT.mb
        have hg2 := hT.g2
        have hg3 := hT.g3
        have hg4 := hT.g4
        have hpd := hT.paid
        have x0 : e.nums[0]? = some n0 := by rw [hns]; rfl
        have x1 : e.nums[1]? = some n1 := by rw [hns]; rfl
        have x2 : e.nums[2]? = some n2 := by rw [hns]; rfl
        have x3 : e.nums[3]? = some n3 := by rw [hns]; rfl
        have x4 : e.nums[4]? = some n4 := by rw [hns]; rfl
        have hm5 : mn = 5 := by rw [← hmn, hns]; rfl
        clear hT
        obtain ⟨nb, no, rfl, -, -⟩ := HN.at (by rw [hns]; simp)
        clear hns
        repeat' (first | (refine lw_pure rfl (pv_move rfl) ?_) | (refine lw_pure rfl (pv_assign rfl) ?_) | (refine is_cw ?_; first | (refine cw_seq ?_) | (refine cw_region ?_) | (refine cw_false rfl rfl ?_) | (refine is_cd ?_; refine cw_false rfl (by first | assumption | exact decide_eq_false (by omega) | exact dec_notF (by omega)) ?_) | (refine cw_skip ?_) | (refine cw_block ?_)) | (refine is_qw ?_; first | (with_reducible refine qw_then ?_) | (with_reducible refine qw_in ?_)) | (refine lw_nil ?_) | (refine is_guarded ?_; first | (refine lw_not rfl rfl rfl (by first | assumption | exact decide_eq_true (by omega) | exact decide_eq_false (by omega) | exact dec_notT (by omega) | exact dec_notF (by omega)) ?_)) | ((refine is_bin ?_; first | (refine lw_pure rfl (pv_eql rfl rfl) ?_) | (refine lw_pure rfl (pv_neq rfl rfl) ?_))) | ((refine is_load ?_; first | (refine lw_pure rfl (pv_load (t1 rfl) rfl (by first | exact PT.ld0 (HV.mono hw) rfl | exact PT.ld (HV.mono hw) rfl | exact SlR.ld (HN.mono hw) x0 rfl | exact SlR.ld1 (HN.mono hw) x0 rfl)) ?_))) | ((refine is_fa ?_; first | (refine lw_pure rfl (pv_fa (tF rfl) rfl) ?_))) | ((refine is_ia ?_; first | (refine lw_pure rfl (pv_ia (tS rfl) rfl rfl (by omega)) ?_))) | (refine is_pk ?_; refine lw_pure rfl (pv_pick_f rfl (by first | assumption | exact decide_eq_false (by omega) | exact dec_notF (by omega)) rfl) ?_))
        refine lw_call (f := 21) (by kernel_rfl) rfl rfl (find_e hfa hmp (HP.mono hw)) ?_; rintro e1 w2 ⟨rfl, hb⟩; refine ⟨_, rfl, ?_⟩; replace hw := grow_trans hw hb; clear hb
        repeat' (first | (refine lw_pure rfl (pv_move rfl) ?_) | (refine lw_pure rfl (pv_extract rfl rfl) ?_))
        refine lw_varN rfl (by first | exact tyv_27 | exact tyv_28 | exact tyv_38 | exact tyv_39 | exact tyv_48 | exact tyv_49 | exact tyv_52 | exact tyv_53 | exact tyv_68 | exact tyv_69 | exact tyv_79 | exact tyv_80 | exact tyv_94 | exact tyv_95 | exact tyv_131 | exact tyv_132) rfl (tZ rfl) (fun _ => rfl) rfl rfl ?_; intro N16 wn hN16 HA hb; replace hN16 := Nat.le_trans hw.size hN16; replace hw := grow_trans hw hb; clear hb
        replace HA : PT wn N16 49 (encP oa) := HA
        repeat' (first | (refine lw_pure rfl (pv_move rfl) ?_) | (refine lw_pure rfl (pv_assign rfl) ?_) | (refine is_cw ?_; first | (refine cw_seq ?_) | (refine cw_region ?_)) | (refine is_qw ?_; first | (with_reducible refine qw_then ?_)) | (refine lw_nil ?_) | ((refine is_load ?_; first | (refine lw_pure rfl (pv_load (t1 rfl) rfl (by first | exact SlR.ld (HN.mono hw) x1 rfl | exact SlR.ld1 (HN.mono hw) x1 rfl)) ?_))) | ((refine is_ia ?_; first | (refine lw_pure rfl (pv_ia (tS rfl) rfl rfl (by omega)) ?_))))
        refine lw_call (f := 21) (by kernel_rfl) rfl rfl (find_e hfb hmp (HP.mono hw)) ?_; rintro e1 w3 ⟨rfl, hb⟩; refine ⟨_, rfl, ?_⟩; replace HA := HA.mono hb; replace hw := grow_trans hw hb; clear hb
        repeat' (first | (refine lw_pure rfl (pv_move rfl) ?_) | (refine lw_pure rfl (pv_extract rfl rfl) ?_))
        refine lw_varN rfl (by first | exact tyv_27 | exact tyv_28 | exact tyv_38 | exact tyv_39 | exact tyv_48 | exact tyv_49 | exact tyv_52 | exact tyv_53 | exact tyv_68 | exact tyv_69 | exact tyv_79 | exact tyv_80 | exact tyv_94 | exact tyv_95 | exact tyv_131 | exact tyv_132) rfl (tZ rfl) (fun _ => rfl) rfl rfl ?_; intro N18 w4 hN18 HB hb
        have hne : N16 ≠ N18 := by have := HA.lt; omega
        replace HA := HA.mono hb
        replace hN18 := Nat.le_trans hw.size hN18
        replace hw := grow_trans hw hb
        clear hb
        replace HB : PT w4 N18 49 (encP ob) := HB
        by_cases hbad : oa.side = ob.side ∨ oa.inst ≠ ob.inst
        · have htr : tradeS l oa ob n2 n3 n4 = ([], 1) := by unfold tradeS; rw [if_pos hbad]
          rw [htr]
          repeat' (first | (refine lw_pure rfl (pv_move rfl) ?_) | (refine lw_pure rfl (pv_assign rfl) ?_) | (refine is_cw ?_; first | (refine cw_seq ?_) | (refine cw_region ?_) | (refine cw_true rfl rfl ?_) | (refine is_cd ?_; refine cw_true rfl (by first | assumption | exact decide_eq_true (by omega) | exact dec_notT (by omega)) ?_) | (refine cw_ret ?_)) | (refine is_qw ?_; first | (with_reducible refine qw_then ?_) | (with_reducible refine qw_then_ret ?_)) | (refine lw_nil ?_) | (refine is_guarded ?_; first | (refine lw_on rfl rfl (by first | assumption | exact decide_eq_true (by omega) | exact decide_eq_false (by omega) | exact dec_notT (by omega) | exact dec_notF (by omega)) ?_) | (refine lw_not rfl rfl rfl (by first | assumption | exact decide_eq_true (by omega) | exact decide_eq_false (by omega) | exact dec_notT (by omega) | exact dec_notF (by omega)) ?_) | (refine lw_gs_f rfl rfl rfl (fun hc => ?_) (fun hc => ?_) <;> (first | replace hc := of_decide_eq_true hc | replace hc := of_decide_eq_false hc | replace hc := dec_nT hc | replace hc := dec_nF hc | skip) <;> (try (exfalso; omega)))) | ((refine is_bin ?_; first | (refine lw_pure rfl (pv_eql rfl rfl) ?_) | (refine lw_pure rfl (pv_neq rfl rfl) ?_))) | ((refine is_load ?_; first | (refine lw_pure rfl (pv_load (t1 rfl) rfl (by first | exact PT.ld0 HA rfl | exact PT.ld HA rfl | exact PT.ld0 HB rfl | exact PT.ld HB rfl)) ?_))) | ((refine is_fa ?_; first | (refine lw_pure rfl (pv_fa (tF rfl) rfl) ?_))) | (refine is_pk ?_; refine lw_pure rfl (pv_pick_t rfl (by first | assumption | exact decide_eq_true (by omega) | exact dec_notT (by omega)) rfl) ?_) | (refine is_pk ?_; refine lw_pure rfl (pv_pick_f rfl (by first | assumption | exact decide_eq_false (by omega) | exact dec_notF (by omega)) rfl) ?_))
          all_goals exact qw_ret2 rfl rfl rfl ⟨⟨_, rfl, Own.nil _⟩, (hE.mono hw).b⟩
        · by_cases hs2 : oa.side = 2
          · have htr : tradeS l oa ob n2 n3 n4 = dealS l ob.acct oa.acct ob.inst n3 (n2 * n3) n4 := by
              unfold tradeS; rw [if_neg hbad, if_pos hs2, show ob.inst = oa.inst by omega]
            rw [htr]
            clear htr
            obtain ⟨R, hdl⟩ : ∃ R, dealS l ob.acct oa.acct ob.inst n3 (n2 * n3) n4 = R := ⟨_, rfl⟩
            rw [hdl]
            repeat' (first | (refine lw_pure rfl (pv_move rfl) ?_) | (refine lw_pure rfl (pv_assign rfl) ?_) | (refine is_cw ?_; first | (refine cw_seq ?_) | (refine cw_region ?_) | (refine is_cd ?_; refine cw_true rfl (by first | assumption | exact decide_eq_true (by omega) | exact dec_notT (by omega)) ?_) | (refine is_cd ?_; refine cw_false rfl (by first | assumption | exact decide_eq_false (by omega) | exact dec_notF (by omega)) ?_) | (refine cw_skip ?_)) | (refine is_qw ?_; first | (with_reducible refine qw_then ?_)) | (refine lw_nil ?_) | (refine is_guarded ?_; first | (refine lw_on rfl rfl (by first | assumption | exact decide_eq_true (by omega) | exact decide_eq_false (by omega) | exact dec_notT (by omega) | exact dec_notF (by omega)) ?_)) | ((refine is_bin ?_; first | (refine lw_pure rfl (pv_eql rfl rfl) ?_) | (refine lw_pure rfl (pv_neq rfl rfl) ?_))) | ((refine is_load ?_; first | (refine lw_pure rfl (pv_load (t1 rfl) rfl (by first | exact PT.ld0 HA rfl | exact PT.ld HA rfl | exact PT.ld0 HB rfl | exact PT.ld HB rfl)) ?_) | (refine lw_pure rfl (pv_loada (tA rfl) rfl (by first | exact PT.lda HA | exact PT.lda HB) (by rfl)) ?_))) | ((refine is_fa ?_; first | (refine lw_pure rfl (pv_fa (tF rfl) rfl) ?_))) | (refine is_pk ?_; refine lw_pure rfl (pv_pick_f rfl (by first | assumption | exact decide_eq_false (by omega) | exact dec_notF (by omega)) rfl) ?_))
            refine lw_storea (vs := encP ob) HA (tZ rfl) rfl rfl rfl rfl (encP_one _) ?_; intro w5 HA2 hg5 hz5
            replace HB := HB.grown hg5 (by intro h; injection h with h; exact hne h)
            replace hw := st_hw hw hg5 hN16
            refine lw_storea (vs := encP oa) HB (tZ rfl) rfl rfl rfl rfl (encP_one _) ?_; intro w6 HB2 hg6 hz6
            replace HA2 := HA2.grown hg6 (by intro h; injection h with h; exact hne h.symm)
            replace hw := st_hw hw hg6 hN18
            clear HA HB hg5 hg6 hz5 hz6
            have HA := HA2
            have HB := HB2
            clear HA2 HB2
            replace hE := hE.mono hw; replace HS := HS.mono hw; replace HN := HN.mono hw; clear hw; have hw := Below.refl w6.heap.size w6
            repeat' (first | (refine is_cw ?_; first | (refine cw_seq ?_)) | (refine is_qw ?_; first | (with_reducible refine qw_then ?_)) | (refine lw_nil ?_))
            refine cw_drawn (fun w' => Below w6.heap.size w6 w') (by kernel_rfl) (by repeat (first | exact NoPanic.body | with_reducible refine NoPanic.then ?_ | with_reducible refine NoPanic.inBlock ?_)) (fun hNP => ?_)
            have hS := hw.drew
            (refine at0 0 rfl (fun w' hq => pv_move rfl) ?_)
            (refine at0 1 rfl (fun w' hq => pv_ia (tS rfl) rfl rfl (by omega)) ?_)
            (refine at0 2 rfl (fun w' hq => pv_load (t1 rfl) rfl (by first | exact SlR.ld (HN.mono hq) x2 rfl | exact SlR.ld1 (HN.mono hq) x2 rfl | exact SlR.ld (HN.mono hq) x3 rfl | exact SlR.ld1 (HN.mono hq) x3 rfl)) ?_)
            (refine at0 3 rfl (fun w' hq => pv_move rfl) ?_)
            (refine at0 4 rfl (fun w' hq => pv_ia (tS rfl) rfl rfl (by omega)) ?_)
            (refine at0 5 rfl (fun w' hq => pv_load (t1 rfl) rfl (by first | exact SlR.ld (HN.mono hq) x2 rfl | exact SlR.ld1 (HN.mono hq) x2 rfl | exact SlR.ld (HN.mono hq) x3 rfl | exact SlR.ld1 (HN.mono hq) x3 rfl)) ?_)
            refine aw_act 6 (by kernel_rfl) rfl rfl rfl ?_
            refine act_call (f := 46) (by kernel_rfl) rfl (mul_c (by omega) (by omega) (by omega) _) ?_; rintro e1 w5 ⟨rfl, rfl⟩; refine ⟨_, rfl, hS, fun hS => ?_⟩
            (refine at0 7 rfl (fun w' hq => pv_move rfl) ?_)
            (refine at0 8 rfl (fun w' hq => pv_extract rfl rfl) ?_)
            (refine at0 9 rfl (fun w' hq => pv_extract rfl rfl) ?_)
            (refine at0 10 rfl (fun w' hq => pv_assign rfl) ?_)
            (refine at0 11 rfl (fun w' hq => pv_assign rfl) ?_)
            refine aw_done (by kernel_rfl) ?_
            replace hw := hS; clear hS hNP
            repeat' (first | (refine is_cw ?_; first | (refine cw_seq ?_)) | (refine is_qw ?_; first | (with_reducible refine qw_then ?_)))
            refine cw_drawn (fun w' => Below w6.heap.size w6 w') (by kernel_rfl) (by repeat (first | exact NoPanic.body | with_reducible refine NoPanic.then ?_ | with_reducible refine NoPanic.inBlock ?_)) (fun hNP => ?_)
            have hS := hw.drew
            (refine at0 0 rfl (fun w' hq => pv_fa (tF rfl) rfl) ?_)
            (refine at0 1 rfl (fun w' hq => pv_load (t1 rfl) rfl (by first | exact SlR.ld (HN.mono hq) x3 rfl | exact SlR.ld1 (HN.mono hq) x3 rfl | exact SlR.ld (HN.mono hq) x4 rfl | exact SlR.ld1 (HN.mono hq) x4 rfl | exact PT.ld0 (HA.mono hq) rfl | exact PT.ld (HA.mono hq) rfl | exact PT.ld0 (HB.mono hq) rfl | exact PT.ld (HB.mono hq) rfl)) ?_)
            (refine at0 2 rfl (fun w' hq => pv_fa (tF rfl) rfl) ?_)
            (refine at0 3 rfl (fun w' hq => pv_load (t1 rfl) rfl (by first | exact SlR.ld (HN.mono hq) x3 rfl | exact SlR.ld1 (HN.mono hq) x3 rfl | exact SlR.ld (HN.mono hq) x4 rfl | exact SlR.ld1 (HN.mono hq) x4 rfl | exact PT.ld0 (HA.mono hq) rfl | exact PT.ld (HA.mono hq) rfl | exact PT.ld0 (HB.mono hq) rfl | exact PT.ld (HB.mono hq) rfl)) ?_)
            (refine at0 4 rfl (fun w' hq => pv_fa (tF rfl) rfl) ?_)
            (refine at0 5 rfl (fun w' hq => pv_load (t1 rfl) rfl (by first | exact SlR.ld (HN.mono hq) x3 rfl | exact SlR.ld1 (HN.mono hq) x3 rfl | exact SlR.ld (HN.mono hq) x4 rfl | exact SlR.ld1 (HN.mono hq) x4 rfl | exact PT.ld0 (HA.mono hq) rfl | exact PT.ld (HA.mono hq) rfl | exact PT.ld0 (HB.mono hq) rfl | exact PT.ld (HB.mono hq) rfl)) ?_)
            (refine at0 6 rfl (fun w' hq => pv_move rfl) ?_)
            (refine at0 7 rfl (fun w' hq => pv_ia (tS rfl) rfl rfl (by omega)) ?_)
            (refine at0 8 rfl (fun w' hq => pv_load (t1 rfl) rfl (by first | exact SlR.ld (HN.mono hq) x3 rfl | exact SlR.ld1 (HN.mono hq) x3 rfl | exact SlR.ld (HN.mono hq) x4 rfl | exact SlR.ld1 (HN.mono hq) x4 rfl | exact PT.ld0 (HA.mono hq) rfl | exact PT.ld (HA.mono hq) rfl | exact PT.ld0 (HB.mono hq) rfl | exact PT.ld (HB.mono hq) rfl)) ?_)
            (refine at0 9 rfl (fun w' hq => pv_move rfl) ?_)
            (refine at0 10 rfl (fun w' hq => pv_move rfl) ?_)
            (refine at0 11 rfl (fun w' hq => pv_ia (tS rfl) rfl rfl (by omega)) ?_)
            (refine at0 12 rfl (fun w' hq => pv_load (t1 rfl) rfl (by first | exact SlR.ld (HN.mono hq) x3 rfl | exact SlR.ld1 (HN.mono hq) x3 rfl | exact SlR.ld (HN.mono hq) x4 rfl | exact SlR.ld1 (HN.mono hq) x4 rfl | exact PT.ld0 (HA.mono hq) rfl | exact PT.ld (HA.mono hq) rfl | exact PT.ld0 (HB.mono hq) rfl | exact PT.ld (HB.mono hq) rfl)) ?_)
            (refine at0 13 rfl (fun w' hq => tyB_69 rfl rfl rfl) ?_)
            (refine at0 14 rfl (fun w' hq => pv_move rfl) ?_)
            refine aw_act 15 (by kernel_rfl) rfl rfl rfl ?_
            refine act_call (f := 45) (by kernel_rfl) rfl (deal_e hdl hml hl hM (HS.mono hS) hmb.1 hma.1 (by omega) (by omega) (by omega) (by omega)) ?_; rintro e1 w8 ⟨⟨vo2, rfl, hO⟩, hb⟩; replace hO := hO.weaken (Nat.le_trans hE.le hS.size); refine ⟨_, rfl, grow_trans hS hb, fun hS => ?_⟩
            (refine at0 16 rfl (fun w' hq => pv_extract rfl rfl) ?_)
            (refine at0 17 rfl (fun w' hq => pv_extract rfl rfl) ?_)
            (refine at0 18 rfl (fun w' hq => pv_assign rfl) ?_)
            (refine at0 19 rfl (fun w' hq => pv_assign rfl) ?_)
            refine aw_done (by kernel_rfl) ?_
            replace hw := hS; clear hS hNP
            repeat' (first | (refine is_cw ?_; first | (refine cw_ret ?_)) | (refine is_qw ?_; first | (with_reducible refine qw_then ?_)))
            exact qw_ret2 rfl rfl rfl ⟨⟨_, rfl, hO⟩, (hE.mono hw).b⟩
          · have htr : tradeS l oa ob n2 n3 n4 = dealS l oa.acct ob.acct oa.inst n3 (n2 * n3) n4 := by
              unfold tradeS; rw [if_neg hbad, if_neg hs2]
            rw [htr]
            clear htr
            obtain ⟨R, hdl⟩ : ∃ R, dealS l oa.acct ob.acct oa.inst n3 (n2 * n3) n4 = R := ⟨_, rfl⟩
            rw [hdl]
            repeat' (first | (refine lw_pure rfl (pv_move rfl) ?_) | (refine lw_pure rfl (pv_assign rfl) ?_) | (refine is_cw ?_; first | (refine cw_seq ?_) | (refine cw_region ?_) | (refine is_cd ?_; refine cw_false rfl (by first | assumption | exact decide_eq_false (by omega) | exact dec_notF (by omega)) ?_) | (refine cw_skip ?_)) | (refine is_qw ?_; first | (with_reducible refine qw_then ?_)) | (refine lw_nil ?_) | (refine is_guarded ?_; first | (refine lw_on rfl rfl (by first | assumption | exact decide_eq_true (by omega) | exact decide_eq_false (by omega) | exact dec_notT (by omega) | exact dec_notF (by omega)) ?_)) | ((refine is_bin ?_; first | (refine lw_pure rfl (pv_eql rfl rfl) ?_) | (refine lw_pure rfl (pv_neq rfl rfl) ?_))) | ((refine is_load ?_; first | (refine lw_pure rfl (pv_load (t1 rfl) rfl (by first | exact PT.ld0 HA rfl | exact PT.ld HA rfl | exact PT.ld0 HB rfl | exact PT.ld HB rfl)) ?_))) | ((refine is_fa ?_; first | (refine lw_pure rfl (pv_fa (tF rfl) rfl) ?_))) | (refine is_pk ?_; refine lw_pure rfl (pv_pick_f rfl (by first | assumption | exact decide_eq_false (by omega) | exact dec_notF (by omega)) rfl) ?_))
            replace hE := hE.mono hw; replace HS := HS.mono hw; replace HN := HN.mono hw; clear hw; have hw := Below.refl w4.heap.size w4
            skip
            refine cw_drawn (fun w' => Below w4.heap.size w4 w') (by kernel_rfl) (by repeat (first | exact NoPanic.body | with_reducible refine NoPanic.then ?_ | with_reducible refine NoPanic.inBlock ?_)) (fun hNP => ?_)
            have hS := hw.drew
            (refine at0 0 rfl (fun w' hq => pv_move rfl) ?_)
            (refine at0 1 rfl (fun w' hq => pv_ia (tS rfl) rfl rfl (by omega)) ?_)
            (refine at0 2 rfl (fun w' hq => pv_load (t1 rfl) rfl (by first | exact SlR.ld (HN.mono hq) x2 rfl | exact SlR.ld1 (HN.mono hq) x2 rfl | exact SlR.ld (HN.mono hq) x3 rfl | exact SlR.ld1 (HN.mono hq) x3 rfl)) ?_)
            (refine at0 3 rfl (fun w' hq => pv_move rfl) ?_)
            (refine at0 4 rfl (fun w' hq => pv_ia (tS rfl) rfl rfl (by omega)) ?_)
            (refine at0 5 rfl (fun w' hq => pv_load (t1 rfl) rfl (by first | exact SlR.ld (HN.mono hq) x2 rfl | exact SlR.ld1 (HN.mono hq) x2 rfl | exact SlR.ld (HN.mono hq) x3 rfl | exact SlR.ld1 (HN.mono hq) x3 rfl)) ?_)
            refine aw_act 6 (by kernel_rfl) rfl rfl rfl ?_
            refine act_call (f := 46) (by kernel_rfl) rfl (mul_c (by omega) (by omega) (by omega) _) ?_; rintro e1 w5 ⟨rfl, rfl⟩; refine ⟨_, rfl, hS, fun hS => ?_⟩
            (refine at0 7 rfl (fun w' hq => pv_move rfl) ?_)
            (refine at0 8 rfl (fun w' hq => pv_extract rfl rfl) ?_)
            (refine at0 9 rfl (fun w' hq => pv_extract rfl rfl) ?_)
            (refine at0 10 rfl (fun w' hq => pv_assign rfl) ?_)
            (refine at0 11 rfl (fun w' hq => pv_assign rfl) ?_)
            refine aw_done (by kernel_rfl) ?_
            replace hw := hS; clear hS hNP
            repeat' (first | (refine is_cw ?_; first | (refine cw_seq ?_)) | (refine is_qw ?_; first | (with_reducible refine qw_then ?_)))
            refine cw_drawn (fun w' => Below w4.heap.size w4 w') (by kernel_rfl) (by repeat (first | exact NoPanic.body | with_reducible refine NoPanic.then ?_ | with_reducible refine NoPanic.inBlock ?_)) (fun hNP => ?_)
            have hS := hw.drew
            (refine at0 0 rfl (fun w' hq => pv_fa (tF rfl) rfl) ?_)
            (refine at0 1 rfl (fun w' hq => pv_load (t1 rfl) rfl (by first | exact SlR.ld (HN.mono hq) x3 rfl | exact SlR.ld1 (HN.mono hq) x3 rfl | exact SlR.ld (HN.mono hq) x4 rfl | exact SlR.ld1 (HN.mono hq) x4 rfl | exact PT.ld0 (HA.mono hq) rfl | exact PT.ld (HA.mono hq) rfl | exact PT.ld0 (HB.mono hq) rfl | exact PT.ld (HB.mono hq) rfl)) ?_)
            (refine at0 2 rfl (fun w' hq => pv_fa (tF rfl) rfl) ?_)
            (refine at0 3 rfl (fun w' hq => pv_load (t1 rfl) rfl (by first | exact SlR.ld (HN.mono hq) x3 rfl | exact SlR.ld1 (HN.mono hq) x3 rfl | exact SlR.ld (HN.mono hq) x4 rfl | exact SlR.ld1 (HN.mono hq) x4 rfl | exact PT.ld0 (HA.mono hq) rfl | exact PT.ld (HA.mono hq) rfl | exact PT.ld0 (HB.mono hq) rfl | exact PT.ld (HB.mono hq) rfl)) ?_)
            (refine at0 4 rfl (fun w' hq => pv_fa (tF rfl) rfl) ?_)
            (refine at0 5 rfl (fun w' hq => pv_load (t1 rfl) rfl (by first | exact SlR.ld (HN.mono hq) x3 rfl | exact SlR.ld1 (HN.mono hq) x3 rfl | exact SlR.ld (HN.mono hq) x4 rfl | exact SlR.ld1 (HN.mono hq) x4 rfl | exact PT.ld0 (HA.mono hq) rfl | exact PT.ld (HA.mono hq) rfl | exact PT.ld0 (HB.mono hq) rfl | exact PT.ld (HB.mono hq) rfl)) ?_)
            (refine at0 6 rfl (fun w' hq => pv_move rfl) ?_)
            (refine at0 7 rfl (fun w' hq => pv_ia (tS rfl) rfl rfl (by omega)) ?_)
            (refine at0 8 rfl (fun w' hq => pv_load (t1 rfl) rfl (by first | exact SlR.ld (HN.mono hq) x3 rfl | exact SlR.ld1 (HN.mono hq) x3 rfl | exact SlR.ld (HN.mono hq) x4 rfl | exact SlR.ld1 (HN.mono hq) x4 rfl | exact PT.ld0 (HA.mono hq) rfl | exact PT.ld (HA.mono hq) rfl | exact PT.ld0 (HB.mono hq) rfl | exact PT.ld (HB.mono hq) rfl)) ?_)
            (refine at0 9 rfl (fun w' hq => pv_move rfl) ?_)
            (refine at0 10 rfl (fun w' hq => pv_move rfl) ?_)
            (refine at0 11 rfl (fun w' hq => pv_ia (tS rfl) rfl rfl (by omega)) ?_)
            (refine at0 12 rfl (fun w' hq => pv_load (t1 rfl) rfl (by first | exact SlR.ld (HN.mono hq) x3 rfl | exact SlR.ld1 (HN.mono hq) x3 rfl | exact SlR.ld (HN.mono hq) x4 rfl | exact SlR.ld1 (HN.mono hq) x4 rfl | exact PT.ld0 (HA.mono hq) rfl | exact PT.ld (HA.mono hq) rfl | exact PT.ld0 (HB.mono hq) rfl | exact PT.ld (HB.mono hq) rfl)) ?_)
            (refine at0 13 rfl (fun w' hq => tyB_69 rfl rfl rfl) ?_)
            (refine at0 14 rfl (fun w' hq => pv_move rfl) ?_)
            refine aw_act 15 (by kernel_rfl) rfl rfl rfl ?_
            refine act_call (f := 45) (by kernel_rfl) rfl (deal_e hdl hml hl hM (HS.mono hS) hma.1 hmb.1 (by omega) (by omega) (by omega) (by omega)) ?_; rintro e1 w8 ⟨⟨vo2, rfl, hO⟩, hb⟩; replace hO := hO.weaken (Nat.le_trans hE.le hS.size); refine ⟨_, rfl, grow_trans hS hb, fun hS => ?_⟩
            (refine at0 16 rfl (fun w' hq => pv_extract rfl rfl) ?_)
            (refine at0 17 rfl (fun w' hq => pv_extract rfl rfl) ?_)
            (refine at0 18 rfl (fun w' hq => pv_assign rfl) ?_)
            (refine at0 19 rfl (fun w' hq => pv_assign rfl) ?_)
            refine aw_done (by kernel_rfl) ?_
            replace hw := hS; clear hS hNP
            repeat' (first | (refine is_cw ?_; first | (refine cw_ret ?_)) | (refine is_qw ?_; first | (with_reducible refine qw_then ?_)))
            exact qw_ret2 rfl rfl rfl ⟨⟨_, rfl, hO⟩, (hE.mono hw).b⟩
      · rw [posR_err hgo (Or.inl k1) hf]
        repeat' (first | (refine lw_pure rfl (pv_move rfl) ?_) | (refine lw_pure rfl (pv_assign rfl) ?_) | (refine is_cw ?_; first | (refine cw_seq ?_) | (refine cw_region ?_) | (refine cw_false rfl rfl ?_) | (refine is_cd ?_; refine cw_true rfl (by first | assumption | exact decide_eq_true (by omega) | exact dec_notT (by omega)) ?_) | (refine cw_block ?_) | (refine cw_ret ?_)) | (refine is_qw ?_; first | (with_reducible refine qw_then ?_) | (with_reducible refine qw_then_ret ?_) | (with_reducible refine qw_in_ret ?_)) | (refine lw_nil ?_) | (refine is_guarded ?_; first | (refine lw_not rfl rfl rfl (by first | assumption | exact decide_eq_true (by omega) | exact decide_eq_false (by omega) | exact dec_notT (by omega) | exact dec_notF (by omega)) ?_)) | ((refine is_bin ?_; first | (refine lw_pure rfl (pv_neq rfl rfl) ?_))) | ((refine is_load ?_; first | (refine lw_pure rfl (pv_load (t1 rfl) rfl (by first | exact PT.ld0 (HV.mono hw) rfl | exact PT.ld (HV.mono hw) rfl)) ?_))) | ((refine is_fa ?_; first | (refine lw_pure rfl (pv_fa (tF rfl) rfl) ?_))) | (refine is_pk ?_; refine lw_pure rfl (pv_pick_f rfl (by first | assumption | exact decide_eq_false (by omega) | exact dec_notF (by omega)) rfl) ?_))
        all_goals exact qw_ret2 rfl rfl rfl ⟨⟨_, rfl, Own.nil _⟩, (hE.mono hw).b⟩
    · by_cases k2 : e.kind = 18
      · by_cases hf : (eventR p t e).2.2 = 0
        · obtain ⟨n0, n1, n2, n3, ol, hT⟩ := sold_at hf k2
          rw [posR_sold hgo hf k2 hT]
          have hns := hT.nums
          have hfx := hT.fx
          have hmx2 := hT.mx
          have hg1 := hT.g1
          have hg2 := hT.g2
          have hg3 := hT.g3
          have x0 : e.nums[0]? = some n0 := by rw [hns]; rfl
          have x1 : e.nums[1]? = some n1 := by rw [hns]; rfl
          have x2 : e.nums[2]? = some n2 := by rw [hns]; rfl
          have x3 : e.nums[3]? = some n3 := by rw [hns]; rfl
          have hm4 : mn = 4 := by rw [← hmn, hns]; rfl
          clear hT
          obtain ⟨nb, no, rfl, -, -⟩ := HN.at (by rw [hns]; simp)
          clear hns
          obtain ⟨R, hdl⟩ : ∃ R, dealS l n1 ol.seller ol.inst ol.qty n2 n3 = R := ⟨_, rfl⟩
          rw [hdl]
          repeat' (first | (refine lw_pure rfl (pv_move rfl) ?_) | (refine lw_pure rfl (pv_assign rfl) ?_) | (refine is_cw ?_; first | (refine cw_seq ?_) | (refine cw_region ?_) | (refine is_cd ?_; refine cw_true rfl (by first | assumption | exact decide_eq_true (by omega) | exact dec_notT (by omega)) ?_) | (refine is_cd ?_; refine cw_false rfl (by first | assumption | exact decide_eq_false (by omega) | exact dec_notF (by omega)) ?_) | (refine cw_block ?_)) | (refine is_qw ?_; first | (with_reducible refine qw_then ?_)) | (refine lw_nil ?_) | (refine is_guarded ?_; first | (refine lw_on rfl rfl (by first | assumption | exact decide_eq_true (by omega) | exact decide_eq_false (by omega) | exact dec_notT (by omega) | exact dec_notF (by omega)) ?_)) | ((refine is_bin ?_; first | (refine lw_pure rfl (pv_eql rfl rfl) ?_) | (refine lw_pure rfl (pv_neq rfl rfl) ?_))) | ((refine is_load ?_; first | (refine lw_pure rfl (pv_load (t1 rfl) rfl (by first | exact PT.ld0 (HV.mono hw) rfl | exact PT.ld (HV.mono hw) rfl | exact SlR.ld (HN.mono hw) x0 rfl | exact SlR.ld1 (HN.mono hw) x0 rfl)) ?_))) | ((refine is_fa ?_; first | (refine lw_pure rfl (pv_fa (tF rfl) rfl) ?_))) | ((refine is_ia ?_; first | (refine lw_pure rfl (pv_ia (tS rfl) rfl rfl (by omega)) ?_))) | (refine is_pk ?_; refine lw_pure rfl (pv_pick_t rfl (by first | assumption | exact decide_eq_true (by omega) | exact dec_notT (by omega)) rfl) ?_))
          refine lw_call (f := 22) (by kernel_rfl) rfl rfl (lot_e hfx hmt (HL.mono hw)) ?_; rintro e1 w2 ⟨rfl, hb⟩; refine ⟨_, rfl, ?_⟩; replace hw := grow_trans hw hb; clear hb
          repeat' (first | (refine lw_pure rfl (pv_move rfl) ?_) | (refine lw_pure rfl (pv_extract rfl rfl) ?_))
          refine lw_varN rfl (by first | exact tyv_27 | exact tyv_28 | exact tyv_38 | exact tyv_39 | exact tyv_48 | exact tyv_49 | exact tyv_52 | exact tyv_53 | exact tyv_68 | exact tyv_69 | exact tyv_79 | exact tyv_80 | exact tyv_94 | exact tyv_95 | exact tyv_131 | exact tyv_132) rfl (tZ rfl) (fun _ => rfl) rfl rfl ?_; intro N14 wn hN14 HA hb; replace hN14 := Nat.le_trans hw.size hN14; replace hw := grow_trans hw hb; clear hb
          replace HA : PT wn N14 53 (encL ol) := HA
          replace hE := hE.mono hw; replace HS := HS.mono hw; replace HN := HN.mono hw; clear hw; have hw := Below.refl wn.heap.size wn
          repeat' (first | (refine lw_pure rfl (pv_assign rfl) ?_) | (refine is_cw ?_; first | (refine cw_seq ?_)) | (refine is_qw ?_; first | (with_reducible refine qw_then ?_)) | (refine lw_nil ?_))
          refine cw_drawn (fun w' => Below wn.heap.size wn w') (by kernel_rfl) (by repeat (first | exact NoPanic.body | with_reducible refine NoPanic.then ?_ | with_reducible refine NoPanic.inBlock ?_)) (fun hNP => ?_)
          have hS := hw.drew
          (refine at0 0 rfl (fun w' hq => pv_move rfl) ?_)
          (refine at0 1 rfl (fun w' hq => pv_ia (tS rfl) rfl rfl (by omega)) ?_)
          (refine at0 2 rfl (fun w' hq => pv_load (t1 rfl) rfl (by first | exact SlR.ld (HN.mono hq) x1 rfl | exact SlR.ld1 (HN.mono hq) x1 rfl | exact SlR.ld (HN.mono hq) x2 rfl | exact SlR.ld1 (HN.mono hq) x2 rfl | exact SlR.ld (HN.mono hq) x3 rfl | exact SlR.ld1 (HN.mono hq) x3 rfl | exact PT.ld0 (HA.mono hq) rfl | exact PT.ld (HA.mono hq) rfl)) ?_)
          (refine at0 3 rfl (fun w' hq => pv_fa (tF rfl) rfl) ?_)
          (refine at0 4 rfl (fun w' hq => pv_load (t1 rfl) rfl (by first | exact SlR.ld (HN.mono hq) x1 rfl | exact SlR.ld1 (HN.mono hq) x1 rfl | exact SlR.ld (HN.mono hq) x2 rfl | exact SlR.ld1 (HN.mono hq) x2 rfl | exact SlR.ld (HN.mono hq) x3 rfl | exact SlR.ld1 (HN.mono hq) x3 rfl | exact PT.ld0 (HA.mono hq) rfl | exact PT.ld (HA.mono hq) rfl)) ?_)
          (refine at0 5 rfl (fun w' hq => pv_fa (tF rfl) rfl) ?_)
          (refine at0 6 rfl (fun w' hq => pv_load (t1 rfl) rfl (by first | exact SlR.ld (HN.mono hq) x1 rfl | exact SlR.ld1 (HN.mono hq) x1 rfl | exact SlR.ld (HN.mono hq) x2 rfl | exact SlR.ld1 (HN.mono hq) x2 rfl | exact SlR.ld (HN.mono hq) x3 rfl | exact SlR.ld1 (HN.mono hq) x3 rfl | exact PT.ld0 (HA.mono hq) rfl | exact PT.ld (HA.mono hq) rfl)) ?_)
          (refine at0 7 rfl (fun w' hq => pv_fa (tF rfl) rfl) ?_)
          (refine at0 8 rfl (fun w' hq => pv_load (t1 rfl) rfl (by first | exact SlR.ld (HN.mono hq) x1 rfl | exact SlR.ld1 (HN.mono hq) x1 rfl | exact SlR.ld (HN.mono hq) x2 rfl | exact SlR.ld1 (HN.mono hq) x2 rfl | exact SlR.ld (HN.mono hq) x3 rfl | exact SlR.ld1 (HN.mono hq) x3 rfl | exact PT.ld0 (HA.mono hq) rfl | exact PT.ld (HA.mono hq) rfl)) ?_)
          (refine at0 9 rfl (fun w' hq => pv_move rfl) ?_)
          (refine at0 10 rfl (fun w' hq => pv_ia (tS rfl) rfl rfl (by omega)) ?_)
          (refine at0 11 rfl (fun w' hq => pv_load (t1 rfl) rfl (by first | exact SlR.ld (HN.mono hq) x1 rfl | exact SlR.ld1 (HN.mono hq) x1 rfl | exact SlR.ld (HN.mono hq) x2 rfl | exact SlR.ld1 (HN.mono hq) x2 rfl | exact SlR.ld (HN.mono hq) x3 rfl | exact SlR.ld1 (HN.mono hq) x3 rfl | exact PT.ld0 (HA.mono hq) rfl | exact PT.ld (HA.mono hq) rfl)) ?_)
          (refine at0 12 rfl (fun w' hq => pv_move rfl) ?_)
          (refine at0 13 rfl (fun w' hq => pv_ia (tS rfl) rfl rfl (by omega)) ?_)
          (refine at0 14 rfl (fun w' hq => pv_load (t1 rfl) rfl (by first | exact SlR.ld (HN.mono hq) x1 rfl | exact SlR.ld1 (HN.mono hq) x1 rfl | exact SlR.ld (HN.mono hq) x2 rfl | exact SlR.ld1 (HN.mono hq) x2 rfl | exact SlR.ld (HN.mono hq) x3 rfl | exact SlR.ld1 (HN.mono hq) x3 rfl | exact PT.ld0 (HA.mono hq) rfl | exact PT.ld (HA.mono hq) rfl)) ?_)
          (refine at0 15 rfl (fun w' hq => tyB_69 rfl rfl rfl) ?_)
          (refine at0 16 rfl (fun w' hq => pv_move rfl) ?_)
          refine aw_act 17 (by kernel_rfl) rfl rfl rfl ?_
          refine act_call (f := 45) (by kernel_rfl) rfl (deal_e hdl hml hl hM (HS.mono hS) hg1 hmx2.1 hmx2.2.1 hmx2.2.2 hg2 hg3) ?_; rintro e1 w8 ⟨⟨vo2, rfl, hO⟩, hb⟩; replace hO := hO.weaken (Nat.le_trans hE.le hS.size); refine ⟨_, rfl, grow_trans hS hb, fun hS => ?_⟩
          (refine at0 18 rfl (fun w' hq => pv_extract rfl rfl) ?_)
          (refine at0 19 rfl (fun w' hq => pv_extract rfl rfl) ?_)
          (refine at0 20 rfl (fun w' hq => pv_assign rfl) ?_)
          (refine at0 21 rfl (fun w' hq => pv_assign rfl) ?_)
          refine aw_done (by kernel_rfl) ?_
          replace hw := hS; clear hS hNP
          repeat' (first | (refine is_cw ?_; first | (refine cw_ret ?_)) | (refine is_qw ?_; first | (with_reducible refine qw_then ?_) | (with_reducible refine qw_then_ret ?_) | (with_reducible refine qw_in_ret ?_)))
          exact qw_ret2 rfl rfl rfl ⟨⟨_, rfl, hO⟩, (hE.mono hw).b⟩
        · rw [posR_err hgo (Or.inr k2) hf]
          repeat' (first | (refine lw_pure rfl (pv_move rfl) ?_) | (refine lw_pure rfl (pv_assign rfl) ?_) | (refine is_cw ?_; first | (refine cw_seq ?_) | (refine cw_region ?_) | (refine is_cd ?_; refine cw_true rfl (by first | assumption | exact decide_eq_true (by omega) | exact dec_notT (by omega)) ?_) | (refine is_cd ?_; refine cw_false rfl (by first | assumption | exact decide_eq_false (by omega) | exact dec_notF (by omega)) ?_) | (refine cw_block ?_) | (refine cw_ret ?_)) | (refine is_qw ?_; first | (with_reducible refine qw_then ?_) | (with_reducible refine qw_then_ret ?_) | (with_reducible refine qw_in_ret ?_)) | (refine lw_nil ?_) | (refine is_guarded ?_; first | (refine lw_on rfl rfl (by first | assumption | exact decide_eq_true (by omega) | exact decide_eq_false (by omega) | exact dec_notT (by omega) | exact dec_notF (by omega)) ?_)) | ((refine is_bin ?_; first | (refine lw_pure rfl (pv_neq rfl rfl) ?_))) | ((refine is_load ?_; first | (refine lw_pure rfl (pv_load (t1 rfl) rfl (by first | exact PT.ld0 (HV.mono hw) rfl | exact PT.ld (HV.mono hw) rfl)) ?_))) | ((refine is_fa ?_; first | (refine lw_pure rfl (pv_fa (tF rfl) rfl) ?_))) | (refine is_pk ?_; refine lw_pure rfl (pv_pick_t rfl (by first | assumption | exact decide_eq_true (by omega) | exact dec_notT (by omega)) rfl) ?_))
          all_goals exact qw_ret2 rfl rfl rfl ⟨⟨_, rfl, Own.nil _⟩, (hE.mono hw).b⟩
      · rw [posR_keep hgo k1 k2]
        repeat' (first | (refine lw_pure rfl (pv_move rfl) ?_) | (refine lw_pure rfl (pv_assign rfl) ?_) | (refine is_cw ?_; first | (refine cw_seq ?_) | (refine cw_region ?_) | (refine is_cd ?_; refine cw_true rfl (by first | assumption | exact decide_eq_true (by omega) | exact dec_notT (by omega)) ?_) | (refine cw_block ?_)) | (refine is_qw ?_; first | (with_reducible refine qw_then ?_)) | (refine lw_nil ?_) | (refine is_guarded ?_; first | (refine lw_on rfl rfl (by first | assumption | exact decide_eq_true (by omega) | exact decide_eq_false (by omega) | exact dec_notT (by omega) | exact dec_notF (by omega)) ?_)) | ((refine is_bin ?_; first | (refine lw_pure rfl (pv_neq rfl rfl) ?_))) | ((refine is_load ?_; first | (refine lw_pure rfl (pv_load (t1 rfl) rfl (by first | exact PT.ld0 (HV.mono hw) rfl | exact PT.ld (HV.mono hw) rfl)) ?_))) | ((refine is_fa ?_; first | (refine lw_pure rfl (pv_fa (tF rfl) rfl) ?_))) | (refine is_pk ?_; refine lw_pure rfl (pv_pick_t rfl (by first | assumption | exact decide_eq_true (by omega) | exact dec_notT (by omega)) rfl) ?_))
        refine lw_call (f := 44) (by kernel_rfl) rfl rfl (clone_S hml (HS.mono hw) (by omega)) ?_; rintro e1 w2 ⟨⟨vo2, rfl, hO⟩, hb⟩; refine ⟨_, rfl, ?_⟩; replace hO := hO.weaken (Nat.le_trans hE.le hw.size); replace hw := grow_trans hw hb; clear hb
        repeat' (first | (refine lw_pure rfl (pv_assign rfl) ?_) | (refine is_cw ?_; first | (refine cw_ret ?_)) | (refine is_qw ?_; first | (with_reducible refine qw_then ?_) | (with_reducible refine qw_then_ret ?_) | (with_reducible refine qw_in_ret ?_)) | (refine lw_nil ?_))
        exact qw_ret2 rfl rfl rfl ⟨⟨_, rfl, hO⟩, (hE.mono hw).b⟩

set_option maxRecDepth 20000 in
set_option maxHeartbeats 4000000 in
theorem evnew_p (k : Int) (a : Option Addr) (m c : Nat) (w : World) :
    Calls Tryz.prog 35 #[.int .u8 k, .slice a m c] w fun e w' => e = .returned (.agg #[.int .u8 3, .int .u8 k, .slice a m c, .slice none 0 0]) ∧ Below w.heap.size w w' := by
  have hE := Ext.refl w
  have hw := Below.refl w.heap.size w
  refine fn_enter 8 Tryz.func35 rfl rfl rfl ?_
  repeat' (first | (refine is_cw ?_; first | (refine cw_seq ?_) | (refine cw_region ?_)))
  refine lw_allocN rfl (by first | exact tyv_27 | exact tyv_28 | exact tyv_38 | exact tyv_39 | exact tyv_48 | exact tyv_49 | exact tyv_52 | exact tyv_53 | exact tyv_68 | exact tyv_69 | exact tyv_79 | exact tyv_80 | exact tyv_94 | exact tyv_95 | exact tyv_131 | exact tyv_132) rfl ?_; intro N w1 hN H hb
  replace hE := hE.mono hb
  clear hb hw
  have hw := Below.refl w1.heap.size w1
  repeat' (first | (refine lw_pure rfl (pv_move rfl) ?_) | (refine is_cw ?_; first | (refine cw_seq ?_) | (refine cw_region ?_)) | (refine is_qw ?_; first | (with_reducible refine qw_then ?_)) | (refine lw_nil ?_) | ((refine is_bd ?_; first | (refine lw_pure rfl (tyB_28 rfl rfl rfl) ?_))))
  refine lw_storea (vs := [.int .u8 3, .int .u8 k, .slice a m c, .slice none 0 0]) (H.mono hw) (tZ rfl) rfl rfl rfl rfl (by intro v hv; simp at hv; rcases hv with rfl | rfl | rfl | rfl <;> rfl) ?_; intro w3 H2 hg hz
  replace hE := (hE.mono hw).grown hg (by intro q hq; injection hq with hq; omega)
  clear hw
  have hw := Below.refl w3.heap.size w3
  repeat' (first | (refine is_cw ?_; first | (refine cw_ret ?_)) | (refine is_qw ?_; first | (with_reducible refine qw_then ?_)) | (refine lw_nil ?_))
  exact qw_retc rfl rfl (agg_ld (tA rfl) rfl (fun i u hu => H2.ld0 hu)) ⟨rfl, hE.b⟩
set_option maxRecDepth 20000 in
set_option maxHeartbeats 4000000 in
theorem long_c {e : Evt} {v k : Int} {al ap at_ an ax : Option Addr} {ml cl mp cp mt ct mn cn mx cx : Nat} {w : World} (hmx : e.texts.length = mx) (HX : SlR encT 1 w ax cx e.texts) :
    Calls Tryz.prog 9 #[.slice al ml cl, .slice ap mp cp, .slice at_ mt ct, .agg #[.int .u8 v, .int .u8 k, .slice an mn cn, .slice ax mx cx]] w fun e1 w' => (∃ r, e1 = .returned (.bool r) ∧ (r = false → ml ≤ 1200 ∧ mp ≤ 200 ∧ mt ≤ 100 ∧ mn ≤ 100 ∧ mx ≤ 100)) ∧ Below w.heap.size w w' := by
  subst hmx
  have hE := Ext.refl w
  have hw := Below.refl w.heap.size w
  have hxm := HX.max
  have hxl := HX.le
  refine fn_enter 49 Tryz.func9 rfl rfl rfl ?_
  repeat' (first | (refine is_cw ?_; first | (refine cw_seq ?_) | (refine cw_region ?_)))
  refine lw_boxN rfl rfl (cs := [.int .u8 v, .int .u8 k, .slice an mn cn, .slice ax e.texts.length cx]) rfl ?_; intro N7 w7 hN7 HV hb
  replace hw := grow_trans hw hb
  clear hb
  replace hE := hE.mono hw; replace HX := HX.mono hw; clear hw; have hw := Below.refl w7.heap.size w7
  by_cases hbig : 1200 < ml ∨ 200 < mp ∨ 100 < mt ∨ 100 < mn ∨ 100 < e.texts.length
  · repeat' (first | (refine lw_pure rfl (pv_move rfl) ?_) | (refine lw_pure rfl (pv_assign rfl) ?_) | (refine is_cw ?_; first | (refine cw_seq ?_) | (refine cw_region ?_) | (refine cw_true rfl rfl ?_) | (refine is_cd ?_; refine cw_true rfl (by first | assumption | exact decide_eq_true (by omega) | exact dec_notT (by omega)) ?_) | (refine cw_ret ?_)) | (refine is_qw ?_; first | (with_reducible refine qw_then ?_) | (with_reducible refine qw_then_ret ?_)) | (refine lw_nil ?_) | (refine is_guarded ?_; first | (refine lw_not rfl rfl rfl rfl ?_) | (refine lw_on rfl rfl (by first | assumption | exact decide_eq_true (by omega) | exact decide_eq_false (by omega) | exact dec_notT (by omega) | exact dec_notF (by omega)) ?_) | (refine lw_not rfl rfl rfl (by first | assumption | exact decide_eq_true (by omega) | exact decide_eq_false (by omega) | exact dec_notT (by omega) | exact dec_notF (by omega)) ?_) | (refine lw_gs_f rfl rfl rfl (fun hc => ?_) (fun hc => ?_) <;> (first | replace hc := of_decide_eq_true hc | replace hc := of_decide_eq_false hc | replace hc := dec_nT hc | replace hc := dec_nF hc | skip) <;> (try (exfalso; omega)))) | ((refine is_bin ?_; first | (refine lw_pure rfl (pv_gtr rfl rfl) ?_))) | ((refine is_load ?_; first | (refine lw_pure rfl (pv_load (t1 rfl) rfl (by first | exact PT.ld0 (HV.mono hw) rfl | exact PT.ld (HV.mono hw) rfl)) ?_))) | ((refine is_fa ?_; first | (refine lw_pure rfl (pv_fa (tF rfl) rfl) ?_))) | ((refine is_bi ?_; first | (refine lw_pure rfl (pv_lenl (tS rfl) rfl) ?_))) | (refine is_pk ?_; refine lw_pure rfl (pv_pick_t rfl rfl rfl) ?_) | (refine is_pk ?_; refine lw_pure rfl (pv_pick_t rfl (by first | assumption | exact decide_eq_true (by omega) | exact dec_notT (by omega)) rfl) ?_) | (refine is_pk ?_; refine lw_pure rfl (pv_pick_f rfl (by first | assumption | exact decide_eq_false (by omega) | exact dec_notF (by omega)) rfl) ?_))
    all_goals exact qw_ret1 rfl rfl ⟨⟨_, rfl, fun h => by simp at h⟩, (hE.mono hw).b⟩
  · repeat' ((fail_if_success (refine is_seqb ?_)); (fail_if_success (refine is_blk ?_)); first | (refine lw_pure rfl (pv_move rfl) ?_) | (refine lw_pure rfl (pv_assign rfl) ?_) | (refine is_cw ?_; first | (refine cw_seq ?_) | (refine cw_region ?_) | (refine is_cd ?_; refine cw_false rfl (by first | assumption | exact decide_eq_false (by omega) | exact dec_notF (by omega)) ?_) | (refine cw_skip ?_)) | (refine is_qw ?_; first | (with_reducible refine qw_then ?_)) | (refine lw_nil ?_) | (refine is_guarded ?_; first | (refine lw_on rfl rfl (by first | assumption | exact decide_eq_true (by omega) | exact decide_eq_false (by omega) | exact dec_notT (by omega) | exact dec_notF (by omega)) ?_)) | ((refine is_bin ?_; first | (refine lw_pure rfl (pv_gtr rfl rfl) ?_))) | ((refine is_load ?_; first | (refine lw_pure rfl (pv_load (t1 rfl) rfl (by first | exact PT.ld0 (HV.mono hw) rfl | exact PT.ld (HV.mono hw) rfl)) ?_))) | ((refine is_fa ?_; first | (refine lw_pure rfl (pv_fa (tF rfl) rfl) ?_))) | ((refine is_bi ?_; first | (refine lw_pure rfl (pv_lenl (tS rfl) rfl) ?_))) | (refine is_pk ?_; refine lw_pure rfl (pv_pick_f rfl (by first | assumption | exact decide_eq_false (by omega) | exact dec_notF (by omega)) rfl) ?_))
    repeat' (first | (refine is_cw ?_; first | (refine cw_block ?_)))
    refine cw_loop (σ := Nat) (fun k => [(7, .pointer (some ⟨N7, 0, none⟩)), (9, .int .i64 (k : Nat))]) (fun k wr => k ≤ e.texts.length ∧ Below w7.heap.size w7 wr) (fun k => e.texts.length - k) 0 (by repeat' (first | exact trivial | refine ⟨rfl, ?_⟩)) ⟨Nat.zero_le _, hw⟩ ?_
    clear hw
    rintro k wr ⟨hk, hw⟩
    by_cases hlt : k < e.texts.length
    · have hxk : e.texts[k]? = some e.texts[k] := List.getElem?_eq_getElem hlt
      obtain ⟨ab, ao, rfl, -, -⟩ := HX.at (by intro h; rw [h] at hlt; simp at hlt)
      generalize e.texts[k] = s at hxk
      by_cases hs : 300 < s.size
      · repeat' (first | (refine lw_pure rfl (pv_move rfl) ?_) | (refine lw_pure rfl (pv_assign rfl) ?_) | (refine is_cw ?_; first | (refine cw_seq ?_) | (refine cw_region ?_) | (refine is_cd ?_; refine cw_true rfl (by first | assumption | exact decide_eq_true (by omega) | exact dec_notT (by omega)) ?_) | (refine cw_skip ?_) | (refine cw_block ?_) | (refine cw_ret ?_)) | (refine is_qw ?_; first | (with_reducible refine qw_then ?_) | (with_reducible refine qw_then_ret ?_) | (with_reducible refine qw_in_ret ?_)) | (refine lw_nil ?_) | ((refine is_bin ?_; first | (refine lw_pure rfl (pv_lss rfl rfl) ?_) | (refine lw_pure rfl (pv_gtr rfl rfl) ?_))) | ((refine is_load ?_; first | (refine lw_pure rfl (pv_load (t1 rfl) rfl (by first | exact PT.ld0 (HV.mono hw) rfl | exact PT.ld (HV.mono hw) rfl | exact SlR.ld (HX.mono hw) hxk rfl | exact SlR.ld1 (HX.mono hw) hxk rfl)) ?_))) | ((refine is_fa ?_; first | (refine lw_pure rfl (pv_fa (tF rfl) rfl) ?_))) | ((refine is_ia ?_; first | (refine lw_pure rfl (pv_ian (tS rfl) rfl rfl (by omega)) ?_))) | ((refine is_bi ?_; first | (refine lw_pure rfl (pv_lenl (tS rfl) rfl) ?_) | (refine lw_pure rfl (pv_lens (tStr rfl) rfl) ?_))))
        exact qw_ret1 rfl rfl ⟨⟨_, rfl, fun h => by simp at h⟩, (hE.mono hw).b⟩
      · repeat' (first | (refine lw_pure rfl (pv_move rfl) ?_) | (refine lw_pure rfl (pv_assign rfl) ?_) | (refine is_cw ?_; first | (refine cw_seq ?_) | (refine cw_region ?_) | (refine is_cd ?_; refine cw_true rfl (by first | assumption | exact decide_eq_true (by omega) | exact dec_notT (by omega)) ?_) | (refine is_cd ?_; refine cw_false rfl (by first | assumption | exact decide_eq_false (by omega) | exact dec_notF (by omega)) ?_) | (refine cw_skip ?_) | (refine cw_block ?_)) | (refine is_qw ?_; first | (with_reducible refine qw_then ?_) | (with_reducible refine qw_in ?_)) | (refine lw_nil ?_) | ((refine is_bin ?_; first | (refine lw_pure rfl (pv_lss rfl rfl) ?_) | (refine lw_pure rfl (pv_gtr rfl rfl) ?_) | (refine lw_pure rfl (pv_inc rfl rfl (by omega)) ?_))) | ((refine is_load ?_; first | (refine lw_pure rfl (pv_load (t1 rfl) rfl (by first | exact PT.ld0 (HV.mono hw) rfl | exact PT.ld (HV.mono hw) rfl | exact SlR.ld (HX.mono hw) hxk rfl | exact SlR.ld1 (HX.mono hw) hxk rfl)) ?_))) | ((refine is_fa ?_; first | (refine lw_pure rfl (pv_fa (tF rfl) rfl) ?_))) | ((refine is_ia ?_; first | (refine lw_pure rfl (pv_ian (tS rfl) rfl rfl (by omega)) ?_))) | ((refine is_bi ?_; first | (refine lw_pure rfl (pv_lenl (tS rfl) rfl) ?_) | (refine lw_pure rfl (pv_lens (tStr rfl) rfl) ?_))))
        exact qw_round (k + 1) (by repeat' (first | exact trivial | refine ⟨rfl, ?_⟩)) ⟨by omega, hw⟩ (by omega)
    · repeat' (first | (refine lw_pure rfl (pv_move rfl) ?_) | (refine lw_pure rfl (pv_assign rfl) ?_) | (refine is_cw ?_; first | (refine cw_seq ?_) | (refine cw_region ?_) | (refine is_cd ?_; refine cw_false rfl (by first | assumption | exact decide_eq_false (by omega) | exact dec_notF (by omega)) ?_) | (refine cw_exit ?_) | (refine cw_ret ?_)) | (refine is_qw ?_; first | (with_reducible refine qw_then ?_) | (with_reducible refine qw_in_hit ?_) | (with_reducible refine qw_then_exit ?_)) | (refine lw_nil ?_) | ((refine is_bin ?_; first | (refine lw_pure rfl (pv_lss rfl rfl) ?_))) | ((refine is_load ?_; first | (refine lw_pure rfl (pv_load (t1 rfl) rfl (by first | exact PT.ld0 (HV.mono hw) rfl | exact PT.ld (HV.mono hw) rfl)) ?_))) | ((refine is_fa ?_; first | (refine lw_pure rfl (pv_fa (tF rfl) rfl) ?_))) | ((refine is_bi ?_; first | (refine lw_pure rfl (pv_lenl (tS rfl) rfl) ?_))))
      exact qw_ret1 rfl rfl ⟨⟨_, rfl, fun _ => by omega⟩, (hE.mono hw).b⟩
def openL : List Opn := [⟨1, 2, 1, 2, 10, 3⟩, ⟨1, 3, 1, 1, 9, 3⟩, ⟨2, 1, 1, 1, 12, 5⟩, ⟨2, 4, 2, 2, 12, 5⟩, ⟨2, 5, 1, 2, 12, 5⟩]
def lotsL : List Lt := [⟨7, 1, 2, 5⟩]
set_option maxRecDepth 20000 in
theorem open_c (w : World) : Calls Tryz.prog 36 #[] w fun e w' => (∃ a, e = .returned (.slice a 5 5) ∧ SlR encP 6 w' a 5 openL) ∧ Below w.heap.size w w' := by
  have hw := Below.refl w.heap.size w
  refine fn_enter 7 Tryz.func36 rfl rfl rfl ?_
  repeat' (first | (refine lw_pure rfl (pv_assign rfl) ?_) | (refine is_cw ?_; first | (refine cw_seq ?_) | (refine cw_region ?_)) | (refine is_qw ?_; first | (with_reducible refine qw_then ?_)) | (refine lw_nil ?_) | ((refine is_bd ?_; first | (refine lw_pure rfl (tyB_49 rfl rfl rfl) ?_))))
  refine lw_bsN (vs := openL.map fun o => .agg (encP o).toArray) (cs := openL.flatMap encP) elemP rfl rfl rfl (by omega) (by omega) rfl (by intro v hv; simp [openL] at hv; rcases hv with rfl | rfl | rfl | rfl | rfl <;> rfl) ?_; intro N w1 hN HX hb
  replace hw := grow_trans hw hb
  repeat' (first | (refine lw_pure rfl (pv_assign rfl) ?_) | (refine is_cw ?_; first | (refine cw_ret ?_)) | (refine is_qw ?_; first | (with_reducible refine qw_then ?_)) | (refine lw_nil ?_))
  exact qw_ret1 rfl rfl ⟨⟨_, rfl, HX.slR (xs := openL) encP_len rfl (by omega)⟩, hw⟩
set_option maxRecDepth 20000 in
theorem lots_c (w : World) : Calls Tryz.prog 37 #[] w fun e w' => (∃ a, e = .returned (.slice a 1 1) ∧ SlR encL 4 w' a 1 lotsL) ∧ Below w.heap.size w w' := by
  have hw := Below.refl w.heap.size w
  refine fn_enter 3 Tryz.func37 rfl rfl rfl ?_
  repeat' (first | (refine lw_pure rfl (pv_assign rfl) ?_) | (refine is_cw ?_; first | (refine cw_seq ?_) | (refine cw_region ?_)) | (refine is_qw ?_; first | (with_reducible refine qw_then ?_)) | (refine lw_nil ?_) | ((refine is_bd ?_; first | (refine lw_pure rfl (tyB_53 rfl rfl rfl) ?_))))
  refine lw_bsN (vs := lotsL.map fun o => .agg (encL o).toArray) (cs := lotsL.flatMap encL) elemL rfl rfl rfl (by omega) (by omega) rfl (by intro v hv; simp [lotsL] at hv; subst hv; rfl) ?_; intro N w1 hN HX hb
  replace hw := grow_trans hw hb
  repeat' (first | (refine lw_pure rfl (pv_assign rfl) ?_) | (refine is_cw ?_; first | (refine cw_ret ?_)) | (refine is_qw ?_; first | (with_reducible refine qw_then ?_)) | (refine lw_nil ?_))
  exact qw_ret1 rfl rfl ⟨⟨_, rfl, HX.slR (xs := lotsL) encL_len rfl (by omega)⟩, hw⟩
set_option maxRecDepth 20000 in
theorem full_c (x : Pos) (w : World) : Calls Tryz.prog 17 #[.agg (encS x).toArray] w fun e w' => e = .returned (.bool (fullS x)) ∧ Below w.heap.size w w' := by
  have hE := Ext.refl w
  have hw := Below.refl w.heap.size w
  refine fn_enter 21 Tryz.func17 rfl rfl rfl ?_
  repeat' (first | (refine is_cw ?_; first | (refine cw_seq ?_) | (refine cw_region ?_)))
  refine lw_boxN rfl rfl (cs := encS x) rfl ?_; intro N w1 hN H hb
  replace hw := grow_trans hw hb
  clear hb
  replace hE := hE.mono hw; clear hw; have hw := Below.refl w1.heap.size w1
  repeat' (first | (refine lw_pure rfl (pv_move rfl) ?_) | (refine lw_pure rfl (pv_assign rfl) ?_) | (refine is_cw ?_; first | (refine cw_seq ?_) | (refine cw_region ?_) | (refine cw_ret ?_)) | (refine is_qw ?_; first | (with_reducible refine qw_then ?_)) | (refine lw_nil ?_) | (refine is_guarded ?_; first | (refine lw_not rfl rfl rfl rfl ?_) | (refine lw_on rfl rfl (by first | assumption | exact decide_eq_true (by omega) | exact decide_eq_false (by omega) | exact dec_notT (by omega) | exact dec_notF (by omega)) ?_) | (refine lw_not rfl rfl rfl (by first | assumption | exact decide_eq_true (by omega) | exact decide_eq_false (by omega) | exact dec_notT (by omega) | exact dec_notF (by omega)) ?_) | (refine lw_gs_f rfl rfl rfl (fun hc => ?_) (fun hc => ?_) <;> (first | replace hc := of_decide_eq_true hc | replace hc := of_decide_eq_false hc | replace hc := dec_nT hc | replace hc := dec_nF hc | skip) <;> (try (exfalso; omega)))) | ((refine is_bin ?_; first | (refine lw_pure rfl (pv_eql rfl rfl) ?_))) | ((refine is_load ?_; first | (refine lw_pure rfl (pv_load (t1 rfl) rfl (by first | exact PT.ld0 (H.mono hw) rfl | exact PT.ld (H.mono hw) rfl)) ?_))) | ((refine is_fa ?_; first | (refine lw_pure rfl (pv_fa (tF rfl) rfl) ?_))) | (refine is_pk ?_; refine lw_pure rfl (pv_pick_t rfl rfl rfl) ?_) | (refine is_pk ?_; refine lw_pure rfl (pv_pick_t rfl (by first | assumption | exact decide_eq_true (by omega) | exact dec_notT (by omega)) rfl) ?_) | (refine is_pk ?_; refine lw_pure rfl (pv_pick_f rfl (by first | assumption | exact decide_eq_false (by omega) | exact dec_notF (by omega)) rfl) ?_))
  all_goals (refine qw_ret1 rfl rfl ⟨ret_bool ?_, (hE.mono hw).b⟩; unfold fullS farS; first | (rw [Bool.eq_iff_iff]; simp; omega) | (simp; omega) | (simp [*]; done))
abbrev aA0 : Pos := ⟨1, 1, 0, 3, 0, 35⟩
abbrev aA1 : Pos := ⟨2, 1, 3, 0, 36, 0⟩
abbrev aB0 : Pos := ⟨1, 2, 0, 5, 0, 99⟩
abbrev aB1 : Pos := ⟨3, 2, 5, 0, 100, 0⟩
abbrev evA : Evt := ⟨3, 13, [1, 2, 12, 3, 1], []⟩
abbrev evB : Evt := ⟨3, 18, [7, 3, 100, 1], []⟩
theorem awA : posR [] openL [] evA = ([aA0, aA1], 0) := by kernel_rfl
theorem awB : posR [] [] lotsL evB = ([aB0, aB1], 0) := by kernel_rfl
theorem pv_eqlSt {n : Nat} {l : Fr} {w : World} {d : Option Nat} {t' ty : TypeId} {x y : Operand} {pos : String} {af : Array Edge} {g : Option (Nat × Bool)} (a : Pos) (hx : ev l x = some (.agg (encS a).toArray)) (hy : ev l y = some (.agg (encS a).toArray)) : Pv Tryz.prog n l ⟨d, .binOp .eql 39 x y t', ty, pos, af, g⟩ (.bool true) w := by
  have h := pv_eqlS (n := n) (w := w) (d := d) (t' := t') (ty := ty) (pos := pos) (af := af) (g := g) a a hx hy
  simpa using h
theorem get_e {l : List Pos} {m : Nat} {a : Option Addr} {ca : Nat} {w : World} {ac i : Int} {r : Pos} (h : getS l ac i = r) (hm : l.length = m) (HP : SlR encS 6 w a ca l) : Calls Tryz.prog 18 #[.slice a m ca, .int .i64 ac, .int .i64 i] w fun e w' => e = .returned (.agg (encS r).toArray) ∧ Below w.heap.size w w' := by subst h; exact get_c ac i hm HP
theorem pev_e {L : List Pos} {k : Int} {nL : Nat} {l : List Pos} {p : List Opn} {t : List Lt} {e : Evt} {ml mp mt mn mx : Nat} {al ap at_ an ax : Option Addr} {cl cp ct cn cx : Nat} {w : World} (hR : posR l p t e = (L, k)) (hL : L.length = nL) (h8 : 0 ≤ e.kind ∧ e.kind ≤ 255) (hml : l.length = ml) (hl : l.length ≤ 65534) (hmp : p.length = mp) (hmt : t.length = mt) (hmn : e.nums.length = mn) (hmx : e.texts.length = mx) (HS : SlR encS 6 w al cl l) (HP : SlR encP 6 w ap cp p) (HL : SlR encL 4 w at_ ct t) (HN : SlR encI 1 w an cn e.nums) (HX : SlR encT 1 w ax cx e.texts) (hT : TxtIn e.texts) (hK : KnW w) :
    Calls Tryz.prog 13 #[.slice al ml cl, .slice ap mp cp, .slice at_ mt ct, .agg #[.int .u8 e.v, .int .u8 e.kind, .slice an mn cn, .slice ax mx cx]] w fun e1 w' => (∃ a c, e1 = .returned (.tuple #[.slice a nL c, .int .i64 k]) ∧ SlR encS 6 w' a c L) ∧ Below w.heap.size w w' := by
  subst hL
  have h1 := pev_c h8 hml hl hmp hmt hmn hmx HS HP HL HN HX hT hK
  rw [hR] at h1
  refine h1.mono ?_
  rintro e1 w' ⟨⟨vo, rfl, hO⟩, hb⟩
  obtain ⟨a, c, rfl, hS, -⟩ := Own.slR encS_len hO
  exact ⟨⟨a, c, rfl, hS⟩, hb⟩
set_option maxRecDepth 20000 in
set_option maxHeartbeats 8000000 in
theorem awake_c {w : World} (hK : KnW w) : Calls Tryz.prog 10 #[] w fun e w' => e = .returned (.bool true) ∧ Below w.heap.size w w' := by
  have hE := Ext.refl w
  have hw := Below.refl w.heap.size w
  refine fn_enter 75 Tryz.func10 rfl rfl rfl ?_
  repeat' (first | (refine lw_pure rfl (pv_assign rfl) ?_) | (refine is_cw ?_; first | (refine cw_seq ?_) | (refine cw_region ?_)) | (refine is_qw ?_; first | (with_reducible refine qw_then ?_)) | (refine lw_nil ?_))
  refine lw_call (f := 36) (by kernel_rfl) rfl rfl (open_c _) ?_; rintro e1 w1 ⟨⟨oa, rfl, HO⟩, hb⟩; refine ⟨_, rfl, ?_⟩; replace hw := grow_trans hw hb; clear hb
  replace hE := hE.mono hw; replace hK := hK.mono hw; clear hw; have hw := Below.refl w1.heap.size w1
  skip
  refine lw_bsN (vs := [.int .i64 1, .int .i64 2, .int .i64 12, .int .i64 3, .int .i64 1]) (cs := [.int .i64 1, .int .i64 2, .int .i64 12, .int .i64 3, .int .i64 1]) elemI rfl rfl rfl (by omega) (by omega) rfl (by simp [Value.cells]) ?_; intro BA wn _ HX hb
  have HN : SlR encI 1 wn (some ⟨BA, 0, none⟩) 5 evA.nums := HX.slR (xs := [1, 2, 12, 3, 1]) encI_len rfl (by omega)
  replace hw := grow_trans hw hb; clear hb HX
  replace hE := hE.mono hw; replace hK := hK.mono hw; replace HO := HO.mono hw; clear hw; have hw := Below.refl wn.heap.size wn
  repeat' (first | (refine lw_call (f := 35) (by kernel_rfl) rfl rfl (evnew_p 13 _ 5 5 _) ?_; rintro e w1 ⟨rfl, hb⟩; refine ⟨_, rfl, ?_⟩; replace hw := grow_trans hw hb; clear hb))
  refine lw_call (f := 13) (by kernel_rfl) rfl rfl (pev_e (nL := 2) (e := evA) awA rfl (by decide) rfl (by decide) rfl rfl rfl rfl (SlR.nil _) (HO.mono hw) (SlR.nil _) (HN.mono hw) (SlR.nil _) tx_nil (hK.mono hw)) ?_; rintro e1 w2 ⟨⟨ra, rc, rfl, HA⟩, hb⟩; refine ⟨_, rfl, ?_⟩; replace hw := grow_trans hw hb; clear hb
  replace hE := hE.mono hw; replace hK := hK.mono hw; clear hw; have hw := Below.refl w2.heap.size w2
  clear HO HN
  repeat' (first | (refine lw_pure rfl (pv_move rfl) ?_) | (refine lw_pure rfl (pv_assign rfl) ?_) | (refine is_cw ?_; first | (refine cw_seq ?_) | (refine cw_region ?_)) | (refine is_qw ?_; first | (with_reducible refine qw_then ?_)) | (refine lw_nil ?_) | (refine lw_pure rfl (pv_extract rfl rfl) ?_))
  refine lw_call (f := 37) (by kernel_rfl) rfl rfl (lots_c _) ?_; rintro e1 w3 ⟨⟨la, rfl, HL⟩, hb⟩; refine ⟨_, rfl, ?_⟩; replace hw := grow_trans hw hb; clear hb
  replace hE := hE.mono hw; replace hK := hK.mono hw; replace HA := HA.mono hw; clear hw; have hw := Below.refl w3.heap.size w3
  skip
  refine lw_bsN (vs := [.int .i64 7, .int .i64 3, .int .i64 100, .int .i64 1]) (cs := [.int .i64 7, .int .i64 3, .int .i64 100, .int .i64 1]) elemI rfl rfl rfl (by omega) (by omega) rfl (by simp [Value.cells]) ?_; intro BB wn _ HX hb
  have HN : SlR encI 1 wn (some ⟨BB, 0, none⟩) 4 evB.nums := HX.slR (xs := [7, 3, 100, 1]) encI_len rfl (by omega)
  replace hw := grow_trans hw hb; clear hb HX
  replace hE := hE.mono hw; replace hK := hK.mono hw; replace HA := HA.mono hw; replace HL := HL.mono hw; clear hw; have hw := Below.refl wn.heap.size wn
  repeat' (first | (refine lw_call (f := 35) (by kernel_rfl) rfl rfl (evnew_p 18 _ 4 4 _) ?_; rintro e w1 ⟨rfl, hb⟩; refine ⟨_, rfl, ?_⟩; replace hw := grow_trans hw hb; clear hb))
  refine lw_call (f := 13) (by kernel_rfl) rfl rfl (pev_e (nL := 2) (e := evB) awB rfl (by decide) rfl (by decide) rfl rfl rfl rfl (SlR.nil _) (SlR.nil _) (HL.mono hw) (HN.mono hw) (SlR.nil _) tx_nil (hK.mono hw)) ?_; rintro e1 w4 ⟨⟨sa, sc, rfl, HB⟩, hb⟩; refine ⟨_, rfl, ?_⟩; replace hw := grow_trans hw hb; clear hb
  replace hE := hE.mono hw; replace HA := HA.mono hw; clear hw; have hw := Below.refl w4.heap.size w4
  clear HL HN hK
  obtain ⟨ab, ao, rfl, -, -⟩ := HA.at (by simp)
  obtain ⟨bb, bo, rfl, -, -⟩ := HB.at (by simp)
  have hA0 : ([aA0, aA1] : List Pos)[0]? = some aA0 := rfl
  have hA1 : ([aA0, aA1] : List Pos)[1]? = some aA1 := rfl
  have hB0 : ([aB0, aB1] : List Pos)[0]? = some aB0 := rfl
  have hB1 : ([aB0, aB1] : List Pos)[1]? = some aB1 := rfl
  repeat' (first | (refine lw_pure rfl (pv_move rfl) ?_) | (refine lw_pure rfl (pv_assign rfl) ?_) | (refine is_cw ?_; first | (refine cw_seq ?_) | (refine cw_region ?_) | (refine cw_false rfl rfl ?_) | (refine cw_skip ?_)) | (refine is_qw ?_; first | (with_reducible refine qw_then ?_)) | (refine lw_nil ?_) | (refine is_guarded ?_; first | (refine lw_on rfl rfl rfl ?_)) | ((refine is_bin ?_; first | (refine lw_pure rfl (pv_neq rfl rfl) ?_))) | ((refine is_bi ?_; first | (refine lw_pure rfl (pv_lenl (tS rfl) rfl) ?_))) | (refine is_pk ?_; refine lw_pure rfl (pv_pick_f rfl rfl rfl) ?_) | (refine lw_pure rfl (pv_extract rfl rfl) ?_))
  refine cw_drawn (fun w' => Below w4.heap.size w4 w') (by kernel_rfl) (by repeat (first | exact NoPanic.body | with_reducible refine NoPanic.then ?_ | with_reducible refine NoPanic.inBlock ?_)) (fun hNP => ?_)
  have hS := hw.drew
  all_goals (refine at0 0 rfl (fun w' hq => pv_move rfl) ?_)
  all_goals (refine at0 1 rfl (fun w' hq => pv_ia (tS rfl) rfl rfl (by omega)) ?_)
  all_goals (refine at0 2 rfl (fun w' hq => pv_loada (tA rfl) rfl (by first | exact SlR.lda (HA.mono hq) hA0 | exact SlR.lda (HA.mono hq) hA1 | exact SlR.lda (HB.mono hq) hB0 | exact SlR.lda (HB.mono hq) hB1) (by rfl)) ?_)
  all_goals (refine at0 3 rfl (fun w' hq => tyB_39 rfl rfl rfl) ?_)
  all_goals (refine at0 4 rfl (fun w' hq => pv_eqlSt aA0 rfl rfl) ?_)
  all_goals (refine at0 5 rfl (fun w' hq => pv_move rfl) ?_)
  all_goals (refine at1 6 rfl rfl rfl rfl (fun w' hq => pv_move rfl) ?_)
  all_goals (refine at1 7 rfl rfl rfl rfl (fun w' hq => pv_ia (tS rfl) rfl rfl (by omega)) ?_)
  all_goals (refine at1 8 rfl rfl rfl rfl (fun w' hq => pv_loada (tA rfl) rfl (by first | exact SlR.lda (HA.mono hq) hA0 | exact SlR.lda (HA.mono hq) hA1 | exact SlR.lda (HB.mono hq) hB0 | exact SlR.lda (HB.mono hq) hB1) (by rfl)) ?_)
  all_goals (refine at1 9 rfl rfl rfl rfl (fun w' hq => tyB_39 rfl rfl rfl) ?_)
  all_goals (refine at1 10 rfl rfl rfl rfl (fun w' hq => pv_eqlSt aA1 rfl rfl) ?_)
  all_goals (refine at0 11 rfl (fun w' hq => pv_pick_t rfl rfl rfl) ?_)
  all_goals (refine at0 12 rfl (fun w' hq => pv_move rfl) ?_)
  all_goals (refine at1 13 rfl rfl rfl rfl (fun w' hq => pv_move rfl) ?_)
  all_goals (refine at1 14 rfl rfl rfl rfl (fun w' hq => pv_ia (tS rfl) rfl rfl (by omega)) ?_)
  all_goals (refine at1 15 rfl rfl rfl rfl (fun w' hq => pv_loada (tA rfl) rfl (by first | exact SlR.lda (HA.mono hq) hA0 | exact SlR.lda (HA.mono hq) hA1 | exact SlR.lda (HB.mono hq) hB0 | exact SlR.lda (HB.mono hq) hB1) (by rfl)) ?_)
  all_goals (refine at1 16 rfl rfl rfl rfl (fun w' hq => tyB_39 rfl rfl rfl) ?_)
  all_goals (refine at1 17 rfl rfl rfl rfl (fun w' hq => pv_eqlSt aB0 rfl rfl) ?_)
  all_goals (refine at0 18 rfl (fun w' hq => pv_pick_t rfl rfl rfl) ?_)
  all_goals (refine at0 19 rfl (fun w' hq => pv_move rfl) ?_)
  all_goals (refine at1 20 rfl rfl rfl rfl (fun w' hq => pv_move rfl) ?_)
  all_goals (refine at1 21 rfl rfl rfl rfl (fun w' hq => pv_ia (tS rfl) rfl rfl (by omega)) ?_)
  all_goals (refine at1 22 rfl rfl rfl rfl (fun w' hq => pv_loada (tA rfl) rfl (by first | exact SlR.lda (HA.mono hq) hA0 | exact SlR.lda (HA.mono hq) hA1 | exact SlR.lda (HB.mono hq) hB0 | exact SlR.lda (HB.mono hq) hB1) (by rfl)) ?_)
  all_goals (refine at1 23 rfl rfl rfl rfl (fun w' hq => tyB_39 rfl rfl rfl) ?_)
  all_goals (refine at1 24 rfl rfl rfl rfl (fun w' hq => pv_eqlSt aB1 rfl rfl) ?_)
  all_goals (refine at0 25 rfl (fun w' hq => pv_pick_t rfl rfl rfl) ?_)
  all_goals (refine at0 26 rfl (fun w' hq => pv_move rfl) ?_)
  all_goals (refine at1 27 rfl rfl rfl rfl (fun w' hq => pv_move rfl) ?_)
  all_goals (refine at1 29 rfl rfl rfl rfl (fun w' hq => pv_move rfl) ?_)
  all_goals (refine at1 30 rfl rfl rfl rfl (fun w' hq => pv_ia (tS rfl) rfl rfl (by omega)) ?_)
  all_goals (refine at1 31 rfl rfl rfl rfl (fun w' hq => pv_loada (tA rfl) rfl (by first | exact SlR.lda (HA.mono hq) hA0 | exact SlR.lda (HA.mono hq) hA1 | exact SlR.lda (HB.mono hq) hB0 | exact SlR.lda (HB.mono hq) hB1) (by rfl)) ?_)
  all_goals first | (refine an3 28 rfl rfl rfl ?_) | (refine an0 28 rfl rfl rfl ?_) | (refine aw_act_g 28 (by kernel_rfl) rfl rfl rfl (by first | rfl | assumption | exact decide_eq_true (by omega) | exact decide_eq_false (by omega) | exact dec_notT (by omega) | exact dec_notF (by omega)) rfl ?_; refine act_call (f := 18) (by kernel_rfl) rfl (get_e (r := aA1) rfl rfl (HA.mono hS)) ?_; rintro e1 w5 ⟨rfl, hb⟩; refine ⟨_, rfl, grow_trans hS hb, fun hS => ?_⟩)
  all_goals (refine at1 32 rfl rfl rfl rfl (fun w' hq => pv_eqlSt aA1 rfl rfl) ?_)
  all_goals (refine at0 33 rfl (fun w' hq => pv_pick_t rfl rfl rfl) ?_)
  all_goals (refine at0 34 rfl (fun w' hq => pv_move rfl) ?_)
  all_goals (refine at1 35 rfl rfl rfl rfl (fun w' hq => pv_move rfl) ?_)
  all_goals (refine at1 37 rfl rfl rfl rfl (fun w' hq => tyB_39 rfl rfl rfl) ?_)
  all_goals first | (refine an3 36 rfl rfl rfl ?_) | (refine an0 36 rfl rfl rfl ?_) | (refine aw_act_g 36 (by kernel_rfl) rfl rfl rfl (by first | rfl | assumption | exact decide_eq_true (by omega) | exact decide_eq_false (by omega) | exact dec_notT (by omega) | exact dec_notF (by omega)) rfl ?_; refine act_call (f := 18) (by kernel_rfl) rfl (get_e (r := ⟨9, 9, 0, 0, 0, 0⟩) rfl rfl (HA.mono hS)) ?_; rintro e1 w5 ⟨rfl, hb⟩; refine ⟨_, rfl, grow_trans hS hb, fun hS => ?_⟩)
  all_goals (refine at1 38 rfl rfl rfl rfl (fun w' hq => pv_eqlSt ⟨9,9,0,0,0,0⟩ rfl rfl) ?_)
  all_goals (refine at0 39 rfl (fun w' hq => pv_pick_t rfl rfl rfl) ?_)
  all_goals (refine at0 40 rfl (fun w' hq => pv_assign rfl) ?_)
  all_goals (refine aw_done (by kernel_rfl) ?_; replace hw := hS; clear hS hNP)
  repeat' (first | (refine is_cw ?_; first | (refine cw_ret ?_)) | (refine is_qw ?_; first | (with_reducible refine qw_then ?_)))
  exact qw_ret1 rfl rfl ⟨rfl, (hE.mono hw).b⟩
end Go.Proofs.YtemngicaoacfaaaGreatDoor
namespace Go.Proofs.YtemngicaoacfaaaGreatDoor
open Go.RowKit Go.PlainAid Go.Maps Go.WideMaps Go.ChangeShapes Go.WideShapes

def kX (k : KeyX) : Value := .agg #[.int .i64 (k.1.val : Int), .int .i64 (k.2.val : Int)]
def vX (p : Pos) : Value := .agg (encS p).toArray
theorem wfX {a : Int} (h : 0 ≤ a ∧ a ≤ 255) : (Lit.int .i64 a).wf = true := by
  simp only [Lit.wf, Bool.and_eq_true, decide_eq_true_eq]
  exact ⟨show (-9223372036854775808 : Int) ≤ a by omega, show a ≤ (9223372036854775807 : Int) by omega⟩
theorem keyLits_intX {n : Nat} {a : Int} (wa : (Lit.int .i64 a).wf = true) : (Tryz.prog).keyLits (n + 1) 3 [.int .i64 a] = some [.int .i64 a] := by
  unfold Program.keyLits
  simp only [Tryz.underlying3]
  rw [if_pos ⟨trivial, wa⟩]
theorem cells_X : (Tryz.prog).cellsOf 44 = 2 := by kernel_rfl
theorem cells_intX : (Tryz.prog).cellsOf 3 = 1 := by kernel_rfl
theorem keyLits_X {n : Nat} {a s : Int} (wa : (Lit.int .i64 a).wf = true) (ws : (Lit.int .i64 s).wf = true) : ∃ ls, (Tryz.prog).keyLits (n + 2) 44 [.int .i64 a, .int .i64 s] = some ls := by
  unfold Program.keyLits
  simp only [Tryz.underlying44, cells_X]
  rw [if_pos (by rfl)]
  simp [List.range_succ, List.mapM_cons, cells_intX, keyLits_intX wa, keyLits_intX ws]
theorem types_sizeX : ∃ m, (Tryz.prog).types.size = m + 1 := ⟨((Tryz.prog).types.size - 1), by kernel_rfl⟩
theorem keyOf_X {a s : Int} (wa : (Lit.int .i64 a).wf = true) (ws : (Lit.int .i64 s).wf = true) : ∃ l, keyOf Tryz.prog 44 (.agg #[.int .i64 a, .int .i64 s]) = some l := by
  have h1 : (Tryz.prog).keyType 44 = true := by kernel_rfl
  have h2 : Value.formed Tryz.prog 44 (.agg #[.int .i64 a, .int .i64 s]) = true := by kernel_rfl
  obtain ⟨m, hm⟩ := types_sizeX
  obtain ⟨ls, hls⟩ := keyLits_X (n := m) wa ws
  unfold keyOf
  simp only [Tryz.underlying44, h1, h2]
  rw [if_pos (show (true && true) = true from rfl), hm]
  show ∃ l, (((Tryz.prog).keyLits (m + 2) 44 [.int .i64 a, .int .i64 s]).map fun ls => Lit.string (keyBytes ls)) = some l
  rw [hls]
  exact ⟨_, rfl⟩
theorem keyX : KeyE Tryz.prog 44 kX := ⟨Keyed.of_law (deep_law_gate (by kernel_rfl) (of_decide_eq_true (by kernel_rfl)) (of_decide_eq_true (by kernel_rfl)) (by kernel_rfl) (by kernel_rfl)), fun k => keyOf_X (wfX (by have := k.1.isLt; omega)) (wfX (by have := k.2.isLt; omega)), fun a b h => by
  simp only [kX, Value.agg.injEq, Array.mk.injEq, List.cons.injEq, Value.int.injEq, true_and, and_true] at h
  exact Prod.ext (Fin.ext (by omega)) (Fin.ext (by omega))⟩
theorem zX (w : World) : (zeroValue 39).run Tryz.prog w = .ok (vX z0) w := by kernel_rfl
theorem kX_of {a i : Int} (ha : 0 ≤ a ∧ a ≤ 255) (hi : 0 ≤ i ∧ i ≤ 255) : kX (kk a i) = .agg #[.int .i64 a, .int .i64 i] := by
  unfold kX kk
  have e1 : ((Fin.ofNat 256 a.toNat).val : Int) = a := by show ((a.toNat % 256 : Nat) : Int) = a; omega
  have e2 : ((Fin.ofNat 256 i.toNat).val : Int) = i := by show ((i.toNat % 256 : Nat) : Int) = i; omega
  rw [e1, e2]
theorem pv_arr2 {n : Nat} {l : Fr} {w : World} {d : Option Nat} {ty : TypeId} {pos : String} {af : Array Edge} {g : Option (Nat × Bool)} {ps : List (Nat × Operand)} {x y : Int} (h1 : ps.map (·.1) = [0, 1]) (h2 : evs l (ps.map (·.2)) = some [.int .i64 x, .int .i64 y]) : Pv Tryz.prog n l ⟨d, .build 44 ps.toArray, ty, pos, af, g⟩ (.agg #[.int .i64 x, .int .i64 y]) w := ⟨fun A hA => by
  have e : (ps.map fun p => (p.1, A.eval p.2)) = [0, 1].zip [.int .i64 x, .int .i64 y] := by
    rw [← h1, ← hA.evs h2, List.map_map, List.zip_map']; rfl
  have this : (Instr.build 44 #[(0, Value.int .i64 x), (1, Value.int .i64 y)]).run Tryz.prog w = .ok (.agg #[.int .i64 x, .int .i64 y]) w := run_build (P := Tryz.prog) w 44 #[(0, Value.int .i64 x), (1, Value.int .i64 y)] #[.int .i64 x, .int .i64 y] (by kernel_rfl)
  simp only [execOp]
  have e2 : (ps.toArray.map fun p : Nat × Operand => (p.1, A.eval p.2)) = ([0, 1].zip [Value.int .i64 x, Value.int .i64 y]).toArray := by rw [← e]; simp
  simp [e2, this]⟩
theorem sums_in {m : List (KeyX × Pos)} {l : List Pos} {B : Int} (h : SumsOk m l B) (hl : MayPs l) (hB : 0 ≤ B) {a i : Int} (ha : 0 ≤ a ∧ a ≤ 255) (hi : 0 ≤ i ∧ i ≤ 255) : (0 ≤ ((getM m (kk a i)).getD z0).bought ∧ ((getM m (kk a i)).getD z0).bought ≤ B) ∧ (0 ≤ ((getM m (kk a i)).getD z0).sold ∧ ((getM m (kk a i)).getD z0).sold ≤ B) ∧ (0 ≤ ((getM m (kk a i)).getD z0).spent ∧ ((getM m (kk a i)).getD z0).spent ≤ B) ∧ (0 ≤ ((getM m (kk a i)).getD z0).got ∧ ((getM m (kk a i)).getD z0).got ≤ B) := by
  rw [h.get a i ha hi]
  cases hf : findS l a i with
  | none => unfold z0; simp; omega
  | some x =>
    obtain ⟨hx, _, _⟩ := findS_some hf
    have h1 := h.le x hx
    have h2 := (hl.2 x hx).2.2.1
    unfold NumS at h2
    simp only [Option.getD_some]
    omega
theorem grown_behind {w w1 w2 : World} {r : Option Nat} (h : Below w.heap.size w w1) (g : w1.grownBy w2 r) : w.grownBy w2 r := ⟨g.os.trans h.os, g.tape.trans h.tape, g.output.trans h.output, Nat.le_trans h.size g.size, fun q hq hne => (g.block q (Nat.lt_of_lt_of_le hq h.size) hne).trans (h.block q hq)⟩
set_option maxRecDepth 20000 in
set_option maxHeartbeats 8000000 in
theorem addM_c {m : List (KeyX × Pos)} {l : List Pos} {B : Int} {N M : Nat} {p : Pos} {w : World} (hN : PT w N 43 [.map (some M)]) (hM : Mp kX vX w M m) (h : SumsOk m l B) (hl : MayPs l) (hB : 0 ≤ B ∧ B ≤ 2305843009213693952) (ha : 0 ≤ p.acct ∧ p.acct ≤ 255) (hi : 0 ≤ p.inst ∧ p.inst ≤ 255) (hp : (0 ≤ p.bought ∧ p.bought ≤ 1125899906842624) ∧ (0 ≤ p.sold ∧ p.sold ≤ 1125899906842624) ∧ (0 ≤ p.spent ∧ p.spent ≤ 1125899906842624) ∧ (0 ≤ p.got ∧ p.got ≤ 1125899906842624)) :
    Calls Tryz.prog 19 #[.int .i64 p.acct, .int .i64 p.inst, .int .i64 p.bought, .int .i64 p.sold, .int .i64 p.spent, .int .i64 p.got, .pointer (some ⟨N, 0, none⟩)] w fun e w' => e = .returned (.tuple #[]) ∧ Mp kX vX w' M (addM m p) ∧ w.grownBy w' (some M) := by
  have hin := sums_in h hl hB.1 ha hi
  have hk := kX_of ha hi
  have hadd : addM m p = putM m (kk p.acct p.inst) (sumP ((getM m (kk p.acct p.inst)).getD z0) p) := rfl
  generalize kk p.acct p.inst = k at hin hk hadd
  generalize hg : (getM m k).getD z0 = x at hin hadd
  have hMN := hM.bound
  have hw := Below.refl w.heap.size w
  refine fn_enter 42 Tryz.func19 rfl rfl rfl ?_
  repeat' (first | (refine lw_pure rfl (pv_move rfl) ?_) | (refine is_cw ?_; first | (refine cw_seq ?_) | (refine cw_region ?_)) | ((refine is_load ?_; first | (refine lw_pure rfl (pv_load (t1 rfl) rfl (by first | exact PT.ld0 (hN.mono hw) rfl | exact PT.ld (hN.mono hw) rfl)) ?_))) | ((refine is_bd ?_; first | (refine lw_pure rfl (pv_arr2 rfl rfl) ?_))))
  refine lw_pure rfl (pv_lookupM (k := k) Tryz.underlying43 keyX zX rfl (by rw [hk]; rfl) (hM.mono hw)) ?_
  rw [hg]
  refine lw_varN rfl (by first | exact tyv_27 | exact tyv_28 | exact tyv_38 | exact tyv_39 | exact tyv_48 | exact tyv_49 | exact tyv_52 | exact tyv_53 | exact tyv_68 | exact tyv_69 | exact tyv_79 | exact tyv_80 | exact tyv_94 | exact tyv_95 | exact tyv_131 | exact tyv_132) rfl (tZ rfl) (fun _ => rfl) rfl rfl ?_; intro N13 wn hN13 HX hb
  replace hw := grow_trans hw hb
  clear hb
  have hMn := hM.mono hw
  repeat' (first | (refine lw_pure rfl (pv_move rfl) ?_) | (refine is_cw ?_; first | (refine cw_region ?_)) | (refine is_qw ?_; first | (with_reducible refine qw_then ?_)) | (refine lw_nil ?_) | ((refine is_bin ?_; first | (refine lw_pure rfl (pv_add rfl rfl (by omega)) ?_))) | ((refine is_load ?_; first | (refine lw_pure rfl (pv_load (t1 rfl) rfl (by first | exact PT.ld0 (hN.mono hw) rfl | exact PT.ld (hN.mono hw) rfl | exact PT.ld0 HX rfl | exact PT.ld HX rfl)) ?_))) | ((refine is_fa ?_; first | (refine lw_pure rfl (pv_fa (tF rfl) rfl) ?_))) | ((refine is_bd ?_; first | (refine lw_pure rfl (tyB_39 rfl rfl rfl) ?_) | (refine lw_pure rfl (pv_arr2 rfl rfl) ?_))))
  refine lw_updateM (k := k) (v := sumP x p) Tryz.underlying43 keyX rfl (by rw [hk]; rfl) rfl hMn ?_; intro w5 hM5 hg5 hz5
  repeat' (first | (refine lw_nil ?_))
  exact qw_end0 rfl ⟨rfl, by rw [hadd]; exact hM5, grown_behind hw hg5⟩
theorem pv_lookX {n : Nat} {l : Fr} {w : World} {d : Option Nat} {ty : TypeId} {pos : String} {af : Array Edge} {g : Option (Nat × Bool)} {x y : Operand} {M : Nat} {m : List (KeyX × Pos)} {k : KeyX} {a i : Int} {p : Pos} (hk : kX k = .agg #[.int .i64 a, .int .i64 i]) (hg : (getM m k).getD z0 = p) (hx : ev l x = some (.map (some M))) (hy : ev l y = some (.agg #[.int .i64 a, .int .i64 i])) (hM : Mp kX vX w M m) : Pv Tryz.prog n l ⟨d, .lookup 43 x y false, ty, pos, af, g⟩ (.agg (encS p).toArray) w := by
  have := pv_lookupM (n := n) (l := l) (w := w) (d := d) (ty := ty) (pos := pos) (af := af) (g := g) (k := k) Tryz.underlying43 keyX zX hx (by rw [hk]; exact hy) hM
  rw [hg] at this
  exact this
theorem pv_neqX {n : Nat} {l : Fr} {w : World} {d : Option Nat} {t' ty : TypeId} {x y : Operand} {pos : String} {af : Array Edge} {g : Option (Nat × Bool)} (a : Pos) (hx : ev l x = some (.agg (encS a).toArray)) (hy : ev l y = some (.agg (encS a).toArray)) : Pv Tryz.prog n l ⟨d, .binOp .neq 39 x y t', ty, pos, af, g⟩ (.bool false) w := by
  have := pv_neqS (n := n) (w := w) (d := d) (t' := t') (ty := ty) (pos := pos) (af := af) (g := g) a a hx hy
  simpa using this
end Go.Proofs.YtemngicaoacfaaaGreatDoor
