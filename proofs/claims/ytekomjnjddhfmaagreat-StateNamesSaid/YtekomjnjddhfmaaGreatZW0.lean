/-
  Part 0 of the texts of: StateNames: its row: whatever the input: true; the input reads as it did. Conditions: none.
-/
import Derived.WalkKit
import Derived.WalkSpells
import Derived.WalkLawsBesides
import Derived.BigQuiet
import Derived.Lib.Hide
import Derived.Deep.QuietTactic
import Derived.Deep.RegionHeld3
import Derived.Deep.LoopGhost
import Derived.IntWalk
import Derived.Sort.Grow
import Derived.Shelf.SlicesQ.Load
import Derived.Laws.CopyRow
import Derived.Test.YtekomjnjddhfmaaGreatRows
import Derived.Deep.Slices
import Derived.ProofKit
import Derived.OpenShut
import Derived.Laws.IdiomArrays
import Derived.Lib.SmallJoins
import Derived.ArgAppend
import Derived.Laws.OwnMore
import Derived.Deep.RegionLaw
import Derived.Laws.Tables
import Derived.Great.BuildSlice
import Derived.Test.YtekomjnjddhfmaaGreatProg
import Derived.Laws.Externs
import Derived.Laws.Bits128
import Derived.Maps.Keyed
import Derived.Maps.RangeRun
import Derived.DeepKeys5
import Derived.Laws.StructEq
import Derived.PlainAid
import Derived.Lib.ConvBytes
import Derived.Laws.RangeString
import Derived.Shelf.SortM.Plain
import Derived.Shelf.SortM.SortNone
import Derived.Shelf.SlicesG.CompactS
import Derived.Shelf.SlGeneric
import Derived.Ground.SlgmProg
import Derived.Ground.SlgnProg
namespace Go.Proofs.YtekomjnjddhfmaaGreat
open Go.RowKit

abbrev GrS (w w' : World) : Prop := Below w.heap.size w w' ∧ (∀ b o, b < w.heap.size → w'.cell? ⟨b, o, none⟩ = w.cell? ⟨b, o, none⟩)
theorem GrS.refl (w : World) : GrS w w := ⟨Below.refl _ _, fun _ _ _ => rfl⟩
theorem GrS.of {w w' : World} (h : Below w.heap.size w w') : GrS w w' := ⟨h, fun b o hb => h.cell (p := ⟨b, o, none⟩) hb⟩
theorem GrS.call {w w1 w2 : World} (h : GrS w w1) (k : Below w1.heap.size w1 w2) : GrS w w2 := .of (h.1.trans (k.mono h.1.size))
theorem GrS.alloc {w w1 : World} (h : GrS w w1) (o : Obj) : GrS w (w1.alloc o) := .of (h.1.alloc h.1.size o)
theorem GrS.fin {w w' : World} (h : GrS w w') : Below w.heap.size w w' := h.1
theorem grow_trans {w w1 w2 : World} (h : Below w.heap.size w w1) (k : Below w1.heap.size w1 w2) : Below w.heap.size w w2 := h.trans (k.mono h.size)
theorem below_alloc (w : World) (o : Obj) : Below w.heap.size w (w.alloc o) := (Below.refl _ _).alloc (Nat.le_refl _) o
theorem ret_int {k : IntKind} {a b : Int} (h : a = b) : Ending.returned (.int k a) = .returned (.int k b) := by rw [h]
theorem ret_bool {a b : Bool} (h : a = b) : Ending.returned (.bool a) = .returned (.bool b) := by rw [h]
abbrev GrD (w w' : World) : Prop := GrS w w' ∧ w.drawn ≤ w'.drawn
theorem GrD.alloc {w w1 : World} (h : GrD w w1) (o : Obj) : GrD w (w1.alloc o) := ⟨h.1.alloc o, h.2⟩
theorem GrD.fin {w w' : World} (h : GrD w w') : Below w.heap.size w w' ∧ w.drawn ≤ w'.drawn := ⟨h.1.1, h.2⟩
variable {α : Type}

theorem flat_get (enc : α → List Value) (k : Nat) (hk : ∀ x, (enc x).length = k) : ∀ (xs : List α) (j : Nat) (x : α) (i : Nat) (v : Value), xs[j]? = some x → (enc x)[i]? = some v → (xs.flatMap enc)[j * k + i]? = some v
  | [], j, x, i, v, h, _ => by simp at h
  | y :: r, 0, x, i, v, h, g => by
    simp at h; subst h
    have : i < (enc y).length := (List.getElem?_eq_some_iff.1 g).1
    rw [List.flatMap_cons, Nat.zero_mul, Nat.zero_add, List.getElem?_append_left this]; exact g
  | y :: r, j + 1, x, i, v, h, g => by
    rw [List.flatMap_cons, List.getElem?_append_right (by rw [hk, Nat.add_mul]; omega), hk, show (j + 1) * k + i - k = j * k + i by rw [Nat.add_mul]; omega]
    exact flat_get enc k hk r j x i v (by simpa using h) g
theorem flat_len (enc : α → List Value) (k : Nat) (hk : ∀ x, (enc x).length = k) : ∀ (xs : List α), (xs.flatMap enc).length = xs.length * k
  | [] => by simp
  | y :: r => by rw [List.flatMap_cons, List.length_append, hk, flat_len enc k hk r, List.length_cons, Nat.add_mul]; omega
theorem flat_take (enc : α → List Value) (k : Nat) (hk : ∀ x, (enc x).length = k) : ∀ (xs : List α) (i : Nat), (xs.flatMap enc).take (i * k) = (xs.take i).flatMap enc
  | [], i => by simp
  | y :: r, 0 => by simp
  | y :: r, i + 1 => by
    rw [List.flatMap_cons, List.take_succ_cons, List.flatMap_cons, List.take_append, hk, show (i + 1) * k - k = i * k by rw [Nat.add_mul]; omega, flat_take enc k hk r i, List.take_of_length_le (by rw [hk, Nat.add_mul]; omega)]
theorem flat_drop (enc : α → List Value) (k : Nat) (hk : ∀ x, (enc x).length = k) : ∀ (xs : List α) (i : Nat), (xs.flatMap enc).drop (i * k) = (xs.drop i).flatMap enc
  | [], i => by simp
  | y :: r, 0 => by simp
  | y :: r, i + 1 => by
    rw [List.flatMap_cons, List.drop_succ_cons, List.drop_append, hk, show (i + 1) * k - k = i * k by rw [Nat.add_mul]; omega, flat_drop enc k hk r i, List.drop_of_length_le (by rw [hk, Nat.add_mul]; omega), List.nil_append]

structure SlR (enc : α → List Value) (k : Nat) (w : World) (a : Option Addr) (cap : Nat) (xs : List α) : Prop where
  le : xs.length ≤ cap
  max : cap ≤ 9223372036854775807
  ofNone : a = none → xs = [] ∧ cap = 0
  ofSome : ∀ ad, a = some ad → 0 < cap → ad.spot = none ∧ ad.block < w.heap.size ∧ ∀ j x, xs[j]? = some x → ∀ i v, (enc x)[i]? = some v → w.cell? ⟨ad.block, ad.off + j * k + i, none⟩ = some v
section
variable {enc : α → List Value} {k : Nat} {w : World} {a : Option Addr} {cap : Nat} {xs : List α}
theorem SlR.mono (h : SlR enc k w a cap xs) {w' : World} (hb : Below w.heap.size w w') : SlR enc k w' a cap xs :=
  ⟨h.le, h.max, h.ofNone, fun ad hd hc => let ⟨h1, h2, h3⟩ := h.ofSome ad hd hc; ⟨h1, Nat.lt_of_lt_of_le h2 hb.size, fun j x hx i v hv => (hb.cell (p := ⟨ad.block, ad.off + j * k + i, none⟩) h2).trans (h3 j x hx i v hv)⟩⟩
theorem SlR.grown (h : SlR enc k w a cap xs) {w' : World} {row : Option Nat} (hg : w.grownBy w' row) (hne : ∀ ad, a = some ad → some ad.block ≠ row) : SlR enc k w' a cap xs :=
  ⟨h.le, h.max, h.ofNone, fun ad hd hc => let ⟨h1, h2, h3⟩ := h.ofSome ad hd hc; ⟨h1, Nat.lt_of_lt_of_le h2 hg.size, fun j x hx i v hv => hg.cell (h3 j x hx i v hv) (hne ad hd)⟩⟩
theorem SlR.at (h : SlR enc k w a cap xs) (h0 : xs ≠ []) : ∃ b off, a = some ⟨b, off, none⟩ ∧ b < w.heap.size ∧ ∀ j x, xs[j]? = some x → ∀ i v, (enc x)[i]? = some v → w.cell? ⟨b, off + j * k + i, none⟩ = some v := by
  cases a with
  | none => exact absurd (h.ofNone rfl).1 h0
  | some ad =>
    obtain ⟨b, off, sp⟩ := ad
    obtain ⟨h1, h2, h3⟩ := h.ofSome _ rfl (by have := h.le; have := List.length_pos_iff.2 h0; omega)
    simp only at h1; subst h1
    exact ⟨b, off, rfl, h2, h3⟩
theorem SlR.nil (w : World) : SlR enc k w none 0 ([] : List α) := ⟨Nat.le_refl _, by omega, fun _ => ⟨rfl, rfl⟩, fun _ h _ => by cases h⟩
end

def Own (enc : α → List Value) (k : Nat) (T : TypeId) (base : Nat) (w : World) (v : Value) (xs : List α) : Prop := w.ownsRow base T k v xs.length (xs.flatMap enc)
section
variable {enc : α → List Value} {k : Nat} {T : TypeId} {base : Nat} {w : World} {v : Value} {xs : List α}
theorem Own.nil (w : World) : Own enc k T base w (.slice none 0 0) ([] : List α) := World.ownsRow_nil _ _ _ _
theorem Own.weaken (h : Own enc k T base w v xs) {B : Nat} (hB : B ≤ base) : Own enc k T B w v xs := by
  obtain ⟨h1, h2⟩ := h
  refine ⟨h1, ?_⟩
  rcases h2 with h2 | ⟨g, cap, cur, e1, e2, r⟩
  · exact Or.inl h2
  · exact Or.inr ⟨g, cap, cur, e1, Nat.le_trans hB e2, r⟩
theorem Own.slR (hk : ∀ x, (enc x).length = k) (h : Own enc k T base w v xs) : ∃ a cap, v = .slice a xs.length cap ∧ SlR enc k w a cap xs ∧ ∀ ad, a = some ad → base ≤ ad.block ∧ ad.off = 0 := by
  obtain ⟨h1, h2⟩ := h
  rcases h2 with ⟨rfl, h0⟩ | ⟨g, cap, cur, rfl, hb, hg, hle, hmax, hsz, htk⟩
  · have : xs = [] := List.eq_nil_of_length_eq_zero h0
    subst this
    exact ⟨none, 0, rfl, SlR.nil w, fun _ h => by cases h⟩
  · refine ⟨_, cap, rfl, ⟨hle, by simpa [maxLen] using hmax, (fun h => by cases h), fun ad had _ => ?_⟩, (fun ad had => by cases had; exact ⟨hb, rfl⟩)⟩
    cases had
    refine ⟨rfl, (Array.getElem?_eq_some_iff.1 hg).1, fun j x hx i u hu => ?_⟩
    have hj : j < xs.length := (List.getElem?_eq_some_iff.1 hx).1
    have hi : i < k := by have := (List.getElem?_eq_some_iff.1 hu).1; rwa [hk] at this
    have hlt : j * k + i < xs.length * k := by
      have := Nat.mul_le_mul_right k (show j + 1 ≤ xs.length from hj); rw [Nat.add_mul, Nat.one_mul] at this; omega
    have hf := flat_get enc k hk xs j x i u hx hu
    rw [← htk, List.getElem?_take, if_pos hlt] at hf
    simp only [Nat.zero_add]
    rw [cell_of_row w g (j * k + i) cur T (0, 0) hg]
    simpa using hf
theorem Own.kept (h : Own enc k T base w v xs) {w' : World} {row : Option Nat} (hg : w.grownBy w' row) (hne : v.ownBlock = none ∨ v.ownBlock ≠ row) : Own enc k T base w' v xs := World.ownsRow.kept h hg hne
theorem Own.lt (h : Own enc k T base w v xs) : ∀ b, v.ownBlock = some b → base ≤ b ∧ b < w.heap.size := World.ownsRow.lt h
theorem Own.mono (h : Own enc k T base w v xs) {w' : World} (hb : Below w.heap.size w w') : Own enc k T base w' v xs := by
  obtain ⟨h1, h2⟩ := h
  refine ⟨h1, ?_⟩
  rcases h2 with h2 | ⟨g, cap, cur, e1, e2, hg, r⟩
  · exact Or.inl h2
  · exact Or.inr ⟨g, cap, cur, e1, e2, (hb.block g (Array.getElem?_eq_some_iff.1 hg).1).trans hg, r⟩
theorem Own.store (hk : ∀ x, (enc x).length = k) (h1c : ∀ x, ∀ v ∈ enc x, v.oneCell' = true) {g cap : Nat} (h : Own enc k T base w (.slice (some ⟨g, 0, none⟩) xs.length cap) xs) (P : Program) (i : Nat) (hi : i < xs.length) (u : α) :
    ∃ w', Sem.run P (storeCells ⟨g, i * k, none⟩ (enc u) 0) w = .ok () w' ∧ Own enc k T base w' (.slice (some ⟨g, 0, none⟩) xs.length cap) (xs.set i u) ∧ w.grownBy w' (some g) ∧ w'.heap.size = w.heap.size := by
  obtain ⟨h1, h2⟩ := h
  rcases h2 with ⟨h2, _⟩ | ⟨g', cap', cur, e1, hb, hg, hle, hmax, hsz, htk⟩
  · cases h2
  · injection e1 with e1 _ e3
    injection e1 with e1; injection e1 with e1
    subst e1; subst e3
    have hm : i * k + k ≤ xs.length * k := by
      have := Nat.mul_le_mul_right k (show i + 1 ≤ xs.length from hi); rwa [Nat.add_mul, Nat.one_mul] at this
    have hm2 : xs.length * k ≤ cap * k := Nat.mul_le_mul_right k hle
    have hst := run_storeCells_at (P := P) g (i * k) T (enc u) 0 cur w hg (by rw [hk, hsz]; omega) (h1c u)
    refine ⟨_, hst, ⟨by rw [flat_len enc k hk, List.length_set], Or.inr ⟨g, cap, _, by rw [List.length_set], hb, setRow_heap w g cur _ T _ hg, by rw [List.length_set]; exact hle, hmax, ?_, ?_⟩⟩, ⟨rfl, rfl, rfl, by simp, fun q hq hne => setRow_other w g q _ (fun e => hne (by rw [e]))⟩, by simp⟩
    · simp only [List.size_toArray, List.length_append, List.length_take, List.length_drop, Array.length_toList, hk, Nat.add_zero, hsz]
      omega
    · simp only [Nat.add_zero, hk, List.length_set]
      have e5 : xs.set i u = xs.take i ++ u :: xs.drop (i + 1) := List.set_eq_take_append_cons_drop.trans (by rw [if_pos hi])
      rw [e5, List.flatMap_append, List.flatMap_cons, ← flat_take enc k hk, ← flat_drop enc k hk, ← htk]
      have l1 : (cur.toList.take (i * k)).length = i * k := by rw [List.length_take, Array.length_toList, hsz]; omega
      have key : ∀ (A E D : List Value) (m : Nat), A.length + E.length ≤ m → (A ++ E ++ D).take m = A ++ (E ++ D.take (m - (A.length + E.length))) := fun A E D m hm => by
        rw [List.take_append, List.take_of_length_le (by simp; omega), List.append_assoc, List.length_append]
      rw [key _ _ _ _ (by rw [l1, hk]; omega), l1, hk, List.take_take, Nat.min_eq_left (by omega), List.drop_take, show (i + 1) * k = i * k + k by rw [Nat.add_mul, Nat.one_mul]]
end
end Go.Proofs.YtekomjnjddhfmaaGreat
namespace Go.Proofs.YtekomjnjddhfmaaGreat
open Go.ChangeShapes Go.WideShapes Go.ChangeAt Go.RowKit Go.Deep Go.WideElems Go.Joins

theorem seatOwn : ownKnob Tryz.prog.godebug = none := by kernel_rfl
theorem seatLaidOut : laidOutB Tryz.prog = true := by kernel_rfl
section
variable {H : Type} {enc : TypeId × Value → H} {P : Program} {w : World} {base : Nat} {spare : Nat → Bool} {held : Bool}
end
section
variable {H : Type} {enc : TypeId × Value → H} {W : World} {base : Nat} {sp : Nat → Bool} {held : Bool} {b0 : Nat} {v : Value} {d : DataW H} {p : List MemPlace}
theorem below_trodAll {W' : World} (hb : Below W.heap.size W W') : ∀ {ts : List TypeId} {vs : List Value} {ds : List (DataW H)} {ps : List MemPlace}, (∀ t ∈ ts, Tryz.prog.readableRec t = true ∧ t < Tryz.prog.types.size) → DataW.TrodAll enc Tryz.prog W 0 (fun _ => true) true ts vs ds ps → DataW.TrodAll enc Tryz.prog W' 0 (fun b => decide (b < W.heap.size)) true ts vs ds ps := by
  intro ts
  induction ts with
  | nil =>
    intro vs ds ps _ h
    obtain ⟨rfl, rfl, rfl⟩ := trodAll_nil h
    exact rfl
  | cons t ts ih =>
    intro vs ds ps hr h
    have hlt := h.lt
    obtain ⟨v, vs', d, ds', p, q, rfl, rfl, rfl, h0, h1⟩ := trodAll_cons h
    refine ⟨p, q, Below.trod seatLaidOut (hr t (by simp)).1 (hr t (by simp)).2 h0 hb (fun x hx => hlt x (by simp [hx])), ih (fun u hu => hr u (by simp [hu])) h1, rfl⟩
end
end Go.Proofs.YtekomjnjddhfmaaGreat
namespace Go.Proofs.YtekomjnjddhfmaaGreat
open Go.RowKit

section
variable {P : Program} {ops : Array Oper} {Q : Exit → Act → World → Prop} {md : Region.Mode} {S : World → Prop} {fuel : Nat} {listed : Array Bool} {a : Act} {w : World}
end

abbrev Fr := List (Nat × Value)
def look : Fr → Nat → Option Value
  | [], _ => none
  | (t, v) :: r, s => bif Nat.beq t s then some v else look r s
def Holds (n : Nat) (l : Fr) (a : Act) : Prop := a.tmps.size = n ∧ a.defers = [] ∧ ∀ t v, look l t = some v → a.tmps[t]? = some v
def ev (l : Fr) : Operand → Option Value
  | .tmp t => look l t
  | .const v => some v
  | .global g => some (.pointer (some ⟨g, 0, none⟩))
  | .func f => some (.func (.func f) #[] #[])
def evs (l : Fr) : List Operand → Option (List Value)
  | [] => some []
  | x :: r => match ev l x, evs l r with
    | some v, some vs => some (v :: vs)
    | _, _ => none
section
variable {n : Nat} {l : Fr} {a : Act} {P : Program} {w : World} {Q : Exit → Act → World → Prop}
theorem Holds.ev (h : Holds n l a) {x : Operand} {v : Value} (e : ev l x = some v) : a.eval x = v := by
  cases x with
  | tmp t => simp only [Go.Proofs.YtekomjnjddhfmaaGreat.ev] at e; simp [Act.eval, h.2.2 t v e]
  | const v' => simpa [Go.Proofs.YtekomjnjddhfmaaGreat.ev, Act.eval] using e
  | global g => simpa [Go.Proofs.YtekomjnjddhfmaaGreat.ev, Act.eval] using e
  | func f => simpa [Go.Proofs.YtekomjnjddhfmaaGreat.ev, Act.eval] using e
theorem Holds.evs (h : Holds n l a) : ∀ {xs : List Operand} {vs : List Value}, evs l xs = some vs → xs.map a.eval = vs
  | [], vs, e => by simp only [Go.Proofs.YtekomjnjddhfmaaGreat.evs, Option.some.injEq] at e; subst e; rfl
  | x :: r, vs, e => by
    simp only [Go.Proofs.YtekomjnjddhfmaaGreat.evs] at e
    cases hx : Go.Proofs.YtekomjnjddhfmaaGreat.ev l x with
    | none => rw [hx] at e; cases e
    | some v =>
      cases hr : Go.Proofs.YtekomjnjddhfmaaGreat.evs l r with
      | none => rw [hx, hr] at e; cases e
      | some vs' =>
        rw [hx, hr] at e
        simp only [Option.some.injEq] at e; subst e
        rw [List.map_cons, h.ev hx, h.evs hr]
theorem Holds.put (h : Holds n l a) {d : Nat} (hd : Nat.blt d n = true) (v : Value) : Holds n ((d, v) :: l) (a.put (some d) v) := by
  obtain ⟨h1, h2, h3⟩ := h
  have hd' : d < n := by simpa [Nat.blt_eq] using hd
  refine ⟨by simpa [Act.put] using h1, h2, fun t u e => ?_⟩
  simp only [look] at e
  by_cases ht : d = t
  · subst ht
    simp only [Nat.beq_refl, cond_true, Option.some.injEq] at e
    subst e
    simp [Act.put, h1, hd']
  · have : Nat.beq d t = false := by rw [Bool.eq_false_iff]; exact fun e => ht (Nat.eq_of_beq_eq_true e)
    rw [this, cond_false] at e
    simp only [Act.put]
    rw [Array.getElem?_setIfInBounds_ne ht]
    exact h3 t u e
def Sub : Fr → Fr → Prop
  | [], _ => True
  | (t, v) :: r, l => look l t = some v ∧ Sub r l
theorem Sub.look {m l : Fr} (h : Sub m l) : ∀ {t v}, look m t = some v → look l t = some v := by
  induction m with
  | nil => intro t v e; simp [Go.Proofs.YtekomjnjddhfmaaGreat.look] at e
  | cons p r ih =>
    obtain ⟨s, u⟩ := p
    intro t v e
    simp only [Go.Proofs.YtekomjnjddhfmaaGreat.look] at e
    by_cases hs : s = t
    · subst hs
      simp only [Nat.beq_refl, cond_true, Option.some.injEq] at e
      subst e; exact h.1
    · have : Nat.beq s t = false := by rw [Bool.eq_false_iff]; exact fun e => hs (Nat.eq_of_beq_eq_true e)
      rw [this, cond_false] at e
      exact ih h.2 e
theorem Holds.sub (h : Holds n l a) {m : Fr} (hs : Sub m l) : Holds n m a := ⟨h.1, h.2.1, fun _ _ e => h.2.2 _ _ (hs.look e)⟩

/-! ### the judgements: code, a region's list, a region that draws, an exit -/
structure CW (P : Program) (n : Nat) (c : Code) (Q : Exit → Act → World → Prop) (l : Fr) (w : World) : Prop where
  out : ∀ a, Holds n l a → c.wp P Q a w
structure LW (P : Program) (n : Nat) (ops : Array Oper) (Q : Exit → Act → World → Prop) (os : List Oper) (l : Fr) (w : World) : Prop where
  out : ∀ a, Holds n l a → wpList P ops Q os a w
structure AW (P : Program) (n : Nat) (ops : Array Oper) (Q : Exit → Act → World → Prop) (S : World → Prop) (fuel : Nat) (listed : Array Bool) (l : Fr) (w : World) : Prop where
  out : ∀ a, Holds n l a → wpAnyH P .any ops Q S fuel listed a w
structure QW (n : Nat) (Q : Exit → Act → World → Prop) (e : Exit) (l : Fr) (w : World) : Prop where
  out : ∀ a, Holds n l a → Q e a w
theorem cw_seq {x y : Code} (h : CW P n x (Exit.then (y.wp P Q) Q) l w) : CW P n (.seq x y) Q l w := ⟨fun a ha => wp_seq (h.out a ha)⟩
theorem cw_skip (h : QW n Q .normal l w) : CW P n .skip Q l w := ⟨fun a ha => wp_skip (h.out a ha)⟩
theorem cw_exit {i : Nat} (h : QW n Q (.exit i) l w) : CW P n (.exit i) Q l w := ⟨fun a ha => wp_exit (h.out a ha)⟩
theorem cw_ret (h : QW n Q .ret l w) : CW P n .ret Q l w := ⟨fun a ha => wp_ret (h.out a ha)⟩
theorem cw_block {i : Nat} {c : Code} (h : CW P n c (Exit.inBlock i Q) l w) : CW P n (.block i c) Q l w := ⟨fun a ha => wp_block (h.out a ha)⟩
theorem cw_true {c : Operand} {x y : Code} {b : Bool} (hc : ev l c = some (.bool b)) (hb : b = true) (h : CW P n x Q l w) : CW P n (.cond c x y) Q l w := ⟨fun a ha => wp_cond_true ((ha.ev hc).trans (by rw [hb])) (h.out a ha)⟩
theorem cw_false {c : Operand} {x y : Code} {b : Bool} (hc : ev l c = some (.bool b)) (hb : b = false) (h : CW P n y Q l w) : CW P n (.cond c x y) Q l w := ⟨fun a ha => wp_cond_false ((ha.ev hc).trans (by rw [hb])) (h.out a ha)⟩
theorem cw_split {c : Operand} {x y : Code} {b : Bool} (hc : ev l c = some (.bool b)) (h1 : b = true → CW P n x Q l w) (h2 : b = false → CW P n y Q l w) : CW P n (.cond c x y) Q l w := by
  cases b with
  | true => exact cw_true hc rfl (h1 rfl)
  | false => exact cw_false hc rfl (h2 rfl)
theorem cw_region {i : Nat} {ops : List Oper} (h : LW P n ops.toArray Q ops l w) : CW P n (.region i ops.toArray false) Q l w := ⟨fun a ha => wp_region_lit (h.out a ha)⟩
theorem cw_draw {i : Nat} {ops : Array Oper} (S : World → Prop) (hm : P.follows .mixedOrders = true) (h : AW P n ops Q S ops.size (Array.replicate ops.size false) l w.drew) : CW P n (.region i ops true) Q l w := ⟨fun a ha => wp_region_held (S := S) hm (h.out a ha)⟩
def Round {σ : Type} (n : Nat) (L : σ → Fr) (I : σ → World → Prop) (μ : σ → Nat) (m : Nat) (a' : Act) (w' : World) : Prop := ∃ s', Holds n (L s') a' ∧ I s' w' ∧ μ s' < m
theorem cw_loop {σ : Type} {c : Code} (L : σ → Fr) (I : σ → World → Prop) (μ : σ → Nat) (s0 : σ) (h0 : Sub (L s0) l) (hI : I s0 w)
    (h : ∀ s w, I s w → CW P n c (Exit.then (Round n L I μ (μ s)) Q) (L s) w) : CW P n (.loop c) Q l w := ⟨fun a ha => by
  have key : ∀ m s a w, μ s < m → Holds n (L s) a → I s w → Code.rounds P c Q m a w := by
    intro m
    induction m with
    | zero => intro s a w hm; exact absurd hm (Nat.not_lt_zero _)
    | succ m ih =>
      intro s a w hm ha hI
      refine Code.wp_mono (fun e a' w' q => ?_) ((h s w hI).out a ha)
      cases e with
      | normal =>
        obtain ⟨s', h1, h2, h3⟩ := q
        exact ih s' a' w' (by omega) h1 h2
      | _ => exact q
  exact wp_loop_rounds _ (key (μ s0 + 1) s0 a w (Nat.lt_succ_self _) (ha.sub h0) hI)⟩
def Join {σ : Type} (n : Nat) (L : σ → Fr) (I : σ → World → Prop) (a' : Act) (w' : World) : Prop := ∃ s, Holds n (L s) a' ∧ I s w'
theorem cw_cut {σ : Type} {x y : Code} (L : σ → Fr) (I : σ → World → Prop) (h1 : CW P n x (Exit.then (Join n L I) Q) l w) (h2 : ∀ s w, I s w → CW P n y Q (L s) w) : CW P n (.seq x y) Q l w := ⟨fun a ha => wp_seq (Code.wp_mono (fun e a' w' q => by
  cases e with
  | normal => obtain ⟨s, h3, h4⟩ := q; exact (h2 s w' h4).out a' h3
  | _ => exact q) (h1.out a ha))⟩
theorem cw_cutq {σ : Type} {x y : Code} {Q' : Exit → Act → World → Prop} (L : σ → Fr) (I : σ → World → Prop) (h1 : CW P n x (Exit.then (Join n L I) Q') l w) (h2 : ∀ s w, I s w → CW P n y Q (L s) w) : CW P n x (Exit.then (Code.wp P y Q) Q') l w := ⟨fun a ha => Code.wp_mono (fun e a' w' q => by
  cases e with
  | normal => obtain ⟨s, h3, h4⟩ := q; exact (h2 s w' h4).out a' h3
  | _ => exact q) (h1.out a ha)⟩
theorem qw_join {σ : Type} {L : σ → Fr} {I : σ → World → Prop} (s : σ) (h0 : Sub (L s) l) (hI : I s w) : QW n (Exit.then (Join n L I) Q) .normal l w := ⟨fun _ ha => ⟨s, ha.sub h0, hI⟩⟩
theorem qw_then {y : Code} {Q' : Exit → Act → World → Prop} (h : CW P n y Q l w) : QW n (Exit.then (Code.wp P y Q) Q') .normal l w := ⟨h.out⟩
theorem qw_then_exit {K : Act → World → Prop} {i : Nat} (h : QW n Q (.exit i) l w) : QW n (Exit.then K Q) (.exit i) l w := ⟨h.out⟩
theorem qw_then_ret {K : Act → World → Prop} (h : QW n Q .ret l w) : QW n (Exit.then K Q) .ret l w := ⟨h.out⟩
theorem qw_in {i : Nat} (h : QW n Q .normal l w) : QW n (Exit.inBlock i Q) .normal l w := ⟨h.out⟩
theorem qw_in_ret {i : Nat} (h : QW n Q .ret l w) : QW n (Exit.inBlock i Q) .ret l w := ⟨h.out⟩
theorem qw_in_hit {i : Nat} (h : QW n Q .normal l w) : QW n (Exit.inBlock i Q) (.exit i) l w := ⟨fun a ha => by
  show (if i = i then Q .normal a w else Q (.exit i) a w)
  rw [if_pos rfl]; exact h.out a ha⟩
theorem qw_in_miss {i j : Nat} (hij : Nat.beq j i = false) (h : QW n Q (.exit j) l w) : QW n (Exit.inBlock i Q) (.exit j) l w := ⟨fun a ha => by
  show (if j = i then Q .normal a w else Q (.exit j) a w)
  rw [if_neg (fun e => by subst e; simp at hij)]; exact h.out a ha⟩
theorem qw_round {σ : Type} {L : σ → Fr} {I : σ → World → Prop} {μ : σ → Nat} {m : Nat} (s' : σ) (h0 : Sub (L s') l) (hI : I s' w) (hm : μ s' < m) :
    QW n (Exit.then (Round n L I μ m) Q) .normal l w := ⟨fun _ ha => ⟨s', ha.sub h0, hI, hm⟩⟩
end
section
variable {n : Nat} {l : Fr} {P : Program} {w : World} {Q : Exit → Act → World → Prop} {ops : Array Oper} {os : List Oper}
/-! ### an operation that yields a value and leaves the world as it is -/
structure Pv (P : Program) (n : Nat) (l : Fr) (o : Oper) (v : Value) (w : World) : Prop where
  out : ∀ a, Holds n l a → (execOp a.eval o).run P w = .ok (.value v) w
structure Ev (P : Program) (n : Nat) (l : Fr) (o : Oper) (v : Value) (w w' : World) : Prop where
  out : ∀ a, Holds n l a → (execOp a.eval o).run P w = .ok (.value v) w'
structure Sv (P : Program) (n : Nat) (l : Fr) (o : Oper) (w w' : World) : Prop where
  out : ∀ a, Holds n l a → (execOp a.eval o).run P w = .ok .skip w'
theorem lw_nil (h : QW n Q .normal l w) : LW P n ops Q [] l w := ⟨fun a ha => wpList_nil (h.out a ha)⟩
theorem lw_pure {d : Nat} {op : Op} {ty : TypeId} {pos : String} {af : Array Edge} {v : Value} (hd : Nat.blt d n = true) (hv : Pv P n l ⟨some d, op, ty, pos, af, none⟩ v w) (h : LW P n ops Q os ((d, v) :: l) w) :
    LW P n ops Q (⟨some d, op, ty, pos, af, none⟩ :: os) l w := ⟨fun a ha => wpList_plain rfl fun K hK => by
  unfold Oper.wp; rw [hv.out a ha]; exact hK _ _ (h.out _ (ha.put hd v))⟩
theorem lw_eff {d : Nat} {op : Op} {ty : TypeId} {pos : String} {af : Array Edge} {v : Value} {w' : World} (hd : Nat.blt d n = true) (hv : Ev P n l ⟨some d, op, ty, pos, af, none⟩ v w w') (h : LW P n ops Q os ((d, v) :: l) w') :
    LW P n ops Q (⟨some d, op, ty, pos, af, none⟩ :: os) l w := ⟨fun a ha => wpList_plain rfl fun K hK => by
  unfold Oper.wp; rw [hv.out a ha]; exact hK _ _ (h.out _ (ha.put hd v))⟩
theorem lw_skip {op : Op} {ty : TypeId} {pos : String} {af : Array Edge} {w' : World} (hv : Sv P n l ⟨none, op, ty, pos, af, none⟩ w w') (h : LW P n ops Q os l w') :
    LW P n ops Q (⟨none, op, ty, pos, af, none⟩ :: os) l w := ⟨fun a ha => wpList_plain rfl fun K hK => by
  unfold Oper.wp; rw [hv.out a ha]; exact hK _ _ (h.out _ ha)⟩
theorem lw_some {d : Nat} {op : Op} {ty : TypeId} {pos : String} {af : Array Edge} {Φ : Value → World → Prop} (hd : Nat.blt d n = true) (hv : ∀ a, Holds n l a → ∃ v w', (execOp a.eval ⟨some d, op, ty, pos, af, none⟩).run P w = .ok (.value v) w' ∧ Φ v w') (h : ∀ v w', Φ v w' → LW P n ops Q os ((d, v) :: l) w') :
    LW P n ops Q (⟨some d, op, ty, pos, af, none⟩ :: os) l w := ⟨fun a ha => wpList_plain rfl fun K hK => by
  obtain ⟨v, w', h1, h2⟩ := hv a ha
  unfold Oper.wp; rw [h1]; exact hK _ _ ((h v w' h2).out _ (ha.put hd v))⟩
theorem lw_not {d : Nat} {op : Op} {ty : TypeId} {pos : String} {af : Array Edge} {g : Nat} {t : Nat} {b c : Bool} (hd : Nat.blt d n = true) (hg : (ops[g]?).bind (·.dst) = some t) (ht : look l t = some (.bool c)) (hc : c = !b) (h : LW P n ops Q os ((d, undef) :: l) w) :
    LW P n ops Q (⟨some d, op, ty, pos, af, some (g, b)⟩ :: os) l w := ⟨fun a ha => wpList_step fun K hK => by
  have hw : Region.wanted ⟨some d, op, ty, pos, af, some (g, b)⟩ (yielded ops a.tmps) = false := by
    simp only [Region.wanted, yielded, hg, Option.bind_some, ha.2.2 t _ ht]
    subst hc; cases b <;> rfl
  rw [if_neg (by rw [hw]; simp)]; exact hK _ _ (h.out _ (ha.put hd _))⟩
theorem lw_not_u {d : Nat} {op : Op} {ty : TypeId} {pos : String} {af : Array Edge} {g : Nat} {t : Nat} {b : Bool} (hd : Nat.blt d n = true) (hg : (ops[g]?).bind (·.dst) = some t) (ht : look l t = some undef) (h : LW P n ops Q os ((d, undef) :: l) w) :
    LW P n ops Q (⟨some d, op, ty, pos, af, some (g, b)⟩ :: os) l w := ⟨fun a ha => wpList_step fun K hK => by
  have hw : Region.wanted ⟨some d, op, ty, pos, af, some (g, b)⟩ (yielded ops a.tmps) = false := by
    simp only [Region.wanted, yielded, hg, Option.bind_some, ha.2.2 t _ ht]; cases b <;> rfl
  rw [if_neg (by rw [hw]; simp)]; exact hK _ _ (h.out _ (ha.put hd _))⟩
theorem lw_on {d : Option Nat} {op : Op} {ty : TypeId} {pos : String} {af : Array Edge} {g : Nat} {t : Nat} {b c : Bool} (hg : (ops[g]?).bind (·.dst) = some t) (ht : look l t = some (.bool c)) (hc : c = b) (h : LW P n ops Q (⟨d, op, ty, pos, af, none⟩ :: os) l w) :
    LW P n ops Q (⟨d, op, ty, pos, af, some (g, b)⟩ :: os) l w := ⟨fun a ha => by
  have hw : Region.wanted ⟨d, op, ty, pos, af, some (g, b)⟩ (yielded ops a.tmps) = true := by
    simp only [Region.wanted, yielded, hg, Option.bind_some, ha.2.2 t _ ht]
    subst hc; simp
  have h1 := h.out a ha
  unfold wpList at h1 ⊢
  rw [if_pos hw]
  rw [if_pos (by rfl)] at h1
  exact h1⟩
theorem lw_gs_t {d : Nat} {op : Op} {ty : TypeId} {pos : String} {af : Array Edge} {g : Nat} {t : Nat} {c : Bool} (hd : Nat.blt d n = true) (hg : (ops[g]?).bind (·.dst) = some t) (ht : look l t = some (.bool c)) (h1 : c = true → LW P n ops Q (⟨some d, op, ty, pos, af, none⟩ :: os) l w) (h2 : c = false → LW P n ops Q os ((d, undef) :: l) w) :
    LW P n ops Q (⟨some d, op, ty, pos, af, some (g, true)⟩ :: os) l w := by
  cases c with
  | true => exact lw_on hg ht rfl (h1 rfl)
  | false => exact lw_not hd hg ht rfl (h2 rfl)
theorem lw_gs_f {d : Nat} {op : Op} {ty : TypeId} {pos : String} {af : Array Edge} {g : Nat} {t : Nat} {c : Bool} (hd : Nat.blt d n = true) (hg : (ops[g]?).bind (·.dst) = some t) (ht : look l t = some (.bool c)) (h1 : c = false → LW P n ops Q (⟨some d, op, ty, pos, af, none⟩ :: os) l w) (h2 : c = true → LW P n ops Q os ((d, undef) :: l) w) :
    LW P n ops Q (⟨some d, op, ty, pos, af, some (g, false)⟩ :: os) l w := by
  cases c with
  | false => exact lw_on hg ht rfl (h1 rfl)
  | true => exact lw_not hd hg ht rfl (h2 rfl)
/-! ### calls -/
def entersB (P : Program) (f : FuncId) : Bool := match P.funcs[f]? with
  | some fn => !(fn.name == "runtime.NumGoroutine") && !fn.body.isNone
  | none => false
theorem run_callFunc {f : FuncId} (h : entersB P f = true) (vs : Array Value) (w : World) : (callFunc f vs).run P w = .ok (.enter f vs) w := by
  unfold entersB at h
  cases hf : P.funcs[f]? with
  | none => rw [hf] at h; cases h
  | some fn =>
    rw [hf] at h
    simp only [Bool.and_eq_true, Bool.not_eq_true', beq_eq_false_iff_ne, ne_eq] at h
    have h2 : ¬ fn.body = none := fun e => by rw [e] at h; simp at h
    simp only [callFunc, Sem.run_bind, run_program, Result.andThen_ok, hf]
    simp [h.1, h2]
theorem run_call {f : FuncId} {first cap : Array Value} {a : Act} {x : Operand} {args : List Operand} {ts : Array TypeId} {d : Option Nat} {ty : TypeId} {pos : String} {af : Array Edge} {g : Option (Nat × Bool)} (he : entersB P f = true) (ha : Holds n l a) (hx : ev l x = some (.func (.func f) first cap)) {vs : List Value} (hvs : evs l args = some vs) :
    (execOp a.eval ⟨d, .call ⟨.value x, args.toArray, ts⟩, ty, pos, af, g⟩).run P w = .ok (.enter f (first ++ vs.toArray ++ cap)) w := by
  simp [execOp, resolve, ha.ev hx, Deferred.ofValue, invoke, ha.evs hvs, run_callFunc he]
theorem run_call0 {f : FuncId} {a : Act} {args : List Operand} {ts : Array TypeId} {d : Option Nat} {ty : TypeId} {pos : String} {af : Array Edge} {g : Option (Nat × Bool)} (he : entersB P f = true) (ha : Holds n l a) {vs : List Value} (hvs : evs l args = some vs) :
    (execOp a.eval ⟨d, .call ⟨.value (.func f), args.toArray, ts⟩, ty, pos, af, g⟩).run P w = .ok (.enter f vs.toArray) w := by
  have := run_call (w := w) (x := .func f) (ts := ts) (d := d) (ty := ty) (pos := pos) (af := af) (g := g) (first := #[]) (cap := #[]) he ha rfl hvs
  simpa using this
theorem lw_call {d : Nat} {f : FuncId} {args : List Operand} {ts : Array TypeId} {ty : TypeId} {pos : String} {af : Array Edge} {vs : List Value} {R : Ending → World → Prop} (he : entersB P f = true) (hd : Nat.blt d n = true) (hvs : evs l args = some vs)
    (hc : Calls P f vs.toArray w R) (h : ∀ e w', R e w' → ∃ v, e = .returned v ∧ LW P n ops Q os ((d, v) :: l) w') :
    LW P n ops Q (⟨some d, .call ⟨.value (.func f), args.toArray, ts⟩, ty, pos, af, none⟩ :: os) l w := ⟨fun a ha => wpList_plain rfl fun K hK => by
  unfold Oper.wp; rw [run_call0 he ha hvs]
  refine Calls.mono hc fun e w' hr => ?_
  obtain ⟨v, rfl, hl⟩ := h e w' hr
  exact hK _ _ (hl.out _ (ha.put hd v))⟩
theorem lw_callv {d : Nat} {f : FuncId} {x : Operand} {first cap : Array Value} {args : List Operand} {ts : Array TypeId} {ty : TypeId} {pos : String} {af : Array Edge} {vs : List Value} {R : Ending → World → Prop} (hx : ev l x = some (.func (.func f) first cap)) (he : entersB P f = true) (hd : Nat.blt d n = true) (hvs : evs l args = some vs)
    (hc : Calls P f (first ++ vs.toArray ++ cap) w R) (h : ∀ e w', R e w' → ∃ v, e = .returned v ∧ LW P n ops Q os ((d, v) :: l) w') :
    LW P n ops Q (⟨some d, .call ⟨.value x, args.toArray, ts⟩, ty, pos, af, none⟩ :: os) l w := ⟨fun a ha => wpList_plain rfl fun K hK => by
  unfold Oper.wp; rw [run_call he ha hx hvs]
  refine Calls.mono hc fun e w' hr => ?_
  obtain ⟨v, rfl, hl⟩ := h e w' hr
  exact hK _ _ (hl.out _ (ha.put hd v))⟩
/-! ### a region that draws its order -/
variable {S : World → Prop} {fuel : Nat} {listed : Array Bool}
theorem aw_done (hr : Region.ready .any ops listed = []) (h : QW n Q .normal l w) : AW P n ops Q S fuel listed l w := ⟨fun a ha => wpAnyH_done hr (h.out a ha) fuel⟩
def NoPanic (Q : Exit → Act → World → Prop) : Prop := ∀ c d v a w, Q (.panic c) (Act.put a d v) w → Q (.panic c) a w
theorem NoPanic.then {K : Act → World → Prop} (h : NoPanic Q) : NoPanic (Exit.then K Q) := h
theorem NoPanic.inBlock {i : Nat} (h : NoPanic Q) : NoPanic (Exit.inBlock i Q) := h
theorem NoPanic.body {fn : Func} {R : Ending → World → Prop} : NoPanic (bodyPost P fn R) := fun c d v a w h => by
  cases d <;> exact h
theorem cw_drawn {i : Nat} {ops : Array Oper} (S : World → Prop) (hm : P.follows .mixedOrders = true) (hQ : NoPanic Q) (h : NoPanic Q → AW P n ops Q S ops.size (Array.replicate ops.size false) l w.drew) : CW P n (.region i ops true) Q l w := cw_draw S hm (h hQ)
theorem aw_take (i : Nat) {d : Nat} {op : Op} {ty : TypeId} {pos : String} {af : Array Edge} {v : Value} (ho : ops[i]? = some ⟨some d, op, ty, pos, af, none⟩)
    (hs : Region.noSelect ops = true) (hf : Region.free .any ops listed i = true) (hr : (Region.ready .any ops listed).contains i = true) (hQ : NoPanic Q) (hS : S w) (hd : Nat.blt d n = true)
    (hv : ∀ w, S w → Pv P n l ⟨some d, op, ty, pos, af, none⟩ v w) (h : AW P n ops Q S fuel (listed.setIfInBounds i true) ((d, v) :: l) w) : AW P n ops Q S (fuel + 1) listed l w := ⟨fun a ha =>
  wpAnyH_take ho hs hf hr (fun c a w => hQ c _ v a w) (Or.inl ⟨rfl, fun w hw => (hv w hw).out a ha⟩) hS (h.out _ (ha.put hd v))⟩
theorem aw_take_on (i : Nat) {d : Nat} {op : Op} {ty : TypeId} {pos : String} {af : Array Edge} {v : Value} {g t : Nat} {b c : Bool} (ho : ops[i]? = some ⟨some d, op, ty, pos, af, some (g, b)⟩) (hg : (ops[g]?).bind (·.dst) = some t) (ht : look l t = some (.bool c)) (hc : c = b)
    (hs : Region.noSelect ops = true) (hf : Region.free .any ops listed i = true) (hr : (Region.ready .any ops listed).contains i = true) (hQ : NoPanic Q) (hS : S w) (hd : Nat.blt d n = true)
    (hv : ∀ w, S w → Pv P n l ⟨some d, op, ty, pos, af, some (g, b)⟩ v w) (h : AW P n ops Q S fuel (listed.setIfInBounds i true) ((d, v) :: l) w) : AW P n ops Q S (fuel + 1) listed l w := ⟨fun a ha =>
  wpAnyH_take ho hs hf hr (fun c a w => hQ c _ v a w) (Or.inl ⟨by simp only [Region.wanted, yielded, hg, Option.bind_some, ha.2.2 t _ ht]; subst hc; simp, fun w hw => (hv w hw).out a ha⟩) hS (h.out _ (ha.put hd v))⟩
theorem aw_not (i : Nat) {d : Nat} {op : Op} {ty : TypeId} {pos : String} {af : Array Edge} {g t : Nat} {b c : Bool} (ho : ops[i]? = some ⟨some d, op, ty, pos, af, some (g, b)⟩) (hg : (ops[g]?).bind (·.dst) = some t) (ht : look l t = some (.bool c)) (hc : c = !b)
    (hs : Region.noSelect ops = true) (hf : Region.free .any ops listed i = true) (hr : (Region.ready .any ops listed).contains i = true) (hQ : NoPanic Q) (hS : S w) (hd : Nat.blt d n = true)
    (h : AW P n ops Q S fuel (listed.setIfInBounds i true) ((d, undef) :: l) w) : AW P n ops Q S (fuel + 1) listed l w := ⟨fun a ha =>
  wpAnyH_take ho hs hf hr (fun c a w => hQ c _ _ a w) (Or.inr ⟨by simp only [Region.wanted, yielded, hg, Option.bind_some, ha.2.2 t _ ht]; subst hc; cases b <;> rfl, rfl⟩) hS (h.out _ (ha.put hd _))⟩
theorem aw_not_u (i : Nat) {d : Nat} {op : Op} {ty : TypeId} {pos : String} {af : Array Edge} {g t : Nat} {b : Bool} (ho : ops[i]? = some ⟨some d, op, ty, pos, af, some (g, b)⟩) (hg : (ops[g]?).bind (·.dst) = some t) (ht : look l t = some undef)
    (hs : Region.noSelect ops = true) (hf : Region.free .any ops listed i = true) (hr : (Region.ready .any ops listed).contains i = true) (hQ : NoPanic Q) (hS : S w) (hd : Nat.blt d n = true)
    (h : AW P n ops Q S fuel (listed.setIfInBounds i true) ((d, undef) :: l) w) : AW P n ops Q S (fuel + 1) listed l w := ⟨fun a ha =>
  wpAnyH_take ho hs hf hr (fun c a w => hQ c _ _ a w) (Or.inr ⟨by simp only [Region.wanted, yielded, hg, Option.bind_some, ha.2.2 t _ ht]; cases b <;> rfl, rfl⟩) hS (h.out _ (ha.put hd _))⟩
def guardOn (ops : Array Oper) (l : Fr) : Option (Nat × Bool) → Bool
  | none => true
  | some (g, b) => match (ops[g]?).bind (·.dst) with
    | some t => match look l t with
      | some (.bool c) => c == b
      | _ => false
    | none => false
theorem wanted_of {a : Act} (ha : Holds n l a) {o : Oper} (h : guardOn ops l o.guard = true) : Region.wanted o (yielded ops a.tmps) = true := by
  unfold Region.wanted
  cases hg : o.guard with
  | none => rfl
  | some p =>
    obtain ⟨g, b⟩ := p
    rw [hg] at h
    simp only [guardOn] at h
    cases hd : (ops[g]?).bind (·.dst) with
    | none => rw [hd] at h; cases h
    | some t =>
      rw [hd] at h
      dsimp only at h
      cases hl : look l t with
      | none => rw [hl] at h; cases h
      | some v =>
        rw [hl] at h
        cases v <;> try (cases h; done)
        simp only [yielded, hd, Option.bind_some, ha.2.2 t _ hl]
        simpa using h
structure Act1 (P : Program) (n : Nat) (l : Fr) (o : Oper) (w : World) (Z : Value → World → Prop) : Prop where
  out : ∀ a, Holds n l a → ∀ (K : Act → World → Prop) Q, (∀ v w', Z v w' → K (a.put o.dst v) w') → Oper.wp P o a w K Q
theorem act_call {d : Option Nat} {f : FuncId} {args : List Operand} {ts : Array TypeId} {ty : TypeId} {pos : String} {af : Array Edge} {g : Option (Nat × Bool)} {vs : List Value} {R : Ending → World → Prop} {Z : Value → World → Prop} (he : entersB P f = true) (hvs : evs l args = some vs)
    (hc : Calls P f vs.toArray w R) (h : ∀ e w', R e w' → ∃ v, e = .returned v ∧ Z v w') : Act1 P n l ⟨d, .call ⟨.value (.func f), args.toArray, ts⟩, ty, pos, af, g⟩ w Z := ⟨fun a ha K Q hK => by
  unfold Oper.wp; rw [run_call0 he ha hvs]
  refine Calls.mono hc fun e w' hr => ?_
  obtain ⟨v, rfl, hl⟩ := h e w' hr
  exact hK v w' hl⟩
theorem act_ev {d : Option Nat} {op : Op} {ty : TypeId} {pos : String} {af : Array Edge} {g : Option (Nat × Bool)} {v : Value} {w' : World} {Z : Value → World → Prop} (hv : Ev P n l ⟨d, op, ty, pos, af, g⟩ v w w') (h : Z v w') : Act1 P n l ⟨d, op, ty, pos, af, g⟩ w Z := ⟨fun a ha K Q hK => by
  unfold Oper.wp; rw [hv.out a ha]; exact hK _ _ h⟩
theorem act_some {d : Option Nat} {op : Op} {ty : TypeId} {pos : String} {af : Array Edge} {g : Option (Nat × Bool)} {Z Φ : Value → World → Prop} (hv : ∀ a, Holds n l a → ∃ v w', (execOp a.eval ⟨d, op, ty, pos, af, g⟩).run P w = .ok (.value v) w' ∧ Φ v w') (h : ∀ v w', Φ v w' → Z v w') : Act1 P n l ⟨d, op, ty, pos, af, g⟩ w Z := ⟨fun a ha K Q hK => by
  obtain ⟨v, w', h1, h2⟩ := hv a ha
  unfold Oper.wp; rw [h1]; exact hK _ _ (h v w' h2)⟩
theorem act_sv {d : Option Nat} {op : Op} {ty : TypeId} {pos : String} {af : Array Edge} {g : Option (Nat × Bool)} {w' : World} {Z : Value → World → Prop} (hv : Sv P n l ⟨d, op, ty, pos, af, g⟩ w w') (h : Z undef w') : Act1 P n l ⟨d, op, ty, pos, af, g⟩ w Z := ⟨fun a ha K Q hK => by
  unfold Oper.wp; rw [hv.out a ha]; exact hK _ _ h⟩
def putD (d : Option Nat) (v : Value) (l : Fr) : Fr := match d with | some t => (t, v) :: l | none => l
def inD (d : Option Nat) (n : Nat) : Bool := match d with | some t => Nat.blt t n | none => true
theorem Holds.putD {a : Act} (h : Holds n l a) {d : Option Nat} (hd : inD d n = true) (v : Value) : Holds n (putD d v l) (a.put d v) := by
  cases d with
  | none => exact h
  | some t => exact h.put hd v
theorem aw_act (i : Nat) {o : Oper} (hr : Region.ready .any ops listed = [i]) (ho : ops[i]? = some o) (hg : guardOn ops l o.guard = true) (hd : inD o.dst n = true)
    (h : Act1 P n l o w fun v w' => S w' ∧ (S w' → AW P n ops Q S fuel (listed.setIfInBounds i true) (putD o.dst v l) w')) : AW P n ops Q S (fuel + 1) listed l w := ⟨fun a ha => by
  refine wpAnyH_all hr (by simp) fun j hj => ?_
  rw [List.mem_singleton] at hj; subst hj
  unfold wpOp; rw [ho]
  dsimp only
  rw [if_pos (wanted_of ha hg)]
  exact Or.inl (h.out a ha _ _ fun v w' hZ => ⟨hZ.1, (hZ.2 hZ.1).out _ (ha.putD hd v)⟩)⟩
theorem aw_act2 (i j : Nat) {o p : Oper} (hr : Region.ready .any ops listed = [i, j]) (ho : ops[i]? = some o) (hp : ops[j]? = some p) (hg : guardOn ops l o.guard = true) (hg2 : guardOn ops l p.guard = true) (hd : inD o.dst n = true) (hd2 : inD p.dst n = true)
    (h : Act1 P n l o w fun v w' => S w' ∧ (S w' → AW P n ops Q S fuel (listed.setIfInBounds i true) (putD o.dst v l) w'))
    (h2 : Act1 P n l p w fun v w' => S w' ∧ (S w' → AW P n ops Q S fuel (listed.setIfInBounds j true) (putD p.dst v l) w')) : AW P n ops Q S (fuel + 1) listed l w := ⟨fun a ha => by
  refine wpAnyH_all hr (by simp) fun k hk => ?_
  rcases List.mem_cons.1 hk with hk | hk
  · subst hk
    unfold wpOp; rw [ho]
    dsimp only
    rw [if_pos (wanted_of ha hg)]
    exact Or.inl (h.out a ha _ _ fun v w' hZ => ⟨hZ.1, (hZ.2 hZ.1).out _ (ha.putD hd v)⟩)
  · rw [List.mem_singleton] at hk; subst hk
    unfold wpOp; rw [hp]
    dsimp only
    rw [if_pos (wanted_of ha hg2)]
    exact Or.inl (h2.out a ha _ _ fun v w' hZ => ⟨hZ.1, (hZ.2 hZ.1).out _ (ha.putD hd2 v)⟩)⟩
end
/-! ### guards: of which kind the next step is -/
section
variable {P : Program} {n : Nat} {l : Fr} {w : World} {Q : Exit → Act → World → Prop} {ops : Array Oper} {os : List Oper} {d : Option Nat} {ty : TypeId} {pos : String} {af : Array Edge} {g : Option (Nat × Bool)}
theorem is_cw {c : Code} (h : CW P n c Q l w) : CW P n c Q l w := h
theorem is_cd {c : Operand} {x y : Code} (h : CW P n (.cond c x y) Q l w) : CW P n (.cond c x y) Q l w := h
theorem is_qw {e : Exit} (h : QW n Q e l w) : QW n Q e l w := h
theorem is_guarded {op : Op} {p : Nat × Bool} (h : LW P n ops Q (⟨d, op, ty, pos, af, some p⟩ :: os) l w) : LW P n ops Q (⟨d, op, ty, pos, af, some p⟩ :: os) l w := h
theorem is_bin {o : BinOp} {t t' : TypeId} {x y : Operand} (h : LW P n ops Q (⟨d, .binOp o t x y t', ty, pos, af, none⟩ :: os) l w) : LW P n ops Q (⟨d, .binOp o t x y t', ty, pos, af, none⟩ :: os) l w := h
theorem is_load {t : TypeId} {x : Operand} (h : LW P n ops Q (⟨d, .load t x, ty, pos, af, none⟩ :: os) l w) : LW P n ops Q (⟨d, .load t x, ty, pos, af, none⟩ :: os) l w := h
theorem is_ia {t : TypeId} {x y : Operand} (h : LW P n ops Q (⟨d, .indexAddr t x y, ty, pos, af, none⟩ :: os) l w) : LW P n ops Q (⟨d, .indexAddr t x y, ty, pos, af, none⟩ :: os) l w := h
theorem is_fa {t f : Nat} {x : Operand} (h : LW P n ops Q (⟨d, .fieldAddr t x f, ty, pos, af, none⟩ :: os) l w) : LW P n ops Q (⟨d, .fieldAddr t x f, ty, pos, af, none⟩ :: os) l w := h
theorem is_bi {b : Builtin} {xs : Array Operand} {ts : Array TypeId} (h : LW P n ops Q (⟨d, .call ⟨.builtin b, xs, ts⟩, ty, pos, af, none⟩ :: os) l w) : LW P n ops Q (⟨d, .call ⟨.builtin b, xs, ts⟩, ty, pos, af, none⟩ :: os) l w := h
theorem is_pk {x y z : Operand} (h : LW P n ops Q (⟨d, .pick x y z, ty, pos, af, none⟩ :: os) l w) : LW P n ops Q (⟨d, .pick x y z, ty, pos, af, none⟩ :: os) l w := h
theorem is_sl {t : TypeId} {x : Operand} {y z u : Option Operand} (h : LW P n ops Q (⟨d, .slice t x y z u, ty, pos, af, none⟩ :: os) l w) : LW P n ops Q (⟨d, .slice t x y z u, ty, pos, af, none⟩ :: os) l w := h
theorem is_cv {t t' : TypeId} {x : Operand} (h : LW P n ops Q (⟨d, .convert t t' x, ty, pos, af, none⟩ :: os) l w) : LW P n ops Q (⟨d, .convert t t' x, ty, pos, af, none⟩ :: os) l w := h
theorem is_bd {t : TypeId} {ps : Array (Nat × Operand)} (h : LW P n ops Q (⟨d, .build t ps, ty, pos, af, none⟩ :: os) l w) : LW P n ops Q (⟨d, .build t ps, ty, pos, af, none⟩ :: os) l w := h
theorem is_un {o : UnOp} {t : TypeId} {x : Operand} (h : LW P n ops Q (⟨d, .unOp o t x, ty, pos, af, none⟩ :: os) l w) : LW P n ops Q (⟨d, .unOp o t x, ty, pos, af, none⟩ :: os) l w := h
end
variable {α : Type}

structure ElemT (P : Program) (S T : TypeId) (k nb : Nat) : Prop where
  sl : P.underlying S = some (.slice T)
  info : ∃ i z, P.info? T = some i ∧ i.zero = some z ∧ i.size = k ∧ i.bytes = nb ∧ z.cells.size = k
  pos : 0 < k
section
variable {enc : α → List Value} {k nb : Nat} {P : Program} {S T : TypeId} {w : World}
theorem flat_one (h1c : ∀ x, ∀ v ∈ enc x, v.oneCell' = true) (ys : List α) : ∀ u ∈ ys.flatMap enc, u.oneCell' = true := fun u hu => by
  obtain ⟨x, _, hx⟩ := List.mem_flatMap.1 hu
  exact h1c x u hx
theorem SlR.flat (hk : ∀ x, (enc x).length = k) {b off c : Nat} {ys : List α} (h : SlR enc k w (some ⟨b, off, none⟩) c ys) : ∀ j u, (ys.flatMap enc)[j]? = some u → w.cell? ((⟨b, off, none⟩ : Addr).add j) = some u := fun j u hu => by
  rw [Addr.add_lit]
  have hj : j < ys.length * k := by have := (List.getElem?_eq_some_iff.1 hu).1; rwa [flat_len enc k hk] at this
  have k0 : 0 < k := by rcases Nat.eq_zero_or_pos k with h | h; · subst h; simp at hj
                        · exact h
  have hq : j / k < ys.length := Nat.div_lt_of_lt_mul (by rwa [Nat.mul_comm])
  have hr : j % k < k := Nat.mod_lt _ k0
  have hx : ys[j / k]? = some ys[j / k] := List.getElem?_eq_getElem hq
  have hv : (enc ys[j / k])[j % k]? = some ((enc ys[j / k])[j % k]'(by rw [hk]; exact hr)) := List.getElem?_eq_getElem _
  have h2 := flat_get enc k hk ys (j / k) _ (j % k) _ hx hv
  rw [Nat.div_add_mod' j k, hu] at h2
  have h3 := (h.ofSome _ rfl (Nat.lt_of_lt_of_le (Nat.lt_of_le_of_lt (Nat.zero_le _) hq) h.le)).2.2 (j / k) _ hx (j % k) _ hv
  rw [h2, ← h3, Nat.add_assoc, Nat.div_add_mod' j k]
theorem app_own (E : ElemT P S T k nb) (hk : ∀ x, (enc x).length = k) (h1c : ∀ x, ∀ v ∈ enc x, v.oneCell' = true) {base : Nat} {v : Value} {xs ys : List α} {a : Option Addr} {c : Nat} (ty : TypeId)
    (ho : Own enc k T base w v xs) (hs : SlR enc k w a c ys) (hb : base ≤ w.heap.size) (hm : (xs.length + ys.length) * nb ≤ 140737488355328) (hx : xs.length + ys.length ≤ maxLen) :
    ∃ v' w', (Builtin.append_ #[S, S] ty #[v, .slice a ys.length c]).run P w = .ok v' w' ∧ Own enc k T base w' v' (xs ++ ys) ∧ w.grownBy w' v.ownBlock := by
  obtain ⟨i, z, hi, hz, hsz, hby, hzs⟩ := E.info
  cases a with
  | none =>
    obtain ⟨rfl, rfl⟩ := hs.ofNone rfl
    refine ⟨v, w, run_append_owned_none w base S ty T i k E.sl hi v _ _ ho, by simpa using ho, ⟨rfl, rfl, rfl, Nat.le_refl _, fun _ _ _ => rfl⟩⟩
  | some ad =>
    obtain ⟨b, off, sp⟩ := ad
    have hfl : sp = none ∨ ys = [] := by
      cases ys with
      | nil => exact Or.inr rfl
      | cons y r => exact Or.inl (hs.ofSome _ rfl (by have := hs.le; simp at this; omega)).1
    have hcell : ∀ j u, (ys.flatMap enc)[j]? = some u → w.cell? ((⟨b, off, sp⟩ : Addr).add j) = some u := by
      rcases hfl with rfl | rfl
      · exact SlR.flat hk hs
      · intro j u h; simp at h
    obtain ⟨v', w', hr, h4, h5, _⟩ := run_append_own (P := P) w base S ty T i z k nb E.sl hi hz hsz hby hzs E.pos v _ _ ho ⟨b, off, sp⟩ ys.length c (ys.flatMap enc) (flat_len enc k hk ys) hcell (flat_one h1c ys) hx hm hb
    exact ⟨v', w', hr, by rw [Own, List.length_append, List.flatMap_append]; exact h4, h5⟩
theorem app_full (E : ElemT P S T k nb) (hk : ∀ x, (enc x).length = k) (h1c : ∀ x, ∀ v ∈ enc x, v.oneCell' = true) {xs ys : List α} {a a' : Option Addr} {c c' : Nat} (ty : TypeId)
    (ho : SlR enc k w a' c' xs) (hs : SlR enc k w a c ys) (hf : c' < xs.length + ys.length) (hm : (xs.length + ys.length) * nb ≤ 140737488355328) (hx : xs.length + ys.length ≤ maxLen) :
    ∃ v' w', (Builtin.append_ #[S, S] ty #[.slice a' xs.length c', .slice a ys.length c]).run P w = .ok v' w' ∧ Own enc k T w.heap.size w' v' (xs ++ ys) ∧ w.grownBy w' none := by
  obtain ⟨i, z, hi, hz, hsz, hby, hzs⟩ := E.info
  cases a' with
  | none =>
    obtain ⟨rfl, rfl⟩ := ho.ofNone rfl
    obtain ⟨v', w', h1, h2, h3⟩ := app_own E hk h1c ty (Own.nil (enc := enc) (k := k) (T := T) (base := w.heap.size) w) hs (Nat.le_refl _) hm hx
    exact ⟨v', w', h1, h2, h3⟩
  | some ad' =>
    obtain ⟨b', off', sp'⟩ := ad'
    have hfl' : sp' = none ∨ xs = [] := by
      cases xs with
      | nil => exact Or.inr rfl
      | cons y r => exact Or.inl (ho.ofSome _ rfl (by have := ho.le; simp at this; omega)).1
    have hcell' : ∀ j u, (xs.flatMap enc)[j]? = some u → w.cell? ((⟨b', off', sp'⟩ : Addr).add j) = some u := by
      rcases hfl' with rfl | rfl
      · exact SlR.flat hk ho
      · intro j u h; simp at h
    cases a with
    | none =>
      obtain ⟨rfl, rfl⟩ := hs.ofNone rfl
      have := ho.le
      simp at hf; omega
    | some ad =>
      obtain ⟨b, off, sp⟩ := ad
      have hfl : sp = none ∨ ys = [] := by
        cases ys with
        | nil => exact Or.inr rfl
        | cons y r => exact Or.inl (hs.ofSome _ rfl (by have := hs.le; simp at this; omega)).1
      have hcell : ∀ j u, (ys.flatMap enc)[j]? = some u → w.cell? ((⟨b, off, sp⟩ : Addr).add j) = some u := by
        rcases hfl with rfl | rfl
        · exact SlR.flat hk hs
        · intro j u h; simp at h
      obtain ⟨v', w', hr, h4, h5⟩ := run_append_arg_grows (P := P) w S ty T i z k nb E.sl hi hz hsz hby hzs E.pos ⟨b', off', sp'⟩ xs.length c' (xs.flatMap enc) (flat_len enc k hk xs) hcell' ⟨b, off, sp⟩ ys.length c (ys.flatMap enc) (flat_len enc k hk ys) hcell hf hx hm
      exact ⟨v', w', hr, by rw [Own, List.length_append, List.flatMap_append]; exact h4, h5⟩
end
theorem SlR.new (enc : α → List Value) (k : Nat) (hk : ∀ x, (enc x).length = k) (w : World) (T : TypeId) (xs : List α) (hm : xs.length ≤ 9223372036854775807) : SlR enc k (w.alloc (.cells (xs.flatMap enc).toArray T)) (some ⟨w.heap.size, 0, none⟩) xs.length xs := by
  refine ⟨Nat.le_refl _, hm, (fun h => by cases h), (fun ad h _ => ?_)⟩
  cases h
  refine ⟨rfl, by simp, fun j x hx i v hv => ?_⟩
  simp only [Nat.zero_add]
  rw [World.cell?_alloc_new]
  simpa using flat_get enc k hk xs j x i v hx hv
theorem SlR.head {enc : α → List Value} {k : Nat} {w : World} {a : Option Addr} {c : Nat} {xs : List α} (h : SlR enc k w a c xs) (i c' : Nat) (hi : i ≤ xs.length) (hc : i ≤ c' ∧ c' ≤ c) : SlR enc k w a c' (xs.take i) := by
  refine ⟨by rw [List.length_take]; omega, by have := h.max; omega, fun hn => ?_, fun ad had hc2 => ?_⟩
  · obtain ⟨h1, h2⟩ := h.ofNone hn
    subst h1; subst h2
    exact ⟨by simp, by omega⟩
  · obtain ⟨h1, h2, h3⟩ := h.ofSome ad had (by omega)
    refine ⟨h1, h2, fun j x hx t v hv => h3 j x ?_ t v hv⟩
    rw [List.getElem?_take] at hx
    split at hx
    · exact hx
    · cases hx
end Go.Proofs.YtekomjnjddhfmaaGreat
namespace Go.Proofs.YtekomjnjddhfmaaGreat
open Go.RowKit

/-! ### small tables -/
def lk1 : List (Nat × Nat) → Nat → Option Nat
  | [], _ => none
  | (a, b) :: r, s => bif Nat.beq a s then some b else lk1 r s
def lk2 : List (Nat × Nat × Nat) → Nat → Nat → Option Nat
  | [], _, _ => none
  | (a, b, c) :: r, s, f => bif Nat.beq a s && Nat.beq b f then some c else lk2 r s f
def lk3 : List (Nat × Nat × Nat × Nat) → Nat → Nat → Option (Nat × Nat)
  | [], _, _ => none
  | (a, b, c) :: r, s, f => bif Nat.beq a s && Nat.beq b f then some c else lk3 r s f
def lkk : List (Nat × IntKind) → Nat → Option IntKind
  | [], _ => none
  | (a, b) :: r, s => bif Nat.beq a s then some b else lkk r s
def lkm : List Nat → Nat → Bool
  | [], _ => false
  | a :: r, s => Nat.beq a s || lkm r s
theorem lk1_all {p : Nat → Nat → Bool} : ∀ {tab : List (Nat × Nat)}, tab.all (fun e => p e.1 e.2) = true → ∀ {s o : Nat}, lk1 tab s = some o → p s o = true
  | [], _, _, _, e => by cases e
  | (a, b) :: r, h, s, o, e => by
    simp only [List.all_cons, Bool.and_eq_true] at h
    simp only [lk1] at e
    cases hq : Nat.beq a s with
    | true => rw [hq, cond_true] at e; injection e with e; rw [Nat.eq_of_beq_eq_true hq, e] at h; exact h.1
    | false => rw [hq, cond_false] at e; exact lk1_all h.2 e
theorem lk2_all {p : Nat → Nat → Nat → Bool} : ∀ {tab : List (Nat × Nat × Nat)}, tab.all (fun e => p e.1 e.2.1 e.2.2) = true → ∀ {s f o : Nat}, lk2 tab s f = some o → p s f o = true
  | [], _, _, _, _, e => by cases e
  | (a, b, c) :: r, h, s, f, o, e => by
    simp only [List.all_cons, Bool.and_eq_true] at h
    simp only [lk2] at e
    cases hq : Nat.beq a s && Nat.beq b f with
    | true =>
      rw [hq, cond_true] at e; injection e with e
      rw [Bool.and_eq_true] at hq
      rw [Nat.eq_of_beq_eq_true hq.1, Nat.eq_of_beq_eq_true hq.2, e] at h; exact h.1
    | false => rw [hq, cond_false] at e; exact lk2_all h.2 e
theorem lkk_all {p : Nat → IntKind → Bool} : ∀ {tab : List (Nat × IntKind)}, tab.all (fun e => p e.1 e.2) = true → ∀ {s : Nat} {o : IntKind}, lkk tab s = some o → p s o = true
  | [], _, _, _, e => by cases e
  | (a, b) :: r, h, s, o, e => by
    simp only [List.all_cons, Bool.and_eq_true] at h
    simp only [lkk] at e
    cases hq : Nat.beq a s with
    | true => rw [hq, cond_true] at e; injection e with e; rw [Nat.eq_of_beq_eq_true hq, e] at h; exact h.1
    | false => rw [hq, cond_false] at e; exact lkk_all h.2 e
theorem lkm_all {p : Nat → Bool} : ∀ {tab : List Nat}, tab.all p = true → ∀ {s : Nat}, lkm tab s = true → p s = true
  | [], _, _, e => by cases e
  | a :: r, h, s, e => by
    simp only [List.all_cons, Bool.and_eq_true] at h
    simp only [lkm, Bool.or_eq_true] at e
    rcases e with e | e
    · rw [← Nat.eq_of_beq_eq_true e]; exact h.1
    · exact lkm_all h.2 e
def oneB (P : Program) (t : TypeId) : Bool := match P.underlying t with
  | some (.struct _) | some (.array _ _) | none => false
  | some _ => true
def aggB (P : Program) (t : TypeId) (k : Nat) : Bool := match P.underlying t, P.info? t with
  | some (.struct _), some i | some (.array _ _), some i => i.size == k
  | _, _ => false
def sizeB (P : Program) (t : TypeId) (k : Nat) : Bool := match P.info? t with
  | some i => i.size == k
  | none => false
def slB (P : Program) (t : TypeId) (k : Nat) : Bool := match P.underlying t with
  | some (.slice e) => sizeB P e k
  | _ => false
def faB (P : Program) (s f off : Nat) : Bool := match P.underlying s with
  | some (.struct fs) => match fs[f]? with
    | some x => x.offset == off && (match P.info? x.type with | some i => !(i.size == 0) | none => false)
    | none => false
  | _ => false
def fdB (P : Program) (s f off : Nat) : Bool := match P.underlying s with
  | some (.struct fs) => match fs[f]? with
    | some x => x.offset == off && oneB P x.type
    | none => false
  | _ => false
def fgB (P : Program) (s f off k : Nat) : Bool := match P.underlying s with
  | some (.struct fs) => match fs[f]? with
    | some x => x.offset == off && aggB P x.type k
    | none => false
  | _ => false
def cvB (P : Program) (s d : Nat) (k : IntKind) : Bool := match P.underlying s, P.underlying d with
  | some _, some (.int k') => k' == k
  | _, _ => false
def isKB (P : Program) (t : Nat) (k : IntKind) : Bool := match P.underlying t with
  | some (.int k') => k' == k
  | _ => false
def isT (P : Program) (t : Nat) (d : TypeDesc → Bool) : Bool := match P.underlying t with
  | some x => d x
  | none => false
section
variable {P : Program} {w : World}
theorem sizeB_run {t k : Nat} (h : sizeB P t k = true) (w : World) : (sizeOf t).run P w = .ok k w := by
  unfold sizeB at h
  cases hi : P.info? t with
  | none => rw [hi] at h; cases h
  | some i => rw [hi] at h; simp only [beq_iff_eq] at h; simp [sizeOf, typeInfo, hi, h]
theorem oneB_run {t : Nat} (h : oneB P t = true) (w : World) : (isAgg t).run P w = .ok false w := by
  unfold oneB at h
  cases hu : P.underlying t with
  | none => rw [hu] at h; cases h
  | some d =>
    rw [hu] at h
    cases d <;> first | (cases h; done) | (simp [isAgg, run_underlying hu])
theorem aggB_run {t k : Nat} (h : aggB P t k = true) (w : World) : (isAgg t).run P w = .ok true w ∧ (sizeOf t).run P w = .ok k w := by
  unfold aggB at h
  cases hu : P.underlying t with
  | none => rw [hu] at h; cases h
  | some d =>
    cases hi : P.info? t with
    | none => rw [hu, hi] at h; cases d <;> cases h
    | some i =>
      rw [hu, hi] at h
      cases d <;> first | (cases h; done) | (simp only [beq_iff_eq] at h; simp [isAgg, run_underlying hu, sizeOf, typeInfo, hi, h])
theorem slB_of {t k : Nat} (h : slB P t k = true) : ∃ e, P.underlying t = some (.slice e) ∧ sizeB P e k = true := by
  unfold slB at h
  cases hu : P.underlying t with
  | none => rw [hu] at h; cases h
  | some d =>
    rw [hu] at h
    cases d <;> first | (cases h; done) | exact ⟨_, rfl, h⟩
theorem faB_of {s f off : Nat} (h : faB P s f off = true) : ∃ fs x k, P.underlying s = some (.struct fs) ∧ fs[f]? = some x ∧ x.offset = off ∧ sizeB P x.type k = true ∧ k ≠ 0 := by
  unfold faB at h
  cases hu : P.underlying s with
  | none => rw [hu] at h; cases h
  | some d =>
    rw [hu] at h
    cases d <;> try (cases h; done)
    rename_i fs
    dsimp only at h
    cases hf : fs[f]? with
    | none => rw [hf] at h; cases h
    | some x =>
      rw [hf] at h
      simp only [Bool.and_eq_true, beq_iff_eq] at h
      cases hi : P.info? x.type with
      | none => rw [hi] at h; cases h.2
      | some i => rw [hi] at h; exact ⟨fs, x, i.size, rfl, hf, h.1, by simp [sizeB, hi], by simpa using h.2⟩
theorem cvB_of {s d : Nat} {k : IntKind} (h : cvB P s d k = true) : (∃ x, P.underlying s = some x) ∧ P.underlying d = some (.int k) := by
  unfold cvB at h
  cases hs : P.underlying s with
  | none => rw [hs] at h; cases h
  | some x =>
    cases hd : P.underlying d with
    | none => rw [hs, hd] at h; cases h
    | some y =>
      rw [hs, hd] at h
      cases y <;> try (cases h; done)
      exact ⟨⟨x, rfl⟩, by rw [beq_iff_eq] at h; rw [h]⟩
theorem cvB_mk {s d : Nat} {k k' : IntKind} (h : isKB P s k' = true) (h2 : isKB P d k = true) : cvB P s d k = true := by
  unfold isKB at h h2
  unfold cvB
  cases hs : P.underlying s with
  | none => rw [hs] at h; cases h
  | some x =>
    cases hd : P.underlying d with
    | none => rw [hd] at h2; cases h2
    | some y =>
      rw [hd] at h2
      cases y <;> first | (cases h2; done) | exact h2
theorem isT_of {t : Nat} {d : TypeDesc → Bool} (h : isT P t d = true) : ∃ x, P.underlying t = some x ∧ d x = true := by
  unfold isT at h
  cases hu : P.underlying t with
  | none => rw [hu] at h; cases h
  | some x => rw [hu] at h; exact ⟨x, rfl, h⟩
end
def fillL (pl : List (Nat × Nat)) : List Value → List (Nat × Value) → Option (List Value)
  | cs, [] => some cs
  | cs, (i, v) :: r => match pl[i]? with
    | some (off, size) => if v.cells.size = size ∧ off + size ≤ cs.length then fillL pl (cs.take off ++ v.cells.toList ++ cs.drop (off + size)) r else none
    | none => none
theorem fillL_eq (pl : List (Nat × Nat)) : ∀ (ps : List (Nat × Value)) (cs : List Value), Instr.fill (fun i => pl[i]?) cs.toArray ps = (fillL pl cs ps).map List.toArray
  | [], cs => by simp [Instr.fill, fillL]
  | (i, v) :: r, cs => by
    simp only [Instr.fill, fillL]
    cases hp : pl[i]? with
    | none => rfl
    | some p =>
      obtain ⟨off, size⟩ := p
      dsimp only
      by_cases hc : v.cells.size = size ∧ off + size ≤ cs.length
      · obtain ⟨hc1, hc2⟩ := hc
        rw [if_neg (by simp [hc1]; omega), if_pos ⟨hc1, hc2⟩, ← fillL_eq pl r]
        congr 1
        obtain ⟨h1, h2⟩ := Great.foldl_set off v.cells.toList 0 cs.toArray
        refine Array.ext_getElem? fun k => ?_
        have h3 := h2 k
        rw [← Array.foldl_toList, Array.toList_zipIdx, h3]
        have hlen : v.cells.toList.length = size := by simpa using hc1
        simp only [Nat.add_zero, hlen, List.getElem?_toArray, List.size_toArray]
        by_cases hk1 : k < off
        · rw [if_neg (by omega), List.append_assoc, List.getElem?_append_left (by rw [List.length_take]; omega), List.getElem?_take, if_pos hk1]
        · have hto : (cs.take off).length = off := by rw [List.length_take]; omega
          rw [List.append_assoc, List.getElem?_append_right (by omega), hto]
          by_cases hk2 : k < off + size
          · rw [if_pos ⟨by omega, hk2, by omega⟩, List.getElem?_append_left (by omega)]
          · rw [if_neg (by omega), List.getElem?_append_right (by omega), hlen, List.getElem?_drop]
            congr 1; omega
      · rw [if_pos (by
          simp only [List.size_toArray, Bool.or_eq_true, decide_eq_true_eq, ne_eq]
          by_cases h1 : v.cells.size = size
          · right; have : ¬ off + size ≤ cs.length := fun h => hc ⟨h1, h⟩
            omega
          · left; exact h1), if_neg hc]
        rfl
section
variable {P : Program} {n : Nat} {l : Fr} {w : World} {d : Option Nat} {ty : TypeId} {pos : String} {af : Array Edge} {g : Option (Nat × Bool)} {x y z : Operand} {v : Value} {t t' : TypeId} {k : IntKind} {a b : Int}
theorem pv_move (hx : ev l x = some v) : Pv P n l ⟨d, .move x, ty, pos, af, g⟩ v w := ⟨fun A hA => by simp [execOp, hA.ev hx]⟩
theorem pv_assign (hx : ev l x = some v) : Pv P n l ⟨d, .assign x, ty, pos, af, g⟩ v w := ⟨fun A hA => by simp [execOp, hA.ev hx]⟩
theorem pv_pick {c : Bool} {u : Value} (hx : ev l x = some (.bool c)) (hy : ev l y = some v) (hz : ev l z = some u) : Pv P n l ⟨d, .pick x y z, ty, pos, af, g⟩ (if c then v else u) w := ⟨fun A hA => by
  cases c <;> simp [execOp, hA.ev hx, hA.ev hy, hA.ev hz, asBool]⟩
theorem pv_pick_t {c : Bool} (hx : ev l x = some (.bool c)) (hc : c = true) (hy : ev l y = some v) : Pv P n l ⟨d, .pick x y z, ty, pos, af, g⟩ v w := ⟨fun A hA => by
  subst hc; simp [execOp, hA.ev hx, hA.ev hy, asBool]⟩
theorem pv_pick_f {c : Bool} (hx : ev l x = some (.bool c)) (hc : c = false) (hz : ev l z = some v) : Pv P n l ⟨d, .pick x y z, ty, pos, af, g⟩ v w := ⟨fun A hA => by
  subst hc; simp [execOp, hA.ev hx, hA.ev hz, asBool]⟩
theorem pv_shr {k' : IntKind} (hx : ev l x = some (.int k a)) (hy : ev l y = some (.int k' b)) (hb : 0 ≤ b) : Pv P n l ⟨d, .binOp .shr t x y t', ty, pos, af, g⟩ (.int k (a.fdiv (2 ^ (min b.toNat k.bits)))) w := ⟨fun A hA => by
  simp [execOp, hA.ev hx, hA.ev hy, eqGuard, binOp, Op.shift, Int.not_lt.2 hb]⟩
theorem pv_lss (hx : ev l x = some (.int k a)) (hy : ev l y = some (.int k b)) : Pv P n l ⟨d, .binOp .lss t x y t', ty, pos, af, g⟩ (.bool (decide (a < b))) w := ⟨fun A hA => by simp [execOp, hA.ev hx, hA.ev hy, eqGuard, binOp, Op.intCmp]⟩
theorem pv_leq (hx : ev l x = some (.int k a)) (hy : ev l y = some (.int k b)) : Pv P n l ⟨d, .binOp .leq t x y t', ty, pos, af, g⟩ (.bool (decide (a ≤ b))) w := ⟨fun A hA => by simp [execOp, hA.ev hx, hA.ev hy, eqGuard, binOp, Op.intCmp]⟩
theorem pv_gtr (hx : ev l x = some (.int k a)) (hy : ev l y = some (.int k b)) : Pv P n l ⟨d, .binOp .gtr t x y t', ty, pos, af, g⟩ (.bool (decide (b < a))) w := ⟨fun A hA => by simp [execOp, hA.ev hx, hA.ev hy, eqGuard, binOp, Op.intCmp]⟩
theorem pv_geq (hx : ev l x = some (.int k a)) (hy : ev l y = some (.int k b)) : Pv P n l ⟨d, .binOp .geq t x y t', ty, pos, af, g⟩ (.bool (decide (b ≤ a))) w := ⟨fun A hA => by simp [execOp, hA.ev hx, hA.ev hy, eqGuard, binOp, Op.intCmp]⟩
theorem pv_eql (hx : ev l x = some (.int k a)) (hy : ev l y = some (.int k b)) : Pv P n l ⟨d, .binOp .eql t x y t', ty, pos, af, g⟩ (.bool (decide (a = b))) w := ⟨fun A hA => by
  simp [execOp, hA.ev hx, hA.ev hy, eqGuard, binOp, Op.intCmp]; rfl⟩
theorem pv_neq (hx : ev l x = some (.int k a)) (hy : ev l y = some (.int k b)) : Pv P n l ⟨d, .binOp .neq t x y t', ty, pos, af, g⟩ (.bool (!decide (a = b))) w := ⟨fun A hA => by
  simp [execOp, hA.ev hx, hA.ev hy, eqGuard, binOp, Op.intCmp]; rfl⟩
theorem pv_neqs (hx : ev l x = some (.int k a)) (hy : ev l y = some (.int k a)) : Pv P n l ⟨d, .binOp .neq t x y t', ty, pos, af, g⟩ (.bool false) w := by
  have := pv_neq (P := P) (n := n) (w := w) (d := d) (ty := ty) (pos := pos) (af := af) (g := g) (t := t) (t' := t') hx hy
  simpa using this
theorem pv_eqls (hx : ev l x = some (.int k a)) (hy : ev l y = some (.int k a)) : Pv P n l ⟨d, .binOp .eql t x y t', ty, pos, af, g⟩ (.bool true) w := by
  have := pv_eql (P := P) (n := n) (w := w) (d := d) (ty := ty) (pos := pos) (af := af) (g := g) (t := t) (t' := t') hx hy
  simpa using this
theorem pv_add_w (hx : ev l x = some (.int k a)) (hy : ev l y = some (.int k b)) : Pv P n l ⟨d, .binOp .add t x y t', ty, pos, af, g⟩ (.int k (k.wrap (a + b))) w := ⟨fun A hA => by simp [execOp, hA.ev hx, hA.ev hy, eqGuard, binOp, Op.intArith]⟩
theorem pv_sub_w (hx : ev l x = some (.int k a)) (hy : ev l y = some (.int k b)) : Pv P n l ⟨d, .binOp .sub t x y t', ty, pos, af, g⟩ (.int k (k.wrap (a - b))) w := ⟨fun A hA => by simp [execOp, hA.ev hx, hA.ev hy, eqGuard, binOp, Op.intArith]⟩
theorem pv_mul_w (hx : ev l x = some (.int k a)) (hy : ev l y = some (.int k b)) : Pv P n l ⟨d, .binOp .mul t x y t', ty, pos, af, g⟩ (.int k (k.wrap (a * b))) w := ⟨fun A hA => by simp [execOp, hA.ev hx, hA.ev hy, eqGuard, binOp, Op.intArith]⟩
theorem pv_add (hx : ev l x = some (.int .i64 a)) (hy : ev l y = some (.int .i64 b)) (h : -9223372036854775808 ≤ a + b ∧ a + b ≤ 9223372036854775807) : Pv P n l ⟨d, .binOp .add t x y t', ty, pos, af, g⟩ (.int .i64 (a + b)) w := by
  have := pv_add_w (P := P) (n := n) (w := w) (d := d) (ty := ty) (pos := pos) (af := af) (g := g) (t := t) (t' := t') hx hy
  rwa [IntWalk.i64_in _ h] at this
theorem pv_sub (hx : ev l x = some (.int .i64 a)) (hy : ev l y = some (.int .i64 b)) (h : -9223372036854775808 ≤ a - b ∧ a - b ≤ 9223372036854775807) : Pv P n l ⟨d, .binOp .sub t x y t', ty, pos, af, g⟩ (.int .i64 (a - b)) w := by
  have := pv_sub_w (P := P) (n := n) (w := w) (d := d) (ty := ty) (pos := pos) (af := af) (g := g) (t := t) (t' := t') hx hy
  rwa [IntWalk.i64_in _ h] at this
theorem pv_mul (hx : ev l x = some (.int .i64 a)) (hy : ev l y = some (.int .i64 b)) (h : -9223372036854775808 ≤ a * b ∧ a * b ≤ 9223372036854775807) : Pv P n l ⟨d, .binOp .mul t x y t', ty, pos, af, g⟩ (.int .i64 (a * b)) w := by
  have := pv_mul_w (P := P) (n := n) (w := w) (d := d) (ty := ty) (pos := pos) (af := af) (g := g) (t := t) (t' := t') hx hy
  rwa [IntWalk.i64_in _ h] at this
theorem pv_inc {m : Nat} (hx : ev l x = some (.int .i64 (m : Int))) (hy : ev l y = some (.int .i64 1)) (h : m < 9223372036854775807) : Pv P n l ⟨d, .binOp .add t x y t', ty, pos, af, g⟩ (.int .i64 ((m + 1 : Nat) : Int)) w := by
  have := pv_add (P := P) (n := n) (w := w) (d := d) (ty := ty) (pos := pos) (af := af) (g := g) (t := t) (t' := t') hx hy (by omega)
  simpa using this
theorem pv_not {c : Bool} (hx : ev l x = some (.bool c)) : Pv P n l ⟨d, .unOp .not t x, ty, pos, af, g⟩ (.bool (!c)) w := ⟨fun A hA => by simp [execOp, hA.ev hx, Op.unary]⟩
theorem pv_seql {s u : ByteArray} (hx : ev l x = some (.string s)) (hy : ev l y = some (.string u)) : Pv P n l ⟨d, .binOp .eql t x y t', ty, pos, af, g⟩ (.bool (s.toList == u.toList)) w := ⟨fun A hA => by simp [execOp, hA.ev hx, hA.ev hy, eqGuard, binOp, Op.stringOp]⟩
theorem pv_sneq {s u : ByteArray} (hx : ev l x = some (.string s)) (hy : ev l y = some (.string u)) : Pv P n l ⟨d, .binOp .neq t x y t', ty, pos, af, g⟩ (.bool (!(s.toList == u.toList))) w := ⟨fun A hA => by simp [execOp, hA.ev hx, hA.ev hy, eqGuard, binOp, Op.stringOp]⟩
theorem pv_bneq {c e : Bool} (ht : isT P t (fun x => x matches .bool) = true) (hx : ev l x = some (.bool c)) (hy : ev l y = some (.bool e)) : Pv P n l ⟨d, .binOp .neq t x y t', ty, pos, af, g⟩ (.bool (!(c == e))) w := ⟨fun A hA => by
  obtain ⟨u, hu, h2⟩ := isT_of ht
  have h3 : u = .bool := by cases u <;> first | rfl | (simp at h2; done)
  subst h3
  simp only [execOp, hA.ev hx, hA.ev hy, Sem.run_bind]
  simp [eqGuard, run_neq_bool w t c e hu]⟩
theorem pv_lenl {ad : Option Addr} {m c e : Nat} (ht : slB P t e = true) (hx : ev l x = some (.slice ad m c)) : Pv P n l ⟨d, .call ⟨.builtin .len, #[x], #[t]⟩, ty, pos, af, g⟩ (.int .i64 m) w := ⟨fun A hA => by
  obtain ⟨u, hu, _⟩ := slB_of ht
  simp [execOp, resolve, hA.ev hx, invoke, builtin, Builtin.len_, run_underlying hu, goInt]⟩
theorem pv_lens {s : ByteArray} (ht : isT P t (fun x => x matches .string) = true) (hx : ev l x = some (.string s)) : Pv P n l ⟨d, .call ⟨.builtin .len, #[x], #[t]⟩, ty, pos, af, g⟩ (.int .i64 s.size) w := ⟨fun A hA => by
  obtain ⟨u, hu, h2⟩ := isT_of ht
  have h3 : u = .string := by cases u <;> first | rfl | (simp at h2; done)
  subst h3
  simp [execOp, resolve, hA.ev hx, invoke, builtin, Builtin.len_, run_underlying hu, goInt]⟩
theorem pv_min {ts : Array TypeId} (hx : ev l x = some (.int k a)) (hy : ev l y = some (.int k b)) : Pv P n l ⟨d, .call ⟨.builtin .min, #[x, y], ts⟩, ty, pos, af, g⟩ (.int k (if b < a then b else a)) w := ⟨fun A hA => by
  simp [execOp, resolve, hA.ev hx, hA.ev hy, invoke, builtin, run_min_int2]⟩
theorem pv_extract {i : Nat} {vs : Array Value} (hx : ev l x = some (.tuple vs)) (hv : vs[i]? = some v) : Pv P n l ⟨d, .extract x i, ty, pos, af, g⟩ v w := ⟨fun A hA => by
  simp [execOp, hA.ev hx, Instr.extract, hv]⟩
theorem pv_fa {f off B o : Nat} (hf : faB P t f off = true) (hx : ev l x = some (.pointer (some ⟨B, o, none⟩))) : Pv P n l ⟨d, .fieldAddr t x f, ty, pos, af, g⟩ (.pointer (some ⟨B, o + off, none⟩)) w := ⟨fun A hA => by
  obtain ⟨fs, q, m, h1, h2, h3, h4, h5⟩ := faB_of hf
  subst h3
  simp [execOp, hA.ev hx, Instr.fieldAt, run_underlying h1, h2, Instr.sureAddr, fieldPlace, sizeB_run h4, h5, Addr.add_lit]⟩
theorem pv_ia {B o m c e : Nat} {i : Int} (ht : slB P t e = true) (hx : ev l x = some (.slice (some ⟨B, o, none⟩) m c)) (hy : ev l y = some (.int k i)) (h : 0 ≤ i ∧ i < m) : Pv P n l ⟨d, .indexAddr t x y, ty, pos, af, g⟩ (.pointer (some ⟨B, o + i.toNat * e, none⟩)) w := ⟨fun A hA => by
  obtain ⟨q, h1, h2⟩ := slB_of ht
  simp [execOp, hA.ev hx, hA.ev hy, Instr.indexAt, run_underlying h1, asIntOf, h.1, h.2, sizeB_run h2, Addr.add_lit]⟩
theorem pv_ian {B o m c e j : Nat} (ht : slB P t e = true) (hx : ev l x = some (.slice (some ⟨B, o, none⟩) m c)) (hy : ev l y = some (.int k (j : Int))) (h : j < m) : Pv P n l ⟨d, .indexAddr t x y, ty, pos, af, g⟩ (.pointer (some ⟨B, o + j * e, none⟩)) w := by
  have := pv_ia (P := P) (n := n) (w := w) (d := d) (ty := ty) (pos := pos) (af := af) (g := g) ht hx hy ⟨by omega, by omega⟩
  simpa using this
theorem pv_load {B o : Nat} (ht : oneB P t = true) (hx : ev l x = some (.pointer (some ⟨B, o, none⟩))) (hc : w.cell? ⟨B, o, none⟩ = some v) : Pv P n l ⟨d, .load t x, ty, pos, af, g⟩ v w := ⟨fun A hA => by
  simp [execOp, hA.ev hx, Instr.loadAt, Instr.sureAddr, loadVar, oneB_run ht, hc]⟩
theorem pv_loada {B o m : Nat} {cs : List Value} (ht : aggB P t m = true) (hx : ev l x = some (.pointer (some ⟨B, o, none⟩))) (hc : ∀ i u, cs[i]? = some u → w.cell? ⟨B, o + i, none⟩ = some u) (hm : cs.length = m) : Pv P n l ⟨d, .load t x, ty, pos, af, g⟩ (.agg cs.toArray) w := ⟨fun A hA => by
  obtain ⟨h1, h2⟩ := aggB_run ht w
  have h3 := run_loadCells_list (P := P) w ⟨B, o, none⟩ cs (fun j u hu => by rw [Addr.add_lit]; exact hc j u hu)
  rw [hm] at h3
  simp [execOp, hA.ev hx, Instr.loadAt, Instr.sureAddr, loadVar, h1, h2, h3]⟩
theorem pv_conv_w {k' : IntKind} (ht : cvB P t t' k' = true) (hx : ev l x = some (.int k a)) : Pv P n l ⟨d, .convert t t' x, ty, pos, af, g⟩ (.int k' (k'.wrap a)) w := ⟨fun A hA => by
  obtain ⟨⟨u, h1⟩, h2⟩ := cvB_of ht
  simp [execOp, hA.ev hx, convert, run_underlying h1, run_underlying h2, Conv.intToInt]⟩
theorem pv_conv (ht : cvB P t t' .i64 = true) (hx : ev l x = some (.int k a)) (h : -9223372036854775808 ≤ a ∧ a ≤ 9223372036854775807) : Pv P n l ⟨d, .convert t t' x, ty, pos, af, g⟩ (.int .i64 a) w := by
  have := pv_conv_w (P := P) (n := n) (w := w) (d := d) (ty := ty) (pos := pos) (af := af) (g := g) ht hx
  rwa [IntWalk.i64_in _ h] at this
theorem pv_build {ps : List (Nat × Operand)} {is : List Nat} {vs : List Value} {pl : List (Nat × Nat)} {zs cells : List Value} (h1 : ps.map (·.1) = is) (h2 : evs l (ps.map (·.2)) = some vs) (hb : ∀ ps, P.built t ps = Instr.fill (fun i => pl.toArray[i]?) zs.toArray ps) (h : fillL pl zs (is.zip vs) = some cells) : Pv P n l ⟨d, .build t ps.toArray, ty, pos, af, g⟩ (.agg cells.toArray) w := ⟨fun A hA => by
  have e : (ps.map fun p => (p.1, A.eval p.2)) = is.zip vs := by
    rw [← h1, ← hA.evs h2, List.map_map, List.zip_map']; rfl
  have := run_build (P := P) w t (is.zip vs).toArray cells.toArray ((hb _).trans (by rw [show (fun i : Nat => pl.toArray[i]?) = fun i => pl[i]? from by funext i; simp, fillL_eq, h]; rfl))
  simp only [execOp]
  have e2 : (ps.toArray.map fun p : Nat × Operand => (p.1, A.eval p.2)) = (is.zip vs).toArray := by rw [← e]; simp
  simp [e2, this]⟩
theorem pv_makeFunc {fn : Fn} {xs ys : List Operand} {us vs : List Value} (hx : evs l xs = some us) (hy : evs l ys = some vs) : Pv P n l ⟨d, .makeFunc fn xs.toArray ys.toArray, ty, pos, af, g⟩ (.func fn us.toArray vs.toArray) w := ⟨fun A hA => by
  simp [execOp, Instr.makeFunc, hA.evs hx, hA.evs hy]⟩
theorem pv_slice_l {ad : Option Addr} {m c e : Nat} {k : IntKind} {i : Int} (ht : slB P t e = true) (hx : ev l x = some (.slice ad m c)) (hy : ev l y = some (.int k i)) (h : 0 ≤ i ∧ i ≤ m) :
    Pv P n l ⟨d, .slice t x (some y) none none, ty, pos, af, g⟩ (.slice (if c = i.toNat then ad else ad.map (·.add (i.toNat * e))) (m - i.toNat) (c - i.toNat)) w := ⟨fun A hA => by
  obtain ⟨q, h1, h2⟩ := slB_of ht
  simp [execOp, hA.ev hx, hA.ev hy, Instr.sliceAt, Instr.slice, run_underlying h1, Instr.sliceBounds, Instr.sliceBound, asIntOf, h.1, h.2, sizeB_run h2]⟩
theorem pv_slice_h {ad : Option Addr} {m c e : Nat} {k : IntKind} {j : Int} (ht : slB P t e = true) (hx : ev l x = some (.slice ad m c)) (hz : ev l z = some (.int k j)) (h : 0 ≤ j ∧ j ≤ c) :
    Pv P n l ⟨d, .slice t x none (some z) none, ty, pos, af, g⟩ (.slice ad j.toNat c) w := ⟨fun A hA => by
  obtain ⟨q, h1, h2⟩ := slB_of ht
  simp [execOp, hA.ev hx, hA.ev hz, Instr.sliceAt, Instr.slice, run_underlying h1, Instr.sliceBounds, Instr.sliceBound, asIntOf, h.1, h.2, sizeB_run h2]
  intro _; cases ad <;> simp [Addr.add]⟩
/-! ### new blocks -/
theorem ev_alloc {z : Value} (hz : ∀ w, (zeroValue t).run P w = .ok z w) : Ev P n l ⟨d, .alloc t, ty, pos, af, g⟩ (.pointer (some ⟨w.heap.size, 0, none⟩)) w (w.alloc (.cells z.cells t)) := ⟨fun A hA => by
  simp [execOp, Instr.alloc, hz, newVar, newRow]⟩
theorem ev_box (hx : ev l x = some v) : Ev P n l ⟨d, .box t x, ty, pos, af, g⟩ (.pointer (some ⟨w.heap.size, 0, none⟩)) w (w.alloc (.cells v.cells t)) := ⟨fun A hA => by
  simp [execOp, Instr.box, hA.ev hx, newVar, newRow]⟩
theorem ev_buildSlice {m : Nat} {ps : List (Nat × Operand)} {is : List Nat} {vs : List Value} {e : TypeId} {cells : Array Value} (h1 : ps.map (·.1) = is) (h2 : evs l (ps.map (·.2)) = some vs)
    (h : ∀ w, (Instr.buildSlice t m (is.zip vs).toArray).run P w = .ok (.slice (some ⟨w.heap.size, 0, none⟩) m m) (w.alloc (.cells cells e))) : Ev P n l ⟨d, .buildSlice t m ps.toArray, ty, pos, af, g⟩ (.slice (some ⟨w.heap.size, 0, none⟩) m m) w (w.alloc (.cells cells e)) := ⟨fun A hA => by
  have e1 : (ps.map fun p => (p.1, A.eval p.2)) = is.zip vs := by
    rw [← h1, ← hA.evs h2, List.map_map, List.zip_map']; rfl
  have e2 : (ps.toArray.map fun p : Nat × Operand => (p.1, A.eval p.2)) = (is.zip vs).toArray := by rw [← e1]; simp
  simp only [execOp]
  simp [e2, h w]⟩
theorem some_append {ts : TypeId} {v u : Value} {Φ : Value → World → Prop} (hx : ev l x = some v) (hy : ev l y = some u) (hrun : ∃ v' w', (Builtin.append_ #[ts, ts] ty #[v, u]).run P w = .ok v' w' ∧ Φ v' w') :
    ∀ a, Holds n l a → ∃ v w', (execOp a.eval ⟨d, .call ⟨.builtin .append, #[x, y], #[ts, ts]⟩, ty, pos, af, g⟩).run P w = .ok (.value v) w' ∧ Φ v w' := fun A hA => by
  obtain ⟨v', w', h1, h2⟩ := hrun
  exact ⟨v', w', by simp [execOp, resolve, hA.ev hx, hA.ev hy, invoke, builtin, h1], h2⟩
end
/-! ### a function is entered, and left -/
def zipN : Nat → List Value → Fr
  | _, [] => []
  | i, v :: r => (i, v) :: zipN (i + 1) r
theorem look_zipN : ∀ (vs : List Value) (i t : Nat) (v : Value), look (zipN i vs) t = some v → i ≤ t ∧ vs[t - i]? = some v
  | [], i, t, v, h => by simp [zipN, look] at h
  | u :: r, i, t, v, h => by
    simp only [zipN, look] at h
    by_cases hs : i = t
    · subst hs; simp only [Nat.beq_refl, cond_true, Option.some.injEq] at h; subst h; simp
    · have : Nat.beq i t = false := by rw [Bool.eq_false_iff]; exact fun e => hs (Nat.eq_of_beq_eq_true e)
      rw [this, cond_false] at h
      obtain ⟨h1, h2⟩ := look_zipN r (i + 1) t v h
      refine ⟨by omega, ?_⟩
      rw [show t - i = (t - (i + 1)) + 1 by omega, List.getElem?_cons_succ]; exact h2
theorem fn_enter {P : Program} {f : FuncId} {fn : Func} {c : Code} {vs : List Value} {w : World} {R : Ending → World → Prop} (n : Nat) (hf : P.funcs[f]? = some fn) (hb : fn.body = some c) (hn : fn.ntmps = n) (hle : Nat.ble vs.length n = true)
    (h : CW P n c (bodyPost P fn R) (zipN 0 vs) w) : Calls P f vs.toArray w R := by
  refine calls_of_wp hf hb (h.out _ ⟨?_, rfl, fun t v e => ?_⟩)
  · have : vs.length ≤ n := Nat.le_of_ble_eq_true hle
    simp [hn]; omega
  · obtain ⟨_, h2⟩ := look_zipN vs 0 t v e
    rw [Nat.sub_zero] at h2
    have hlt : t < vs.toArray.size := by simpa using (List.getElem?_eq_some_iff.1 h2).1
    show (vs.toArray ++ Array.replicate (fn.ntmps - vs.toArray.size) undef)[t]? = some v
    rw [Array.getElem?_append_left hlt]; simpa using h2
section
variable {P : Program} {n : Nat} {l : Fr} {w : World} {fn : Func} {R : Ending → World → Prop}
theorem Holds.slot {a : Act} (h : Holds n l a) {t : Nat} {v : Value} (e : look l t = some v) : a.tmps.getD t undef = v := by
  simp [h.2.2 t v e]
theorem qw_ret1 {t : Nat} {v : Value} (hr : fn.results = #[.tmp t]) (h1 : look l t = some v) (hR : R (.returned v) w) : QW n (bodyPost P fn R) .ret l w := ⟨fun _ ha => ⟨ha.2.1, v, by rw [results_tmp hr, ha.slot h1], hR⟩⟩
theorem qw_ret2 {t t2 : Nat} {v v2 : Value} (hr : fn.results = #[.tmp t, .tmp t2]) (h1 : look l t = some v) (h2 : look l t2 = some v2) (hR : R (.returned (.tuple #[v, v2])) w) : QW n (bodyPost P fn R) .ret l w := ⟨fun _ ha => ⟨ha.2.1, _, by rw [results_tmp2 hr, ha.slot h1, ha.slot h2], hR⟩⟩
theorem qw_ret0 (hr : fn.results = #[]) (hR : R (.returned (.tuple #[])) w) : QW n (bodyPost P fn R) .ret l w := ⟨fun _ ha => ⟨ha.2.1, _, results_none hr _ _ _, hR⟩⟩
theorem qw_end0 (hr : fn.results = #[]) (hR : R (.returned (.tuple #[])) w) : QW n (bodyPost P fn R) .normal l w := ⟨fun _ ha => ⟨ha.2.1, _, results_none hr _ _ _, hR⟩⟩
theorem qw_retv {v : Value} (h : ∀ a, Holds n l a → (results fn a.tmps).run P w = .ok v w) (hR : R (.returned v) w) : QW n (bodyPost P fn R) .ret l w := ⟨fun a ha => ⟨ha.2.1, v, h a ha, hR⟩⟩
theorem agg_ld {t m B o : Nat} {cs : List Value} (ht : aggB P t m = true) (hm : cs.length = m) (hc : ∀ i u, cs[i]? = some u → w.cell? ⟨B, o + i, none⟩ = some u) : (loadVar t ⟨B, o, none⟩).run P w = .ok (.agg cs.toArray) w := by
  obtain ⟨h1, h2⟩ := aggB_run ht w
  have h3 := run_loadCells_list (P := P) w ⟨B, o, none⟩ cs (fun j u hu => by rw [Addr.add_lit]; exact hc j u hu)
  rw [hm] at h3
  simp [loadVar, h1, h2, h3]
theorem qw_retc {t T B o : Nat} {v : Value} (hr : fn.results = #[.cell t T]) (h1 : look l t = some (.pointer (some ⟨B, o, none⟩))) (hl : (loadVar T ⟨B, o, none⟩).run P w = .ok v w) (hR : R (.returned v) w) : QW n (bodyPost P fn R) .ret l w :=
  qw_retv (fun a ha => by simp [results, hr, ha.2.2 _ _ h1, asAddr, hl]) hR
theorem qw_retct {t T B o t2 : Nat} {v v2 : Value} (hr : fn.results = #[.cell t T, .tmp t2]) (h1 : look l t = some (.pointer (some ⟨B, o, none⟩))) (h2 : look l t2 = some v2) (hl : (loadVar T ⟨B, o, none⟩).run P w = .ok v w) (hR : R (.returned (.tuple #[v, v2])) w) : QW n (bodyPost P fn R) .ret l w :=
  qw_retv (fun a ha => by simp [results, hr, ha.2.2 _ _ h1, ha.2.2 _ _ h2, asAddr, hl]) hR
end
/-! ### blocks that are known whole -/
def PT (w : World) (N : Nat) (T : TypeId) (cs : List Value) : Prop := w.heap[N]? = some (.cells cs.toArray T (0, 0))
section
variable {P : Program} {n : Nat} {l : Fr} {w w' : World} {N : Nat} {T : TypeId} {cs : List Value}
theorem PT.lt (h : PT w N T cs) : N < w.heap.size := (Array.getElem?_eq_some_iff.1 h).1
theorem PT.mono (h : PT w N T cs) (hb : Below w.heap.size w w') : PT w' N T cs := (hb.block N h.lt).trans h
theorem PT.cell (h : PT w N T cs) (i : Nat) : w.cell? ⟨N, i, none⟩ = cs[i]? := by
  rw [cell_of_row w N i cs.toArray T (0, 0) h]; simp
theorem PT.ld (h : PT w N T cs) {i : Nat} {v : Value} (hv : cs[i]? = some v) : w.cell? ⟨N, i, none⟩ = some v := (h.cell i).trans hv
theorem PT.ld0 (h : PT w N T cs) {i : Nat} {v : Value} (hv : cs[i]? = some v) : w.cell? ⟨N, 0 + i, none⟩ = some v := by rw [Nat.zero_add]; exact h.ld hv
theorem PT.new (w : World) (cs : Array Value) (T : TypeId) : PT (w.alloc (.cells cs T)) w.heap.size T cs.toList := heap_alloc_new w _
theorem PT.grown {row : Option Nat} (h : PT w N T cs) (hg : w.grownBy w' row) (hne : row ≠ some N) : PT w' N T cs := (hg.block N h.lt (fun e => hne e.symm)).trans h
theorem sv_store {d : Option Nat} {ty t : TypeId} {pos : String} {af : Array Edge} {g : Option (Nat × Bool)} {x y : Operand} {i : Nat} {v : Value} (hp : PT w N T cs) (ht : sizeB P t 1 = true) (hx : ev l x = some (.pointer (some ⟨N, i, none⟩))) (hy : ev l y = some v) (h1 : v.oneCell' = true) (hi : i < cs.length) :
    ∃ w', Sv P n l ⟨d, .store t x y, ty, pos, af, g⟩ w w' ∧ PT w' N T (cs.set i v) ∧ w.grownBy w' (some N) ∧ w'.heap.size = w.heap.size := by
  refine ⟨w.setCell ⟨N, i, none⟩ v, ⟨fun A hA => ?_⟩, ?_, ?_, by simp⟩
  · have hc := hp.cell i
    rw [List.getElem?_eq_getElem hi] at hc
    have hfz : w.frozen? ⟨N, i, none⟩ = false := by simp [World.frozen?, show w.heap[N]? = _ from hp]
    have hs : v.cells.size = 1 ∧ v.cells.toList = [v] := by cases v <;> first | (simp [Value.oneCell'] at h1; done) | exact ⟨rfl, rfl⟩
    have hst := run_store P w ⟨N, i, none⟩ v .plain h1
    rw [hc] at hst
    simp only [hfz, Bool.false_eq_true, if_false] at hst
    simp [execOp, hA.ev hx, hA.ev hy, Instr.storeAt, Instr.sureAddr, storeVar, sizeB_run ht, hs.1, hs.2, storeCells, Addr.add, hst]
  · unfold PT
    rw [setCell_eq_setRow w N i cs.toArray T (0, 0) _ hp]
    have := setRow_heap w N cs.toArray (cs.toArray.setIfInBounds i v) T (0, 0) hp
    simpa using this
  · rw [setCell_eq_setRow w N i cs.toArray T (0, 0) _ hp]
    exact ⟨rfl, rfl, rfl, by simp, fun q hq hne => setRow_other w N q _ (fun e => hne (by rw [e]))⟩
theorem sv_storea {d : Option Nat} {ty t : TypeId} {pos : String} {af : Array Edge} {g : Option (Nat × Bool)} {x y : Operand} {i k : Nat} {vs : List Value} (hp : PT w N T cs) (ht : sizeB P t k = true) (hx : ev l x = some (.pointer (some ⟨N, i, none⟩))) (hy : ev l y = some (.agg vs.toArray)) (hk : vs.length = k) (h1 : ∀ v ∈ vs, v.oneCell' = true) (hi : i + k ≤ cs.length) :
    ∃ w', Sv P n l ⟨d, .store t x y, ty, pos, af, g⟩ w w' ∧ PT w' N T (cs.take i ++ vs ++ cs.drop (i + k)) ∧ w.grownBy w' (some N) ∧ w'.heap.size = w.heap.size := by
  have hst := run_storeCells_at (P := P) N i T vs 0 cs.toArray w hp (by simp; omega) h1
  refine ⟨w.setRow N (cs.toArray.toList.take (i + 0) ++ vs ++ cs.toArray.toList.drop (i + 0 + vs.length)).toArray, ⟨fun A hA => ?_⟩, ?_, ?_, ?_⟩
  · simp [execOp, hA.ev hx, hA.ev hy, Instr.storeAt, Instr.sureAddr, storeVar, sizeB_run ht, Value.cells, hk]
    rw [hst]; simp [hk]
  · have := setRow_heap w N cs.toArray (cs.toArray.toList.take (i + 0) ++ vs ++ cs.toArray.toList.drop (i + 0 + vs.length)).toArray T (0, 0) hp
    unfold PT; rw [this]; simp [hk]
  · exact ⟨rfl, rfl, rfl, by simp, fun q hq hne => setRow_other w N q _ (fun e => hne (by rw [e]))⟩
  · simp
end
/-! ### steps that make or write memory, the world behind them a letter -/
theorem PT.lda {w : World} {N : Nat} {T : TypeId} {cs : List Value} (h : PT w N T cs) : ∀ i u, cs[i]? = some u → w.cell? ⟨N, 0 + i, none⟩ = some u := fun _ _ hu => h.ld0 hu
theorem dec_notT {p : Prop} [Decidable p] (h : ¬ p) : (!decide p) = true := by simp [h]
theorem dec_notF {p : Prop} [Decidable p] (h : p) : (!decide p) = false := by simp [h]
theorem dec_nT {p : Prop} [Decidable p] (h : (!decide p) = true) : ¬ p := by simpa using h
theorem dec_nF {p : Prop} [Decidable p] (h : (!decide p) = false) : p := by simpa using h
theorem below_drew (w : World) : Below w.heap.size w w.drew := (Below.refl _ _).drew
structure Ext (w0 w : World) : Prop where
  b : Below w0.heap.size w0 w
theorem Ext.mono {w0 w w' : World} (h : Ext w0 w) (hb : Below w.heap.size w w') : Ext w0 w' := ⟨grow_trans h.b hb⟩
theorem Ext.grown {w0 w w' : World} (h : Ext w0 w) {row : Option Nat} (hg : w.grownBy w' row) (hr : ∀ q, row = some q → w0.heap.size ≤ q) : Ext w0 w' := ⟨h.b.grown hg h.b.size hr⟩
theorem Ext.refl (w : World) : Ext w w := ⟨Below.refl _ _⟩
theorem Ext.le {w0 w : World} (h : Ext w0 w) : w0.heap.size ≤ w.heap.size := h.b.size
section
variable {α : Type} {enc : α → List Value} {k nb : Nat} {P : Program} {n : Nat} {l : Fr} {w : World} {Q : Exit → Act → World → Prop} {ops : Array Oper} {os : List Oper} {d : Nat} {ty : TypeId} {pos : String} {af : Array Edge} {x y : Operand} {v : Value} {t S T : TypeId}
theorem SlR.ld {b off cap : Nat} {xs : List α} (h : SlR enc k w (some ⟨b, off, none⟩) cap xs) {j : Nat} {u : α} (hx : xs[j]? = some u) {i : Nat} {v : Value} (hv : (enc u)[i]? = some v) : w.cell? ⟨b, off + j * k + i, none⟩ = some v := (h.ofSome _ rfl (by have := h.le; have := (List.getElem?_eq_some_iff.1 hx).1; omega)).2.2 j u hx i v hv
theorem SlR.lda {b off cap : Nat} {xs : List α} (h : SlR enc k w (some ⟨b, off, none⟩) cap xs) {j : Nat} {u : α} (hx : xs[j]? = some u) : ∀ i v, (enc u)[i]? = some v → w.cell? ⟨b, off + j * k + i, none⟩ = some v := fun _ _ hv => h.ld hx hv
theorem SlR.ld1 {b off cap : Nat} {xs : List α} (h : SlR enc 1 w (some ⟨b, off, none⟩) cap xs) {j : Nat} {u : α} (hx : xs[j]? = some u) {v : Value} (hv : (enc u)[0]? = some v) : w.cell? ⟨b, off + j * 1, none⟩ = some v := h.ld hx hv
theorem PT.slR (hk : ∀ x, (enc x).length = k) {B : Nat} {xs : List α} (h : PT w B T (xs.flatMap enc)) {m : Nat} (hm : m = xs.length) (hmx : m ≤ 9223372036854775807) : SlR enc k w (some ⟨B, 0, none⟩) m xs := by
  refine ⟨by omega, hmx, (fun h => by cases h), fun ad had _ => ?_⟩
  cases had
  refine ⟨rfl, h.lt, fun j x hx i v hv => ?_⟩
  simp only [Nat.zero_add]
  exact h.ld (Go.Proofs.YtekomjnjddhfmaaGreat.flat_get enc k hk xs j x i v hx hv)
theorem lw_box (hd : Nat.blt d n = true) (hx : ev l x = some v) (h : ∀ w', PT w' w.heap.size t v.cells.toList → Below w.heap.size w w' → w'.heap.size = w.heap.size + 1 → LW P n ops Q os ((d, .pointer (some ⟨w.heap.size, 0, none⟩)) :: l) w') :
    LW P n ops Q (⟨some d, .box t x, ty, pos, af, none⟩ :: os) l w := lw_eff hd (ev_box hx) (h _ (PT.new w _ _) (below_alloc _ _) (by simp))
theorem lw_alloc {z : Value} (hd : Nat.blt d n = true) (hz : ∀ w, (zeroValue t).run P w = .ok z w) (h : ∀ w', PT w' w.heap.size t z.cells.toList → Below w.heap.size w w' → w'.heap.size = w.heap.size + 1 → LW P n ops Q os ((d, .pointer (some ⟨w.heap.size, 0, none⟩)) :: l) w') :
    LW P n ops Q (⟨some d, .alloc t, ty, pos, af, none⟩ :: os) l w := lw_eff hd (ev_alloc hz) (h _ (PT.new w _ _) (below_alloc _ _) (by simp))
theorem lw_store {N i : Nat} {cs : List Value} (hp : PT w N T cs) (ht : sizeB P t 1 = true) (hx : ev l x = some (.pointer (some ⟨N, i, none⟩))) (hy : ev l y = some v) (h1 : v.oneCell' = true) (hi : i < cs.length) (h : ∀ w', PT w' N T (cs.set i v) → w.grownBy w' (some N) → w'.heap.size = w.heap.size → LW P n ops Q os l w') :
    LW P n ops Q (⟨none, .store t x y, ty, pos, af, none⟩ :: os) l w := by
  obtain ⟨w', a, b, c, e⟩ := sv_store (d := none) (ty := ty) (pos := pos) (af := af) (g := none) (P := P) (n := n) hp ht hx hy h1 hi
  exact lw_skip a (h w' b c e)
theorem lw_storea {N m : Nat} {cs vs : List Value} (hp : PT w N T cs) (ht : sizeB P t m = true) (hx : ev l x = some (.pointer (some ⟨N, 0, none⟩))) (hy : ev l y = some (.agg vs.toArray)) (hm : vs.length = m) (hc : cs.length = m) (h1 : ∀ v ∈ vs, v.oneCell' = true) (h : ∀ w', PT w' N T vs → w.grownBy w' (some N) → w'.heap.size = w.heap.size → LW P n ops Q os l w') :
    LW P n ops Q (⟨none, .store t x y, ty, pos, af, none⟩ :: os) l w := by
  obtain ⟨w', a, b, c, e⟩ := sv_storea (d := none) (ty := ty) (pos := pos) (af := af) (g := none) (P := P) (n := n) (i := 0) hp ht hx hy hm h1 (by omega)
  refine lw_skip a (h w' ?_ c e)
  have e1 : cs.take 0 ++ vs ++ cs.drop (0 + m) = vs := by rw [List.drop_of_length_le (by omega)]; simp
  rwa [e1] at b
theorem lw_var {m : Nat} {vs : List Value} {z : Value} {ty2 : TypeId} {pos2 : String} {af2 : Array Edge} (hd : Nat.blt d n = true) (hz : ∀ w, (zeroValue t).run P w = .ok z w) (hzc : z.cells.size = m) (ht : sizeB P t m = true) (hy : ev ((d, .pointer (some ⟨w.heap.size, 0, none⟩)) :: l) y = some (.agg vs.toArray)) (hm : vs.length = m) (h1 : vs.all (·.oneCell') = true)
    (h : ∀ w', PT w' w.heap.size t vs → Below w.heap.size w w' → w'.heap.size = w.heap.size + 1 → LW P n ops Q os ((d, .pointer (some ⟨w.heap.size, 0, none⟩)) :: l) w') :
    LW P n ops Q (⟨some d, .alloc t, ty, pos, af, none⟩ :: ⟨none, .store t (.tmp d) y, ty2, pos2, af2, none⟩ :: os) l w := by
  refine lw_alloc hd hz fun w1 hp hb hs => ?_
  refine lw_storea hp ht (by simp [ev, look]) hy hm (by simpa using hzc) (fun v hv => List.all_eq_true.1 h1 v hv) fun w2 hp2 hg hs2 => ?_
  exact h w2 hp2 (hb.grown hg (by omega) (by intro q hq; injection hq with hq; omega)) (by omega)
theorem lw_varN {m : Nat} {vs : List Value} {z : Value} {ty2 : TypeId} {pos2 : String} {af2 : Array Edge} (hd : Nat.blt d n = true) (hz : ∀ w, (zeroValue t).run P w = .ok z w) (hzc : z.cells.size = m) (ht : sizeB P t m = true) (hy : ∀ p, ev ((d, p) :: l) y = some (.agg vs.toArray)) (hm : vs.length = m) (h1 : vs.all (·.oneCell') = true)
    (h : ∀ N w', w.heap.size ≤ N → PT w' N t vs → Below w.heap.size w w' → LW P n ops Q os ((d, .pointer (some ⟨N, 0, none⟩)) :: l) w') :
    LW P n ops Q (⟨some d, .alloc t, ty, pos, af, none⟩ :: ⟨none, .store t (.tmp d) y, ty2, pos2, af2, none⟩ :: os) l w :=
  lw_var hd hz hzc ht (hy _) hm h1 fun w' hp hb _ => h _ w' (Nat.le_refl _) hp hb
theorem lw_boxN (hd : Nat.blt d n = true) (hx : ev l x = some v) {cs : List Value} (hcs : v.cells.toList = cs) (h : ∀ N w', w.heap.size ≤ N → PT w' N t cs → Below w.heap.size w w' → LW P n ops Q os ((d, .pointer (some ⟨N, 0, none⟩)) :: l) w') :
    LW P n ops Q (⟨some d, .box t x, ty, pos, af, none⟩ :: os) l w := lw_box hd hx fun w' hp hb _ => h _ w' (Nat.le_refl _) (hcs ▸ hp) hb
theorem run_bs (E : ElemT P S T k nb) {m : Nat} (vs : List Value) (hm : vs.length = m) (h1 : ∀ v ∈ vs, v.cells.size = k) (hs : m * k ≤ 16777216) (hp : 0 < m) (w : World) : (Instr.buildSlice S m ((vs.zipIdx 0).map fun x => (x.2, x.1)).toArray).run P w = .ok (.slice (some ⟨w.heap.size, 0, none⟩) m m) (w.alloc (.cells (vs.flatMap fun v => v.cells.toList).toArray T)) := by
  obtain ⟨i, z, hi, hz, hsz, _, hzs⟩ := E.info
  refine run_buildSlice w S T m _ _ i z E.sl hi hz (by rw [hsz]; omega) (by rw [hsz]; have := Nat.mul_pos hp E.pos; omega) ?_
  rw [hsz]
  exact Great.fill_whole E.pos vs _ h1 (by simp [hm])
theorem lw_bs (E : ElemT P S T k nb) {m : Nat} {ps : List (Nat × Operand)} {vs cs : List Value} (hd : Nat.blt d n = true) (hps : ps.map (·.1) = List.range m) (hvs : evs l (ps.map (·.2)) = some vs) (hp : 0 < m) (hs : m * k ≤ 16777216) (hcs : (vs.flatMap fun v => v.cells.toList) = cs) (h1 : ∀ v ∈ vs, v.cells.size = k)
    (h : ∀ w', PT w' w.heap.size T cs → Below w.heap.size w w' → w'.heap.size = w.heap.size + 1 → LW P n ops Q os ((d, .slice (some ⟨w.heap.size, 0, none⟩) m m) :: l) w') :
    LW P n ops Q (⟨some d, .buildSlice S m ps.toArray, ty, pos, af, none⟩ :: os) l w := by
  subst hcs
  have hlen : vs.length = m := by
    have h2 : ∀ (xs : List Operand) (us : List Value), evs l xs = some us → us.length = xs.length := by
      intro xs
      induction xs with
      | nil => intro us e; simp only [evs, Option.some.injEq] at e; subst e; rfl
      | cons x r ih =>
        intro us e
        simp only [evs] at e
        cases hx : ev l x with
        | none => rw [hx] at e; cases e
        | some a =>
          cases hr : evs l r with
          | none => rw [hx, hr] at e; cases e
          | some b => rw [hx, hr] at e; simp only [Option.some.injEq] at e; subst e; simp [ih b hr]
    rw [h2 _ _ hvs, List.length_map, ← List.length_map (f := (·.1)), hps, List.length_range]
  have e : (List.range m).zip vs = (vs.zipIdx 0).map fun x => (x.2, x.1) := by
    refine List.ext_getElem? fun i => ?_
    rw [List.getElem?_map, List.getElem?_zipIdx]
    by_cases hi : i < m
    · rw [List.getElem?_eq_getElem (by simp; omega), List.getElem_zip, List.getElem?_eq_getElem (by omega)]; simp
    · rw [List.getElem?_eq_none (by simp; omega), List.getElem?_eq_none (by omega)]; rfl
  refine lw_eff hd (ev_buildSlice hps hvs (e := T) (cells := (vs.flatMap fun v => v.cells.toList).toArray) (fun w => ?_)) (h _ (by simpa using PT.new w (vs.flatMap fun v => v.cells.toList).toArray T) (below_alloc _ _) (by simp))
  rw [e]; exact run_bs E vs hlen h1 hs hp w
theorem lw_bs1 (E : ElemT P S T k nb) (hd : Nat.blt d n = true) (hx : ev l x = some v) {cs : List Value} (hcs : v.cells.toList = cs) (hk : cs.length = k) (hs : k ≤ 16777216)
    (h : ∀ w', PT w' w.heap.size T cs → Below w.heap.size w w' → w'.heap.size = w.heap.size + 1 → LW P n ops Q os ((d, .slice (some ⟨w.heap.size, 0, none⟩) 1 1) :: l) w') :
    LW P n ops Q (⟨some d, .buildSlice S 1 #[(0, x)], ty, pos, af, none⟩ :: os) l w :=
  lw_bs (ps := [(0, x)]) (vs := [v]) E hd rfl (by simp [evs, hx]) (by omega) (by omega) (by simpa using hcs) (by intro u hu; rw [List.mem_singleton] at hu; subst hu; rw [← hk, ← hcs]; simp) h
theorem lw_app (E : ElemT P S T k nb) (hk : ∀ x, (enc x).length = k) (h1c : ∀ x, ∀ v ∈ enc x, v.oneCell' = true) {base : Nat} {xs ys : List α} {a : Option Addr} {m c : Nat} (hd : Nat.blt d n = true) (hx : ev l x = some v) (hy : ev l y = some (.slice a m c)) (ho : Own enc k T base w v xs) (hs : SlR enc k w a c ys) (hm : m = ys.length) (hb : base ≤ w.heap.size)
    (hsz : (xs.length + ys.length) * nb ≤ 140737488355328) (hmx : xs.length + ys.length ≤ maxLen) (h : ∀ v' w', Own enc k T base w' v' (xs ++ ys) → w.grownBy w' v.ownBlock → Below base w w' → LW P n ops Q os ((d, v') :: l) w') :
    LW P n ops Q (⟨some d, .call ⟨.builtin .append, #[x, y], #[S, S]⟩, ty, pos, af, none⟩ :: os) l w := by
  subst hm
  refine lw_some (Φ := fun v' w' => Own enc k T base w' v' (xs ++ ys) ∧ w.grownBy w' v.ownBlock) hd (some_append hx hy (app_own E hk h1c ty ho hs hb hsz hmx)) fun v' w' hp => h v' w' hp.1 hp.2 ?_
  exact (Below.refl _ _).grown hp.2 hb (fun q hq => (Own.lt ho q hq).1)
end
section
variable {α β : Type} {enc : α → List Value} {k nb : Nat} {P : Program} {n : Nat} {l : Fr} {w : World} {Q : Exit → Act → World → Prop} {ops : Array Oper} {os : List Oper} {d : Nat} {ty : TypeId} {pos : String} {af : Array Edge} {S T : TypeId}
theorem Own.empty0 {α : Type} (enc : α → List Value) (k : Nat) (T : TypeId) (w : World) (base : Nat) (hb : base ≤ w.heap.size) : Own enc k T base (w.alloc (.cells #[] T)) (.slice (some ⟨w.heap.size, 0, none⟩) 0 0) ([] : List α) :=
  ⟨by simp, Or.inr ⟨w.heap.size, 0, #[], rfl, hb, heap_alloc_new w _, Nat.le_refl _, by simp, by simp, by simp⟩⟩
theorem lw_bs0 (E : ElemT P S T k nb) (hd : Nat.blt d n = true) (h : ∀ w', Own enc k T w.heap.size w' (.slice (some ⟨w.heap.size, 0, none⟩) 0 0) ([] : List α) → Below w.heap.size w w' → w'.heap.size = w.heap.size + 1 → LW P n ops Q os ((d, .slice (some ⟨w.heap.size, 0, none⟩) 0 0) :: l) w') :
    LW P n ops Q (⟨some d, .buildSlice S 0 #[], ty, pos, af, none⟩ :: os) l w := by
  obtain ⟨i, z, hi, hz, hsz, _, hzs⟩ := E.info
  refine lw_eff hd (w' := w.alloc (.cells #[] T)) ⟨fun A hA => ?_⟩ (h _ ?_ (below_alloc _ _) (by simp))
  · have e0 : Array.range 0 = #[] := Array.eq_empty_of_size_eq_zero (by simp)
    simp [execOp, Instr.buildSlice, run_underlying E.sl, sizeOf, typeInfo, hi, Instr.fill, newRow, e0]
  · exact Own.empty0 enc k T w _ (Nat.le_refl _)
end
theorem st_hw {W w w' : World} {N : Nat} (hw : Below W.heap.size W w) (hg : w.grownBy w' (some N)) (hN : W.heap.size ≤ N) : Below W.heap.size W w' := hw.grown hg hw.size (by intro q hq; injection hq with hq; omega)
section
variable {k nb : Nat} {P : Program} {n : Nat} {l : Fr} {w : World} {d : Option Nat} {ty : TypeId} {pos : String} {af : Array Edge} {g : Option (Nat × Bool)} {S T : TypeId} {Z : Value → World → Prop}
theorem act_bs (E : ElemT P S T k nb) {m : Nat} {ps : List (Nat × Operand)} {vs cs : List Value} (hps : ps.map (·.1) = List.range m) (hvs : evs l (ps.map (·.2)) = some vs) (hp : 0 < m) (hs : m * k ≤ 16777216) (hcs : (vs.flatMap fun v => v.cells.toList) = cs) (h1 : ∀ v ∈ vs, v.cells.size = k)
    (h : ∀ w', PT w' w.heap.size T cs → Below w.heap.size w w' → Z (.slice (some ⟨w.heap.size, 0, none⟩) m m) w') : Act1 P n l ⟨d, .buildSlice S m ps.toArray, ty, pos, af, g⟩ w Z := by
  subst hcs
  have hlen : vs.length = m := by
    have h2 : ∀ (xs : List Operand) (us : List Value), evs l xs = some us → us.length = xs.length := by
      intro xs
      induction xs with
      | nil => intro us e; simp only [evs, Option.some.injEq] at e; subst e; rfl
      | cons x r ih =>
        intro us e
        simp only [evs] at e
        cases hx : ev l x with
        | none => rw [hx] at e; cases e
        | some a =>
          cases hr : evs l r with
          | none => rw [hx, hr] at e; cases e
          | some b => rw [hx, hr] at e; simp only [Option.some.injEq] at e; subst e; simp [ih b hr]
    rw [h2 _ _ hvs, List.length_map, ← List.length_map (f := (·.1)), hps, List.length_range]
  have e : (List.range m).zip vs = (vs.zipIdx 0).map fun x => (x.2, x.1) := by
    refine List.ext_getElem? fun i => ?_
    rw [List.getElem?_map, List.getElem?_zipIdx]
    by_cases hi : i < m
    · rw [List.getElem?_eq_getElem (by simp; omega), List.getElem_zip, List.getElem?_eq_getElem (by omega)]; simp
    · rw [List.getElem?_eq_none (by simp; omega), List.getElem?_eq_none (by omega)]; rfl
  refine act_ev (ev_buildSlice hps hvs (e := T) (cells := (vs.flatMap fun v => v.cells.toList).toArray) (fun w => ?_)) (h _ (by simpa using PT.new w (vs.flatMap fun v => v.cells.toList).toArray T) (below_alloc _ _))
  rw [e]; exact run_bs E vs hlen h1 hs hp w
end
section
variable {P : Program} {n : Nat} {l : Fr} {w : World} {Q : Exit → Act → World → Prop} {ops : Array Oper} {S : World → Prop} {fuel : Nat} {listed : Array Bool} {os : List Oper}
theorem at0 (i : Nat) {d : Nat} {op : Op} {ty : TypeId} {pos : String} {af : Array Edge} {v : Value} (ho : ops[i]? = some ⟨some d, op, ty, pos, af, none⟩) (hv : ∀ w, S w → Pv P n l ⟨some d, op, ty, pos, af, none⟩ v w) (h : AW P n ops Q S fuel (listed.setIfInBounds i true) ((d, v) :: l) w) (hs : Region.noSelect ops = true := by kernel_rfl) (hf : Region.free .any ops listed i = true := by kernel_rfl) (hr : (Region.ready .any ops listed).contains i = true := by kernel_rfl) (hQ : NoPanic Q := by assumption) (hS : S w := by assumption) (hd : Nat.blt d n = true := by rfl) : AW P n ops Q S (fuel + 1) listed l w := aw_take i ho hs hf hr hQ hS hd hv h
theorem at1 (i : Nat) {d : Nat} {op : Op} {ty : TypeId} {pos : String} {af : Array Edge} {v : Value} {g t : Nat} {b c : Bool} (ho : ops[i]? = some ⟨some d, op, ty, pos, af, some (g, b)⟩) (hg : (ops[g]?).bind (·.dst) = some t) (ht : look l t = some (.bool c)) (hc : c = b) (hv : ∀ w, S w → Pv P n l ⟨some d, op, ty, pos, af, some (g, b)⟩ v w) (h : AW P n ops Q S fuel (listed.setIfInBounds i true) ((d, v) :: l) w) (hs : Region.noSelect ops = true := by kernel_rfl) (hf : Region.free .any ops listed i = true := by kernel_rfl) (hr : (Region.ready .any ops listed).contains i = true := by kernel_rfl) (hQ : NoPanic Q := by assumption) (hS : S w := by assumption) (hd : Nat.blt d n = true := by rfl) : AW P n ops Q S (fuel + 1) listed l w := aw_take_on i ho hg ht hc hs hf hr hQ hS hd hv h
theorem at2 (i : Nat) {d : Nat} {op : Op} {ty : TypeId} {pos : String} {af : Array Edge} {v : Value} {g t : Nat} {b c : Bool} (ho : ops[i]? = some ⟨some d, op, ty, pos, af, some (g, b)⟩) (hg : (ops[g]?).bind (·.dst) = some t) (ht : look l t = some (.bool c)) (hv : ∀ w, S w → Pv P n l ⟨some d, op, ty, pos, af, some (g, b)⟩ v w) (h : AW P n ops Q S fuel (listed.setIfInBounds i true) ((d, v) :: l) w) (hc : c = b := by first | assumption | exact decide_eq_true (by omega) | exact decide_eq_false (by omega) | exact dec_notT (by omega) | exact dec_notF (by omega)) (hs : Region.noSelect ops = true := by kernel_rfl) (hf : Region.free .any ops listed i = true := by kernel_rfl) (hr : (Region.ready .any ops listed).contains i = true := by kernel_rfl) (hQ : NoPanic Q := by assumption) (hS : S w := by assumption) (hd : Nat.blt d n = true := by rfl) : AW P n ops Q S (fuel + 1) listed l w := aw_take_on i ho hg ht hc hs hf hr hQ hS hd hv h
theorem an1 (i : Nat) {d : Nat} {op : Op} {ty : TypeId} {pos : String} {af : Array Edge} {g t : Nat} {b c : Bool} (ho : ops[i]? = some ⟨some d, op, ty, pos, af, some (g, b)⟩) (hg : (ops[g]?).bind (·.dst) = some t) (ht : look l t = some (.bool c)) (hc : c = !b) (h : AW P n ops Q S fuel (listed.setIfInBounds i true) ((d, undef) :: l) w) (hs : Region.noSelect ops = true := by kernel_rfl) (hf : Region.free .any ops listed i = true := by kernel_rfl) (hr : (Region.ready .any ops listed).contains i = true := by kernel_rfl) (hQ : NoPanic Q := by assumption) (hS : S w := by assumption) (hd : Nat.blt d n = true := by rfl) : AW P n ops Q S (fuel + 1) listed l w := aw_not i ho hg ht hc hs hf hr hQ hS hd h
theorem an2 (i : Nat) {d : Nat} {op : Op} {ty : TypeId} {pos : String} {af : Array Edge} {g t : Nat} {b c : Bool} (ho : ops[i]? = some ⟨some d, op, ty, pos, af, some (g, b)⟩) (hg : (ops[g]?).bind (·.dst) = some t) (ht : look l t = some (.bool c)) (h : AW P n ops Q S fuel (listed.setIfInBounds i true) ((d, undef) :: l) w) (hc : c = !b := by first | assumption | exact decide_eq_true (by omega) | exact decide_eq_false (by omega) | exact dec_notT (by omega) | exact dec_notF (by omega)) (hs : Region.noSelect ops = true := by kernel_rfl) (hf : Region.free .any ops listed i = true := by kernel_rfl) (hr : (Region.ready .any ops listed).contains i = true := by kernel_rfl) (hQ : NoPanic Q := by assumption) (hS : S w := by assumption) (hd : Nat.blt d n = true := by rfl) : AW P n ops Q S (fuel + 1) listed l w := aw_not i ho hg ht hc hs hf hr hQ hS hd h
theorem an3 (i : Nat) {d : Nat} {op : Op} {ty : TypeId} {pos : String} {af : Array Edge} {g t : Nat} {b c : Bool} (ho : ops[i]? = some ⟨some d, op, ty, pos, af, some (g, b)⟩) (hg : (ops[g]?).bind (·.dst) = some t) (ht : look l t = some (.bool c)) (h : AW P n ops Q S fuel (listed.setIfInBounds i true) ((d, undef) :: l) w) (hc : c = !b := by first | rfl | assumption | exact decide_eq_true (by omega) | exact decide_eq_false (by omega) | exact dec_notT (by omega) | exact dec_notF (by omega)) (hs : Region.noSelect ops = true := by kernel_rfl) (hf : Region.free .any ops listed i = true := by kernel_rfl) (hr : (Region.ready .any ops listed).contains i = true := by kernel_rfl) (hQ : NoPanic Q := by assumption) (hS : S w := by assumption) (hd : Nat.blt d n = true := by rfl) : AW P n ops Q S (fuel + 1) listed l w := aw_not i ho hg ht hc hs hf hr hQ hS hd h
theorem an0 (i : Nat) {d : Nat} {op : Op} {ty : TypeId} {pos : String} {af : Array Edge} {g t : Nat} {b : Bool} (ho : ops[i]? = some ⟨some d, op, ty, pos, af, some (g, b)⟩) (hg : (ops[g]?).bind (·.dst) = some t) (ht : look l t = some undef) (h : AW P n ops Q S fuel (listed.setIfInBounds i true) ((d, undef) :: l) w) (hs : Region.noSelect ops = true := by kernel_rfl) (hf : Region.free .any ops listed i = true := by kernel_rfl) (hr : (Region.ready .any ops listed).contains i = true := by kernel_rfl) (hQ : NoPanic Q := by assumption) (hS : S w := by assumption) (hd : Nat.blt d n = true := by rfl) : AW P n ops Q S (fuel + 1) listed l w := aw_not_u i ho hg ht hs hf hr hQ hS hd h
end
end Go.Proofs.YtekomjnjddhfmaaGreat
namespace Go.Proofs.YtekomjnjddhfmaaGreat
def tab1 : List Nat := [2, 3, 4, 5, 9, 20, 21, 24, 25, 26, 27, 28, 32, 35, 42, 56, 64, 71, 106, 124, 125, 126, 129, 137, 145, 150, 165, 173, 180, 182, 190, 194, 198, 212]
theorem t1 {t : Nat} (e : lkm tab1 t = true) : oneB Tryz.prog t = true := lkm_all (p := fun t => oneB Tryz.prog t) (by kernel_rfl) e
def tabStr : List Nat := [9]
theorem tStr {t : Nat} (e : lkm tabStr t = true) : isT Tryz.prog t (fun x => x matches .string) = true := lkm_all (p := fun t => isT Tryz.prog t (fun x => x matches .string)) (by kernel_rfl) e
def tabBo : List Nat := [4]
theorem tBo {t : Nat} (e : lkm tabBo t = true) : isT Tryz.prog t (fun x => x matches .bool) = true := lkm_all (p := fun t => isT Tryz.prog t (fun x => x matches .bool)) (by kernel_rfl) e
def tabK : List (Nat × IntKind) := [(2, .i64), (3, .i64), (5, .u8), (21, .i32), (56, .u64), (64, .i64), (106, .u64), (173, .i64), (180, .u32), (190, .u64)]
theorem tK {t : Nat} {k : IntKind} (e : lkk tabK t = some k) : isKB Tryz.prog t k = true := lkk_all (p := fun t k => isKB Tryz.prog t k) (by kernel_rfl) e
theorem tCv {s d : Nat} {k k' : IntKind} (e : lkk tabK s = some k') (e2 : lkk tabK d = some k) : cvB Tryz.prog s d k = true := cvB_mk (tK e) (tK e2)
def tabS : List (Nat × Nat) := [(24, 2), (25, 3), (26, 4), (27, 6), (28, 9), (32, 1), (35, 1), (42, 2), (71, 2), (124, 4), (129, 1), (150, 4), (182, 1)]
theorem tS {t k : Nat} (e : lk1 tabS t = some k) : slB Tryz.prog t k = true := lk1_all (p := fun t k => slB Tryz.prog t k) (by kernel_rfl) e
def tabA : List (Nat × Nat) := [(29, 9), (30, 9), (33, 2), (34, 2), (36, 3), (37, 3), (38, 4), (39, 4), (40, 6), (41, 6), (43, 9), (44, 9), (45, 2), (46, 2), (73, 2), (74, 2), (80, 2), (81, 2), (107, 2), (108, 2), (123, 4), (146, 2), (147, 2), (148, 4), (149, 4), (161, 17)]
theorem tA {t k : Nat} (e : lk1 tabA t = some k) : aggB Tryz.prog t k = true := lk1_all (p := fun t k => aggB Tryz.prog t k) (by kernel_rfl) e
def tabZ : List (Nat × Nat) := [(29, 9), (30, 9), (33, 2), (34, 2), (36, 3), (37, 3), (38, 4), (39, 4), (40, 6), (41, 6), (43, 9), (44, 9), (45, 2), (46, 2), (73, 2), (74, 2), (80, 2), (81, 2), (107, 2), (108, 2), (123, 4), (146, 2), (147, 2), (148, 4), (149, 4), (161, 17), (2, 1), (3, 1), (4, 1), (5, 1), (9, 1), (20, 1), (21, 1), (24, 1), (25, 1), (26, 1), (27, 1), (28, 1), (32, 1), (35, 1), (42, 1), (56, 1), (64, 1), (71, 1), (106, 1), (124, 1), (125, 1), (126, 1), (129, 1), (137, 1), (145, 1), (150, 1), (165, 1), (173, 1), (180, 1), (182, 1), (190, 1), (194, 1), (198, 1), (212, 1)]
theorem tZ {t k : Nat} (e : lk1 tabZ t = some k) : sizeB Tryz.prog t k = true := lk1_all (p := fun t k => sizeB Tryz.prog t k) (by kernel_rfl) e
def tabF : List (Nat × Nat × Nat) := [(29, 0, 0), (29, 1, 1), (29, 2, 2), (29, 3, 3), (29, 4, 4), (29, 5, 5), (29, 6, 6), (29, 7, 7), (29, 8, 8), (30, 0, 0), (30, 1, 1), (30, 2, 2), (30, 3, 3), (30, 4, 4), (30, 5, 5), (30, 6, 6), (30, 7, 7), (30, 8, 8), (33, 0, 0), (33, 1, 1), (34, 0, 0), (34, 1, 1), (36, 0, 0), (36, 1, 1), (36, 2, 2), (37, 0, 0), (37, 1, 1), (37, 2, 2), (38, 0, 0), (38, 1, 1), (38, 2, 2), (38, 3, 3), (39, 0, 0), (39, 1, 1), (39, 2, 2), (39, 3, 3), (40, 0, 0), (40, 1, 1), (40, 2, 2), (40, 3, 3), (40, 4, 4), (40, 5, 5), (41, 0, 0), (41, 1, 1), (41, 2, 2), (41, 3, 3), (41, 4, 4), (41, 5, 5), (43, 0, 0), (43, 1, 1), (43, 2, 2), (43, 3, 3), (43, 4, 4), (43, 5, 5), (43, 6, 6), (43, 7, 7), (43, 8, 8), (44, 0, 0), (44, 1, 1), (44, 2, 2), (44, 3, 3), (44, 4, 4), (44, 5, 5), (44, 6, 6), (44, 7, 7), (44, 8, 8), (45, 0, 0), (45, 1, 1), (46, 0, 0), (46, 1, 1), (73, 0, 0), (73, 1, 1), (74, 0, 0), (74, 1, 1), (80, 0, 0), (80, 1, 1), (81, 0, 0), (81, 1, 1), (107, 0, 0), (107, 1, 1), (108, 0, 0), (108, 1, 1), (123, 0, 0), (123, 1, 1), (123, 2, 2), (123, 3, 3), (146, 0, 0), (146, 1, 1), (147, 0, 0), (147, 1, 1), (148, 0, 0), (148, 1, 2), (148, 2, 3), (149, 0, 0), (149, 1, 2), (149, 2, 3)]
theorem tF {s f o : Nat} (e : lk2 tabF s f = some o) : faB Tryz.prog s f o = true := lk2_all (p := fun s f o => faB Tryz.prog s f o) (by kernel_rfl) e
def tabD : List (Nat × Nat × Nat) := [(29, 0, 0), (29, 1, 1), (29, 2, 2), (29, 3, 3), (29, 4, 4), (29, 5, 5), (29, 6, 6), (29, 7, 7), (29, 8, 8), (30, 0, 0), (30, 1, 1), (30, 2, 2), (30, 3, 3), (30, 4, 4), (30, 5, 5), (30, 6, 6), (30, 7, 7), (30, 8, 8), (33, 0, 0), (33, 1, 1), (34, 0, 0), (34, 1, 1), (36, 0, 0), (36, 1, 1), (36, 2, 2), (37, 0, 0), (37, 1, 1), (37, 2, 2), (38, 0, 0), (38, 1, 1), (38, 2, 2), (38, 3, 3), (39, 0, 0), (39, 1, 1), (39, 2, 2), (39, 3, 3), (40, 0, 0), (40, 1, 1), (40, 2, 2), (40, 3, 3), (40, 4, 4), (40, 5, 5), (41, 0, 0), (41, 1, 1), (41, 2, 2), (41, 3, 3), (41, 4, 4), (41, 5, 5), (43, 0, 0), (43, 1, 1), (43, 2, 2), (43, 3, 3), (43, 4, 4), (43, 5, 5), (43, 6, 6), (43, 7, 7), (43, 8, 8), (44, 0, 0), (44, 1, 1), (44, 2, 2), (44, 3, 3), (44, 4, 4), (44, 5, 5), (44, 6, 6), (44, 7, 7), (44, 8, 8), (45, 0, 0), (45, 1, 1), (46, 0, 0), (46, 1, 1), (73, 0, 0), (73, 1, 1), (74, 0, 0), (74, 1, 1), (80, 0, 0), (80, 1, 1), (81, 0, 0), (81, 1, 1), (107, 0, 0), (107, 1, 1), (108, 0, 0), (108, 1, 1), (123, 0, 0), (123, 1, 1), (123, 2, 2), (123, 3, 3), (146, 0, 0), (146, 1, 1), (147, 0, 0), (147, 1, 1), (148, 1, 2), (148, 2, 3), (149, 1, 2), (149, 2, 3)]
def tabG : List (Nat × Nat × Nat × Nat) := [(148, 0, 0, 2), (149, 0, 0, 2)]
theorem tyv_29 (w : World) : (zeroValue 29).run Tryz.prog w = .ok (.agg #[.int .i64 0, .int .i64 0, .int .i64 0, .int .i64 0, .slice none 0 0, .slice none 0 0, .slice none 0 0, .slice none 0 0, .slice none 0 0]) w := by kernel_rfl
theorem tyb_30 (ps : List (Nat × Value)) : Tryz.prog.built 30 ps = Instr.fill (fun i => (List.toArray [(0, 1), (1, 1), (2, 1), (3, 1), (4, 1), (5, 1), (6, 1), (7, 1), (8, 1)])[i]?) (List.toArray [.int .i64 0, .int .i64 0, .int .i64 0, .int .i64 0, .slice none 0 0, .slice none 0 0, .slice none 0 0, .slice none 0 0, .slice none 0 0]) ps := by kernel_rfl
theorem tyB_30 {n : Nat} {l : Fr} {w : World} {d : Option Nat} {ty : TypeId} {pos : String} {af : Array Edge} {g : Option (Nat × Bool)} {ps : List (Nat × Operand)} {is : List Nat} {vs : List Value} {c0 c1 c2 c3 c4 c5 c6 c7 c8 : Value} (h1 : ps.map (·.1) = is) (h2 : evs l (ps.map (·.2)) = some vs) (h : fillL [(0, 1), (1, 1), (2, 1), (3, 1), (4, 1), (5, 1), (6, 1), (7, 1), (8, 1)] [.int .i64 0, .int .i64 0, .int .i64 0, .int .i64 0, .slice none 0 0, .slice none 0 0, .slice none 0 0, .slice none 0 0, .slice none 0 0] (is.zip vs) = some [c0, c1, c2, c3, c4, c5, c6, c7, c8]) : Pv Tryz.prog n l ⟨d, .build 30 ps.toArray, ty, pos, af, g⟩ (.agg #[c0, c1, c2, c3, c4, c5, c6, c7, c8]) w := pv_build h1 h2 tyb_30 h
theorem tyv_30 (w : World) : (zeroValue 30).run Tryz.prog w = .ok (.agg #[.int .i64 0, .int .i64 0, .int .i64 0, .int .i64 0, .slice none 0 0, .slice none 0 0, .slice none 0 0, .slice none 0 0, .slice none 0 0]) w := by kernel_rfl
theorem tyv_33 (w : World) : (zeroValue 33).run Tryz.prog w = .ok (.agg #[.string ByteArray.empty, .bool false]) w := by kernel_rfl
theorem tyb_34 (ps : List (Nat × Value)) : Tryz.prog.built 34 ps = Instr.fill (fun i => (List.toArray [(0, 1), (1, 1)])[i]?) (List.toArray [.string ByteArray.empty, .bool false]) ps := by kernel_rfl
theorem tyB_34 {n : Nat} {l : Fr} {w : World} {d : Option Nat} {ty : TypeId} {pos : String} {af : Array Edge} {g : Option (Nat × Bool)} {ps : List (Nat × Operand)} {is : List Nat} {vs : List Value} {c0 c1 : Value} (h1 : ps.map (·.1) = is) (h2 : evs l (ps.map (·.2)) = some vs) (h : fillL [(0, 1), (1, 1)] [.string ByteArray.empty, .bool false] (is.zip vs) = some [c0, c1]) : Pv Tryz.prog n l ⟨d, .build 34 ps.toArray, ty, pos, af, g⟩ (.agg #[c0, c1]) w := pv_build h1 h2 tyb_34 h
theorem tyv_34 (w : World) : (zeroValue 34).run Tryz.prog w = .ok (.agg #[.string ByteArray.empty, .bool false]) w := by kernel_rfl
theorem tyv_36 (w : World) : (zeroValue 36).run Tryz.prog w = .ok (.agg #[.string ByteArray.empty, .int .i64 0, .bool false]) w := by kernel_rfl
theorem tyb_37 (ps : List (Nat × Value)) : Tryz.prog.built 37 ps = Instr.fill (fun i => (List.toArray [(0, 1), (1, 1), (2, 1)])[i]?) (List.toArray [.string ByteArray.empty, .int .i64 0, .bool false]) ps := by kernel_rfl
theorem tyB_37 {n : Nat} {l : Fr} {w : World} {d : Option Nat} {ty : TypeId} {pos : String} {af : Array Edge} {g : Option (Nat × Bool)} {ps : List (Nat × Operand)} {is : List Nat} {vs : List Value} {c0 c1 c2 : Value} (h1 : ps.map (·.1) = is) (h2 : evs l (ps.map (·.2)) = some vs) (h : fillL [(0, 1), (1, 1), (2, 1)] [.string ByteArray.empty, .int .i64 0, .bool false] (is.zip vs) = some [c0, c1, c2]) : Pv Tryz.prog n l ⟨d, .build 37 ps.toArray, ty, pos, af, g⟩ (.agg #[c0, c1, c2]) w := pv_build h1 h2 tyb_37 h
theorem tyv_37 (w : World) : (zeroValue 37).run Tryz.prog w = .ok (.agg #[.string ByteArray.empty, .int .i64 0, .bool false]) w := by kernel_rfl
theorem tyv_38 (w : World) : (zeroValue 38).run Tryz.prog w = .ok (.agg #[.int .i64 0, .int .i64 0, .int .i64 0, .int .i64 0]) w := by kernel_rfl
theorem tyb_39 (ps : List (Nat × Value)) : Tryz.prog.built 39 ps = Instr.fill (fun i => (List.toArray [(0, 1), (1, 1), (2, 1), (3, 1)])[i]?) (List.toArray [.int .i64 0, .int .i64 0, .int .i64 0, .int .i64 0]) ps := by kernel_rfl
theorem tyB_39 {n : Nat} {l : Fr} {w : World} {d : Option Nat} {ty : TypeId} {pos : String} {af : Array Edge} {g : Option (Nat × Bool)} {ps : List (Nat × Operand)} {is : List Nat} {vs : List Value} {c0 c1 c2 c3 : Value} (h1 : ps.map (·.1) = is) (h2 : evs l (ps.map (·.2)) = some vs) (h : fillL [(0, 1), (1, 1), (2, 1), (3, 1)] [.int .i64 0, .int .i64 0, .int .i64 0, .int .i64 0] (is.zip vs) = some [c0, c1, c2, c3]) : Pv Tryz.prog n l ⟨d, .build 39 ps.toArray, ty, pos, af, g⟩ (.agg #[c0, c1, c2, c3]) w := pv_build h1 h2 tyb_39 h
theorem tyv_39 (w : World) : (zeroValue 39).run Tryz.prog w = .ok (.agg #[.int .i64 0, .int .i64 0, .int .i64 0, .int .i64 0]) w := by kernel_rfl
theorem tyv_40 (w : World) : (zeroValue 40).run Tryz.prog w = .ok (.agg #[.int .i64 0, .int .i64 0, .int .i64 0, .int .u8 0, .int .i64 0, .int .i64 0]) w := by kernel_rfl
theorem tyb_41 (ps : List (Nat × Value)) : Tryz.prog.built 41 ps = Instr.fill (fun i => (List.toArray [(0, 1), (1, 1), (2, 1), (3, 1), (4, 1), (5, 1)])[i]?) (List.toArray [.int .i64 0, .int .i64 0, .int .i64 0, .int .u8 0, .int .i64 0, .int .i64 0]) ps := by kernel_rfl
theorem tyB_41 {n : Nat} {l : Fr} {w : World} {d : Option Nat} {ty : TypeId} {pos : String} {af : Array Edge} {g : Option (Nat × Bool)} {ps : List (Nat × Operand)} {is : List Nat} {vs : List Value} {c0 c1 c2 c3 c4 c5 : Value} (h1 : ps.map (·.1) = is) (h2 : evs l (ps.map (·.2)) = some vs) (h : fillL [(0, 1), (1, 1), (2, 1), (3, 1), (4, 1), (5, 1)] [.int .i64 0, .int .i64 0, .int .i64 0, .int .u8 0, .int .i64 0, .int .i64 0] (is.zip vs) = some [c0, c1, c2, c3, c4, c5]) : Pv Tryz.prog n l ⟨d, .build 41 ps.toArray, ty, pos, af, g⟩ (.agg #[c0, c1, c2, c3, c4, c5]) w := pv_build h1 h2 tyb_41 h
theorem tyv_41 (w : World) : (zeroValue 41).run Tryz.prog w = .ok (.agg #[.int .i64 0, .int .i64 0, .int .i64 0, .int .u8 0, .int .i64 0, .int .i64 0]) w := by kernel_rfl
theorem tyv_43 (w : World) : (zeroValue 43).run Tryz.prog w = .ok (.agg #[.int .i64 0, .int .i64 0, .int .i64 0, .bool false, .int .i64 0, .int .i64 0, .int .i64 0, .int .i64 0, .slice none 0 0]) w := by kernel_rfl
theorem tyb_44 (ps : List (Nat × Value)) : Tryz.prog.built 44 ps = Instr.fill (fun i => (List.toArray [(0, 1), (1, 1), (2, 1), (3, 1), (4, 1), (5, 1), (6, 1), (7, 1), (8, 1)])[i]?) (List.toArray [.int .i64 0, .int .i64 0, .int .i64 0, .bool false, .int .i64 0, .int .i64 0, .int .i64 0, .int .i64 0, .slice none 0 0]) ps := by kernel_rfl
theorem tyB_44 {n : Nat} {l : Fr} {w : World} {d : Option Nat} {ty : TypeId} {pos : String} {af : Array Edge} {g : Option (Nat × Bool)} {ps : List (Nat × Operand)} {is : List Nat} {vs : List Value} {c0 c1 c2 c3 c4 c5 c6 c7 c8 : Value} (h1 : ps.map (·.1) = is) (h2 : evs l (ps.map (·.2)) = some vs) (h : fillL [(0, 1), (1, 1), (2, 1), (3, 1), (4, 1), (5, 1), (6, 1), (7, 1), (8, 1)] [.int .i64 0, .int .i64 0, .int .i64 0, .bool false, .int .i64 0, .int .i64 0, .int .i64 0, .int .i64 0, .slice none 0 0] (is.zip vs) = some [c0, c1, c2, c3, c4, c5, c6, c7, c8]) : Pv Tryz.prog n l ⟨d, .build 44 ps.toArray, ty, pos, af, g⟩ (.agg #[c0, c1, c2, c3, c4, c5, c6, c7, c8]) w := pv_build h1 h2 tyb_44 h
theorem tyv_44 (w : World) : (zeroValue 44).run Tryz.prog w = .ok (.agg #[.int .i64 0, .int .i64 0, .int .i64 0, .bool false, .int .i64 0, .int .i64 0, .int .i64 0, .int .i64 0, .slice none 0 0]) w := by kernel_rfl
theorem tyv_45 (w : World) : (zeroValue 45).run Tryz.prog w = .ok (.agg #[.int .i64 0, .int .i64 0]) w := by kernel_rfl
theorem tyb_46 (ps : List (Nat × Value)) : Tryz.prog.built 46 ps = Instr.fill (fun i => (List.toArray [(0, 1), (1, 1)])[i]?) (List.toArray [.int .i64 0, .int .i64 0]) ps := by kernel_rfl
theorem tyB_46 {n : Nat} {l : Fr} {w : World} {d : Option Nat} {ty : TypeId} {pos : String} {af : Array Edge} {g : Option (Nat × Bool)} {ps : List (Nat × Operand)} {is : List Nat} {vs : List Value} {c0 c1 : Value} (h1 : ps.map (·.1) = is) (h2 : evs l (ps.map (·.2)) = some vs) (h : fillL [(0, 1), (1, 1)] [.int .i64 0, .int .i64 0] (is.zip vs) = some [c0, c1]) : Pv Tryz.prog n l ⟨d, .build 46 ps.toArray, ty, pos, af, g⟩ (.agg #[c0, c1]) w := pv_build h1 h2 tyb_46 h
theorem tyv_46 (w : World) : (zeroValue 46).run Tryz.prog w = .ok (.agg #[.int .i64 0, .int .i64 0]) w := by kernel_rfl
theorem tyv_73 (w : World) : (zeroValue 73).run Tryz.prog w = .ok (.agg #[.string ByteArray.empty, .nilFunc]) w := by kernel_rfl
theorem tyb_74 (ps : List (Nat × Value)) : Tryz.prog.built 74 ps = Instr.fill (fun i => (List.toArray [(0, 1), (1, 1)])[i]?) (List.toArray [.string ByteArray.empty, .nilFunc]) ps := by kernel_rfl
theorem tyB_74 {n : Nat} {l : Fr} {w : World} {d : Option Nat} {ty : TypeId} {pos : String} {af : Array Edge} {g : Option (Nat × Bool)} {ps : List (Nat × Operand)} {is : List Nat} {vs : List Value} {c0 c1 : Value} (h1 : ps.map (·.1) = is) (h2 : evs l (ps.map (·.2)) = some vs) (h : fillL [(0, 1), (1, 1)] [.string ByteArray.empty, .nilFunc] (is.zip vs) = some [c0, c1]) : Pv Tryz.prog n l ⟨d, .build 74 ps.toArray, ty, pos, af, g⟩ (.agg #[c0, c1]) w := pv_build h1 h2 tyb_74 h
theorem tyv_74 (w : World) : (zeroValue 74).run Tryz.prog w = .ok (.agg #[.string ByteArray.empty, .nilFunc]) w := by kernel_rfl
theorem tyv_80 (w : World) : (zeroValue 80).run Tryz.prog w = .ok (.agg #[.int .i64 0, .int .i64 0]) w := by kernel_rfl
theorem tyb_81 (ps : List (Nat × Value)) : Tryz.prog.built 81 ps = Instr.fill (fun i => (List.toArray [(0, 1), (1, 1)])[i]?) (List.toArray [.int .i64 0, .int .i64 0]) ps := by kernel_rfl
theorem tyB_81 {n : Nat} {l : Fr} {w : World} {d : Option Nat} {ty : TypeId} {pos : String} {af : Array Edge} {g : Option (Nat × Bool)} {ps : List (Nat × Operand)} {is : List Nat} {vs : List Value} {c0 c1 : Value} (h1 : ps.map (·.1) = is) (h2 : evs l (ps.map (·.2)) = some vs) (h : fillL [(0, 1), (1, 1)] [.int .i64 0, .int .i64 0] (is.zip vs) = some [c0, c1]) : Pv Tryz.prog n l ⟨d, .build 81 ps.toArray, ty, pos, af, g⟩ (.agg #[c0, c1]) w := pv_build h1 h2 tyb_81 h
theorem tyv_81 (w : World) : (zeroValue 81).run Tryz.prog w = .ok (.agg #[.int .i64 0, .int .i64 0]) w := by kernel_rfl
theorem tyv_107 (w : World) : (zeroValue 107).run Tryz.prog w = .ok (.agg #[.int .i64 0, .int .u64 0]) w := by kernel_rfl
theorem tyb_108 (ps : List (Nat × Value)) : Tryz.prog.built 108 ps = Instr.fill (fun i => (List.toArray [(0, 1), (1, 1)])[i]?) (List.toArray [.int .i64 0, .int .u64 0]) ps := by kernel_rfl
theorem tyB_108 {n : Nat} {l : Fr} {w : World} {d : Option Nat} {ty : TypeId} {pos : String} {af : Array Edge} {g : Option (Nat × Bool)} {ps : List (Nat × Operand)} {is : List Nat} {vs : List Value} {c0 c1 : Value} (h1 : ps.map (·.1) = is) (h2 : evs l (ps.map (·.2)) = some vs) (h : fillL [(0, 1), (1, 1)] [.int .i64 0, .int .u64 0] (is.zip vs) = some [c0, c1]) : Pv Tryz.prog n l ⟨d, .build 108 ps.toArray, ty, pos, af, g⟩ (.agg #[c0, c1]) w := pv_build h1 h2 tyb_108 h
theorem tyv_108 (w : World) : (zeroValue 108).run Tryz.prog w = .ok (.agg #[.int .i64 0, .int .u64 0]) w := by kernel_rfl
theorem tyv_123 (w : World) : (zeroValue 123).run Tryz.prog w = .ok (.agg #[.int .i64 0, .int .i64 0, .int .i64 0, .int .i64 0]) w := by kernel_rfl
theorem tyv_146 (w : World) : (zeroValue 146).run Tryz.prog w = .ok (.agg #[.int .i64 0, .int .i64 0]) w := by kernel_rfl
theorem tyb_147 (ps : List (Nat × Value)) : Tryz.prog.built 147 ps = Instr.fill (fun i => (List.toArray [(0, 1), (1, 1)])[i]?) (List.toArray [.int .i64 0, .int .i64 0]) ps := by kernel_rfl
theorem tyB_147 {n : Nat} {l : Fr} {w : World} {d : Option Nat} {ty : TypeId} {pos : String} {af : Array Edge} {g : Option (Nat × Bool)} {ps : List (Nat × Operand)} {is : List Nat} {vs : List Value} {c0 c1 : Value} (h1 : ps.map (·.1) = is) (h2 : evs l (ps.map (·.2)) = some vs) (h : fillL [(0, 1), (1, 1)] [.int .i64 0, .int .i64 0] (is.zip vs) = some [c0, c1]) : Pv Tryz.prog n l ⟨d, .build 147 ps.toArray, ty, pos, af, g⟩ (.agg #[c0, c1]) w := pv_build h1 h2 tyb_147 h
theorem tyv_147 (w : World) : (zeroValue 147).run Tryz.prog w = .ok (.agg #[.int .i64 0, .int .i64 0]) w := by kernel_rfl
theorem tyv_148 (w : World) : (zeroValue 148).run Tryz.prog w = .ok (.agg #[.int .i64 0, .int .i64 0, .int .i64 0, .int .i64 0]) w := by kernel_rfl
theorem tyb_149 (ps : List (Nat × Value)) : Tryz.prog.built 149 ps = Instr.fill (fun i => (List.toArray [(0, 2), (2, 1), (3, 1)])[i]?) (List.toArray [.int .i64 0, .int .i64 0, .int .i64 0, .int .i64 0]) ps := by kernel_rfl
theorem tyB_149 {n : Nat} {l : Fr} {w : World} {d : Option Nat} {ty : TypeId} {pos : String} {af : Array Edge} {g : Option (Nat × Bool)} {ps : List (Nat × Operand)} {is : List Nat} {vs : List Value} {c0 c1 c2 c3 : Value} (h1 : ps.map (·.1) = is) (h2 : evs l (ps.map (·.2)) = some vs) (h : fillL [(0, 2), (2, 1), (3, 1)] [.int .i64 0, .int .i64 0, .int .i64 0, .int .i64 0] (is.zip vs) = some [c0, c1, c2, c3]) : Pv Tryz.prog n l ⟨d, .build 149 ps.toArray, ty, pos, af, g⟩ (.agg #[c0, c1, c2, c3]) w := pv_build h1 h2 tyb_149 h
theorem tyv_149 (w : World) : (zeroValue 149).run Tryz.prog w = .ok (.agg #[.int .i64 0, .int .i64 0, .int .i64 0, .int .i64 0]) w := by kernel_rfl
end Go.Proofs.YtekomjnjddhfmaaGreat
namespace Go.Proofs.YtekomjnjddhfmaaGreat
open Go.RowKit
theorem PT.ldp {w : World} {N : Nat} {T : TypeId} {cs : List Value} (h : PT w N T cs) {o m : Nat} : ∀ i u, ((cs.drop o).take m)[i]? = some u → w.cell? ⟨N, o + i, none⟩ = some u := fun i u hu => h.ld (by
  rw [List.getElem?_take] at hu
  split at hu
  · rwa [List.getElem?_drop] at hu
  · cases hu)
theorem pv_loadp {P : Program} {n : Nat} {l : Fr} {w : World} {d : Option Nat} {t ty : TypeId} {x : Operand} {pos : String} {af : Array Edge} {g : Option (Nat × Bool)} {B o m : Nat} {cs ds : List Value} (ht : aggB P t m = true) (hx : ev l x = some (.pointer (some ⟨B, o, none⟩))) (hc : ∀ i u, ((cs.drop o).take m)[i]? = some u → w.cell? ⟨B, o + i, none⟩ = some u) (hd : (cs.drop o).take m = ds) (hm : ds.length = m) : Pv P n l ⟨d, .load t x, ty, pos, af, g⟩ (.agg ds.toArray) w := pv_loada ht hx (hd ▸ hc) hm
theorem pv_ext {P : Program} {n : Nat} {l : Fr} {w : World} {d : Option Nat} {ty : TypeId} {pos : String} {af : Array Edge} {g : Option (Nat × Bool)} {f : FuncId} {args : List Operand} {ts : Array TypeId} {vs : List Value} {v : Value} (hvs : evs l args = some vs) (hrun : (callFunc f vs.toArray).run P w = .ok (.value v) w) : Pv P n l ⟨d, .call ⟨.value (.func f), args.toArray, ts⟩, ty, pos, af, g⟩ v w := ⟨fun A hA => by
  have h := hA.evs hvs
  simp [execOp, resolve, Act.eval, Deferred.ofValue, invoke, h, hrun]⟩
theorem lw_allocN {P : Program} {n : Nat} {l : Fr} {w : World} {d : Nat} {t ty : TypeId} {pos : String} {af : Array Edge} {Q : Exit → Act → World → Prop} {ops : Array Oper} {os : List Oper} {z : Value} (hd : Nat.blt d n = true) (hz : ∀ w, (zeroValue t).run P w = .ok z w) {cs : List Value} (hcs : z.cells.toList = cs) (h : ∀ N w', w.heap.size ≤ N → PT w' N t cs → Below w.heap.size w w' → LW P n ops Q os ((d, .pointer (some ⟨N, 0, none⟩)) :: l) w') :
    LW P n ops Q (⟨some d, .alloc t, ty, pos, af, none⟩ :: os) l w := lw_alloc hd hz fun w' hp hb _ => h _ w' (Nat.le_refl _) (hcs ▸ hp) hb
section
variable {P : Program} {n : Nat} {l : Fr} {w : World} {Q : Exit → Act → World → Prop} {ops : Array Oper} {S : World → Prop} {fuel : Nat} {listed : Array Bool}
theorem aw_gs (i : Nat) {d : Nat} {op : Op} {ty : TypeId} {pos : String} {af : Array Edge} {v : Value} {g t : Nat} {b c : Bool} (ho : ops[i]? = some ⟨some d, op, ty, pos, af, some (g, b)⟩) (hg : (ops[g]?).bind (·.dst) = some t) (ht : look l t = some (.bool c))
    (hs : Region.noSelect ops = true) (hf : Region.free .any ops listed i = true) (hr : (Region.ready .any ops listed).contains i = true) (hQ : NoPanic Q) (hS : S w) (hd : Nat.blt d n = true)
    (hv : c = b → ∀ w, S w → Pv P n l ⟨some d, op, ty, pos, af, some (g, b)⟩ v w) (h1 : c = b → AW P n ops Q S fuel (listed.setIfInBounds i true) ((d, v) :: l) w) (h2 : c = !b → AW P n ops Q S fuel (listed.setIfInBounds i true) ((d, undef) :: l) w) : AW P n ops Q S (fuel + 1) listed l w := by
  rcases (show c = b ∨ c = !b by cases c <;> cases b <;> simp) with h | h
  · exact aw_take_on i ho hg ht h hs hf hr hQ hS hd (hv h) (h1 h)
  · exact aw_not i ho hg ht h hs hf hr hQ hS hd (h2 h)
theorem aw_act_g (i : Nat) {d : Option Nat} {op : Op} {ty : TypeId} {pos : String} {af : Array Edge} {g t : Nat} {b c : Bool} (hr : Region.ready .any ops listed = [i]) (ho : ops[i]? = some ⟨d, op, ty, pos, af, some (g, b)⟩) (hg : (ops[g]?).bind (·.dst) = some t) (ht : look l t = some (.bool c)) (hc : c = b) (hd : inD d n = true)
    (h : Act1 P n l ⟨d, op, ty, pos, af, some (g, b)⟩ w fun v w' => S w' ∧ (S w' → AW P n ops Q S fuel (listed.setIfInBounds i true) (putD d v l) w')) : AW P n ops Q S (fuel + 1) listed l w :=
  aw_act i hr ho (by simp only [guardOn, hg, ht, hc]; simp) hd h
end
end Go.Proofs.YtekomjnjddhfmaaGreat
namespace Go.Proofs.YtekomjnjddhfmaaGreat
open Go.RowKit Go.ChangeShapes Go.WideShapes Go.Maps
open Go.ChangeMaps (setBlock)

structure KeyE (P : Program) (K : TypeId) {κ : Type} (eK : κ → Value) : Prop where
  law : Keyed P K
  key : ∀ k, ∃ l, keyOf P K (eK k) = some l
  inj : ∀ a b, eK a = eK b → a = b
section
variable {κ ν : Type} {eK : κ → Value} {eV : ν → Value} {P : Program} {w : World} {B clk : Nat}
def entE (eK : κ → Value) (eV : ν → Value) (e : κ × ν × Nat) : MapEntry := ⟨eK e.1, eV e.2.1, e.2.2⟩
def prj (e : κ × ν × Nat) : κ × ν := (e.1, e.2.1)
structure MpE (eK : κ → Value) (eV : ν → Value) (w : World) (B : Nat) (es : List (κ × ν × Nat)) (clk : Nat) : Prop where
  heap : w.heap[B]? = some (.map (es.map (entE eK eV)).toArray clk)
  keys : (es.map (·.1)).Nodup
  born : (es.map (·.2.2)).Nodup
  lt : ∀ e ∈ es, e.2.2 < clk
def Mp (eK : κ → Value) (eV : ν → Value) (w : World) (B : Nat) (m : List (κ × ν)) : Prop := ∃ es clk, MpE eK eV w B es clk ∧ es.map prj = m
theorem Mp.nodup {m : List (κ × ν)} (h : Mp eK eV w B m) : (m.map (·.1)).Nodup := by
  obtain ⟨es, clk, h1, rfl⟩ := h
  rw [List.map_map]; exact h1.keys
theorem MpE.lt' {es : List (κ × ν × Nat)} (h : MpE eK eV w B es clk) : B < w.heap.size := (Array.getElem?_eq_some_iff.1 h.heap).1
theorem Mp.bound {m : List (κ × ν)} (h : Mp eK eV w B m) : B < w.heap.size := by obtain ⟨es, clk, h1, _⟩ := h; exact h1.lt'
theorem MpE.mono {es : List (κ × ν × Nat)} (h : MpE eK eV w B es clk) {w' : World} (hb : Below w.heap.size w w') : MpE eK eV w' B es clk := ⟨(hb.block B h.lt').trans h.heap, h.keys, h.born, h.lt⟩
theorem Mp.mono {m : List (κ × ν)} (h : Mp eK eV w B m) {w' : World} (hb : Below w.heap.size w w') : Mp eK eV w' B m := by
  obtain ⟨es, clk, h1, h2⟩ := h; exact ⟨es, clk, h1.mono hb, h2⟩
theorem MpE.kept {es : List (κ × ν × Nat)} (h : MpE eK eV w B es clk) {w' : World} {row : Option Nat} (hg : w.grownBy w' row) (hne : row ≠ some B) : MpE eK eV w' B es clk := ⟨(hg.block B h.lt' (fun e => hne e.symm)).trans h.heap, h.keys, h.born, h.lt⟩
theorem Mp.kept {m : List (κ × ν)} (h : Mp eK eV w B m) {w' : World} {row : Option Nat} (hg : w.grownBy w' row) (hne : row ≠ some B) : Mp eK eV w' B m := by
  obtain ⟨es, clk, h1, h2⟩ := h; exact ⟨es, clk, h1.kept hg hne, h2⟩
theorem Mp.new (eK : κ → Value) (eV : ν → Value) (w : World) : Mp eK eV (w.alloc (.map #[] 0)) w.heap.size [] := ⟨[], 0, ⟨heap_alloc_new w _, List.nodup_nil, List.nodup_nil, fun _ h => by cases h⟩, rfl⟩
variable [DecidableEq κ]
def getM (m : List (κ × ν)) (k : κ) : Option ν := (m.find? fun e => decide (e.1 = k)).map (·.2)
def putM (m : List (κ × ν)) (k : κ) (v : ν) : List (κ × ν) := if (getM m k).isSome then m.map fun e => if e.1 = k then (k, v) else e else m ++ [(k, v)]
def touchM (m : List (κ × ν)) (k : κ) (z : ν) : List (κ × ν) := if (getM m k).isSome then m else m ++ [(k, z)]
def delM (m : List (κ × ν)) (k : κ) : List (κ × ν) := m.filter fun e => !decide (e.1 = k)
theorem getM_nil (k : κ) : getM ([] : List (κ × ν)) k = none := rfl
theorem getM_none {m : List (κ × ν)} {k : κ} : getM m k = none ↔ ∀ e ∈ m, e.1 ≠ k := by simp [getM]
theorem getM_some {m : List (κ × ν)} (hn : (m.map (·.1)).Nodup) {k : κ} {v : ν} : getM m k = some v ↔ (k, v) ∈ m := by
  induction m with
  | nil => simp [getM]
  | cons e r ih =>
    obtain ⟨k', v'⟩ := e
    rw [List.map_cons, List.nodup_cons] at hn
    by_cases h : k' = k
    · subst h
      simp only [getM, List.find?_cons, decide_true, Option.map_some, Option.some.injEq, List.mem_cons, Prod.mk.injEq, true_and]
      constructor
      · intro e; exact Or.inl e.symm
      · rintro (e | e)
        · exact e.symm
        · exact absurd (List.mem_map.2 ⟨_, e, rfl⟩) hn.1
    · have : getM ((k', v') :: r) k = getM r k := by simp [getM, h]
      rw [this, ih hn.2]
      simp [Ne.symm h]
theorem getM_append (m m' : List (κ × ν)) (k : κ) : getM (m ++ m') k = (getM m k).or (getM m' k) := by
  simp only [getM, List.find?_append]
  cases List.find? (fun e : κ × ν => decide (e.1 = k)) m <;> simp
theorem getM_cons (e : κ × ν) (r : List (κ × ν)) (k : κ) : getM (e :: r) k = if e.1 = k then some e.2 else getM r k := by
  by_cases h : e.1 = k <;> simp [getM, h]
theorem getM_map (m : List (κ × ν)) (k : κ) (v : ν) (k' : κ) : getM (m.map fun e => if e.1 = k then (k, v) else e) k' = if k' = k then (getM m k).map (fun _ => v) else getM m k' := by
  induction m with
  | nil => simp [getM]
  | cons e r ih =>
    rw [List.map_cons, getM_cons, getM_cons, getM_cons, ih]
    by_cases h1 : e.1 = k
    · by_cases h2 : k' = k
      · subst h2; simp [h1]
      · have h3 : ¬ k = k' := fun e => h2 e.symm
        simp [h1, h2, h3]
    · by_cases h2 : k' = k
      · subst h2; simp [h1]
      · simp [h1, h2]
theorem getM_put (m : List (κ × ν)) (k : κ) (v : ν) (k' : κ) : getM (putM m k v) k' = if k' = k then some v else getM m k' := by
  unfold putM
  cases h : getM m k with
  | some u =>
    simp only [Option.isSome_some, if_true]
    rw [getM_map, h]; simp
  | none =>
    simp only [Option.isSome_none, Bool.false_eq_true, if_false]
    rw [getM_append]
    by_cases h2 : k' = k
    · subst h2; rw [h, if_pos rfl]; simp [getM]
    · rw [if_neg h2]
      have : ¬ k = k' := fun e => h2 e.symm
      simp [getM, this]
theorem getM_touch (m : List (κ × ν)) (k : κ) (z : ν) (k' : κ) : getM (touchM m k z) k' = if k' = k then some ((getM m k).getD z) else getM m k' := by
  unfold touchM
  cases h : getM m k with
  | some u =>
    simp only [Option.isSome_some, if_true, Option.getD_some]
    by_cases h2 : k' = k
    · subst h2; rw [if_pos rfl, h]
    · rw [if_neg h2]
  | none =>
    simp only [Option.isSome_none, Bool.false_eq_true, if_false, Option.getD_none]
    rw [getM_append]
    by_cases h2 : k' = k
    · subst h2; rw [h, if_pos rfl]; simp [getM]
    · rw [if_neg h2]
      have : ¬ k = k' := fun e => h2 e.symm
      simp [getM, this]
theorem getM_del (m : List (κ × ν)) (k : κ) (k' : κ) : getM (delM m k) k' = if k' = k then none else getM m k' := by
  unfold delM
  by_cases h2 : k' = k
  · subst h2; rw [if_pos rfl, getM_none]
    intro e he; simp at he; exact he.2
  · rw [if_neg h2]
    induction m with
    | nil => rfl
    | cons e r ih =>
      by_cases h1 : e.1 = k
      · rw [List.filter_cons_of_neg (by simp [h1]), ih]
        have : ¬ e.1 = k' := fun e' => h2 (by rw [← e', h1])
        simp [getM, this]
      · rw [List.filter_cons_of_pos (by simp [h1])]
        by_cases h4 : e.1 = k'
        · simp [getM, h4]
        · simp only [getM] at ih ⊢
          rw [List.find?_cons, List.find?_cons]
          simp only [h4, decide_false]; exact ih
theorem find_run {K : TypeId} (E : KeyE P K eK) (w : World) (k : κ) {es : List (κ × ν × Nat)} (hn : (es.map (·.1)).Nodup) :
    (getM (es.map prj) k = none ∧ (Instr.findKey K (eK k) (es.map (entE eK eV))).run P w = .ok none w) ∨ ∃ j v b, es[j]? = some (k, v, b) ∧ getM (es.map prj) k = some v ∧ (Instr.findKey K (eK k) (es.map (entE eK eV))).run P w = .ok (some (j, eV v)) w := by
  obtain ⟨lx, hlx⟩ := E.key k
  have hn' : ((es.map prj).map (·.1)).Nodup := by rw [List.map_map]; exact hn
  rcases E.law.find w hlx (es.map (entE eK eV)) (fun e he => by
    obtain ⟨e', _, rfl⟩ := List.mem_map.1 he
    exact E.key e'.1) with ⟨h1, h2⟩ | ⟨j, e, h1, h2, h3⟩
  · refine Or.inl ⟨?_, h1⟩
    rw [getM_none]
    intro e he ek
    obtain ⟨e', he', rfl⟩ := List.mem_map.1 he
    exact h2 (entE eK eV e') (List.mem_map.2 ⟨e', he', rfl⟩) (by show eK e'.1 = eK k; rw [← ek]; rfl)
  · rw [List.getElem?_map, Option.map_eq_some_iff] at h2
    obtain ⟨⟨k', v, b⟩, h4, rfl⟩ := h2
    have hk : k' = k := E.inj _ _ h3
    subst hk
    refine Or.inr ⟨j, v, b, h4, ?_, h1⟩
    rw [getM_some hn']
    exact List.mem_map.2 ⟨_, List.mem_of_getElem? h4, rfl⟩
end
section
variable {κ ν : Type} {eK : κ → Value} {eV : ν → Value} {P : Program} {w : World} {B clk : Nat} {T K V : TypeId}
theorem check_run {K : TypeId} (E : KeyE P K eK) (w : World) (k : κ) (b : Bool) : (Instr.checkKey b 10000 K (eK k)).run P w = .ok () w := by
  obtain ⟨l, hl⟩ := E.key k; exact E.law.check w b hl
end
section
variable {κ ν : Type} [DecidableEq κ] {eK : κ → Value} {eV : ν → Value} {P : Program} {w : World} {B clk : Nat} {T K V : TypeId}
end
section
variable {κ ν : Type} {eK : κ → Value} {eV : ν → Value} {P : Program} {w : World} {B clk : Nat} {T K V : TypeId}
theorem stays_run {K : TypeId} (E : KeyE P K eK) (w : World) (k : κ) : (Instr.keyThatStays (eK k) (eK k)).run P w = .ok (eK k) w := by
  obtain ⟨l, hl⟩ := E.key k; exact E.law.stays w hl
end
section
variable {κ ν : Type} [DecidableEq κ] {eK : κ → Value} {eV : ν → Value} {P : Program} {w : World} {B clk : Nat} {T K V : TypeId}
variable {T K V : TypeId}
theorem run_lookupM (ht : P.underlying T = some (.map K V)) (E : KeyE P K eK) {z : ν} (hz : ∀ w, (zeroValue V).run P w = .ok (eV z) w) {m : List (κ × ν)} (h : Mp eK eV w B m) (k : κ) (c : Bool) :
    (Instr.lookup T (.map (some B)) (eK k) c).run P w = .ok (if c then .tuple #[eV ((getM m k).getD z), .bool (getM m k).isSome] else eV ((getM m k).getD z)) w := by
  obtain ⟨es, clk, hE, rfl⟩ := h
  rcases find_run (eV := eV) E w k hE.keys with ⟨h1, h2⟩ | ⟨j, v, b, h1, h2, h3⟩
  · simp [Instr.lookup, run_underlying ht, MapKept.run_getObj_map hE.heap, check_run E, h2, h1, hz]
  · simp [Instr.lookup, run_underlying ht, MapKept.run_getObj_map hE.heap, check_run E, h3, h2]
end
section
variable {κ ν : Type} {eK : κ → Value} {eV : ν → Value} {P : Program} {w : World} {B clk : Nat} {T K V : TypeId}
end
section
variable {κ ν : Type} [DecidableEq κ] {eK : κ → Value} {eV : ν → Value} {P : Program} {w : World} {B clk : Nat} {T K V : TypeId}
end
section
variable {κ ν : Type} {eK : κ → Value} {eV : ν → Value} {P : Program} {w : World} {B clk : Nat} {T K V : TypeId}
theorem mod_es {es : List (κ × ν × Nat)} {j : Nat} {e e' : κ × ν × Nat} {f : MapEntry → MapEntry} (h : es[j]? = some e) (hf : f (entE eK eV e) = entE eK eV e') : (es.map (entE eK eV)).toArray.modify j f = ((es.set j e').map (entE eK eV)).toArray := by
  apply Array.ext_getElem?
  intro i
  rw [Array.getElem?_modify]
  simp only [List.getElem?_toArray, List.getElem?_map, List.getElem?_set]
  have hlt : j < es.length := (List.getElem?_eq_some_iff.1 h).1
  by_cases hij : j = i
  · subst hij; rw [if_pos rfl, if_pos rfl, if_pos hlt, h]; simp [hf]
  · simp [hij]
end
section
variable {κ ν : Type} [DecidableEq κ] {eK : κ → Value} {eV : ν → Value} {P : Program} {w : World} {B clk : Nat} {T K V : TypeId}
theorem putM_es {es : List (κ × ν × Nat)} (hn : (es.map (·.1)).Nodup) {j : Nat} {k : κ} {u v : ν} {b : Nat} (h : es[j]? = some (k, u, b)) : (es.set j (k, v, b)).map prj = putM (es.map prj) k v := by
  have hn' : ((es.map prj).map (·.1)).Nodup := by rw [List.map_map]; exact hn
  have hg : getM (es.map prj) k = some u := by rw [getM_some hn']; exact List.mem_map.2 ⟨_, List.mem_of_getElem? h, rfl⟩
  unfold putM
  rw [hg]
  simp only [Option.isSome_some, if_true]
  refine List.ext_getElem? fun i => ?_
  rw [List.getElem?_map, List.getElem?_map, List.getElem?_map, List.getElem?_set]
  by_cases hij : j = i
  · subst hij
    have hlt : j < es.length := (List.getElem?_eq_some_iff.1 h).1
    rw [if_pos rfl, if_pos hlt, h]
    simp [prj]
  · rw [if_neg hij]
    cases hi : es[i]? with
    | none => rfl
    | some e =>
      have hne : e.1 ≠ k := fun e' => by
        have h1 : i < (es.map (·.1)).length := by simpa using (List.getElem?_eq_some_iff.1 hi).1
        have h2 : (es.map (·.1))[i]? = (es.map (·.1))[j]? := by simp [hi, h, e']
        exact hij ((List.getElem?_inj h1 hn).1 h2).symm
      simp [prj, hne]
end
section
variable {κ ν : Type} {eK : κ → Value} {eV : ν → Value} {P : Program} {w : World} {B clk : Nat} {T K V : TypeId}
theorem MpE.set {es : List (κ × ν × Nat)} (h : MpE eK eV w B es clk) {j : Nat} {k : κ} {u v : ν} {b : Nat} (hj : es[j]? = some (k, u, b)) : MpE eK eV { w with heap := w.heap.setIfInBounds B (.map ((es.set j (k, v, b)).map (entE eK eV)).toArray clk) } B (es.set j (k, v, b)) clk := by
  have hlt : j < es.length := (List.getElem?_eq_some_iff.1 hj).1
  have e1 : ∀ {β : Type} (f : κ × ν × Nat → β), f (k, v, b) = f (k, u, b) → (es.set j (k, v, b)).map f = es.map f := fun f hf => by
    refine List.ext_getElem? fun i => ?_
    rw [List.getElem?_map, List.getElem?_map, List.getElem?_set]
    by_cases hij : j = i
    · subst hij; rw [if_pos rfl, if_pos hlt, hj]; simp [hf]
    · rw [if_neg hij]
  refine ⟨?_, ?_, ?_, fun e he => ?_⟩
  · show (w.heap.setIfInBounds B _)[B]? = _
    rw [Array.getElem?_setIfInBounds_self_of_lt h.lt']
  · rw [e1 _ rfl]; exact h.keys
  · rw [e1 _ rfl]; exact h.born
  · rcases List.mem_or_eq_of_mem_set he with he | rfl
    · exact h.lt e he
    · exact h.lt (k, u, b) (List.mem_of_getElem? hj)
end
section
variable {κ ν : Type} [DecidableEq κ] {eK : κ → Value} {eV : ν → Value} {P : Program} {w : World} {B clk : Nat} {T K V : TypeId}
theorem MpE.push {es : List (κ × ν × Nat)} (h : MpE eK eV w B es clk) {k : κ} {v : ν} (hk : getM (es.map prj) k = none) : MpE eK eV { w with heap := w.heap.setIfInBounds B (.map ((es ++ [(k, v, clk)]).map (entE eK eV)).toArray (clk + 1)) } B (es ++ [(k, v, clk)]) (clk + 1) := by
  rw [getM_none] at hk
  refine ⟨?_, ?_, ?_, fun e he => ?_⟩
  · show (w.heap.setIfInBounds B _)[B]? = _
    rw [Array.getElem?_setIfInBounds_self_of_lt h.lt']
  · rw [List.map_append, List.nodup_append]
    refine ⟨h.keys, by simp, ?_⟩
    intro a ha b hb e
    simp at hb; subst hb; subst e
    obtain ⟨e, he, rfl⟩ := List.mem_map.1 ha
    exact hk _ (List.mem_map.2 ⟨e, he, rfl⟩) rfl
  · rw [List.map_append, List.nodup_append]
    refine ⟨h.born, by simp, ?_⟩
    intro a ha b hb e
    simp at hb; subst hb; subst e
    obtain ⟨e, he, rfl⟩ := List.mem_map.1 ha
    exact Nat.lt_irrefl _ (h.lt e he)
  · rcases List.mem_append.1 he with he | he
    · exact Nat.lt_succ_of_lt (h.lt e he)
    · simp at he; subst he; exact Nat.lt_succ_self _
theorem grown_set (w : World) (B : Nat) (o : Obj) : w.grownBy { w with heap := w.heap.setIfInBounds B o } (some B) := ⟨rfl, rfl, rfl, by simp, fun q hq hne => by
  show (w.heap.setIfInBounds B o)[q]? = _
  rw [Array.getElem?_setIfInBounds_ne (fun e => hne (by rw [e]))]⟩
def MpS (eK : κ → Value) (eV : ν → Value) (w : World) (B : Nat) (m : List (κ × ν)) (k : κ) (n : Nat) : Prop := ∃ es clk, MpE eK eV w B es clk ∧ es.map prj = m ∧ ∃ v, (k, v, n) ∈ es
end
section
variable {κ ν : Type} {eK : κ → Value} {eV : ν → Value} {P : Program} {w : World} {B clk : Nat} {T K V : TypeId}
theorem MpS.mono {m : List (κ × ν)} {k : κ} {n : Nat} (h : MpS eK eV w B m k n) {w' : World} (hb : Below w.heap.size w w') : MpS eK eV w' B m k n := by
  obtain ⟨es, clk, h1, h2⟩ := h; exact ⟨es, clk, h1.mono hb, h2⟩
end
section
variable {κ ν : Type} [DecidableEq κ] {eK : κ → Value} {eV : ν → Value} {P : Program} {w : World} {B clk : Nat} {T K V : TypeId}
end
section
variable {κ ν : Type} {eK : κ → Value} {eV : ν → Value} {P : Program} {w : World} {B clk : Nat} {T K V : TypeId}
theorem MpS.mp {m : List (κ × ν)} {k : κ} {n : Nat} (h : MpS eK eV w B m k n) : Mp eK eV w B m := by
  obtain ⟨es, clk, h1, h2, _⟩ := h; exact ⟨es, clk, h1, h2⟩
end
section
variable {κ ν : Type} [DecidableEq κ] {eK : κ → Value} {eV : ν → Value} {P : Program} {w : World} {B clk : Nat} {T K V : TypeId}
theorem run_entryM (ht : P.underlying T = some (.map K V)) (E : KeyE P K eK) {z : ν} (hz : ∀ w, (zeroValue V).run P w = .ok (eV z) w) {m : List (κ × ν)} (h : Mp eK eV w B m) (k : κ) :
    ∃ w' n, (Instr.mapEntry T (.map (some B)) (eK k)).run P w = .ok (.tuple #[eV ((getM m k).getD z), .int .i64 (n : Nat)]) w' ∧ MpS eK eV w' B (touchM m k z) k n ∧ w.grownBy w' (some B) ∧ w'.heap.size = w.heap.size := by
  obtain ⟨es, clk, hE, rfl⟩ := h
  simp only [Instr.mapEntry, Sem.run_bind, run_underlying ht, Result.andThen, MapKept.run_getObj_map hE.heap, check_run E]
  rcases find_run (eV := eV) E w k hE.keys with ⟨h1, h2⟩ | ⟨j, u, b, h1, h2, h3⟩
  · refine ⟨_, clk, ?_, ⟨es ++ [(k, z, clk)], clk + 1, hE.push h1, ?_, z, by simp⟩, grown_set _ _ _, by simp⟩
    · simp only [h2, hz, MapKept.run_setObj_map _ hE.heap, Sem.run_bind, Result.andThen, h1, Option.getD_none]
      simp [entE, goInt]
    · simp only [touchM, h1, Option.isSome_none, Bool.false_eq_true, if_false, List.map_append]; rfl
  · refine ⟨_, b, ?_, ⟨es.set j (k, u, b), clk, hE.set h1, ?_, u, ?_⟩, grown_set _ _ _, by simp⟩
    · have e1 : (((es.map (entE eK eV)).toArray[j]?).map (·.key)).getD (eK k) = eK k := by simp [h1, entE]
      have e2 : (((es.map (entE eK eV)).toArray[j]?).map (fun x => (x.born : Int))).getD 0 = (b : Int) := by simp [h1, entE]
      simp only [h3, e1, e2, stays_run E, MapKept.run_setObj_map _ hE.heap, Sem.run_bind, Result.andThen, h2, Option.getD_some]
      rw [mod_es h1 (e' := (k, u, b)) rfl]
      simp [goInt]
    · rw [putM_es hE.keys h1]
      simp only [touchM, h2, Option.isSome_some, if_true, putM]
      have hn := Mp.nodup (eK := eK) (eV := eV) (w := w) (B := B) ⟨es, clk, hE, rfl⟩
      conv => rhs; rw [← List.map_id (es.map prj)]
      refine List.map_congr_left fun e he => ?_
      split
      · rename_i hk
        have : getM (es.map prj) k = some e.2 := (getM_some hn).2 (by rw [← hk]; exact he)
        rw [h2] at this; injection this with this
        rw [this, ← hk]; rfl
      · rfl
    · have hlt : j < es.length := (List.getElem?_eq_some_iff.1 h1).1
      exact List.mem_of_getElem? (i := j) (by rw [List.getElem?_set, if_pos rfl, if_pos hlt])
end
section
variable {κ ν : Type} {eK : κ → Value} {eV : ν → Value} {P : Program} {w : World} {B clk : Nat} {T K V : TypeId}
theorem getM_stamp {es : List (κ × ν × Nat)} (hk : (es.map (·.2.2)).Nodup) {j : Nat} {k : κ} {v : ν} {n : Nat} (h : es[j]? = some (k, v, n)) : (es.map (entE eK eV)).toArray.findIdx? (fun e => (e.born : Int) == (n : Nat)) = some j := by
  rw [Array.findIdx?_eq_some_iff_findIdx_eq]
  have hlt : j < es.length := (List.getElem?_eq_some_iff.1 h).1
  refine ⟨by simpa using hlt, ?_⟩
  rw [List.findIdx_toArray, List.findIdx_eq (by simpa using hlt)]
  obtain ⟨_, h2⟩ := List.getElem?_eq_some_iff.1 h
  refine ⟨by simp [entE, h2], fun i hi => ?_⟩
  have h3 : i < es.length := by omega
  simp only [List.getElem_map, entE, beq_eq_false_iff_ne, ne_eq]
  intro e
  have e' : (es[i]).2.2 = n := by omega
  have h4 : (es.map (·.2.2))[i]? = (es.map (·.2.2))[j]? := by simp [h, List.getElem?_eq_getElem h3, e']
  have := (List.getElem?_inj (by simpa using h3) hk).1 h4
  omega
end
section
variable {κ ν : Type} [DecidableEq κ] {eK : κ → Value} {eV : ν → Value} {P : Program} {w : World} {B clk : Nat} {T K V : TypeId}
theorem putM_touch (m : List (κ × ν)) (k : κ) (z v : ν) : putM (touchM m k z) k v = putM m k v := by
  unfold putM
  rw [getM_touch, if_pos rfl]
  unfold touchM
  cases h : getM m k with
  | some u => simp
  | none =>
    simp only [Option.isSome_none, Bool.false_eq_true, if_false, Option.getD_none, Option.isSome_some, if_true, List.map_append]
    congr 1
    · conv => rhs; rw [← List.map_id m]
      exact List.map_congr_left fun e he => by rw [if_neg (getM_none.1 h e he)]; rfl
    · simp
theorem run_entryStoreM (T : TypeId) {m : List (κ × ν)} {k : κ} {n : Nat} (h : MpS eK eV w B m k n) (v : ν) :
    ∃ w', (Instr.entryStore T (.map (some B)) (.int .i64 (n : Nat)) (eV v)).run P w = .ok () w' ∧ Mp eK eV w' B (putM m k v) ∧ w.grownBy w' (some B) ∧ w'.heap.size = w.heap.size := by
  obtain ⟨es, clk, hE, rfl, u, hu⟩ := h
  obtain ⟨j, hj⟩ := List.getElem?_of_mem hu
  refine ⟨_, ?_, ⟨es.set j (k, v, n), clk, hE.set hj, putM_es hE.keys hj⟩, grown_set _ _ _, by simp⟩
  simp only [Instr.entryStore, Sem.run_bind, Result.andThen, MapKept.run_getObj_map hE.heap, asInt, asIntOf, Sem.run_pure, getM_stamp hE.born hj, MapKept.run_setObj_map _ hE.heap]
  rw [mod_es hj (e' := (k, v, n)) rfl]
theorem erase_key : ∀ (es : List (κ × ν × Nat)) (j : Nat) {k : κ} {u : ν} {b : Nat}, (es.map (·.1)).Nodup → es[j]? = some (k, u, b) → (es.eraseIdx j).map prj = (es.map prj).filter fun e => !decide (e.1 = k)
  | [], j, _, _, _, _, h => by simp at h
  | e :: r, 0, k, u, b, hn, h => by
    rw [List.map_cons, List.nodup_cons] at hn
    simp only [List.getElem?_cons_zero, Option.some.injEq] at h
    subst h
    rw [List.eraseIdx_cons_zero, List.map_cons, List.filter_cons_of_neg (by simp [prj])]
    symm
    rw [List.filter_eq_self]
    intro e he
    obtain ⟨e', he', rfl⟩ := List.mem_map.1 he
    have : e'.1 ≠ k := fun e2 => hn.1 (List.mem_map.2 ⟨e', he', e2⟩)
    simp [prj, this]
  | e :: r, j + 1, k, u, b, hn, h => by
    rw [List.map_cons, List.nodup_cons] at hn
    simp only [List.getElem?_cons_succ] at h
    have hne : e.1 ≠ k := fun e2 => hn.1 (List.mem_map.2 ⟨_, List.mem_of_getElem? h, e2.symm⟩)
    rw [List.eraseIdx_cons_succ, List.map_cons, List.map_cons, List.filter_cons_of_pos (by simp [prj, hne]), erase_key r j hn.2 h]
theorem run_deleteM {ty : TypeId} {ts : Array TypeId} (hts : ts[0]? = some T) (ht : P.underlying T = some (.map K V)) (E : KeyE P K eK) {m : List (κ × ν)} (h : Mp eK eV w B m) (k : κ) :
    ∃ w', (Builtin.delete_ ts ty #[.map (some B), eK k]).run P w = .ok (.tuple #[]) w' ∧ Mp eK eV w' B (delM m k) ∧ w.grownBy w' (some B) ∧ w'.heap.size = w.heap.size := by
  obtain ⟨es, clk, hE, rfl⟩ := h
  have hs0 : (#[Value.map (some B), eK k] : Array Value)[0]? = some (.map (some B)) := rfl
  have hs1 : (#[Value.map (some B), eK k] : Array Value)[1]? = some (eK k) := rfl
  simp only [Builtin.delete_, hts, hs0, hs1, Sem.run_bind, run_underlying ht, Result.andThen, MapKept.run_getObj_map hE.heap, check_run E]
  rcases find_run (eV := eV) E w k hE.keys with ⟨h1, h2⟩ | ⟨j, u, b, h1, h2, h3⟩
  · refine ⟨{ w with heap := w.heap.setIfInBounds B (.map (es.map (entE eK eV)).toArray clk) }, by simp [h2, MapKept.run_setObj_map _ hE.heap], ⟨es, clk, ⟨?_, hE.keys, hE.born, hE.lt⟩, ?_⟩, grown_set _ _ _, by simp⟩
    · show (w.heap.setIfInBounds B _)[B]? = _
      rw [Array.getElem?_setIfInBounds_self_of_lt hE.lt']
    · unfold delM
      symm
      rw [List.filter_eq_self]
      intro e he
      simp [getM_none.1 h1 e he]
  · have hlt : j < es.length := (List.getElem?_eq_some_iff.1 h1).1
    refine ⟨{ w with heap := w.heap.setIfInBounds B (.map ((es.eraseIdx j).map (entE eK eV)).toArray clk) }, by simp [h3, MapKept.run_setObj_map _ hE.heap, ChangeMaps.map_eraseIdx], ⟨es.eraseIdx j, clk, ⟨?_, ?_, ?_, fun e he => hE.lt e (List.mem_of_mem_eraseIdx he)⟩, ?_⟩, grown_set _ _ _, by simp⟩
    · show (w.heap.setIfInBounds B _)[B]? = _
      rw [Array.getElem?_setIfInBounds_self_of_lt hE.lt']
    · rw [ChangeMaps.map_eraseIdx]; exact hE.keys.sublist (List.eraseIdx_sublist _ _)
    · rw [ChangeMaps.map_eraseIdx]; exact hE.born.sublist (List.eraseIdx_sublist _ _)
    · exact erase_key es j hE.keys h1
end
section
variable {κ ν : Type} [DecidableEq κ] {eK : κ → Value} {eV : ν → Value} {P : Program} {n : Nat} {l : Fr} {w : World} {B : Nat} {Q : Exit → Act → World → Prop} {ops : Array Oper} {os : List Oper} {d : Option Nat} {ty : TypeId} {pos : String} {af : Array Edge} {g : Option (Nat × Bool)} {T K V : TypeId} {x y z : Operand}
/-! ### the operations -/
theorem ev_makeMap : Ev P n l ⟨d, .makeMap T none, ty, pos, af, g⟩ (.map (some w.heap.size)) w (w.alloc (.map #[] 0)) := ⟨fun A hA => by
  have h : (Instr.makeMap T none).run P w = .ok (.map (some w.heap.size)) (w.alloc (.map #[] 0)) := rfl
  simp [execOp, h]⟩
end
section
variable {κ ν : Type} {eK : κ → Value} {eV : ν → Value} {P : Program} {n : Nat} {l : Fr} {w : World} {B : Nat} {Q : Exit → Act → World → Prop} {ops : Array Oper} {os : List Oper} {d : Option Nat} {ty : TypeId} {pos : String} {af : Array Edge} {g : Option (Nat × Bool)} {T K V : TypeId} {x y z : Operand}
theorem lw_makeMap (eK : κ → Value) (eV : ν → Value) {d : Nat} (hd : Nat.blt d n = true) (h : ∀ N w', w.heap.size ≤ N → Mp eK eV w' N [] → Below w.heap.size w w' → LW P n ops Q os ((d, .map (some N)) :: l) w') :
    LW P n ops Q (⟨some d, .makeMap T none, ty, pos, af, none⟩ :: os) l w := lw_eff hd ev_makeMap (h _ _ (Nat.le_refl _) (Mp.new eK eV w) (below_alloc _ _))
end
section
variable {κ ν : Type} [DecidableEq κ] {eK : κ → Value} {eV : ν → Value} {P : Program} {n : Nat} {l : Fr} {w : World} {B : Nat} {Q : Exit → Act → World → Prop} {ops : Array Oper} {os : List Oper} {d : Option Nat} {ty : TypeId} {pos : String} {af : Array Edge} {g : Option (Nat × Bool)} {T K V : TypeId} {x y z : Operand}
theorem pv_lookupM (ht : P.underlying T = some (.map K V)) (E : KeyE P K eK) {zv : ν} (hz : ∀ w, (zeroValue V).run P w = .ok (eV zv) w) {m : List (κ × ν)} {k : κ} (hx : ev l x = some (.map (some B))) (hy : ev l y = some (eK k)) (h : Mp eK eV w B m) :
    Pv P n l ⟨d, .lookup T x y false, ty, pos, af, g⟩ (eV ((getM m k).getD zv)) w := ⟨fun A hA => by
  have := run_lookupM (w := w) ht E hz h k false
  simp only [Bool.false_eq_true, if_false] at this
  simp [execOp, hA.ev hx, hA.ev hy, this]⟩
end
section
variable {κ ν : Type} {eK : κ → Value} {eV : ν → Value} {P : Program} {n : Nat} {l : Fr} {w : World} {B : Nat} {Q : Exit → Act → World → Prop} {ops : Array Oper} {os : List Oper} {d : Option Nat} {ty : TypeId} {pos : String} {af : Array Edge} {g : Option (Nat × Bool)} {T K V : TypeId} {x y z : Operand}
theorem pv_lenM {ts : Array TypeId} (hts : ts[0]? = some T) (ht : P.underlying T = some (.map K V)) {m : List (κ × ν)} (hx : ev l x = some (.map (some B))) (h : Mp eK eV w B m) :
    Pv P n l ⟨d, .call ⟨.builtin .len, #[x], ts⟩, ty, pos, af, g⟩ (.int .i64 (m.length : Nat)) w := ⟨fun A hA => by
  obtain ⟨es, clk, hE, rfl⟩ := h
  simp [execOp, resolve, hA.ev hx, invoke, builtin, Builtin.len_, hts, run_underlying ht, MapKept.run_getObj_map hE.heap, goInt]⟩
end
section
variable {κ ν : Type} [DecidableEq κ] {eK : κ → Value} {eV : ν → Value} {P : Program} {n : Nat} {l : Fr} {w : World} {B : Nat} {Q : Exit → Act → World → Prop} {ops : Array Oper} {os : List Oper} {d : Option Nat} {ty : TypeId} {pos : String} {af : Array Edge} {g : Option (Nat × Bool)} {T K V : TypeId} {x y z : Operand}
theorem act_svs {op : Op} {Z : Value → World → Prop} {Φ : World → Prop} (hv : ∀ a, Holds n l a → ∃ w', (execOp a.eval ⟨d, op, ty, pos, af, g⟩).run P w = .ok .skip w' ∧ Φ w') (h : ∀ w', Φ w' → Z undef w') : Act1 P n l ⟨d, op, ty, pos, af, g⟩ w Z := ⟨fun a ha K Q hK => by
  obtain ⟨w', h1, h2⟩ := hv a ha
  unfold Oper.wp; rw [h1]; exact hK _ _ (h w' h2)⟩
theorem some_entryM (ht : P.underlying T = some (.map K V)) (E : KeyE P K eK) {zv : ν} (hz : ∀ w, (zeroValue V).run P w = .ok (eV zv) w) {m : List (κ × ν)} {k : κ} (hx : ev l x = some (.map (some B))) (hy : ev l y = some (eK k)) (h : Mp eK eV w B m) :
    ∀ a, Holds n l a → ∃ v w', (execOp a.eval ⟨d, .mapEntry T x y, ty, pos, af, g⟩).run P w = .ok (.value v) w' ∧ ∃ s : Nat, v = .tuple #[eV ((getM m k).getD zv), .int .i64 (s : Nat)] ∧ MpS eK eV w' B (touchM m k zv) k s ∧ w.grownBy w' (some B) ∧ w'.heap.size = w.heap.size := fun A hA => by
  obtain ⟨w', s, h1, h2⟩ := run_entryM (w := w) ht E hz h k
  exact ⟨_, w', by simp [execOp, hA.ev hx, hA.ev hy, h1], s, rfl, h2⟩
theorem some_entryStoreM {m : List (κ × ν)} {k : κ} {v : ν} {s : Nat} (hx : ev l x = some (.map (some B))) (hy : ev l y = some (.int .i64 (s : Nat))) (hz : ev l z = some (eV v)) (h : MpS eK eV w B m k s) :
    ∀ a, Holds n l a → ∃ w', (execOp a.eval ⟨d, .entryStore T x y z, ty, pos, af, g⟩).run P w = .ok .skip w' ∧ (Mp eK eV w' B (putM m k v) ∧ w.grownBy w' (some B) ∧ w'.heap.size = w.heap.size) := fun A hA => by
  obtain ⟨w', h1, h2⟩ := run_entryStoreM (P := P) (w := w) T h v
  exact ⟨w', by simp [execOp, hA.ev hx, hA.ev hy, hA.ev hz, h1], h2⟩
theorem some_deleteM {ts : Array TypeId} (hts : ts[0]? = some T) (ht : P.underlying T = some (.map K V)) (E : KeyE P K eK) {m : List (κ × ν)} {k : κ} (hx : ev l x = some (.map (some B))) (hy : ev l y = some (eK k)) (h : Mp eK eV w B m) :
    ∀ a, Holds n l a → ∃ v w', (execOp a.eval ⟨d, .call ⟨.builtin .delete, #[x, y], ts⟩, ty, pos, af, g⟩).run P w = .ok (.value v) w' ∧ (v = .tuple #[] ∧ Mp eK eV w' B (delM m k) ∧ w.grownBy w' (some B) ∧ w'.heap.size = w.heap.size) := fun A hA => by
  obtain ⟨w', h1, h2⟩ := run_deleteM (w := w) (ty := ty) hts ht E h k
  exact ⟨_, w', by simp [execOp, resolve, hA.ev hx, hA.ev hy, invoke, builtin, h1], rfl, h2⟩
/-! ### range -/
def It (eK : κ → Value) (eV : ν → Value) (w : World) (I B : Nat) (m rest : List (κ × ν)) (cur : Option (κ × ν)) : Prop := ∃ es clk seen c0, MpE eK eV w B es clk ∧ es.map prj = m ∧ w.heap[I]? = some (.mapIter (some B) clk seen c0) ∧ clk ≤ c0 ∧ (es.filter fun e => !seen.contains e.2.2).map prj = rest ∧ (∀ e, cur = some e → ∃ x ∈ es, prj x = e ∧ ∃ s : Array Nat, seen = s.push x.2.2 ∧ c0 = clk)
end
section
variable {κ ν : Type} {eK : κ → Value} {eV : ν → Value} {P : Program} {n : Nat} {l : Fr} {w : World} {B : Nat} {Q : Exit → Act → World → Prop} {ops : Array Oper} {os : List Oper} {d : Option Nat} {ty : TypeId} {pos : String} {af : Array Edge} {g : Option (Nat × Bool)} {T K V : TypeId} {x y z : Operand}
theorem It.mp {I : Nat} {m rest : List (κ × ν)} {cur : Option (κ × ν)} (h : It eK eV w I B m rest cur) : Mp eK eV w B m := by
  obtain ⟨es, clk, _, _, h1, h2, _⟩ := h; exact ⟨es, clk, h1, h2⟩
end
section
variable {κ ν : Type} [DecidableEq κ] {eK : κ → Value} {eV : ν → Value} {P : Program} {n : Nat} {l : Fr} {w : World} {B : Nat} {Q : Exit → Act → World → Prop} {ops : Array Oper} {os : List Oper} {d : Option Nat} {ty : TypeId} {pos : String} {af : Array Edge} {g : Option (Nat × Bool)} {T K V : TypeId} {x y z : Operand}
end
section
variable {κ ν : Type} {eK : κ → Value} {eV : ν → Value} {P : Program} {n : Nat} {l : Fr} {w : World} {B : Nat} {Q : Exit → Act → World → Prop} {ops : Array Oper} {os : List Oper} {d : Option Nat} {ty : TypeId} {pos : String} {af : Array Edge} {g : Option (Nat × Bool)} {T K V : TypeId} {x y z : Operand}
theorem It.mono {I : Nat} {m rest : List (κ × ν)} {cur : Option (κ × ν)} (h : It eK eV w I B m rest cur) {w' : World} (hb : Below w.heap.size w w') : It eK eV w' I B m rest cur := by
  obtain ⟨es, clk, s, c0, h1, h2, h3, h4⟩ := h
  exact ⟨es, clk, s, c0, h1.mono hb, h2, (hb.block I (Array.getElem?_eq_some_iff.1 h3).1).trans h3, h4⟩
end
section
variable {κ ν : Type} [DecidableEq κ] {eK : κ → Value} {eV : ν → Value} {P : Program} {n : Nat} {l : Fr} {w : World} {B : Nat} {Q : Exit → Act → World → Prop} {ops : Array Oper} {os : List Oper} {d : Option Nat} {ty : TypeId} {pos : String} {af : Array Edge} {g : Option (Nat × Bool)} {T K V : TypeId} {x y z : Operand}
end
section
variable {κ ν : Type} {eK : κ → Value} {eV : ν → Value} {P : Program} {n : Nat} {l : Fr} {w : World} {B : Nat} {Q : Exit → Act → World → Prop} {ops : Array Oper} {os : List Oper} {d : Option Nat} {ty : TypeId} {pos : String} {af : Array Edge} {g : Option (Nat × Bool)} {T K V : TypeId} {x y z : Operand}
theorem It.kept {I : Nat} {m rest : List (κ × ν)} {cur : Option (κ × ν)} (h : It eK eV w I B m rest cur) {w' : World} {row : Option Nat} (hg : w.grownBy w' row) (h1 : row ≠ some B) (h2 : row ≠ some I) : It eK eV w' I B m rest cur := by
  obtain ⟨es, clk, s, c0, h3, h4, h5, h6⟩ := h
  exact ⟨es, clk, s, c0, h3.kept hg h1, h4, (hg.block I (Array.getElem?_eq_some_iff.1 h5).1 (fun e => h2 e.symm)).trans h5, h6⟩
end
section
variable {κ ν : Type} [DecidableEq κ] {eK : κ → Value} {eV : ν → Value} {P : Program} {n : Nat} {l : Fr} {w : World} {B : Nat} {Q : Exit → Act → World → Prop} {ops : Array Oper} {os : List Oper} {d : Option Nat} {ty : TypeId} {pos : String} {af : Array Edge} {g : Option (Nat × Bool)} {T K V : TypeId} {x y z : Operand}
end
section
variable {κ ν : Type} {eK : κ → Value} {eV : ν → Value} {P : Program} {n : Nat} {l : Fr} {w : World} {B : Nat} {Q : Exit → Act → World → Prop} {ops : Array Oper} {os : List Oper} {d : Option Nat} {ty : TypeId} {pos : String} {af : Array Edge} {g : Option (Nat × Bool)} {T K V : TypeId} {x y z : Operand}
theorem It.bound {I : Nat} {m rest : List (κ × ν)} {cur : Option (κ × ν)} (h : It eK eV w I B m rest cur) : I < w.heap.size := by
  obtain ⟨es, clk, s, c0, h3, h4, h5, h6⟩ := h; exact (Array.getElem?_eq_some_iff.1 h5).1
end
section
variable {κ ν : Type} [DecidableEq κ] {eK : κ → Value} {eV : ν → Value} {P : Program} {n : Nat} {l : Fr} {w : World} {B : Nat} {Q : Exit → Act → World → Prop} {ops : Array Oper} {os : List Oper} {d : Option Nat} {ty : TypeId} {pos : String} {af : Array Edge} {g : Option (Nat × Bool)} {T K V : TypeId} {x y z : Operand}
end
section
variable {κ ν : Type} {eK : κ → Value} {eV : ν → Value} {P : Program} {n : Nat} {l : Fr} {w : World} {B : Nat} {Q : Exit → Act → World → Prop} {ops : Array Oper} {os : List Oper} {d : Option Nat} {ty : TypeId} {pos : String} {af : Array Edge} {g : Option (Nat × Bool)} {T K V : TypeId} {x y z : Operand}
end
section
variable {κ ν : Type} [DecidableEq κ] {eK : κ → Value} {eV : ν → Value} {P : Program} {n : Nat} {l : Fr} {w : World} {B : Nat} {Q : Exit → Act → World → Prop} {ops : Array Oper} {os : List Oper} {d : Option Nat} {ty : TypeId} {pos : String} {af : Array Edge} {g : Option (Nat × Bool)} {T K V : TypeId} {x y z : Operand}
end
section
variable {κ ν : Type} {eK : κ → Value} {eV : ν → Value} {P : Program} {n : Nat} {l : Fr} {w : World} {B : Nat} {Q : Exit → Act → World → Prop} {ops : Array Oper} {os : List Oper} {d : Option Nat} {ty : TypeId} {pos : String} {af : Array Edge} {g : Option (Nat × Bool)} {T K V : TypeId} {x y z : Operand}
theorem It.next {I : Nat} {m rest : List (κ × ν)} {cur : Option (κ × ν)} (h : It eK eV w I B m rest cur) (ty : TypeId) :
    (rest = [] ∧ (Instr.next (.pointer (some ⟨I, 0, none⟩)) false ty).run P w = .ok (.tuple #[.bool false]) w) ∨
    ∃ k v rest' w', rest.Perm ((k, v) :: rest') ∧ (Instr.next (.pointer (some ⟨I, 0, none⟩)) false ty).run P w = .ok (.tuple #[.bool true, eK k, eV v]) w' ∧ It eK eV w' I B m rest' (some (k, v)) ∧ w.grownBy w' (some I) ∧ w'.heap.size = w.heap.size := by
  obtain ⟨es, clk, seen, c0, hE, rfl, hI, hc, rfl, _⟩ := h
  have hleft : (leftOf (es.map (entE eK eV)).toArray seen).toList = (es.filter fun e => !seen.contains e.2.2).map (entE eK eV) := by
    unfold leftOf
    simp only [List.filter_toArray, List.filter_map]
    rfl
  rcases run_next_at (P := P) w ty I B clk c0 seen _ clk hI hE.heap (fun x hx => by
    simp only [List.mem_map] at hx
    obtain ⟨e, he, rfl⟩ := hx
    exact hE.lt e he) hc with ⟨h1, h2⟩ | ⟨e, he, w1, hw1, hrun⟩
  · refine Or.inl ⟨?_, h2⟩
    have : (leftOf (es.map (entE eK eV)).toArray seen).toList = [] := by rw [List.eq_nil_iff_length_eq_zero]; simpa using h1
    rw [hleft, List.map_eq_nil_iff] at this
    rw [this]; rfl
  · rw [hleft, List.mem_map] at he
    obtain ⟨⟨k, v, b⟩, he, rfl⟩ := he
    have hes : (k, v, b) ∈ es := (List.mem_filter.1 he).1
    have hw1h : w1.heap = w.heap := by rcases hw1 with rfl | rfl <;> rfl
    have hIlt : I < w.heap.size := (Array.getElem?_eq_some_iff.1 hI).1
    have hBI : B ≠ I := fun e => by have := hE.heap; rw [e, hI] at this; injection this with this; cases this
    refine Or.inr ⟨k, v, ((es.filter fun e => !seen.contains e.2.2).filter fun e => !decide (e.2.2 = b)).map prj, _, ?_, hrun, ⟨es, clk, seen.push b, clk, ⟨?_, hE.keys, hE.born, hE.lt⟩, rfl, ?_, Nat.le_refl _, ?_, fun e h => ?_⟩, ⟨?_, ?_, ?_, ?_, ?_⟩, ?_⟩
    · have hnb : ((es.filter fun e => !seen.contains e.2.2).map (·.2.2)).Nodup := hE.born.sublist (List.filter_sublist.map _)
      have key : ∀ (L : List (κ × ν × Nat)), (L.map (·.2.2)).Nodup → (k, v, b) ∈ L → L.Perm ((k, v, b) :: L.filter fun e => !decide (e.2.2 = b)) := by
        intro L
        induction L with
        | nil => intro _ h; cases h
        | cons a L ih =>
          intro hn hm
          rw [List.map_cons, List.nodup_cons] at hn
          rcases List.mem_cons.1 hm with rfl | hm
          · rw [List.filter_cons_of_neg (by simp)]
            refine List.Perm.cons _ ?_
            rw [List.filter_eq_self.2]
            intro e he
            have : e.2.2 ≠ b := fun e2 => hn.1 (List.mem_map.2 ⟨e, he, e2⟩)
            simp [this]
          · have hne : a.2.2 ≠ b := fun e2 => hn.1 (List.mem_map.2 ⟨_, hm, e2.symm⟩)
            rw [List.filter_cons_of_pos (by simp [hne])]
            exact (List.Perm.cons a (ih hn.2 hm)).trans (List.Perm.swap _ _ _)
      exact (key _ hnb he).map prj
    · show (w1.heap.setIfInBounds I _)[B]? = _
      rw [hw1h, Array.getElem?_setIfInBounds_ne hBI.symm]; exact hE.heap
    · show (w1.heap.setIfInBounds I _)[I]? = _
      rw [hw1h, Array.getElem?_setIfInBounds_self_of_lt hIlt]
      rfl
    · rw [List.filter_filter]
      congr 1
      refine List.filter_congr fun e _ => ?_
      simp only [Array.contains_push, Bool.not_or]
      rw [Bool.and_comm]
      rfl
    · injection h with h; subst h
      exact ⟨_, hes, rfl, seen, rfl, rfl⟩
    · rcases hw1 with rfl | rfl <;> rfl
    · rcases hw1 with rfl | rfl <;> rfl
    · rcases hw1 with rfl | rfl <;> rfl
    · show w.heap.size ≤ (w1.heap.setIfInBounds I _).size
      rw [hw1h]; simp
    · intro q hq hne
      show (w1.heap.setIfInBounds I _)[q]? = _
      rw [hw1h, Array.getElem?_setIfInBounds_ne (fun e => hne (by rw [e]))]
    · show (w1.heap.setIfInBounds I _).size = _
      rw [hw1h]; simp
end
section
variable {κ ν : Type} [DecidableEq κ] {eK : κ → Value} {eV : ν → Value} {P : Program} {n : Nat} {l : Fr} {w : World} {B : Nat} {Q : Exit → Act → World → Prop} {ops : Array Oper} {os : List Oper} {d : Option Nat} {ty : TypeId} {pos : String} {af : Array Edge} {g : Option (Nat × Bool)} {T K V : TypeId} {x y z : Operand}
end
section
variable {κ ν : Type} {eK : κ → Value} {eV : ν → Value} {P : Program} {n : Nat} {l : Fr} {w : World} {B : Nat} {Q : Exit → Act → World → Prop} {ops : Array Oper} {os : List Oper} {d : Option Nat} {ty : TypeId} {pos : String} {af : Array Edge} {g : Option (Nat × Bool)} {T K V : TypeId} {x y z : Operand}
end
section
variable {κ ν : Type} [DecidableEq κ] {eK : κ → Value} {eV : ν → Value} {P : Program} {n : Nat} {l : Fr} {w : World} {B : Nat} {Q : Exit → Act → World → Prop} {ops : Array Oper} {os : List Oper} {d : Option Nat} {ty : TypeId} {pos : String} {af : Array Edge} {g : Option (Nat × Bool)} {T K V : TypeId} {x y z : Operand}
end
section
variable {κ ν : Type} {eK : κ → Value} {eV : ν → Value} {P : Program} {n : Nat} {l : Fr} {w : World} {B : Nat} {Q : Exit → Act → World → Prop} {ops : Array Oper} {os : List Oper} {d : Option Nat} {ty : TypeId} {pos : String} {af : Array Edge} {g : Option (Nat × Bool)} {T K V : TypeId} {x y z : Operand}
end
section
variable {κ ν : Type} [DecidableEq κ] {eK : κ → Value} {eV : ν → Value} {P : Program} {n : Nat} {l : Fr} {w : World} {B : Nat} {Q : Exit → Act → World → Prop} {ops : Array Oper} {os : List Oper} {d : Option Nat} {ty : TypeId} {pos : String} {af : Array Edge} {g : Option (Nat × Bool)} {T K V : TypeId} {x y z : Operand}
end
end Go.Proofs.YtekomjnjddhfmaaGreat
namespace Go.Proofs.YtekomjnjddhfmaaGreat
open Go.RowKit

def arB (P : Program) (t : TypeId) (m e : Nat) : Bool := match P.underlying t with
  | some (.array k q) => k == m && sizeB P q e
  | _ => false
theorem arB_of {P : Program} {t m e : Nat} (h : arB P t m e = true) : ∃ q, P.underlying t = some (.array m q) ∧ sizeB P q e = true := by
  unfold arB at h
  cases hu : P.underlying t with
  | none => rw [hu] at h; cases h
  | some d =>
    rw [hu] at h
    cases d <;> try (cases h; done)
    rename_i k q
    simp only [Bool.and_eq_true, beq_iff_eq] at h
    obtain ⟨rfl, h2⟩ := h
    exact ⟨_, rfl, h2⟩
section
variable {P : Program} {n : Nat} {l : Fr} {w : World} {d : Option Nat} {ty : TypeId} {pos : String} {af : Array Edge} {g : Option (Nat × Bool)} {x y : Operand} {t t' : TypeId} {k : IntKind}
theorem pv_iaa {B o m e : Nat} {i : Int} (ht : arB P t m e = true) (hx : ev l x = some (.pointer (some ⟨B, o, none⟩))) (hy : ev l y = some (.int k i)) (h : 0 ≤ i ∧ i < m) : Pv P n l ⟨d, .indexAddr t x y, ty, pos, af, g⟩ (.pointer (some ⟨B, o + i.toNat * e, none⟩)) w := ⟨fun A hA => by
  obtain ⟨q, h1, h2⟩ := arB_of ht
  simp [execOp, hA.ev hx, hA.ev hy, Instr.indexAt, run_underlying h1, asIntOf, Instr.sureAddr, h.1, h.2, sizeB_run h2, Addr.add_lit]⟩
theorem pv_build0 {zs : List Value} (h : P.built t [] = some zs.toArray) : Pv P n l ⟨d, .build t #[], ty, pos, af, g⟩ (.agg zs.toArray) w := ⟨fun A hA => by
  have := run_build (P := P) w t #[] zs.toArray h
  simp [execOp, this]⟩
theorem part_one {e : TypeId} {cs : Array Value} {i : Nat} {v : Value} (h : oneB P e = true) (hv : cs[i]? = some v) (w : World) : (part e cs i).run P w = .ok v w := by
  simp [part, oneB_run h, hv]
theorem run_equalIn_ints (dp : Nat) {m : Nat} {e : TypeId} (ht : P.underlying t = some (.array m e)) (he : P.underlying e = some (.int k)) (hs : sizeB P e 1 = true) (xs ys : List Int) (hx : xs.length = m) (hy : ys.length = m) (w : World) :
    (Op.equalIn (dp + 2) t (.agg (xs.map fun x => Value.int k x).toArray) (.agg (ys.map fun x => Value.int k x).toArray)).run P w = .ok (decide (xs = ys)) w := by
  have h1 : oneB P e = true := by simp [oneB, he]
  have key : ∀ (c s : Nat), s + c = m → (∀ i, i < s → xs[i]? = ys[i]?) →
      ((forIn (List.range' s c) ((none, ()) : Option Bool × Unit) fun i r => do
        let b ← Op.equalIn (dp + 1) e (← part e (xs.map fun x => Value.int k x).toArray (i * 1)) (← part e (ys.map fun x => Value.int k x).toArray (i * 1))
        if !b then pure (ForInStep.done (some false, ())) else pure (ForInStep.yield (none, ()))) : Sem _).run P w = .ok (if xs = ys then none else some false, ()) w := by
    intro c
    induction c with
    | zero =>
      intro s hs hn
      have : xs = ys := by
        apply List.ext_getElem?
        intro i
        by_cases hi : i < s
        · exact hn i hi
        · rw [List.getElem?_eq_none (by omega), List.getElem?_eq_none (by omega)]
      simp [this]
    | succ c ih =>
      intro s hs hn
      have hxs : xs[s]? = some xs[s] := List.getElem?_eq_getElem (by omega)
      have hys : ys[s]? = some ys[s] := List.getElem?_eq_getElem (by omega)
      have p1 := part_one (P := P) (cs := (xs.map fun x => Value.int k x).toArray) (i := s) (v := .int k xs[s]) h1 (by simp [hxs]) w
      have p2 := part_one (P := P) (cs := (ys.map fun x => Value.int k x).toArray) (i := s) (v := .int k ys[s]) h1 (by simp [hys]) w
      rw [List.range'_succ, List.forIn_cons]
      simp only [Sem.run_bind, Nat.mul_one, p1, p2, Result.andThen, run_equalIn_int w dp e k k _ _ he]
      by_cases hq : xs[s] = ys[s]
      · simp only [hq, beq_self_eq_true, Bool.not_true, Bool.false_eq_true, if_false, Sem.run_pure]
        have := ih (s + 1) (by omega) (fun i hi => by
          by_cases his : i = s
          · subst his; rw [hxs, hys, hq]
          · exact hn i (by omega))
        simpa using this
      · have hne : xs ≠ ys := fun e => hq (by subst e; rfl)
        have hb : (xs[s] == ys[s]) = false := by simpa using hq
        simp only [hb, Bool.not_false, if_true, Sem.run_pure, if_neg hne]
  have hk := key m 0 (by omega) (by intro i hi; omega)
  rw [Op.equalIn]
  simp only [Sem.run_bind, run_underlying ht, Result.andThen_ok, sizeB_run hs]
  simp only [Std.Legacy.Range.forIn_eq_forIn_range', Std.Legacy.Range.size, Nat.sub_zero, Nat.add_sub_cancel, Nat.div_one]
  rw [hk]
  by_cases hq : xs = ys <;> simp [hq]
theorem pv_eqlA (op : BinOp) (hop : op = .eql) {m : Nat} {e : TypeId} (ht : P.underlying t = some (.array m e)) (he : P.underlying e = some (.int k)) (hs : sizeB P e 1 = true) (hg : P.eqGuardType P.depth t = false) (xs ys : List Int) (hxl : xs.length = m) (hyl : ys.length = m) (hx : ev l x = some (.agg (xs.map fun x => Value.int k x).toArray)) (hy : ev l y = some (.agg (ys.map fun x => Value.int k x).toArray)) : Pv P n l ⟨d, .binOp op t x y t', ty, pos, af, g⟩ (.bool (decide (xs = ys))) w := ⟨fun A hA => by
  subst hop
  have h1 := run_eqGuard_agg (P := P) w .eql t x y (xs.map fun x => Value.int k x).toArray (ys.map fun x => Value.int k x).toArray hg
  have h2 := run_equalIn_ints (P := P) (k := k) 9998 ht he hs xs ys hxl hyl w
  have h3 := run_eql_struct (P := P) w t (xs.map fun x => Value.int k x).toArray (ys.map fun x => Value.int k x).toArray
  rw [h2] at h3
  simp [execOp, hA.ev hx, hA.ev hy, h1, h3]⟩
end
/-! ### growth, with the tape's place -/
structure BelowD (w w' : World) : Prop where
  b : Below w.heap.size w w'
  d : w.drawn ≤ w'.drawn
theorem BelowD.refl (w : World) : BelowD w w := ⟨Below.refl _ _, Nat.le_refl _⟩
theorem BelowD.trans {w w1 w2 : World} (h : BelowD w w1) (k : BelowD w1 w2) : BelowD w w2 := ⟨grow_trans h.b k.b, Nat.le_trans h.d k.d⟩
theorem BelowD.drew {w w1 : World} (h : BelowD w w1) : BelowD w w1.drew := ⟨h.b.drew, Nat.le_succ_of_le h.d⟩
section
variable {P : Program} {n : Nat} {l : Fr} {w : World} {Q : Exit → Act → World → Prop} {ops : Array Oper} {os : List Oper} {ty t S T : TypeId} {pos : String} {af : Array Edge} {g : Option (Nat × Bool)} {x : Operand} {v : Value} {k nb : Nat}
end

section
variable {α : Type} {enc : α → List Value} {k nb : Nat} {T S : TypeId} {base : Nat} {w : World} {g cap : Nat} {xs : List α}
theorem Own.heap' (h : Own enc k T base w (.slice (some ⟨g, 0, none⟩) xs.length cap) xs) : ∃ cur, base ≤ g ∧ w.heap[g]? = some (.cells cur T (0, 0)) ∧ xs.length ≤ cap ∧ cap ≤ maxLen ∧ cur.size = cap * k ∧ cur.toList.take (xs.length * k) = xs.flatMap enc := by
  obtain ⟨h1, h2⟩ := h
  rcases h2 with ⟨h2, _⟩ | ⟨g', cap', cur, e1, hb, hg, hle, hmax, hsz, htk⟩
  · cases h2
  · injection e1 with e1 _ e3
    injection e1 with e1; injection e1 with e1
    subst e1; subst e3
    exact ⟨cur, hb, hg, hle, hmax, hsz, htk⟩
end
section
variable {α : Type} {enc : α → List Value} {k nb : Nat} {P : Program} {n : Nat} {l : Fr} {w : World} {Q : Exit → Act → World → Prop} {ops : Array Oper} {os : List Oper} {d : Option Nat} {ty : TypeId} {pos : String} {af : Array Edge} {gd : Option (Nat × Bool)} {S T t t' : TypeId} {x y : Operand} {base g cap : Nat} {xs : List α}
theorem lw_storeO (ht : sizeB P t k = true) (hk : ∀ x, (enc x).length = k) (h1c : ∀ x, ∀ v ∈ enc x, v.oneCell' = true) {i : Nat} {v : Value} {u : α} {o : Nat} (hx : ev l x = some (.pointer (some ⟨g, o, none⟩))) (ho : o = i * k) (hy : ev l y = some v) (hv : v.cells.toList = enc u) (hO : Own enc k T base w (.slice (some ⟨g, 0, none⟩) xs.length cap) xs) (hi : i < xs.length)
    (h : ∀ w', Own enc k T base w' (.slice (some ⟨g, 0, none⟩) xs.length cap) (xs.set i u) → w.grownBy w' (some g) → w'.heap.size = w.heap.size → LW P n ops Q os l w') : LW P n ops Q (⟨none, .store t x y, ty, pos, af, none⟩ :: os) l w := by
  subst ho
  obtain ⟨w', h1, h2, h3, h4⟩ := Own.store hk h1c hO P i hi u
  refine lw_skip (w' := w') ⟨fun A hA => ?_⟩ (h w' h2 h3 h4)
  have hs : v.cells.size = k := by rw [← hk u, ← hv]; simp
  simp [execOp, hA.ev hx, hA.ev hy, Instr.storeAt, Instr.sureAddr, storeVar, sizeB_run ht, hs, hv, h1]
theorem pv_slnil {a : Option Addr} {m c : Nat} (ht : slB P t k = true) (hx : ev l x = some (.slice a m c)) (hy : ev l y = some (.slice none 0 0)) : Pv P n l ⟨d, .binOp .eql t x y t', ty, pos, af, gd⟩ (.bool a.isNone) w := ⟨fun A hA => by
  obtain ⟨q, h1, _⟩ := slB_of ht
  have h : (Op.equalIn 10000 t (.slice a m c) (.slice none 0 0)).run P w = .ok a.isNone w := by
    rw [show (10000 : Nat) = 9999 + 1 from rfl, Op.equalIn]
    cases a <;> simp [run_underlying h1]
  have h2 : (binOp .eql t (.slice a m c) (.slice none 0 0)).run P w = .ok (.bool a.isNone) w := by
    simp [binOp, Op.equal, Op.maxDepth, h]
  have h3 : (eqGuard .eql t x y (.slice a m c) (.slice none 0 0)).run P w = .ok () w := by
    simp [eqGuard]
  simp [execOp, hA.ev hx, hA.ev hy, h3, h2]⟩
end

section
variable {α : Type} {enc : α → List Value} {k nb : Nat} {P : Program} {n : Nat} {l : Fr} {w : World} {Q : Exit → Act → World → Prop} {ops : Array Oper} {os : List Oper} {d : Nat} {ty : TypeId} {pos : String} {af : Array Edge} {S T : TypeId} {x y : Operand}
end
end Go.Proofs.YtekomjnjddhfmaaGreat
namespace Go.Proofs.YtekomjnjddhfmaaGreat
open Go.RowKit Go.PlainAid

def bytesI (s : ByteArray) : List Int := s.data.toList.map fun b => (b.toNat : Int)
theorem bytesI_len (s : ByteArray) : (bytesI s).length = s.size := by simp [bytesI]
theorem bytesI_get (s : ByteArray) {i : Nat} (h : i < s.size) : (bytesI s)[i]? = some (bt s i) := by
  have h' : i < s.data.size := h
  unfold bytesI bt
  rw [List.getElem?_map, dif_pos h, Array.getElem?_toList, Array.getElem?_eq_getElem h']; rfl
theorem bytesI_bd (s : ByteArray) : ∀ x ∈ bytesI s, 0 ≤ x ∧ x ≤ 255 := by
  intro x hx
  simp only [bytesI, List.mem_map] at hx
  obtain ⟨b, _, rfl⟩ := hx
  have := b.toNat_lt
  omega
def encI (n : Int) : List Value := [.int .i64 n]
theorem encI_len (n : Int) : (encI n).length = 1 := rfl
theorem elem_of {P : Program} {S T : TypeId} {k nb : Nat} (hs : P.underlying S = some (.slice T)) (h : (P.info? T).map (fun i => (i.zero.map (fun z => z.cells.size), i.size, i.bytes)) = some (some k, k, nb)) (hk : 0 < k) : ElemT P S T k nb := ⟨hs, by
  cases hi : P.info? T with
  | none => rw [hi] at h; simp at h
  | some i =>
    rw [hi] at h
    simp only [Option.map_some, Option.some.injEq, Prod.mk.injEq] at h
    cases hz : i.zero with
    | none => rw [hz] at h; simp at h
    | some z => rw [hz] at h; simp at h; exact ⟨i, z, rfl, hz, h.2.1, h.2.2, h.1⟩, hk⟩
def encT (x : ByteArray) : List Value := [.string x]
theorem encT_len (x : ByteArray) : (encT x).length = 1 := rfl
theorem encT_one (x : ByteArray) : ∀ v ∈ encT x, v.oneCell' = true := by intro v hv; simp [encT] at hv; subst hv; rfl
def encB (x : Int) : List Value := [.int .u8 x]
theorem encB_len (x : Int) : (encB x).length = 1 := rfl
def Asc (s : ByteArray) : Prop := ∀ x ∈ bytesI s, x < 128
theorem bt_mem {s : ByteArray} {i : Nat} (h : i < s.size) : bt s i ∈ bytesI s := List.mem_of_getElem? (bytesI_get s h)
section
variable {P : Program} {n : Nat} {l : Fr} {w : World} {Q : Exit → Act → World → Prop}
theorem is_seqb {i : Nat} {c y : Code} (h : CW P n (.seq (.block i c) y) Q l w) : CW P n (.seq (.block i c) y) Q l w := h
theorem is_blk {i : Nat} {c : Code} (h : CW P n (.block i c) Q l w) : CW P n (.block i c) Q l w := h
end
def ItS (w : World) (I : Nat) (s : ByteArray) (p : Nat) : Prop := w.heap[I]? = some (.stringIter s p)
section
variable {P : Program} {n : Nat} {l : Fr} {w : World} {Q : Exit → Act → World → Prop} {ops : Array Oper} {os : List Oper} {d : Option Nat} {ty : TypeId} {pos : String} {af : Array Edge} {g : Option (Nat × Bool)} {T t t' : TypeId} {x y z : Operand} {s u : ByteArray} {I p : Nat} {k : IntKind}
theorem ItS.lt (h : ItS w I s p) : I < w.heap.size := (Array.getElem?_eq_some_iff.1 h).1
theorem ItS.mono (h : ItS w I s p) {w' : World} (hb : Below w.heap.size w w') : ItS w' I s p := (hb.block I h.lt).trans h
theorem ItS.kept (h : ItS w I s p) {w' : World} {row : Option Nat} (hg : w.grownBy w' row) (hne : row ≠ some I) : ItS w' I s p := (hg.block I h.lt (fun e => hne e.symm)).trans h
theorem str_of (ht : isT P T (fun x => x matches .string) = true) : P.underlying T = some .string := by
  obtain ⟨u, hu, h2⟩ := isT_of ht
  have h3 : u = .string := by cases u <;> first | rfl | (simp at h2; done)
  rw [hu, h3]
theorem pv_built {ps : List (Nat × Operand)} {is : List Nat} {vs : List Value} {cells : List Value} (h1 : ps.map (·.1) = is) (h2 : evs l (ps.map (·.2)) = some vs) (h : P.built t (is.zip vs) = some cells.toArray) : Pv P n l ⟨d, .build t ps.toArray, ty, pos, af, g⟩ (.agg cells.toArray) w := ⟨fun A hA => by
  have e : (ps.map fun p => (p.1, A.eval p.2)) = is.zip vs := by
    rw [← h1, ← hA.evs h2, List.map_map, List.zip_map']; rfl
  have := run_build (P := P) w t (is.zip vs).toArray cells.toArray h
  simp only [execOp]
  have e2 : (ps.toArray.map fun p : Nat × Operand => (p.1, A.eval p.2)) = (is.zip vs).toArray := by rw [← e]; simp
  simp [e2, this]⟩
theorem beq_str (a b : ByteArray) : (a.toList == b.toList) = decide (a = b) := by
  rw [ByteArray.toList_eq, ByteArray.toList_eq]
  by_cases h : a = b
  · subst h; simp
  · have : ¬ a.data = b.data := fun e => h (by cases a; cases b; simp only at e; rw [e])
    simp [h, this]
theorem pv_seqlD (hx : ev l x = some (.string s)) (hy : ev l y = some (.string u)) : Pv P n l ⟨d, .binOp .eql t x y t', ty, pos, af, g⟩ (.bool (decide (s = u))) w := by
  rw [← beq_str]; exact pv_seql hx hy
theorem pv_sneqD (hx : ev l x = some (.string s)) (hy : ev l y = some (.string u)) : Pv P n l ⟨d, .binOp .neq t x y t', ty, pos, af, g⟩ (.bool (!decide (s = u))) w := by
  rw [← beq_str]; exact pv_sneq hx hy
theorem lw_s2b {d : Nat} {e : TypeId} (hs : isT P t (fun x => x matches .string) = true) (ht' : P.underlying t' = some (.slice e)) (he : P.underlying e = some (.int .u8)) (hd : Nat.blt d n = true) (hx : ev l x = some (.string s))
    (h : ∀ N c w', (∀ i, i < s.size → w'.cell? ⟨N, i, none⟩ = some (.int .u8 (bt s i))) → N < w'.heap.size → Below w.heap.size w w' → LW P n ops Q os ((d, .slice (some ⟨N, 0, none⟩) s.size c) :: l) w') : LW P n ops Q (⟨some d, .convert t t' x, ty, pos, af, none⟩ :: os) l w := by
  have hr := Lib.run_convert_string_bytes (P := P) w t t' e s (str_of hs) ht' he
  refine lw_eff hd (w' := Lib.bytesWorld w e s) ⟨fun A hA => by simp [execOp, hA.ev hx, hr]⟩ (h w.heap.size (grownCap w s.size 0 e) (Lib.bytesWorld w e s) (fun i hi => ?_) (by rw [Lib.bytesWorld_size]; omega) ⟨rfl, rfl, rfl, by rw [Lib.bytesWorld_size]; omega, fun j hj => Lib.bytesWorld_at_old w e s j hj⟩)
  rw [Lib.bytesWorld_cell w e s i hi]
  congr 2
  have hi' : i < s.data.size := hi
  unfold bt
  rw [dif_pos hi, List.getD_eq_getElem?_getD, Array.getElem?_toList, Array.getElem?_eq_getElem hi']; rfl
end
theorem bytes_all (s : ByteArray) (p : Int → Bool) {k : Nat} (hk : k ≤ s.size) (h : ∀ j, j < k → p (bt s j) = true) : ((bytesI s).take k).all p = true := by
  rw [List.all_eq_true]
  intro x hx
  obtain ⟨j, hj, rfl⟩ := List.mem_iff_getElem.1 hx
  rw [List.length_take] at hj
  have hj2 : j < s.size := by omega
  obtain ⟨_, e⟩ := List.getElem?_eq_some_iff.1 (bytesI_get s hj2)
  rw [List.getElem_take, e]
  exact h j (by omega)
end Go.Proofs.YtekomjnjddhfmaaGreat
namespace Go.Proofs.YtekomjnjddhfmaaGreat

structure Row where
  acct : Int
  asset : Int
  free : Int
  held : Int
deriving DecidableEq, Inhabited

abbrev mostA : Int := 1125899906842624
def there (a s : Int) : Bool := decide (0 ≤ a) && decide (a ≤ 64) && decide (0 ≤ s) && decide (s ≤ 16)
theorem there_iff {a s : Int} : there a s = true ↔ 0 ≤ a ∧ a ≤ 64 ∧ 0 ≤ s ∧ s ≤ 16 := by simp [there, and_assoc]
def keyLt (r q : Row) : Prop := r.acct < q.acct ∨ (r.acct = q.acct ∧ r.asset < q.asset)
instance (r q : Row) : Decidable (keyLt r q) := inferInstanceAs (Decidable (_ ∨ _))
def RowOk (r : Row) : Prop := there r.acct r.asset = true ∧ (r.free ≠ 0 ∨ r.held ≠ 0) ∧ (r.acct = 0 → r.held = 0 ∧ r.free ≤ 0) ∧ (r.acct ≠ 0 → 0 ≤ r.free ∧ 0 ≤ r.held ∧ r.free + r.held ≤ mostA)
instance (r : Row) : Decidable (RowOk r) := inferInstanceAs (Decidable (_ ∧ _ ∧ _ ∧ _))
def sumA (l : List Row) (a : Int) : Int := ((l.filter fun r => r.asset == a).map fun r => r.free + r.held).sum
def MayR (l : List Row) : Prop := (∀ r ∈ l, RowOk r) ∧ l.Pairwise keyLt ∧ ∀ a ∈ List.range 17, sumA l (a : Nat) = 0
instance (l : List Row) : Decidable (MayR l) := inferInstanceAs (Decidable (_ ∧ _ ∧ _))
def mayR (l : List Row) : Bool := decide (MayR l)
theorem mayR_iff {l : List Row} : mayR l = true ↔ MayR l := by simp [mayR]
def isKey (a s : Int) (r : Row) : Bool := r.acct == a && r.asset == s
theorem isKey_iff {a s : Int} {r : Row} : isKey a s r = true ↔ r.acct = a ∧ r.asset = s := by simp [isKey]
def getR (l : List Row) (a s : Int) : Row := (l.find? (isKey a s)).getD ⟨a, s, 0, 0⟩
def freeAt (l : List Row) (a s : Int) : Int := ((l.filter (isKey a s)).map (·.free)).sum
def heldAt (l : List Row) (a s : Int) : Int := ((l.filter (isKey a s)).map (·.held)).sum
def told (n : Int) : Int × Int := if -4611686018427387904 ≤ n ∧ n ≤ 4611686018427387904 then (n, 0) else (0, 41)
def totalR (l : List Row) (a s : Int) : Int := (told ((getR l a s).free + (getR l a s).held)).1
def sumR (l : List Row) (a : Int) : Int := (told (sumA l a)).1
def ofR (l : List Row) (a : Int) : List Row := l.filter fun r => r.acct == a
def keysL : List (Int × Int) := (List.range 65).flatMap fun a : Nat => (List.range 17).map fun s : Nat => ((a : Int), (s : Int))
def rowAt (f g : Int → Int → Int) (k : Int × Int) : Option Row := if f k.1 k.2 = 0 ∧ g k.1 k.2 = 0 then none else some ⟨k.1, k.2, f k.1 k.2, g k.1 k.2⟩
def rowsOf (f g : Int → Int → Int) : List Row := keysL.filterMap (rowAt f g)
def PostOk (x : Row) : Prop := there x.acct x.asset = true ∧ x.free ≤ mostA ∧ -mostA ≤ x.free ∧ x.held ≤ mostA ∧ -mostA ≤ x.held ∧ (x.acct = 0 → x.held = 0)
instance (x : Row) : Decidable (PostOk x) := inferInstanceAs (Decidable (_ ∧ _))
def AskedOk (p : List Row) : Prop := (∀ x ∈ p, PostOk x) ∧ ∀ a ∈ List.range 17, sumA p (a : Nat) = 0
instance (p : List Row) : Decidable (AskedOk p) := inferInstanceAs (Decidable (_ ∧ _))
def askedR (p : List Row) : Int := if 64 < p.length then 40 else if AskedOk p then 0 else 1
def postL (l p : List Row) : List Row := rowsOf (fun a s => freeAt l a s + freeAt p a s) (fun a s => heldAt l a s + heldAt p a s)
def fundsB (r : Row) : Bool := r.acct != 0 && (decide (r.free < 0) || decide (r.held < 0))
def overB (r : Row) : Bool := r.acct != 0 && decide (mostA < r.free + r.held)
def postR (l p : List Row) : List Row × Int :=
  if !mayR l then ([], 4) else if askedR p ≠ 0 then ([], askedR p)
  else if (postL l p).any fundsB then ([], 47) else if (postL l p).any overB then ([], 41) else (postL l p, 0)

/-! ### rows that stand in their row -/
def SortedR (l : List Row) : Prop := l.Pairwise keyLt ∧ ∀ r ∈ l, there r.acct r.asset = true ∧ (r.free ≠ 0 ∨ r.held ≠ 0)
theorem keyLt_trans {r q t : Row} (h : keyLt r q) (g : keyLt q t) : keyLt r t := by unfold keyLt at *; omega
theorem filter_key {l : List Row} (h : l.Pairwise keyLt) {r : Row} (hr : r ∈ l) : l.filter (isKey r.acct r.asset) = [r] := by
  induction l with
  | nil => cases hr
  | cons x l ih =>
    obtain ⟨hx, hl⟩ := List.pairwise_cons.1 h
    rcases List.mem_cons.1 hr with rfl | hr'
    · rw [List.filter_cons_of_pos (by simp [isKey])]
      congr 1
      rw [List.filter_eq_nil_iff]
      intro q hq hk
      have := hx q hq
      rw [isKey_iff] at hk
      unfold keyLt at this; omega
    · rw [List.filter_cons_of_neg, ih hl hr']
      intro hk
      rw [isKey_iff] at hk
      have := hx r hr'
      unfold keyLt at this; omega
theorem filter_nokey {l : List Row} {a s : Int} (h : ∀ r ∈ l, ¬ (r.acct = a ∧ r.asset = s)) : l.filter (isKey a s) = [] := by
  rw [List.filter_eq_nil_iff]; intro q hq hk; rw [isKey_iff] at hk; exact h q hq hk
theorem freeAt_mem {l : List Row} (h : l.Pairwise keyLt) {r : Row} (hr : r ∈ l) : freeAt l r.acct r.asset = r.free ∧ heldAt l r.acct r.asset = r.held := by
  simp [freeAt, heldAt, filter_key h hr]
theorem freeAt_none {l : List Row} {a s : Int} (h : ∀ r ∈ l, ¬ (r.acct = a ∧ r.asset = s)) : freeAt l a s = 0 ∧ heldAt l a s = 0 := by
  simp [freeAt, heldAt, filter_nokey h]
theorem freeAt_append (l m : List Row) (a s : Int) : freeAt (l ++ m) a s = freeAt l a s + freeAt m a s := by simp [freeAt]
end Go.Proofs.YtekomjnjddhfmaaGreat
namespace Go.Proofs.YtekomjnjddhfmaaGreat
open Go.RowKit

def encR (r : Row) : List Value := [.int .i64 r.acct, .int .i64 r.asset, .int .i64 r.free, .int .i64 r.held]
theorem encR_len (r : Row) : (encR r).length = 4 := rfl
theorem encR_one (r : Row) : ∀ v ∈ encR r, v.oneCell' = true := by intro v hv; simp [encR] at hv; rcases hv with rfl | rfl | rfl | rfl <;> rfl
theorem elemR : ElemT Tryz.prog 26 39 4 32 := elem_of Tryz.underlying26 (by kernel_rfl) (by omega)
abbrev SlL (w : World) (a : Option Addr) (cap : Nat) (xs : List Row) : Prop := SlR encR 4 w a cap xs
abbrev OwnL (T : TypeId) (base : Nat) (w : World) (v : Value) (xs : List Row) : Prop := Own encR 4 T base w v xs

def cmpI (a b : Int) : Int := if a < b then -1 else if b < a then 1 else 0
set_option maxRecDepth 20000 in
theorem isNaN_c (a : Int) (w : World) : Calls Tryz.prog 153 #[.int .i64 a] w fun e w' => e = .returned (.bool false) ∧ w = w' := by
  refine fn_enter 6 Tryz.func153 rfl rfl rfl ?_
  repeat' (first | (refine lw_pure rfl (pv_move rfl) ?_) | (refine lw_pure rfl (pv_assign rfl) ?_) | (refine lw_pure rfl (pv_neqs rfl rfl) ?_) | (refine is_cw ?_; first | (refine cw_seq ?_) | (refine cw_region ?_) | (refine cw_ret ?_)) | (refine is_qw ?_; first | (with_reducible refine qw_then ?_) | (with_reducible refine qw_then_ret ?_)) | (refine lw_nil ?_) | ((refine is_bin ?_; first | (refine lw_pure rfl (pv_neq rfl rfl) ?_))))
  exact qw_ret1 rfl rfl ⟨rfl, rfl⟩
set_option maxRecDepth 20000 in
theorem cmp_c (a b : Int) (w : World) : Calls Tryz.prog 140 #[.int .i64 a, .int .i64 b] w fun e w' => e = .returned (.int .i64 (cmpI a b)) ∧ w = w' := by
  refine fn_enter 20 Tryz.func140 rfl rfl rfl ?_
  repeat' (first | (refine lw_pure rfl (pv_move rfl) ?_) | (refine lw_pure rfl (pv_assign rfl) ?_) | (refine lw_call (f := 153) (by kernel_rfl) rfl rfl (isNaN_c _ _) ?_; rintro e w1 ⟨rfl, rfl⟩; refine ⟨_, rfl, ?_⟩) | (refine is_cw ?_; first | (refine cw_seq ?_) | (refine cw_region ?_) | (refine cw_true rfl rfl ?_) | (refine cw_false rfl rfl ?_) | (refine is_cd ?_; refine cw_true rfl (by first | assumption | exact decide_eq_true (by omega) | exact dec_notT (by omega)) ?_) | (refine is_cd ?_; refine cw_false rfl (by first | assumption | exact decide_eq_false (by omega) | exact dec_notF (by omega)) ?_) | (refine cw_skip ?_) | (refine cw_ret ?_)) | (refine is_qw ?_; first | (with_reducible refine qw_then ?_) | (with_reducible refine qw_then_ret ?_)) | (refine lw_nil ?_) | ((refine is_bin ?_; first | (refine lw_pure rfl (pv_lss rfl rfl) ?_) | (refine lw_pure rfl (pv_gtr rfl rfl) ?_))) | (refine is_cw ?_; refine cw_split rfl (fun hc => ?_) (fun hc => ?_) <;> (first | replace hc := of_decide_eq_true hc | replace hc := of_decide_eq_false hc | replace hc := dec_nT hc | replace hc := dec_nF hc | skip) <;> (try (exfalso; omega))))
  all_goals (refine qw_ret1 rfl rfl ⟨ret_int ?_, rfl⟩; unfold cmpI; (repeat' split) <;> omega)
set_option maxRecDepth 20000 in
theorem may_p (a s : Int) (w : World) : Calls Tryz.prog 131 #[.agg #[.int .i64 a, .int .i64 s]] w fun e w' => e = .returned (.bool (there a s)) ∧ Below w.heap.size w w' := by
  have hw := Below.refl w.heap.size w
  refine fn_enter 21 Tryz.func131 rfl rfl rfl ?_
  refine cw_seq (cw_region ?_)
  refine lw_boxN rfl rfl rfl ?_; intro N wn hN HA hb
  have hE := Ext.mono (Ext.refl w) hb
  clear hw
  have hw := Below.refl wn.heap.size wn
  repeat' (first | (refine lw_pure rfl (pv_move rfl) ?_) | (refine lw_pure rfl (pv_assign rfl) ?_) | (refine is_cw ?_; first | (refine cw_seq ?_) | (refine cw_region ?_) | (refine cw_ret ?_)) | (refine is_qw ?_; first | (with_reducible refine qw_then ?_) | (with_reducible refine qw_then_ret ?_)) | (refine lw_nil ?_) | (refine is_guarded ?_; first | (refine lw_not rfl rfl rfl rfl ?_) | (refine lw_not_u rfl rfl rfl ?_) | (refine lw_on rfl rfl rfl ?_) | (refine lw_on rfl rfl (by first | assumption | exact decide_eq_true (by omega) | exact decide_eq_false (by omega) | exact dec_notT (by omega) | exact dec_notF (by omega)) ?_) | (refine lw_not rfl rfl rfl (by first | assumption | exact decide_eq_true (by omega) | exact decide_eq_false (by omega) | exact dec_notT (by omega) | exact dec_notF (by omega)) ?_) | (refine lw_gs_t rfl rfl rfl (fun hc => ?_) (fun hc => ?_) <;> (first | replace hc := of_decide_eq_true hc | replace hc := of_decide_eq_false hc | replace hc := dec_nT hc | replace hc := dec_nF hc | skip) <;> (try (exfalso; omega))) | (refine lw_gs_f rfl rfl rfl (fun hc => ?_) (fun hc => ?_) <;> (first | replace hc := of_decide_eq_true hc | replace hc := of_decide_eq_false hc | replace hc := dec_nT hc | replace hc := dec_nF hc | skip) <;> (try (exfalso; omega)))) | ((refine is_bin ?_; first | (refine lw_pure rfl (pv_leq rfl rfl) ?_) | (refine lw_pure rfl (pv_geq rfl rfl) ?_))) | ((refine is_load ?_; first | (refine lw_pure rfl (pv_load (t1 rfl) rfl (by first | exact PT.ld0 (HA.mono hw) rfl | exact PT.ld (HA.mono hw) rfl)) ?_) | (refine lw_pure rfl (pv_loada (tA rfl) rfl (by first | exact PT.lda (HA.mono hw)) (by rfl)) ?_))) | ((refine is_fa ?_; first | (refine lw_pure rfl (pv_fa (tF rfl) rfl) ?_))) | (refine is_pk ?_; refine lw_pure rfl (pv_pick_t rfl rfl rfl) ?_) | (refine is_pk ?_; refine lw_pure rfl (pv_pick_f rfl rfl rfl) ?_) | (refine is_pk ?_; refine lw_pure rfl (pv_pick_t rfl (by first | assumption | exact decide_eq_true (by omega) | exact dec_notT (by omega)) rfl) ?_) | (refine is_pk ?_; refine lw_pure rfl (pv_pick_f rfl (by first | assumption | exact decide_eq_false (by omega) | exact dec_notF (by omega)) rfl) ?_) | (refine is_pk ?_; refine lw_pure rfl (pv_pick rfl rfl rfl) ?_) | (refine is_cw ?_; refine cw_split rfl (fun hc => ?_) (fun hc => ?_) <;> (first | replace hc := of_decide_eq_true hc | replace hc := of_decide_eq_false hc | replace hc := dec_nT hc | replace hc := dec_nF hc | skip) <;> (try (exfalso; omega))))
  all_goals (refine qw_ret1 rfl rfl ⟨ret_bool ?_, (hE.mono hw).b⟩; first | (simp [there]; omega) | (simp [there, *]; done))
def wrongR (x : Row) : Int := if x.acct = 0 then 0 else if x.free < 0 ∨ x.held < 0 then 47 else if mostA < x.free ∨ mostA < x.held ∨ mostA < IntKind.i64.wrap (x.free + x.held) then 41 else 0
set_option maxRecDepth 20000 in
theorem wrong_c (x : Row) (w : World) : Calls Tryz.prog 120 #[(.agg #[.int .i64 x.acct, .int .i64 x.asset, .int .i64 x.free, .int .i64 x.held])] w fun e w' => e = .returned (.int .i64 (wrongR x)) ∧ Below w.heap.size w w' := by
  have hw := Below.refl w.heap.size w
  refine fn_enter 34 Tryz.func120 rfl rfl rfl ?_
  refine cw_seq (cw_region ?_)
  refine lw_boxN rfl rfl rfl ?_; intro N wn hN HA hb
  have hE := Ext.mono (Ext.refl w) hb
  clear hw
  have hw := Below.refl wn.heap.size wn
  repeat' (first | (refine lw_pure rfl (pv_move rfl) ?_) | (refine lw_pure rfl (pv_assign rfl) ?_) | (refine lw_pure rfl (pv_add_w rfl rfl) ?_) | (refine is_cw ?_; first | (refine cw_seq ?_) | (refine cw_region ?_) | (refine cw_true rfl rfl ?_) | (refine cw_false rfl rfl ?_) | (refine is_cd ?_; refine cw_true rfl (by first | assumption | exact decide_eq_true (by omega) | exact dec_notT (by omega)) ?_) | (refine is_cd ?_; refine cw_false rfl (by first | assumption | exact decide_eq_false (by omega) | exact dec_notF (by omega)) ?_) | (refine cw_skip ?_) | (refine cw_block ?_) | (refine cw_ret ?_)) | (refine is_qw ?_; first | (with_reducible refine qw_then ?_) | (with_reducible refine qw_in ?_) | (with_reducible refine qw_in_hit ?_) | (refine qw_in_miss rfl ?_) | (with_reducible refine qw_then_exit ?_) | (with_reducible refine qw_then_ret ?_) | (with_reducible refine qw_in_ret ?_)) | (refine lw_nil ?_) | (refine is_guarded ?_; first | (refine lw_not rfl rfl rfl rfl ?_) | (refine lw_not_u rfl rfl rfl ?_) | (refine lw_on rfl rfl rfl ?_) | (refine lw_on rfl rfl (by first | assumption | exact decide_eq_true (by omega) | exact decide_eq_false (by omega) | exact dec_notT (by omega) | exact dec_notF (by omega)) ?_) | (refine lw_not rfl rfl rfl (by first | assumption | exact decide_eq_true (by omega) | exact decide_eq_false (by omega) | exact dec_notT (by omega) | exact dec_notF (by omega)) ?_) | (refine lw_gs_t rfl rfl rfl (fun hc => ?_) (fun hc => ?_) <;> (first | replace hc := of_decide_eq_true hc | replace hc := of_decide_eq_false hc | replace hc := dec_nT hc | replace hc := dec_nF hc | skip) <;> (try (exfalso; omega))) | (refine lw_gs_f rfl rfl rfl (fun hc => ?_) (fun hc => ?_) <;> (first | replace hc := of_decide_eq_true hc | replace hc := of_decide_eq_false hc | replace hc := dec_nT hc | replace hc := dec_nF hc | skip) <;> (try (exfalso; omega)))) | ((refine is_bin ?_; first | (refine lw_pure rfl (pv_lss rfl rfl) ?_) | (refine lw_pure rfl (pv_eql rfl rfl) ?_) | (refine lw_pure rfl (pv_gtr rfl rfl) ?_) | (refine lw_pure rfl (pv_inc rfl rfl (by omega)) ?_) | (refine lw_pure rfl (pv_add rfl rfl (by omega)) ?_))) | ((refine is_load ?_; first | (refine lw_pure rfl (pv_load (t1 rfl) rfl (by first | exact PT.ld0 (HA.mono hw) rfl | exact PT.ld (HA.mono hw) rfl)) ?_) | (refine lw_pure rfl (pv_loada (tA rfl) rfl (by first | exact PT.lda (HA.mono hw)) (by rfl)) ?_))) | ((refine is_fa ?_; first | (refine lw_pure rfl (pv_fa (tF rfl) rfl) ?_))) | (refine is_pk ?_; refine lw_pure rfl (pv_pick_t rfl rfl rfl) ?_) | (refine is_pk ?_; refine lw_pure rfl (pv_pick_f rfl rfl rfl) ?_) | (refine is_pk ?_; refine lw_pure rfl (pv_pick_t rfl (by first | assumption | exact decide_eq_true (by omega) | exact dec_notT (by omega)) rfl) ?_) | (refine is_pk ?_; refine lw_pure rfl (pv_pick_f rfl (by first | assumption | exact decide_eq_false (by omega) | exact dec_notF (by omega)) rfl) ?_) | (refine is_pk ?_; refine lw_pure rfl (pv_pick rfl rfl rfl) ?_) | (refine is_cw ?_; refine cw_split rfl (fun hc => ?_) (fun hc => ?_) <;> (first | replace hc := of_decide_eq_true hc | replace hc := of_decide_eq_false hc | replace hc := dec_nT hc | replace hc := dec_nF hc | skip) <;> (try (exfalso; omega))))
  all_goals (refine qw_ret1 rfl rfl ⟨ret_int ?_, (hE.mono hw).b⟩; unfold wrongR mostA; (repeat' split) <;> omega)
def amountR (n : Int) : Int := if n < 1 ∨ mostA < n then mostA + 1 else n
set_option maxRecDepth 20000 in
theorem or_c (a b : Int) (N : Nat) (w : World) (h : PT w N 3 [.int .i64 a, .int .i64 b]) : Calls Tryz.prog 139 #[.slice (some ⟨N, 0, none⟩) 2 2] w fun e w' => e = .returned (.int .i64 (if a = 0 then b else a)) ∧ w = w' := by
  have hw := Below.refl w.heap.size w
  have HS : SlR encI 1 w (some ⟨N, 0, none⟩) 2 [a, b] := h.slR encI_len rfl (by omega)
  refine fn_enter 18 Tryz.func139 rfl rfl rfl ?_
  repeat' (first | (refine lw_pure rfl (pv_move rfl) ?_) | (refine lw_pure rfl (pv_assign rfl) ?_) | (refine is_cw ?_; first | (refine cw_seq ?_) | (refine cw_region ?_) | (refine cw_true rfl rfl ?_) | (refine cw_false rfl rfl ?_) | (refine is_cd ?_; refine cw_true rfl (by first | assumption | exact decide_eq_true (by omega) | exact dec_notT (by omega)) ?_) | (refine is_cd ?_; refine cw_false rfl (by first | assumption | exact decide_eq_false (by omega) | exact dec_notF (by omega)) ?_) | (refine cw_skip ?_) | (refine cw_block ?_) | (refine cw_exit ?_) | (refine cw_ret ?_)) | (refine is_qw ?_; first | (with_reducible refine qw_then ?_) | (with_reducible refine qw_in ?_) | (with_reducible refine qw_in_hit ?_) | (refine qw_in_miss rfl ?_) | (with_reducible refine qw_then_exit ?_) | (with_reducible refine qw_then_ret ?_) | (with_reducible refine qw_in_ret ?_)) | (refine lw_nil ?_) | ((refine is_bin ?_; first | (refine lw_pure rfl (pv_lss rfl rfl) ?_) | (refine lw_pure rfl (pv_neq rfl rfl) ?_) | (refine lw_pure rfl (pv_inc rfl rfl (by omega)) ?_) | (refine lw_pure rfl (pv_add rfl rfl (by omega)) ?_))) | ((refine is_load ?_; first | (refine lw_pure rfl (pv_load (t1 rfl) rfl (by first | fail)) ?_) | (refine lw_pure rfl (pv_loada (tA rfl) rfl (by first | fail) (by rfl)) ?_))) | ((refine is_ia ?_; first | (refine lw_pure rfl (pv_ian (tS rfl) rfl rfl (by omega)) ?_) | (refine lw_pure rfl (pv_ia (tS rfl) rfl rfl (by omega)) ?_))) | ((refine is_bi ?_; first | (refine lw_pure rfl (pv_lenl (tS rfl) rfl) ?_) | (refine lw_pure rfl (pv_lens (tStr rfl) rfl) ?_))))
  refine cw_loop (σ := Nat) (fun k => [(3, .int .i64 0), (6, .slice (some ⟨N, 0, none⟩) 2 2), (7, .int .i64 (2 : Nat)), (8, .int .i64 (k : Nat))]) (fun k wr => k ≤ 2 ∧ w = wr ∧ (1 ≤ k → a = 0) ∧ (2 ≤ k → b = 0)) (fun k => 2 - k) 0 ⟨rfl, rfl, rfl, rfl, trivial⟩ ⟨Nat.zero_le _, rfl, by omega, by omega⟩ ?_
  rintro k wr ⟨hk, rfl, h1, h2⟩
  have hc : k = 0 ∨ k = 1 ∨ k = 2 := by omega
  rcases hc with rfl | rfl | rfl
  · have hx : [a, b][0]? = some a := rfl
    repeat' (first | (refine lw_pure rfl (pv_move rfl) ?_) | (refine lw_pure rfl (pv_assign rfl) ?_) | (refine is_cw ?_; first | (refine cw_seq ?_) | (refine cw_region ?_) | (refine cw_true rfl rfl ?_) | (refine cw_false rfl rfl ?_) | (refine is_cd ?_; refine cw_true rfl (by first | assumption | exact decide_eq_true (by omega) | exact dec_notT (by omega)) ?_) | (refine is_cd ?_; refine cw_false rfl (by first | assumption | exact decide_eq_false (by omega) | exact dec_notF (by omega)) ?_) | (refine cw_skip ?_) | (refine cw_block ?_) | (refine cw_exit ?_) | (refine cw_ret ?_)) | (refine is_qw ?_; first | (with_reducible refine qw_then ?_) | (with_reducible refine qw_in ?_) | (with_reducible refine qw_in_hit ?_) | (refine qw_in_miss rfl ?_) | (with_reducible refine qw_then_exit ?_) | (with_reducible refine qw_then_ret ?_) | (with_reducible refine qw_in_ret ?_)) | (refine lw_nil ?_) | ((refine is_bin ?_; first | (refine lw_pure rfl (pv_lss rfl rfl) ?_) | (refine lw_pure rfl (pv_neq rfl rfl) ?_) | (refine lw_pure rfl (pv_inc rfl rfl (by omega)) ?_) | (refine lw_pure rfl (pv_add rfl rfl (by omega)) ?_))) | ((refine is_load ?_; first | (refine lw_pure rfl (pv_load (t1 rfl) rfl (by first | exact SlR.ld (HS.mono hw) hx rfl | exact SlR.ld1 (HS.mono hw) hx rfl)) ?_) | (refine lw_pure rfl (pv_loada (tA rfl) rfl (by first | exact SlR.lda (HS.mono hw) hx) (by rfl)) ?_))) | ((refine is_ia ?_; first | (refine lw_pure rfl (pv_ian (tS rfl) rfl rfl (by omega)) ?_) | (refine lw_pure rfl (pv_ia (tS rfl) rfl rfl (by omega)) ?_))) | ((refine is_bi ?_; first | (refine lw_pure rfl (pv_lenl (tS rfl) rfl) ?_) | (refine lw_pure rfl (pv_lens (tStr rfl) rfl) ?_))) | (refine is_cw ?_; refine cw_split rfl (fun hc => ?_) (fun hc => ?_) <;> (first | replace hc := of_decide_eq_true hc | replace hc := of_decide_eq_false hc | replace hc := dec_nT hc | replace hc := dec_nF hc | skip) <;> (try (exfalso; omega))))
    · refine qw_ret1 rfl rfl ⟨ret_int ?_, rfl⟩
      rw [if_neg (by assumption)]
    · refine qw_round 1 ⟨rfl, rfl, rfl, rfl, trivial⟩ ⟨by omega, rfl, fun _ => by assumption, by omega⟩ (by omega)
  · have hx : [a, b][1]? = some b := rfl
    repeat' (first | (refine lw_pure rfl (pv_move rfl) ?_) | (refine lw_pure rfl (pv_assign rfl) ?_) | (refine is_cw ?_; first | (refine cw_seq ?_) | (refine cw_region ?_) | (refine cw_true rfl rfl ?_) | (refine cw_false rfl rfl ?_) | (refine is_cd ?_; refine cw_true rfl (by first | assumption | exact decide_eq_true (by omega) | exact dec_notT (by omega)) ?_) | (refine is_cd ?_; refine cw_false rfl (by first | assumption | exact decide_eq_false (by omega) | exact dec_notF (by omega)) ?_) | (refine cw_skip ?_) | (refine cw_block ?_) | (refine cw_exit ?_) | (refine cw_ret ?_)) | (refine is_qw ?_; first | (with_reducible refine qw_then ?_) | (with_reducible refine qw_in ?_) | (with_reducible refine qw_in_hit ?_) | (refine qw_in_miss rfl ?_) | (with_reducible refine qw_then_exit ?_) | (with_reducible refine qw_then_ret ?_) | (with_reducible refine qw_in_ret ?_)) | (refine lw_nil ?_) | ((refine is_bin ?_; first | (refine lw_pure rfl (pv_lss rfl rfl) ?_) | (refine lw_pure rfl (pv_neq rfl rfl) ?_) | (refine lw_pure rfl (pv_inc rfl rfl (by omega)) ?_) | (refine lw_pure rfl (pv_add rfl rfl (by omega)) ?_))) | ((refine is_load ?_; first | (refine lw_pure rfl (pv_load (t1 rfl) rfl (by first | exact SlR.ld (HS.mono hw) hx rfl | exact SlR.ld1 (HS.mono hw) hx rfl)) ?_) | (refine lw_pure rfl (pv_loada (tA rfl) rfl (by first | exact SlR.lda (HS.mono hw) hx) (by rfl)) ?_))) | ((refine is_ia ?_; first | (refine lw_pure rfl (pv_ian (tS rfl) rfl rfl (by omega)) ?_) | (refine lw_pure rfl (pv_ia (tS rfl) rfl rfl (by omega)) ?_))) | ((refine is_bi ?_; first | (refine lw_pure rfl (pv_lenl (tS rfl) rfl) ?_) | (refine lw_pure rfl (pv_lens (tStr rfl) rfl) ?_))) | (refine is_cw ?_; refine cw_split rfl (fun hc => ?_) (fun hc => ?_) <;> (first | replace hc := of_decide_eq_true hc | replace hc := of_decide_eq_false hc | replace hc := dec_nT hc | replace hc := dec_nF hc | skip) <;> (try (exfalso; omega))))
    · refine qw_ret1 rfl rfl ⟨ret_int ?_, rfl⟩
      rw [if_pos (h1 (by omega))]
    · refine qw_round 2 ⟨rfl, rfl, rfl, rfl, trivial⟩ ⟨by omega, rfl, fun _ => h1 (by omega), fun _ => by assumption⟩ (by omega)
  · repeat' (first | (refine lw_pure rfl (pv_move rfl) ?_) | (refine lw_pure rfl (pv_assign rfl) ?_) | (refine is_cw ?_; first | (refine cw_seq ?_) | (refine cw_region ?_) | (refine cw_true rfl rfl ?_) | (refine cw_false rfl rfl ?_) | (refine is_cd ?_; refine cw_true rfl (by first | assumption | exact decide_eq_true (by omega) | exact dec_notT (by omega)) ?_) | (refine is_cd ?_; refine cw_false rfl (by first | assumption | exact decide_eq_false (by omega) | exact dec_notF (by omega)) ?_) | (refine cw_skip ?_) | (refine cw_block ?_) | (refine cw_exit ?_) | (refine cw_ret ?_)) | (refine is_qw ?_; first | (with_reducible refine qw_then ?_) | (with_reducible refine qw_in ?_) | (with_reducible refine qw_in_hit ?_) | (refine qw_in_miss rfl ?_) | (with_reducible refine qw_then_exit ?_) | (with_reducible refine qw_then_ret ?_) | (with_reducible refine qw_in_ret ?_)) | (refine lw_nil ?_) | ((refine is_bin ?_; first | (refine lw_pure rfl (pv_lss rfl rfl) ?_) | (refine lw_pure rfl (pv_neq rfl rfl) ?_) | (refine lw_pure rfl (pv_inc rfl rfl (by omega)) ?_) | (refine lw_pure rfl (pv_add rfl rfl (by omega)) ?_))) | ((refine is_load ?_; first | (refine lw_pure rfl (pv_load (t1 rfl) rfl (by first | fail)) ?_) | (refine lw_pure rfl (pv_loada (tA rfl) rfl (by first | fail) (by rfl)) ?_))) | ((refine is_ia ?_; first | (refine lw_pure rfl (pv_ian (tS rfl) rfl rfl (by omega)) ?_) | (refine lw_pure rfl (pv_ia (tS rfl) rfl rfl (by omega)) ?_))) | ((refine is_bi ?_; first | (refine lw_pure rfl (pv_lenl (tS rfl) rfl) ?_) | (refine lw_pure rfl (pv_lens (tStr rfl) rfl) ?_))))
    refine qw_ret1 rfl rfl ⟨ret_int ?_, rfl⟩
    rw [if_pos (h1 (by omega)), h2 (by omega)]

theorem elemN : ElemT Tryz.prog 182 3 1 8 := elem_of Tryz.underlying182 (by kernel_rfl) (by omega)
def compI (a s b t : Int) : Int := if cmpI a b = 0 then cmpI s t else cmpI a b
set_option maxRecDepth 20000 in
theorem compare_c (a s b t : Int) (w : World) : Calls Tryz.prog 123 #[.agg #[.int .i64 a, .int .i64 s], .agg #[.int .i64 b, .int .i64 t]] w fun e w' => e = .returned (.int .i64 (compI a s b t)) ∧ Below w.heap.size w w' := by
  have hE := Ext.refl w
  have hw := Below.refl w.heap.size w
  refine fn_enter 17 Tryz.func123 rfl rfl rfl ?_
  refine cw_seq (cw_region ?_)
  refine lw_boxN rfl rfl rfl ?_; intro N1 wn hN1 HA hb
  replace hw := grow_trans hw hb
  replace hE := hE.mono hw; clear hw; have hw := Below.refl wn.heap.size wn
  refine lw_boxN rfl rfl rfl ?_; intro N2 wm hN2 HB hb
  replace hw := grow_trans hw hb
  clear hb
  replace hE := hE.mono hw; replace HA := HA.mono hw; clear hw; have hw := Below.refl wm.heap.size wm
  repeat' (first | (refine lw_pure rfl (pv_move rfl) ?_) | (refine lw_pure rfl (pv_assign rfl) ?_) | (refine is_cw ?_; first | (refine cw_seq ?_) | (refine cw_region ?_) | (refine cw_ret ?_)) | (refine is_qw ?_; first | (with_reducible refine qw_then ?_) | (with_reducible refine qw_then_ret ?_)) | (refine lw_nil ?_) | ((refine is_load ?_; first | (refine lw_pure rfl (pv_load (t1 rfl) rfl (by first | exact PT.ld0 (HA.mono hw) rfl | exact PT.ld (HA.mono hw) rfl | exact PT.ld0 (HB.mono hw) rfl | exact PT.ld (HB.mono hw) rfl)) ?_) | (refine lw_pure rfl (pv_loada (tA rfl) rfl (by first | exact PT.lda (HA.mono hw) | exact PT.lda (HB.mono hw)) (by rfl)) ?_))) | ((refine is_fa ?_; first | (refine lw_pure rfl (pv_fa (tF rfl) rfl) ?_))))
  refine cw_drawn (fun w' => Below wm.heap.size wm w') (by kernel_rfl) (by repeat (first | exact NoPanic.body | with_reducible refine NoPanic.then ?_ | with_reducible refine NoPanic.inBlock ?_)) (fun hNP => ?_)
  have hS := hw.drew
  (refine at0 0 rfl (fun w' hq => pv_fa (tF rfl) rfl) ?_)
  first | (refine at0 1 rfl (fun w' hq => pv_load (t1 rfl) rfl (by first | exact PT.ld0 (HA.mono hq) rfl | exact PT.ld (HA.mono hq) rfl | exact PT.ld0 (HB.mono hq) rfl | exact PT.ld (HB.mono hq) rfl)) ?_) | (refine at0 1 rfl (fun w' hq => pv_loada (tA rfl) rfl (by first | exact PT.lda (HA.mono hq) | exact PT.lda (HB.mono hq)) (by rfl)) ?_)
  (refine at0 2 rfl (fun w' hq => pv_fa (tF rfl) rfl) ?_)
  first | (refine at0 3 rfl (fun w' hq => pv_load (t1 rfl) rfl (by first | exact PT.ld0 (HA.mono hq) rfl | exact PT.ld (HA.mono hq) rfl | exact PT.ld0 (HB.mono hq) rfl | exact PT.ld (HB.mono hq) rfl)) ?_) | (refine at0 3 rfl (fun w' hq => pv_loada (tA rfl) rfl (by first | exact PT.lda (HA.mono hq) | exact PT.lda (HB.mono hq)) (by rfl)) ?_)
  (refine at0 5 rfl (fun w' hq => pv_fa (tF rfl) rfl) ?_)
  first | (refine at0 6 rfl (fun w' hq => pv_load (t1 rfl) rfl (by first | exact PT.ld0 (HA.mono hq) rfl | exact PT.ld (HA.mono hq) rfl | exact PT.ld0 (HB.mono hq) rfl | exact PT.ld (HB.mono hq) rfl)) ?_) | (refine at0 6 rfl (fun w' hq => pv_loada (tA rfl) rfl (by first | exact PT.lda (HA.mono hq) | exact PT.lda (HB.mono hq)) (by rfl)) ?_)
  (refine at0 7 rfl (fun w' hq => pv_fa (tF rfl) rfl) ?_)
  first | (refine at0 8 rfl (fun w' hq => pv_load (t1 rfl) rfl (by first | exact PT.ld0 (HA.mono hq) rfl | exact PT.ld (HA.mono hq) rfl | exact PT.ld0 (HB.mono hq) rfl | exact PT.ld (HB.mono hq) rfl)) ?_) | (refine at0 8 rfl (fun w' hq => pv_loada (tA rfl) rfl (by first | exact PT.lda (HA.mono hq) | exact PT.lda (HB.mono hq)) (by rfl)) ?_)
  refine aw_act 4 (by kernel_rfl) rfl rfl rfl ?_
  refine act_call (f := 140) (by kernel_rfl) rfl (cmp_c _ _ _) ?_; rintro e w1 ⟨rfl, rfl⟩; refine ⟨_, rfl, hS, fun hS => ?_⟩
  refine aw_act 9 (by kernel_rfl) rfl rfl rfl ?_
  refine act_call (f := 140) (by kernel_rfl) rfl (cmp_c _ _ _) ?_; rintro e w1 ⟨rfl, rfl⟩; refine ⟨_, rfl, hS, fun hS => ?_⟩
  refine aw_act 10 (by kernel_rfl) rfl rfl rfl ?_
  refine act_bs (vs := [.int .i64 (cmpI a b), .int .i64 (cmpI s t)]) (cs := [.int .i64 (cmpI a b), .int .i64 (cmpI s t)]) elemN rfl rfl (by omega) (by omega) rfl (by simp [Value.cells]) ?_; intro wb HC hb; refine ⟨grow_trans hS hb, fun hS => ?_⟩
  refine aw_act 11 (by kernel_rfl) rfl rfl rfl ?_
  refine act_call (f := 139) (by kernel_rfl) rfl (or_c _ _ _ _ HC) ?_; rintro e w1 ⟨rfl, rfl⟩; refine ⟨_, rfl, hS, fun hS => ?_⟩
  (refine at0 12 rfl (fun w' hq => pv_assign rfl) ?_)
  refine aw_done (by kernel_rfl) ?_
  replace hw := hS; clear hS hNP
  repeat' (first | (refine lw_pure rfl (pv_move rfl) ?_) | (refine lw_pure rfl (pv_assign rfl) ?_) | (refine is_cw ?_; first | (refine cw_seq ?_) | (refine cw_region ?_) | (refine cw_ret ?_)) | (refine is_qw ?_; first | (with_reducible refine qw_then ?_) | (with_reducible refine qw_then_ret ?_)) | (refine lw_nil ?_) | ((refine is_load ?_; first | (refine lw_pure rfl (pv_load (t1 rfl) rfl (by first | fail)) ?_) | (refine lw_pure rfl (pv_loada (tA rfl) rfl (by first | fail) (by rfl)) ?_))) | ((refine is_fa ?_; first | (refine lw_pure rfl (pv_fa (tF rfl) rfl) ?_))))
  exact qw_ret1 rfl rfl ⟨rfl, (hE.mono hw).b⟩

set_option maxRecDepth 20000 in
theorem run_add64P (x y : Int) (w : World) (hx : 0 ≤ x) (hy : 0 ≤ y) : (callFunc 113 #[.int .u64 x, .int .u64 y, .int .u64 0]).run Tryz.prog w = .ok (.value (.tuple #[.int .u64 ((x + y) % 18446744073709551616), .int .u64 ((x + y) / 18446744073709551616)])) w := by
  rw [run_callFunc_extern (fn := Tryz.f113) rfl (by kernel_rfl) (by kernel_rfl) (by kernel_rfl) (e := add64Entry) (by kernel_rfl), run_add64 x y 0 hx hy (by omega) (by omega)]
  simp [Result.andThen]
theorem elemI : ElemT Tryz.prog 32 2 1 8 := elem_of Tryz.underlying32 (by kernel_rfl) (by omega)
abbrev wideV (z : Int) : Value := .agg #[.int .i64 (z / 18446744073709551616), .int .u64 (z % 18446744073709551616)]
set_option maxRecDepth 20000 in
theorem plus_c (z m : Int) (w : World) (hz : -1329227995784915872903807060280344576 ≤ z ∧ z ≤ 1329227995784915872903807060280344576) (hm : -9223372036854775808 ≤ m ∧ m ≤ 9223372036854775807) : Calls Tryz.prog 78 #[wideV z, .int .i64 m] w fun e w' => e = .returned (wideV (z + m)) ∧ Below w.heap.size w w' := by
  have hE := Ext.refl w
  have hw := Below.refl w.heap.size w
  refine fn_enter 25 Tryz.func78 rfl rfl rfl ?_
  refine cw_seq (cw_region ?_)
  refine lw_boxN rfl rfl rfl ?_; intro N1 wn hN1 HA hb
  replace hw := grow_trans hw hb
  replace hE := hE.mono hw; clear hw; have hw := Below.refl wn.heap.size wn
  repeat' (first | (refine lw_pure rfl (pv_move rfl) ?_) | (refine lw_pure rfl (pv_assign rfl) ?_) | (refine is_cw ?_; first | (refine cw_seq ?_) | (refine cw_region ?_) | (refine cw_ret ?_)) | (refine is_qw ?_; first | (with_reducible refine qw_then ?_) | (with_reducible refine qw_then_ret ?_)) | (refine lw_nil ?_) | ((refine is_bin ?_; first | (refine lw_pure rfl (pv_inc rfl rfl (by omega)) ?_) | (refine lw_pure rfl (pv_add rfl rfl (by omega)) ?_) | (refine lw_pure rfl (pv_shr rfl rfl (by omega)) ?_))) | ((refine is_load ?_; first | (refine lw_pure rfl (pv_load (t1 rfl) rfl (by first | exact PT.ld0 (HA.mono hw) rfl | exact PT.ld (HA.mono hw) rfl)) ?_) | (refine lw_pure rfl (pv_loada (tA rfl) rfl (by first | exact PT.lda (HA.mono hw)) (by rfl)) ?_))) | ((refine is_fa ?_; first | (refine lw_pure rfl (pv_fa (tF rfl) rfl) ?_))) | ((refine is_bd ?_; first | (refine lw_pure rfl (tyB_108 rfl rfl rfl) ?_))) | (refine lw_pure rfl (pv_extract rfl rfl) ?_) | (refine is_cv ?_; refine lw_pure rfl (pv_conv (tCv rfl rfl) rfl (by omega)) ?_))
  refine lw_allocN rfl (by first | exact tyv_29 | exact tyv_30 | exact tyv_33 | exact tyv_34 | exact tyv_36 | exact tyv_37 | exact tyv_38 | exact tyv_39 | exact tyv_40 | exact tyv_41 | exact tyv_43 | exact tyv_44 | exact tyv_45 | exact tyv_46 | exact tyv_73 | exact tyv_74 | exact tyv_80 | exact tyv_81 | exact tyv_107 | exact tyv_108 | exact tyv_123 | exact tyv_146 | exact tyv_147 | exact tyv_148 | exact tyv_149) rfl ?_; intro N2 wm hN2 HB hb
  replace hw := grow_trans hw hb
  clear hb
  have hu : IntKind.u64.wrap m = m % 18446744073709551616 := rfl
  have h63 : m.fdiv (2 ^ (min (63 : Int).toNat IntKind.i64.bits)) = m / 9223372036854775808 := by
    show m.fdiv 9223372036854775808 = _
    rw [Int.fdiv_eq_ediv_of_nonneg _ (by omega)]
  repeat' (first | (refine lw_pure rfl (pv_move rfl) ?_) | (refine lw_pure rfl (pv_assign rfl) ?_) | (refine lw_pure rfl (pv_conv_w (tCv rfl rfl) rfl) ?_) | (refine is_cw ?_; first | (refine cw_seq ?_) | (refine cw_region ?_) | (refine cw_ret ?_)) | (refine is_qw ?_; first | (with_reducible refine qw_then ?_) | (with_reducible refine qw_then_ret ?_)) | (refine lw_nil ?_) | ((refine is_bin ?_; first | (refine lw_pure rfl (pv_inc rfl rfl (by omega)) ?_) | (refine lw_pure rfl (pv_add rfl rfl (by omega)) ?_) | (refine lw_pure rfl (pv_shr rfl rfl (by omega)) ?_))) | ((refine is_load ?_; first | (refine lw_pure rfl (pv_load (t1 rfl) rfl (by first | exact PT.ld0 (HA.mono hw) rfl | exact PT.ld (HA.mono hw) rfl)) ?_) | (refine lw_pure rfl (pv_loada (tA rfl) rfl (by first | exact PT.lda (HA.mono hw)) (by rfl)) ?_))) | ((refine is_fa ?_; first | (refine lw_pure rfl (pv_fa (tF rfl) rfl) ?_))) | ((refine is_bd ?_; first | (refine lw_pure rfl (tyB_108 rfl rfl rfl) ?_))) | (refine lw_pure rfl (pv_extract rfl rfl) ?_) | (refine is_cv ?_; refine lw_pure rfl (pv_conv (tCv rfl rfl) rfl (by omega)) ?_))
  refine lw_pure rfl (pv_ext (vs := [.int .u64 (z % 18446744073709551616), .int .u64 (IntKind.u64.wrap m), .int .u64 0]) rfl (run_add64P _ _ _ (by omega) (by omega))) ?_
  repeat' (first | (refine lw_pure rfl (pv_move rfl) ?_) | (refine lw_pure rfl (pv_assign rfl) ?_) | (refine is_cw ?_; first | (refine cw_seq ?_) | (refine cw_region ?_) | (refine cw_ret ?_)) | (refine is_qw ?_; first | (with_reducible refine qw_then ?_) | (with_reducible refine qw_then_ret ?_)) | (refine lw_nil ?_) | ((refine is_bin ?_; first | (refine lw_pure rfl (pv_inc rfl rfl (by omega)) ?_) | (refine lw_pure rfl (pv_add rfl rfl (by omega)) ?_) | (refine lw_pure rfl (pv_shr rfl rfl (by omega)) ?_))) | ((refine is_load ?_; first | (refine lw_pure rfl (pv_load (t1 rfl) rfl (by first | exact PT.ld0 (HA.mono hw) rfl | exact PT.ld (HA.mono hw) rfl)) ?_) | (refine lw_pure rfl (pv_loada (tA rfl) rfl (by first | exact PT.lda (HA.mono hw)) (by rfl)) ?_))) | ((refine is_fa ?_; first | (refine lw_pure rfl (pv_fa (tF rfl) rfl) ?_))) | ((refine is_bd ?_; first | (refine lw_pure rfl (tyB_108 rfl rfl rfl) ?_))) | (refine lw_pure rfl (pv_extract rfl rfl) ?_) | (refine is_cv ?_; refine lw_pure rfl (pv_conv (tCv rfl rfl) rfl (by omega)) ?_))
  refine lw_storea (vs := [.int .i64 (z / 18446744073709551616 + m.fdiv (2 ^ (min (63 : Int).toNat IntKind.i64.bits)) + (z % 18446744073709551616 + IntKind.u64.wrap m) / 18446744073709551616), .int .u64 ((z % 18446744073709551616 + IntKind.u64.wrap m) % 18446744073709551616)]) HB (tZ rfl) rfl rfl rfl rfl (by simp [Value.oneCell']) ?_; intro wk HB hg hz9; replace hw := st_hw hw hg hN2; clear hg hz9
  repeat' (first | (refine lw_pure rfl (pv_move rfl) ?_) | (refine lw_pure rfl (pv_assign rfl) ?_) | (refine is_cw ?_; first | (refine cw_seq ?_) | (refine cw_region ?_) | (refine cw_ret ?_)) | (refine is_qw ?_; first | (with_reducible refine qw_then ?_) | (with_reducible refine qw_then_ret ?_)) | (refine lw_nil ?_) | ((refine is_bin ?_; first | (refine lw_pure rfl (pv_inc rfl rfl (by omega)) ?_) | (refine lw_pure rfl (pv_add rfl rfl (by omega)) ?_) | (refine lw_pure rfl (pv_shr rfl rfl (by omega)) ?_))) | ((refine is_load ?_; first | (refine lw_pure rfl (pv_load (t1 rfl) rfl (by first | exact PT.ld0 (HA.mono hw) rfl | exact PT.ld (HA.mono hw) rfl)) ?_) | (refine lw_pure rfl (pv_loada (tA rfl) rfl (by first | exact PT.lda (HA.mono hw)) (by rfl)) ?_))) | ((refine is_fa ?_; first | (refine lw_pure rfl (pv_fa (tF rfl) rfl) ?_))) | ((refine is_bd ?_; first | (refine lw_pure rfl (tyB_108 rfl rfl rfl) ?_))) | (refine lw_pure rfl (pv_extract rfl rfl) ?_) | (refine is_cv ?_; refine lw_pure rfl (pv_conv (tCv rfl rfl) rfl (by omega)) ?_))
  refine qw_retc rfl rfl (agg_ld (tA rfl) rfl HB.lda) ⟨?_, (hE.mono hw).b⟩
  have e1 : z / 18446744073709551616 + m.fdiv (2 ^ (min (63 : Int).toNat IntKind.i64.bits)) + (z % 18446744073709551616 + IntKind.u64.wrap m) / 18446744073709551616 = (z + m) / 18446744073709551616 := by rw [h63, hu]; omega
  have e2 : (z % 18446744073709551616 + IntKind.u64.wrap m) % 18446744073709551616 = (z + m) % 18446744073709551616 := by rw [hu]; omega
  rw [e1, e2]
theorem wrapU (a : Int) (h : 0 ≤ a) (h2 : a < 18446744073709551616) : IntKind.i64.wrap a = a - (if a < 9223372036854775808 then 0 else 18446744073709551616) := by
  have h3 : a % 18446744073709551616 = a := by omega
  show (if (true && decide (a % 18446744073709551616 ≥ 9223372036854775808)) = true then a % 18446744073709551616 - 18446744073709551616 else a % 18446744073709551616) = _
  rw [h3]
  by_cases hc : a < 9223372036854775808
  · rw [if_pos hc, if_neg (by simp; omega)]; omega
  · rw [if_neg hc, if_pos (by simp; omega)]
def farS (z : Int) : Bool := decide (z > 4611686018427387904) || decide (z < -4611686018427387904)
def toldN (z : Int) : Int := if farS z then 0 else z
def toldE (z : Int) : Int := if farS z then 41 else 0
set_option maxRecDepth 20000 in
theorem told_c (z : Int) (w : World) (hz : -1329227995784915872903807060280344576 ≤ z ∧ z ≤ 1329227995784915872903807060280344576) : Calls Tryz.prog 79 #[wideV z] w fun e w' => e = .returned (.tuple #[.int .i64 (toldN z), .int .i64 (toldE z)]) ∧ Below w.heap.size w w' := by
  have hE := Ext.refl w
  have hw := Below.refl w.heap.size w
  refine fn_enter 22 Tryz.func79 rfl rfl rfl ?_
  refine cw_seq (cw_region ?_)
  refine lw_boxN rfl rfl rfl ?_; intro N1 wn hN1 HA hb
  replace hw := grow_trans hw hb
  replace hE := hE.mono hw; clear hw; have hw := Below.refl wn.heap.size wn
  have hn : IntKind.i64.wrap (z % 18446744073709551616) = z % 18446744073709551616 - (if z % 18446744073709551616 < 9223372036854775808 then 0 else 18446744073709551616) := wrapU _ (by omega) (by omega)
  have h63 : (IntKind.i64.wrap (z % 18446744073709551616)).fdiv (2 ^ (min (63 : Int).toNat IntKind.i64.bits)) = IntKind.i64.wrap (z % 18446744073709551616) / 9223372036854775808 := by
    show Int.fdiv _ 9223372036854775808 = _
    rw [Int.fdiv_eq_ediv_of_nonneg _ (by omega)]
  by_cases hf : z > 4611686018427387904 ∨ z < -4611686018427387904
  · have e1 : toldN z = 0 := by simp [toldN, farS]; omega
    have e2 : toldE z = 41 := by simp [toldE, farS]; omega
    rw [e1, e2]
    repeat' (first | (refine lw_pure rfl (pv_move rfl) ?_) | (refine lw_pure rfl (pv_assign rfl) ?_) | (refine lw_pure rfl (pv_conv_w (tCv rfl rfl) rfl) ?_) | (refine is_cw ?_; first | (refine cw_seq ?_) | (refine cw_region ?_) | (refine cw_true rfl rfl ?_) | (refine cw_false rfl rfl ?_) | (refine is_cd ?_; refine cw_true rfl (by first | assumption | exact decide_eq_true (by omega) | exact dec_notT (by omega)) ?_) | (refine is_cd ?_; refine cw_false rfl (by first | assumption | exact decide_eq_false (by omega) | exact dec_notF (by omega)) ?_) | (refine cw_skip ?_) | (refine cw_ret ?_)) | (refine is_qw ?_; first | (with_reducible refine qw_then ?_) | (with_reducible refine qw_then_ret ?_)) | (refine lw_nil ?_) | (refine is_guarded ?_; first | (refine lw_not rfl rfl rfl rfl ?_) | (refine lw_not_u rfl rfl rfl ?_) | (refine lw_on rfl rfl rfl ?_) | (refine lw_on rfl rfl (by first | assumption | exact decide_eq_true (by omega) | exact decide_eq_false (by omega) | exact dec_notT (by omega) | exact dec_notF (by omega)) ?_) | (refine lw_not rfl rfl rfl (by first | assumption | exact decide_eq_true (by omega) | exact decide_eq_false (by omega) | exact dec_notT (by omega) | exact dec_notF (by omega)) ?_) | (refine lw_gs_t rfl rfl rfl (fun hc => ?_) (fun hc => ?_) <;> (first | replace hc := of_decide_eq_true hc | replace hc := of_decide_eq_false hc | replace hc := dec_nT hc | replace hc := dec_nF hc | skip) <;> (try (exfalso; omega))) | (refine lw_gs_f rfl rfl rfl (fun hc => ?_) (fun hc => ?_) <;> (first | replace hc := of_decide_eq_true hc | replace hc := of_decide_eq_false hc | replace hc := dec_nT hc | replace hc := dec_nF hc | skip) <;> (try (exfalso; omega)))) | ((refine is_bin ?_; first | (refine lw_pure rfl (pv_lss rfl rfl) ?_) | (refine lw_pure rfl (pv_neq rfl rfl) ?_) | (refine lw_pure rfl (pv_gtr rfl rfl) ?_) | (refine lw_pure rfl (pv_shr rfl rfl (by omega)) ?_))) | ((refine is_load ?_; first | (refine lw_pure rfl (pv_load (t1 rfl) rfl (by first | exact PT.ld0 (HA.mono hw) rfl | exact PT.ld (HA.mono hw) rfl)) ?_) | (refine lw_pure rfl (pv_loada (tA rfl) rfl (by first | exact PT.lda (HA.mono hw)) (by rfl)) ?_))) | ((refine is_fa ?_; first | (refine lw_pure rfl (pv_fa (tF rfl) rfl) ?_))) | (refine is_pk ?_; refine lw_pure rfl (pv_pick_t rfl rfl rfl) ?_) | (refine is_pk ?_; refine lw_pure rfl (pv_pick_f rfl rfl rfl) ?_) | (refine is_pk ?_; refine lw_pure rfl (pv_pick_t rfl (by first | assumption | exact decide_eq_true (by omega) | exact dec_notT (by omega)) rfl) ?_) | (refine is_pk ?_; refine lw_pure rfl (pv_pick_f rfl (by first | assumption | exact decide_eq_false (by omega) | exact dec_notF (by omega)) rfl) ?_) | (refine is_pk ?_; refine lw_pure rfl (pv_pick rfl rfl rfl) ?_) | (refine is_cv ?_; refine lw_pure rfl (pv_conv (tCv rfl rfl) rfl (by omega)) ?_) | (refine is_cw ?_; refine cw_split rfl (fun hc => ?_) (fun hc => ?_) <;> (first | replace hc := of_decide_eq_true hc | replace hc := of_decide_eq_false hc | replace hc := dec_nT hc | replace hc := dec_nF hc | skip) <;> (try (exfalso; omega))))
    all_goals first | exact qw_ret2 rfl rfl rfl ⟨rfl, (hE.mono hw).b⟩ | (exfalso; (split at hn) <;> omega)
  · have e1 : toldN z = z := by simp [toldN, farS]; omega
    have e2 : toldE z = 0 := by simp [toldE, farS]; omega
    have h1 : IntKind.i64.wrap (z % 18446744073709551616) = z := by rw [hn]; split <;> omega
    rw [e1, e2]
    repeat' (first | (refine lw_pure rfl (pv_move rfl) ?_) | (refine lw_pure rfl (pv_assign rfl) ?_) | (refine lw_pure rfl (pv_conv_w (tCv rfl rfl) rfl) ?_) | (refine is_cw ?_; first | (refine cw_seq ?_) | (refine cw_region ?_) | (refine cw_true rfl rfl ?_) | (refine cw_false rfl rfl ?_) | (refine is_cd ?_; refine cw_true rfl (by first | assumption | exact decide_eq_true (by omega) | exact dec_notT (by omega)) ?_) | (refine is_cd ?_; refine cw_false rfl (by first | assumption | exact decide_eq_false (by omega) | exact dec_notF (by omega)) ?_) | (refine cw_skip ?_) | (refine cw_ret ?_)) | (refine is_qw ?_; first | (with_reducible refine qw_then ?_) | (with_reducible refine qw_then_ret ?_)) | (refine lw_nil ?_) | (refine is_guarded ?_; first | (refine lw_not rfl rfl rfl rfl ?_) | (refine lw_not_u rfl rfl rfl ?_) | (refine lw_on rfl rfl rfl ?_) | (refine lw_on rfl rfl (by first | assumption | exact decide_eq_true (by omega) | exact decide_eq_false (by omega) | exact dec_notT (by omega) | exact dec_notF (by omega)) ?_) | (refine lw_not rfl rfl rfl (by first | assumption | exact decide_eq_true (by omega) | exact decide_eq_false (by omega) | exact dec_notT (by omega) | exact dec_notF (by omega)) ?_) | (refine lw_gs_t rfl rfl rfl (fun hc => ?_) (fun hc => ?_) <;> (first | replace hc := of_decide_eq_true hc | replace hc := of_decide_eq_false hc | replace hc := dec_nT hc | replace hc := dec_nF hc | skip) <;> (try (exfalso; omega))) | (refine lw_gs_f rfl rfl rfl (fun hc => ?_) (fun hc => ?_) <;> (first | replace hc := of_decide_eq_true hc | replace hc := of_decide_eq_false hc | replace hc := dec_nT hc | replace hc := dec_nF hc | skip) <;> (try (exfalso; omega)))) | ((refine is_bin ?_; first | (refine lw_pure rfl (pv_lss rfl rfl) ?_) | (refine lw_pure rfl (pv_neq rfl rfl) ?_) | (refine lw_pure rfl (pv_gtr rfl rfl) ?_) | (refine lw_pure rfl (pv_shr rfl rfl (by omega)) ?_))) | ((refine is_load ?_; first | (refine lw_pure rfl (pv_load (t1 rfl) rfl (by first | exact PT.ld0 (HA.mono hw) rfl | exact PT.ld (HA.mono hw) rfl)) ?_) | (refine lw_pure rfl (pv_loada (tA rfl) rfl (by first | exact PT.lda (HA.mono hw)) (by rfl)) ?_))) | ((refine is_fa ?_; first | (refine lw_pure rfl (pv_fa (tF rfl) rfl) ?_))) | (refine is_pk ?_; refine lw_pure rfl (pv_pick_t rfl rfl rfl) ?_) | (refine is_pk ?_; refine lw_pure rfl (pv_pick_f rfl rfl rfl) ?_) | (refine is_pk ?_; refine lw_pure rfl (pv_pick_t rfl (by first | assumption | exact decide_eq_true (by omega) | exact dec_notT (by omega)) rfl) ?_) | (refine is_pk ?_; refine lw_pure rfl (pv_pick_f rfl (by first | assumption | exact decide_eq_false (by omega) | exact dec_notF (by omega)) rfl) ?_) | (refine is_pk ?_; refine lw_pure rfl (pv_pick rfl rfl rfl) ?_) | (refine is_cv ?_; refine lw_pure rfl (pv_conv (tCv rfl rfl) rfl (by omega)) ?_) | (refine is_cw ?_; refine cw_split rfl (fun hc => ?_) (fun hc => ?_) <;> (first | replace hc := of_decide_eq_true hc | replace hc := of_decide_eq_false hc | replace hc := dec_nT hc | replace hc := dec_nF hc | skip) <;> (try (exfalso; omega))))
    all_goals first | exact qw_ret2 rfl rfl rfl ⟨by rw [h1], (hE.mono hw).b⟩ | (exfalso; omega)
def In64 (xs : List Int) : Prop := ∀ x ∈ xs, -9223372036854775808 ≤ x ∧ x ≤ 9223372036854775807
theorem sum_near : ∀ (xs : List Int), In64 xs → -9223372036854775808 * xs.length ≤ xs.sum ∧ xs.sum ≤ 9223372036854775808 * xs.length
  | [], _ => by simp
  | x :: xs, h => by
    have h1 := h x (by simp)
    have h2 := sum_near xs (fun y hy => h y (by simp [hy]))
    simp only [List.sum_cons, List.length_cons]
    omega
theorem take_near {xs : List Int} (h : In64 xs) (hl : xs.length ≤ 1048576) (k : Nat) : -1329227995784915872903807060280344576 ≤ (xs.take k).sum ∧ (xs.take k).sum ≤ 1329227995784915872903807060280344576 := by
  have h1 := sum_near (xs.take k) (fun y hy => h y (List.mem_of_mem_take hy))
  have h2 : (xs.take k).length ≤ 1048576 := by rw [List.length_take]; omega
  omega
theorem take_sum {xs : List Int} {k : Nat} {x : Int} (h : xs[k]? = some x) : (xs.take (k + 1)).sum = (xs.take k).sum + x := by
  rw [List.take_add_one, h]; simp
abbrev SlN (w : World) (a : Option Addr) (cap : Nat) (xs : List Int) : Prop := SlR encI 1 w a cap xs
set_option maxRecDepth 20000 in
theorem sum_c {xs : List Int} {m : Nat} {a : Option Addr} {cap : Nat} {w : World} (hm : xs.length = m) (HS : SlN w a cap xs) (hl : xs.length ≤ 1048576) (hx : In64 xs) : Calls Tryz.prog 38 #[.slice a m cap] w fun e w' => e = .returned (.tuple #[.int .i64 (toldN xs.sum), .int .i64 (toldE xs.sum)]) ∧ Below w.heap.size w w' := by
  subst hm
  have hE := Ext.refl w
  have hw := Below.refl w.heap.size w
  refine fn_enter 21 Tryz.func38 rfl rfl rfl ?_
  repeat' (first | (refine lw_pure rfl (pv_move rfl) ?_) | (refine lw_pure rfl (pv_assign rfl) ?_) | (refine is_cw ?_; first | (refine cw_seq ?_) | (refine cw_region ?_) | (refine cw_true rfl rfl ?_) | (refine cw_false rfl rfl ?_) | (refine is_cd ?_; refine cw_true rfl (by first | assumption | exact decide_eq_true (by omega) | exact dec_notT (by omega)) ?_) | (refine is_cd ?_; refine cw_false rfl (by first | assumption | exact decide_eq_false (by omega) | exact dec_notF (by omega)) ?_) | (refine cw_skip ?_) | (refine cw_block ?_) | (refine cw_exit ?_) | (refine cw_ret ?_)) | (refine is_qw ?_; first | (with_reducible refine qw_then ?_) | (with_reducible refine qw_in ?_) | (with_reducible refine qw_in_hit ?_) | (refine qw_in_miss rfl ?_) | (with_reducible refine qw_then_exit ?_) | (with_reducible refine qw_then_ret ?_) | (with_reducible refine qw_in_ret ?_)) | (refine lw_nil ?_) | ((refine is_bin ?_; first | (refine lw_pure rfl (pv_lss rfl rfl) ?_) | (refine lw_pure rfl (pv_inc rfl rfl (by omega)) ?_) | (refine lw_pure rfl (pv_add rfl rfl (by omega)) ?_))) | ((refine is_load ?_; first | (refine lw_pure rfl (pv_load (t1 rfl) rfl (by first | fail)) ?_) | (refine lw_pure rfl (pv_loada (tA rfl) rfl (by first | fail) (by rfl)) ?_))) | ((refine is_ia ?_; first | (refine lw_pure rfl (pv_ian (tS rfl) rfl rfl (by omega)) ?_) | (refine lw_pure rfl (pv_ia (tS rfl) rfl rfl (by omega)) ?_))) | ((refine is_bi ?_; first | (refine lw_pure rfl (pv_lenl (tS rfl) rfl) ?_) | (refine lw_pure rfl (pv_lens (tStr rfl) rfl) ?_))) | (refine lw_pure rfl (pv_extract rfl rfl) ?_))
  refine lw_allocN rfl (by first | exact tyv_29 | exact tyv_30 | exact tyv_33 | exact tyv_34 | exact tyv_36 | exact tyv_37 | exact tyv_38 | exact tyv_39 | exact tyv_40 | exact tyv_41 | exact tyv_43 | exact tyv_44 | exact tyv_45 | exact tyv_46 | exact tyv_73 | exact tyv_74 | exact tyv_80 | exact tyv_81 | exact tyv_107 | exact tyv_108 | exact tyv_123 | exact tyv_146 | exact tyv_147 | exact tyv_148 | exact tyv_149) rfl ?_; intro N wm hN HB hb
  replace hw := grow_trans hw hb
  clear hb
  repeat' (first | (refine lw_pure rfl (pv_move rfl) ?_) | (refine lw_pure rfl (pv_assign rfl) ?_) | (refine is_cw ?_; first | (refine cw_seq ?_) | (refine cw_region ?_) | (refine cw_true rfl rfl ?_) | (refine cw_false rfl rfl ?_) | (refine is_cd ?_; refine cw_true rfl (by first | assumption | exact decide_eq_true (by omega) | exact dec_notT (by omega)) ?_) | (refine is_cd ?_; refine cw_false rfl (by first | assumption | exact decide_eq_false (by omega) | exact dec_notF (by omega)) ?_) | (refine cw_skip ?_) | (refine cw_block ?_) | (refine cw_exit ?_) | (refine cw_ret ?_)) | (refine is_qw ?_; first | (with_reducible refine qw_then ?_) | (with_reducible refine qw_in ?_) | (with_reducible refine qw_in_hit ?_) | (refine qw_in_miss rfl ?_) | (with_reducible refine qw_then_exit ?_) | (with_reducible refine qw_then_ret ?_) | (with_reducible refine qw_in_ret ?_)) | (refine lw_nil ?_) | ((refine is_bin ?_; first | (refine lw_pure rfl (pv_lss rfl rfl) ?_) | (refine lw_pure rfl (pv_inc rfl rfl (by omega)) ?_) | (refine lw_pure rfl (pv_add rfl rfl (by omega)) ?_))) | ((refine is_load ?_; first | (refine lw_pure rfl (pv_load (t1 rfl) rfl (by first | fail)) ?_) | (refine lw_pure rfl (pv_loada (tA rfl) rfl (by first | fail) (by rfl)) ?_))) | ((refine is_ia ?_; first | (refine lw_pure rfl (pv_ian (tS rfl) rfl rfl (by omega)) ?_) | (refine lw_pure rfl (pv_ia (tS rfl) rfl rfl (by omega)) ?_))) | ((refine is_bi ?_; first | (refine lw_pure rfl (pv_lenl (tS rfl) rfl) ?_) | (refine lw_pure rfl (pv_lens (tStr rfl) rfl) ?_))) | (refine lw_pure rfl (pv_extract rfl rfl) ?_))
  refine cw_loop (σ := Nat) (fun k => [(4, .pointer (some ⟨N, 0, none⟩)), (7, .slice a xs.length cap), (8, .int .i64 (xs.length : Nat)), (9, .int .i64 (k : Nat))]) (fun k wr => k ≤ xs.length ∧ PT wr N 108 [.int .i64 ((xs.take k).sum / 18446744073709551616), .int .u64 ((xs.take k).sum % 18446744073709551616)] ∧ Below w.heap.size w wr) (fun k => xs.length - k) 0 ⟨rfl, rfl, rfl, rfl, trivial⟩ ⟨Nat.zero_le _, HB, hw⟩ ?_
  clear HB hw
  rintro k wr ⟨hk, HB, hw⟩
  by_cases hlt : k < xs.length
  · have hxk : xs[k]? = some xs[k] := List.getElem?_eq_getElem hlt
    have hr := hx xs[k] (List.getElem_mem hlt)
    have hn := take_near hx hl k
    obtain ⟨ab, ao, rfl, -, -⟩ := HS.at (by intro h; rw [h] at hlt; simp at hlt)
    repeat' (first | (refine lw_pure rfl (pv_move rfl) ?_) | (refine lw_pure rfl (pv_assign rfl) ?_) | (refine is_cw ?_; first | (refine cw_seq ?_) | (refine cw_region ?_) | (refine cw_true rfl rfl ?_) | (refine cw_false rfl rfl ?_) | (refine is_cd ?_; refine cw_true rfl (by first | assumption | exact decide_eq_true (by omega) | exact dec_notT (by omega)) ?_) | (refine is_cd ?_; refine cw_false rfl (by first | assumption | exact decide_eq_false (by omega) | exact dec_notF (by omega)) ?_) | (refine cw_skip ?_) | (refine cw_block ?_) | (refine cw_exit ?_) | (refine cw_ret ?_)) | (refine is_qw ?_; first | (with_reducible refine qw_then ?_) | (with_reducible refine qw_in ?_) | (with_reducible refine qw_in_hit ?_) | (refine qw_in_miss rfl ?_) | (with_reducible refine qw_then_exit ?_) | (with_reducible refine qw_then_ret ?_) | (with_reducible refine qw_in_ret ?_)) | (refine lw_nil ?_) | ((refine is_bin ?_; first | (refine lw_pure rfl (pv_lss rfl rfl) ?_) | (refine lw_pure rfl (pv_inc rfl rfl (by omega)) ?_) | (refine lw_pure rfl (pv_add rfl rfl (by omega)) ?_))) | ((refine is_load ?_; first | (refine lw_pure rfl (pv_load (t1 rfl) rfl (by first | exact SlR.ld (HS.mono hw) hxk rfl | exact SlR.ld1 (HS.mono hw) hxk rfl | exact PT.ld0 HB rfl | exact PT.ld HB rfl)) ?_) | (refine lw_pure rfl (pv_loada (tA rfl) rfl (by first | exact SlR.lda (HS.mono hw) hxk | exact PT.lda HB) (by rfl)) ?_))) | ((refine is_ia ?_; first | (refine lw_pure rfl (pv_ian (tS rfl) rfl rfl (by omega)) ?_) | (refine lw_pure rfl (pv_ia (tS rfl) rfl rfl (by omega)) ?_))) | ((refine is_bi ?_; first | (refine lw_pure rfl (pv_lenl (tS rfl) rfl) ?_) | (refine lw_pure rfl (pv_lens (tStr rfl) rfl) ?_))) | (refine lw_pure rfl (pv_extract rfl rfl) ?_))
    refine lw_call (f := 78) (by kernel_rfl) rfl rfl (plus_c _ _ _ hn hr) ?_; rintro e w1 ⟨rfl, hb⟩; refine ⟨_, rfl, ?_⟩; replace HB := HB.mono hb; replace hw := grow_trans hw hb; clear hb
    refine lw_storea (vs := [.int .i64 (((xs.take k).sum + xs[k]) / 18446744073709551616), .int .u64 (((xs.take k).sum + xs[k]) % 18446744073709551616)]) HB (tZ rfl) rfl rfl rfl rfl (by simp [Value.oneCell']) ?_; intro wk HB hg hz9; replace hw := st_hw hw hg hN; clear hg hz9
    repeat' (first | (refine lw_pure rfl (pv_move rfl) ?_) | (refine lw_pure rfl (pv_assign rfl) ?_) | (refine is_cw ?_; first | (refine cw_seq ?_) | (refine cw_region ?_) | (refine cw_true rfl rfl ?_) | (refine cw_false rfl rfl ?_) | (refine is_cd ?_; refine cw_true rfl (by first | assumption | exact decide_eq_true (by omega) | exact dec_notT (by omega)) ?_) | (refine is_cd ?_; refine cw_false rfl (by first | assumption | exact decide_eq_false (by omega) | exact dec_notF (by omega)) ?_) | (refine cw_skip ?_) | (refine cw_block ?_) | (refine cw_exit ?_) | (refine cw_ret ?_)) | (refine is_qw ?_; first | (with_reducible refine qw_then ?_) | (with_reducible refine qw_in ?_) | (with_reducible refine qw_in_hit ?_) | (refine qw_in_miss rfl ?_) | (with_reducible refine qw_then_exit ?_) | (with_reducible refine qw_then_ret ?_) | (with_reducible refine qw_in_ret ?_)) | (refine lw_nil ?_) | ((refine is_bin ?_; first | (refine lw_pure rfl (pv_lss rfl rfl) ?_) | (refine lw_pure rfl (pv_inc rfl rfl (by omega)) ?_) | (refine lw_pure rfl (pv_add rfl rfl (by omega)) ?_))) | ((refine is_load ?_; first | (refine lw_pure rfl (pv_load (t1 rfl) rfl (by first | fail)) ?_) | (refine lw_pure rfl (pv_loada (tA rfl) rfl (by first | fail) (by rfl)) ?_))) | ((refine is_ia ?_; first | (refine lw_pure rfl (pv_ian (tS rfl) rfl rfl (by omega)) ?_) | (refine lw_pure rfl (pv_ia (tS rfl) rfl rfl (by omega)) ?_))) | ((refine is_bi ?_; first | (refine lw_pure rfl (pv_lenl (tS rfl) rfl) ?_) | (refine lw_pure rfl (pv_lens (tStr rfl) rfl) ?_))) | (refine lw_pure rfl (pv_extract rfl rfl) ?_))
    refine qw_round (k + 1) ⟨rfl, rfl, rfl, rfl, trivial⟩ ⟨by omega, by rw [take_sum hxk]; exact HB, hw⟩ (by omega)
  · have hkl : k = xs.length := by omega
    subst hkl
    have hn := take_near hx hl xs.length
    rw [List.take_length] at HB hn
    repeat' (first | (refine lw_pure rfl (pv_move rfl) ?_) | (refine lw_pure rfl (pv_assign rfl) ?_) | (refine is_cw ?_; first | (refine cw_seq ?_) | (refine cw_region ?_) | (refine cw_true rfl rfl ?_) | (refine cw_false rfl rfl ?_) | (refine is_cd ?_; refine cw_true rfl (by first | assumption | exact decide_eq_true (by omega) | exact dec_notT (by omega)) ?_) | (refine is_cd ?_; refine cw_false rfl (by first | assumption | exact decide_eq_false (by omega) | exact dec_notF (by omega)) ?_) | (refine cw_skip ?_) | (refine cw_block ?_) | (refine cw_exit ?_) | (refine cw_ret ?_)) | (refine is_qw ?_; first | (with_reducible refine qw_then ?_) | (with_reducible refine qw_in ?_) | (with_reducible refine qw_in_hit ?_) | (refine qw_in_miss rfl ?_) | (with_reducible refine qw_then_exit ?_) | (with_reducible refine qw_then_ret ?_) | (with_reducible refine qw_in_ret ?_)) | (refine lw_nil ?_) | ((refine is_bin ?_; first | (refine lw_pure rfl (pv_lss rfl rfl) ?_) | (refine lw_pure rfl (pv_inc rfl rfl (by omega)) ?_) | (refine lw_pure rfl (pv_add rfl rfl (by omega)) ?_))) | ((refine is_load ?_; first | (refine lw_pure rfl (pv_load (t1 rfl) rfl (by first | exact PT.ld0 HB rfl | exact PT.ld HB rfl)) ?_) | (refine lw_pure rfl (pv_loada (tA rfl) rfl (by first | exact PT.lda HB) (by rfl)) ?_))) | ((refine is_ia ?_; first | (refine lw_pure rfl (pv_ian (tS rfl) rfl rfl (by omega)) ?_) | (refine lw_pure rfl (pv_ia (tS rfl) rfl rfl (by omega)) ?_))) | ((refine is_bi ?_; first | (refine lw_pure rfl (pv_lenl (tS rfl) rfl) ?_) | (refine lw_pure rfl (pv_lens (tStr rfl) rfl) ?_))) | (refine lw_pure rfl (pv_extract rfl rfl) ?_))
    refine lw_call (f := 79) (by kernel_rfl) rfl rfl (told_c _ _ hn) ?_; rintro e w1 ⟨rfl, hb⟩; refine ⟨_, rfl, ?_⟩; replace hw := grow_trans hw hb; clear hb
    repeat' (first | (refine lw_pure rfl (pv_move rfl) ?_) | (refine lw_pure rfl (pv_assign rfl) ?_) | (refine is_cw ?_; first | (refine cw_seq ?_) | (refine cw_region ?_) | (refine cw_true rfl rfl ?_) | (refine cw_false rfl rfl ?_) | (refine is_cd ?_; refine cw_true rfl (by first | assumption | exact decide_eq_true (by omega) | exact dec_notT (by omega)) ?_) | (refine is_cd ?_; refine cw_false rfl (by first | assumption | exact decide_eq_false (by omega) | exact dec_notF (by omega)) ?_) | (refine cw_skip ?_) | (refine cw_block ?_) | (refine cw_exit ?_) | (refine cw_ret ?_)) | (refine is_qw ?_; first | (with_reducible refine qw_then ?_) | (with_reducible refine qw_in ?_) | (with_reducible refine qw_in_hit ?_) | (refine qw_in_miss rfl ?_) | (with_reducible refine qw_then_exit ?_) | (with_reducible refine qw_then_ret ?_) | (with_reducible refine qw_in_ret ?_)) | (refine lw_nil ?_) | ((refine is_bin ?_; first | (refine lw_pure rfl (pv_lss rfl rfl) ?_) | (refine lw_pure rfl (pv_inc rfl rfl (by omega)) ?_) | (refine lw_pure rfl (pv_add rfl rfl (by omega)) ?_))) | ((refine is_load ?_; first | (refine lw_pure rfl (pv_load (t1 rfl) rfl (by first | fail)) ?_) | (refine lw_pure rfl (pv_loada (tA rfl) rfl (by first | fail) (by rfl)) ?_))) | ((refine is_ia ?_; first | (refine lw_pure rfl (pv_ian (tS rfl) rfl rfl (by omega)) ?_) | (refine lw_pure rfl (pv_ia (tS rfl) rfl rfl (by omega)) ?_))) | ((refine is_bi ?_; first | (refine lw_pure rfl (pv_lenl (tS rfl) rfl) ?_) | (refine lw_pure rfl (pv_lens (tStr rfl) rfl) ?_))) | (refine lw_pure rfl (pv_extract rfl rfl) ?_))
    exact qw_ret2 rfl rfl rfl ⟨rfl, (hE.mono hw).b⟩

def hiS (xs : List Int) : Int := (xs.map (· / 4294967296)).sum
def loS (xs : List Int) : Int := (xs.map (· % 4294967296)).sum



def At (l : List Row) (a s : Int) (i : Int) : Prop := (i = -1 ∧ ∀ j y, j < l.length → l[j]? = some y → ¬ (y.acct = a ∧ y.asset = s)) ∨ ∃ (k : Nat) (r : Row), i = k ∧ l[k]? = some r ∧ (r.acct = a ∧ r.asset = s) ∧ ∀ j y, j < k → l[j]? = some y → ¬ (y.acct = a ∧ y.asset = s)
def In64R (l : List Row) : Prop := ∀ r ∈ l, (-9223372036854775808 ≤ r.free ∧ r.free ≤ 9223372036854775807) ∧ (-9223372036854775808 ≤ r.held ∧ r.held ≤ 9223372036854775807)
end Go.Proofs.YtekomjnjddhfmaaGreat
namespace Go.Proofs.YtekomjnjddhfmaaGreat
open Go.ChangeShapes Go.WideShapes Go.ChangeAt Go.RowKit Go.Deep Go.WideElems Go.Joins
section
variable {H : Type} {enc : TypeId × Value → H} {W : World} {base : Nat} {sp : Nat → Bool} {held : Bool} {b0 : Nat} {v : Value} {d : DataW H} {p : List MemPlace}
def RIn (r : Row) : Prop := (-9223372036854775808 ≤ r.free ∧ r.free ≤ 9223372036854775807) ∧ (-9223372036854775808 ≤ r.held ∧ r.held ≤ 9223372036854775807)
end
end Go.Proofs.YtekomjnjddhfmaaGreat
namespace Go.Proofs
open Go.Shelf
def Tryz.sortM_ren : Go.Shelf.Ren := ⟨fun | 6 => 128 | 8 => 138 | 9 => 142 | 19 => 151 | 20 => 152 | 21 => 154 | 22 => 155 | 23 => 156 | 24 => 157 | 25 => 158 | 26 => 159 | 27 => 160 | 28 => 161 | 29 => 162 | 36 => 168 | 31 => 164 | 32 => 165 | 37 => 169 | 38 => 170 | 39 => 171 | 41 => 173 | n => n, fun | 27 => 129 | 29 => 9 | 3 => 3 | 32 => 56 | 26 => 129 | 0 => 0 | 44 => 180 | 46 => 106 | 4 => 4 | 36 => 174 | 35 => 173 | 41 => 117 | 5 => 5 | 9 => 9 | 53 => 190 | 57 => 194 | 63 => 198 | 64 => 199 | n => n, fun | n => n⟩
theorem Tryz.sortM : Go.Proofs.SlLaysM.n6 Tryz.prog Tryz.sortM_ren := {
  mixed := by kernel_rfl
  f6 := ⟨Tryz.f128.name, by decide, Tryz.func128.trans (congrArg some (by kernel_rfl))⟩
  f8 := Tryz.func138.trans (congrArg some (by kernel_rfl))
  f9 := ⟨Tryz.f142.name, by decide, Tryz.func142.trans (congrArg some (by kernel_rfl))⟩
  f19 := Tryz.func151.trans (congrArg some (by kernel_rfl))
  f20 := Tryz.func152.trans (congrArg some (by kernel_rfl))
  f21 := ⟨Tryz.f154.name, by decide, Tryz.func154.trans (congrArg some (by kernel_rfl))⟩
  f22 := ⟨Tryz.f155.name, by decide, Tryz.func155.trans (congrArg some (by kernel_rfl))⟩
  f23 := ⟨Tryz.f156.name, by decide, Tryz.func156.trans (congrArg some (by kernel_rfl))⟩
  f24 := ⟨Tryz.f157.name, by decide, Tryz.func157.trans (congrArg some (by kernel_rfl))⟩
  f25 := ⟨Tryz.f158.name, by decide, Tryz.func158.trans (congrArg some (by kernel_rfl))⟩
  f26 := ⟨Tryz.f159.name, by decide, Tryz.func159.trans (congrArg some (by kernel_rfl))⟩
  f27 := ⟨Tryz.f160.name, by decide, Tryz.func160.trans (congrArg some (by kernel_rfl))⟩
  f28 := ⟨Tryz.f161.name, by decide, Tryz.func161.trans (congrArg some (by kernel_rfl))⟩
  f29 := ⟨Tryz.f162.name, by decide, Tryz.func162.trans (congrArg some (by kernel_rfl))⟩
  f31 := Tryz.func164.trans (congrArg some (by kernel_rfl))
  f32 := Tryz.func165.trans (congrArg some (by kernel_rfl))
  f36 := ⟨Tryz.f168.name, by decide, Tryz.func168.trans (congrArg some (by kernel_rfl))⟩
  f37 := ⟨Tryz.f169.name, by decide, Tryz.func169.trans (congrArg some (by kernel_rfl))⟩
  f38 := ⟨Tryz.f170.name, by decide, Tryz.func170.trans (congrArg some (by kernel_rfl))⟩
  f39 := ⟨Tryz.f171.name, by decide, Tryz.func171.trans (congrArg some (by kernel_rfl))⟩
  f41 := ⟨Tryz.f173.name, by decide, Tryz.func173.trans (congrArg some (by kernel_rfl))⟩
  t0 := Tryz.underlying0
  a0 := Tryz.isAgg0
  z0 := Tryz.sizeOf0
  v0 := Tryz.zeroValue0
  t3 := Tryz.underlying3
  a3 := Tryz.isAgg3
  z3 := Tryz.sizeOf3
  v3 := Tryz.zeroValue3
  t4 := Tryz.underlying4
  a4 := Tryz.isAgg4
  z4 := Tryz.sizeOf4
  v4 := Tryz.zeroValue4
  t5 := Tryz.underlying5
  a5 := Tryz.isAgg5
  z5 := Tryz.sizeOf5
  v5 := Tryz.zeroValue5
  t9 := Tryz.underlying9
  a9 := Tryz.isAgg9
  z9 := Tryz.sizeOf9
  v9 := Tryz.zeroValue9
  t26 := Tryz.underlying129
  a26 := Tryz.isAgg129
  z26 := Tryz.sizeOf129
  v26 := Tryz.zeroValue129
  t27 := Tryz.underlying129
  a27 := Tryz.isAgg129
  z27 := Tryz.sizeOf129
  v27 := Tryz.zeroValue129
  t29 := Tryz.underlying9
  a29 := Tryz.isAgg9
  z29 := Tryz.sizeOf9
  v29 := Tryz.zeroValue9
  t32 := Tryz.underlying56
  a32 := Tryz.isAgg56
  z32 := Tryz.sizeOf56
  v32 := Tryz.zeroValue56
  t35 := Tryz.underlying173
  a35 := Tryz.isAgg173
  z35 := Tryz.sizeOf173
  v35 := Tryz.zeroValue173
  t36 := Tryz.underlying174
  a36 := Tryz.isAgg174
  z36 := Tryz.sizeOf174
  v36 := Tryz.zeroValue174
  t41 := Tryz.underlying117
  a41 := Tryz.isAgg117
  z41 := Tryz.sizeOf117
  v41 := Tryz.zeroValue117
  t44 := Tryz.underlying180
  a44 := Tryz.isAgg180
  z44 := Tryz.sizeOf180
  v44 := Tryz.zeroValue180
  t46 := Tryz.underlying106
  a46 := Tryz.isAgg106
  z46 := Tryz.sizeOf106
  v46 := Tryz.zeroValue106
  t53 := Tryz.underlying190
  a53 := Tryz.isAgg190
  z53 := Tryz.sizeOf190
  v53 := Tryz.zeroValue190
  t57 := Tryz.underlying194
  a57 := Tryz.isAgg194
  z57 := Tryz.sizeOf194
  v57 := Tryz.zeroValue194
  t63 := Tryz.underlying198
  a63 := Tryz.isAgg198
  z63 := Tryz.sizeOf198
  v63 := Tryz.zeroValue198
  t64 := Tryz.underlying199
  a64 := Tryz.isAgg199
  z64 := Tryz.sizeOf199
  v64 := Tryz.zeroValue199 }
def Tryz.compS_ren : Go.Shelf.Ren := ⟨fun | 44 => 129 | n => n, fun | 25 => 129 | 26 => 9 | 3 => 3 | 4 => 4 | 0 => 0 | n => n, fun | n => n⟩
theorem Tryz.compS : Go.Proofs.SlLaysN.n44 Tryz.prog Tryz.compS_ren := {
  mixed := by kernel_rfl
  f44 := ⟨Tryz.f129.name, by decide, Tryz.func129.trans (congrArg some (by kernel_rfl))⟩
  t0 := Tryz.underlying0
  a0 := Tryz.isAgg0
  z0 := Tryz.sizeOf0
  v0 := Tryz.zeroValue0
  t3 := Tryz.underlying3
  a3 := Tryz.isAgg3
  z3 := Tryz.sizeOf3
  v3 := Tryz.zeroValue3
  t4 := Tryz.underlying4
  a4 := Tryz.isAgg4
  z4 := Tryz.sizeOf4
  v4 := Tryz.zeroValue4
  t25 := Tryz.underlying129
  a25 := Tryz.isAgg129
  z25 := Tryz.sizeOf129
  v25 := Tryz.zeroValue129
  t26 := Tryz.underlying9
  a26 := Tryz.isAgg9
  z26 := Tryz.sizeOf9
  v26 := Tryz.zeroValue9
  i26 := by kernel_rfl }
end Go.Proofs
namespace Go.Proofs.YtekomjnjddhfmaaGreat
open Go.RowKit Go.PlainAid

def okC (c : Int) : Bool := decide ((97 ≤ c ∧ c ≤ 122) ∨ (48 ≤ c ∧ c ≤ 57) ∨ c = 45 ∨ c = 95)
def nameR (s : ByteArray) : Bool := decide (1 ≤ s.size ∧ s.size ≤ 24) && (bytesI s).all okC
theorem name_no {s : ByteArray} {k : Nat} (hk : k < s.size) (h : okC (bt s k) = false) : nameR s = false := by
  have : (bytesI s).all okC = false := by rw [List.all_eq_false]; exact ⟨_, bt_mem hk, by simp [h]⟩
  simp [nameR, this]
theorem name_len {s : ByteArray} (h : ¬ (1 ≤ s.size ∧ s.size ≤ 24)) : nameR s = false := by
  unfold nameR; rw [decide_eq_false h]; rfl
theorem name_yes {s : ByteArray} (h : ∀ j, j < s.size → okC (bt s j) = true) (hl : 1 ≤ s.size ∧ s.size ≤ 24) : nameR s = true := by
  have := bytes_all s okC (Nat.le_refl _) h
  rw [List.take_of_length_le (by rw [bytesI_len]; omega)] at this
  simp [nameR, this, hl]
theorem name_all {s : ByteArray} (h : ∀ j, j < s.size → okC (bt s j) = true) : nameR s = decide (1 ≤ s.size ∧ s.size ≤ 24) := by
  by_cases hl : 1 ≤ s.size ∧ s.size ≤ 24
  · rw [name_yes h hl, decide_eq_true hl]
  · rw [name_len hl, decide_eq_false hl]
theorem ok_t {c : Int} (h : (97 ≤ c ∧ c ≤ 122) ∨ (48 ≤ c ∧ c ≤ 57) ∨ c = 45 ∨ c = 95) : okC c = true := decide_eq_true h
theorem ok_f {c : Int} (h : ¬ ((97 ≤ c ∧ c ≤ 122) ∨ (48 ≤ c ∧ c ≤ 57) ∨ c = 45 ∨ c = 95)) : okC c = false := decide_eq_false h
set_option maxRecDepth 20000 in
set_option maxHeartbeats 4000000 in
theorem name_c (s : ByteArray) (hs : s.size ≤ 9223372036854775806) (w : World) : Calls Tryz.prog 127 #[.string s] w fun e w' => e = .returned (.bool (nameR s)) ∧ Below w.heap.size w w' := by
  have hw := Below.refl w.heap.size w
  refine fn_enter 43 Tryz.func127 rfl rfl rfl ?_
  repeat' (first | (refine lw_pure rfl (pv_move rfl) ?_) | (refine lw_pure rfl (pv_assign rfl) ?_) | (refine is_cw ?_; first | (refine cw_seq ?_) | (refine cw_region ?_) | (refine cw_true rfl rfl ?_) | (refine cw_false rfl rfl ?_) | (refine is_cd ?_; refine cw_true rfl (by first | assumption | exact decide_eq_true (by omega) | exact dec_notT (by omega)) ?_) | (refine is_cd ?_; refine cw_false rfl (by first | assumption | exact decide_eq_false (by omega) | exact dec_notF (by omega)) ?_) | (refine cw_skip ?_) | (refine cw_block ?_) | (refine cw_exit ?_) | (refine cw_ret ?_)) | (refine is_qw ?_; first | (with_reducible refine qw_then ?_) | (with_reducible refine qw_in ?_) | (with_reducible refine qw_in_hit ?_) | (refine qw_in_miss rfl ?_) | (with_reducible refine qw_then_exit ?_) | (with_reducible refine qw_then_ret ?_) | (with_reducible refine qw_in_ret ?_)) | (refine lw_nil ?_) | (refine is_guarded ?_; first | (refine lw_not rfl rfl rfl rfl ?_) | (refine lw_not_u rfl rfl rfl ?_) | (refine lw_on rfl rfl rfl ?_)) | ((refine is_bin ?_; first | (refine lw_pure rfl (pv_lss rfl rfl) ?_) | (refine lw_pure rfl (pv_neq rfl rfl) ?_) | (refine lw_pure rfl (pv_leq rfl rfl) ?_) | (refine lw_pure rfl (pv_gtr rfl rfl) ?_) | (refine lw_pure rfl (pv_geq rfl rfl) ?_) | (refine lw_pure rfl (pv_inc rfl rfl (by omega)) ?_) | (refine lw_pure rfl (pv_add rfl rfl (by omega)) ?_))) | ((refine is_load ?_; first | (refine lw_pure rfl (pv_load (t1 rfl) rfl (by first | fail)) ?_) | (refine lw_pure rfl (pv_loada (tA rfl) rfl (by first | fail) (by rfl)) ?_))) | ((refine is_ia ?_; first | (refine lw_pure rfl (pv_ian (tS rfl) rfl rfl (by omega)) ?_) | (refine lw_pure rfl (pv_ia (tS rfl) rfl rfl (by omega)) ?_))) | ((refine is_bi ?_; first | (refine lw_pure rfl (pv_lenl (tS rfl) rfl) ?_) | (refine lw_pure rfl (pv_lens (tStr rfl) rfl) ?_))) | (refine is_pk ?_; refine lw_pure rfl (pv_pick_t rfl rfl rfl) ?_) | (refine is_pk ?_; refine lw_pure rfl (pv_pick_f rfl rfl rfl) ?_) | (refine is_pk ?_; refine lw_pure rfl (pv_pick_t rfl (by first | assumption | exact decide_eq_true (by omega) | exact dec_notT (by omega)) rfl) ?_) | (refine is_pk ?_; refine lw_pure rfl (pv_pick_f rfl (by first | assumption | exact decide_eq_false (by omega) | exact dec_notF (by omega)) rfl) ?_) | (refine is_pk ?_; refine lw_pure rfl (pv_pick rfl rfl rfl) ?_) | (refine is_cv ?_; refine lw_pure rfl (pv_conv (tCv rfl rfl) rfl (by omega)) ?_))
  refine lw_s2b (tStr rfl) Tryz.underlying35 Tryz.underlying5 rfl rfl ?_; intro N c w1 hC hN hb
  replace hw := grow_trans hw hb
  clear hb
  have hE := Ext.mk hw
  clear hw
  have hw := Below.refl w1.heap.size w1
  repeat' (first | (refine lw_pure rfl (pv_move rfl) ?_) | (refine lw_pure rfl (pv_assign rfl) ?_) | (refine is_cw ?_; first | (refine cw_seq ?_) | (refine cw_region ?_) | (refine cw_true rfl rfl ?_) | (refine cw_false rfl rfl ?_) | (refine is_cd ?_; refine cw_true rfl (by first | assumption | exact decide_eq_true (by omega) | exact dec_notT (by omega)) ?_) | (refine is_cd ?_; refine cw_false rfl (by first | assumption | exact decide_eq_false (by omega) | exact dec_notF (by omega)) ?_) | (refine cw_skip ?_) | (refine cw_block ?_) | (refine cw_exit ?_) | (refine cw_ret ?_)) | (refine is_qw ?_; first | (with_reducible refine qw_then ?_) | (with_reducible refine qw_in ?_) | (with_reducible refine qw_in_hit ?_) | (refine qw_in_miss rfl ?_) | (with_reducible refine qw_then_exit ?_) | (with_reducible refine qw_then_ret ?_) | (with_reducible refine qw_in_ret ?_)) | (refine lw_nil ?_) | (refine is_guarded ?_; first | (refine lw_not rfl rfl rfl rfl ?_) | (refine lw_not_u rfl rfl rfl ?_) | (refine lw_on rfl rfl rfl ?_)) | ((refine is_bin ?_; first | (refine lw_pure rfl (pv_lss rfl rfl) ?_) | (refine lw_pure rfl (pv_neq rfl rfl) ?_) | (refine lw_pure rfl (pv_leq rfl rfl) ?_) | (refine lw_pure rfl (pv_gtr rfl rfl) ?_) | (refine lw_pure rfl (pv_geq rfl rfl) ?_) | (refine lw_pure rfl (pv_inc rfl rfl (by omega)) ?_) | (refine lw_pure rfl (pv_add rfl rfl (by omega)) ?_))) | ((refine is_load ?_; first | (refine lw_pure rfl (pv_load (t1 rfl) rfl (by first | fail)) ?_) | (refine lw_pure rfl (pv_loada (tA rfl) rfl (by first | fail) (by rfl)) ?_))) | ((refine is_ia ?_; first | (refine lw_pure rfl (pv_ian (tS rfl) rfl rfl (by omega)) ?_) | (refine lw_pure rfl (pv_ia (tS rfl) rfl rfl (by omega)) ?_))) | ((refine is_bi ?_; first | (refine lw_pure rfl (pv_lenl (tS rfl) rfl) ?_) | (refine lw_pure rfl (pv_lens (tStr rfl) rfl) ?_))) | (refine is_pk ?_; refine lw_pure rfl (pv_pick_t rfl rfl rfl) ?_) | (refine is_pk ?_; refine lw_pure rfl (pv_pick_f rfl rfl rfl) ?_) | (refine is_pk ?_; refine lw_pure rfl (pv_pick_t rfl (by first | assumption | exact decide_eq_true (by omega) | exact dec_notT (by omega)) rfl) ?_) | (refine is_pk ?_; refine lw_pure rfl (pv_pick_f rfl (by first | assumption | exact decide_eq_false (by omega) | exact dec_notF (by omega)) rfl) ?_) | (refine is_pk ?_; refine lw_pure rfl (pv_pick rfl rfl rfl) ?_) | (refine is_cv ?_; refine lw_pure rfl (pv_conv (tCv rfl rfl) rfl (by omega)) ?_))
  refine cw_loop (σ := Nat) (fun k => [(0, .string s), (6, .slice (some ⟨N, 0, none⟩) s.size c), (7, .int .i64 (s.size : Nat)), (8, .int .i64 (k : Nat))]) (fun k wr => k ≤ s.size ∧ Below w1.heap.size w1 wr ∧ ∀ j, j < k → okC (bt s j) = true) (fun k => s.size - k) 0 (by repeat' (first | exact trivial | refine ⟨rfl, ?_⟩)) ⟨Nat.zero_le _, hw, by omega⟩ ?_
  clear hw
  rintro k wr ⟨hk, hw, hn⟩
  by_cases hlt : k < s.size
  · have hld : wr.cell? ⟨N, 0 + k * 1, none⟩ = some (.int .u8 (bt s k)) := by
      rw [show 0 + k * 1 = k by omega]
      exact (hw.cell (p := ⟨N, k, none⟩) hN).trans (hC k hlt)
    have hbd := bytesI_bd s _ (bt_mem hlt)
    repeat' (first | (refine lw_pure rfl (pv_move rfl) ?_) | (refine lw_pure rfl (pv_assign rfl) ?_) | (refine lw_pure rfl (pv_load (t1 rfl) rfl hld) ?_) | (refine is_cw ?_; first | (refine cw_seq ?_) | (refine cw_region ?_) | (refine cw_true rfl rfl ?_) | (refine cw_false rfl rfl ?_) | (refine is_cd ?_; refine cw_true rfl (by first | assumption | exact decide_eq_true (by omega) | exact dec_notT (by omega)) ?_) | (refine is_cd ?_; refine cw_false rfl (by first | assumption | exact decide_eq_false (by omega) | exact dec_notF (by omega)) ?_) | (refine cw_skip ?_) | (refine cw_block ?_) | (refine cw_exit ?_) | (refine cw_ret ?_)) | (refine is_qw ?_; first | (with_reducible refine qw_then ?_) | (with_reducible refine qw_in ?_) | (with_reducible refine qw_in_hit ?_) | (refine qw_in_miss rfl ?_) | (with_reducible refine qw_then_exit ?_) | (with_reducible refine qw_then_ret ?_) | (with_reducible refine qw_in_ret ?_)) | (refine lw_nil ?_) | (refine is_guarded ?_; first | (refine lw_not rfl rfl rfl rfl ?_) | (refine lw_not_u rfl rfl rfl ?_) | (refine lw_on rfl rfl rfl ?_) | (refine lw_on rfl rfl (by first | assumption | exact decide_eq_true (by omega) | exact decide_eq_false (by omega) | exact dec_notT (by omega) | exact dec_notF (by omega)) ?_) | (refine lw_not rfl rfl rfl (by first | assumption | exact decide_eq_true (by omega) | exact decide_eq_false (by omega) | exact dec_notT (by omega) | exact dec_notF (by omega)) ?_) | (refine lw_gs_t rfl rfl rfl (fun hc => ?_) (fun hc => ?_) <;> (first | replace hc := of_decide_eq_true hc | replace hc := of_decide_eq_false hc | replace hc := dec_nT hc | replace hc := dec_nF hc | skip) <;> (try (exfalso; omega))) | (refine lw_gs_f rfl rfl rfl (fun hc => ?_) (fun hc => ?_) <;> (first | replace hc := of_decide_eq_true hc | replace hc := of_decide_eq_false hc | replace hc := dec_nT hc | replace hc := dec_nF hc | skip) <;> (try (exfalso; omega)))) | ((refine is_bin ?_; first | (refine lw_pure rfl (pv_lss rfl rfl) ?_) | (refine lw_pure rfl (pv_neq rfl rfl) ?_) | (refine lw_pure rfl (pv_leq rfl rfl) ?_) | (refine lw_pure rfl (pv_gtr rfl rfl) ?_) | (refine lw_pure rfl (pv_geq rfl rfl) ?_) | (refine lw_pure rfl (pv_inc rfl rfl (by omega)) ?_) | (refine lw_pure rfl (pv_add rfl rfl (by omega)) ?_))) | ((refine is_load ?_; first | (refine lw_pure rfl (pv_load (t1 rfl) rfl (by first | fail)) ?_) | (refine lw_pure rfl (pv_loada (tA rfl) rfl (by first | fail) (by rfl)) ?_))) | ((refine is_ia ?_; first | (refine lw_pure rfl (pv_ian (tS rfl) rfl rfl (by omega)) ?_) | (refine lw_pure rfl (pv_ia (tS rfl) rfl rfl (by omega)) ?_))) | ((refine is_bi ?_; first | (refine lw_pure rfl (pv_lenl (tS rfl) rfl) ?_) | (refine lw_pure rfl (pv_lens (tStr rfl) rfl) ?_))) | (refine is_pk ?_; refine lw_pure rfl (pv_pick_t rfl rfl rfl) ?_) | (refine is_pk ?_; refine lw_pure rfl (pv_pick_f rfl rfl rfl) ?_) | (refine is_pk ?_; refine lw_pure rfl (pv_pick_t rfl (by first | assumption | exact decide_eq_true (by omega) | exact dec_notT (by omega)) rfl) ?_) | (refine is_pk ?_; refine lw_pure rfl (pv_pick_f rfl (by first | assumption | exact decide_eq_false (by omega) | exact dec_notF (by omega)) rfl) ?_) | (refine is_pk ?_; refine lw_pure rfl (pv_pick rfl rfl rfl) ?_) | (refine is_cv ?_; refine lw_pure rfl (pv_conv (tCv rfl rfl) rfl (by omega)) ?_) | (refine is_cw ?_; refine cw_split rfl (fun hc => ?_) (fun hc => ?_) <;> (first | replace hc := of_decide_eq_true hc | replace hc := of_decide_eq_false hc | replace hc := dec_nT hc | replace hc := dec_nF hc | skip) <;> (try (exfalso; omega))))
    all_goals first | (refine qw_round (k + 1) (by repeat' (first | exact trivial | refine ⟨rfl, ?_⟩)) ⟨by omega, hw, ?_⟩ (by omega); intro j hj; (by_cases hjk : j = k); (subst hjk; exact ok_t (by omega)); exact hn j (by omega)) | (refine qw_ret1 rfl rfl ⟨ret_bool (name_no hlt (ok_f ?_)).symm, (hE.mono hw).b⟩; omega)
  · have hkl : k = s.size := by omega
    subst hkl
    replace hw := (hE.mono hw).b
    repeat' (first | (refine lw_pure rfl (pv_move rfl) ?_) | (refine lw_pure rfl (pv_assign rfl) ?_) | (refine is_cw ?_; first | (refine cw_seq ?_) | (refine cw_region ?_) | (refine cw_true rfl rfl ?_) | (refine cw_false rfl rfl ?_) | (refine is_cd ?_; refine cw_true rfl (by first | assumption | exact decide_eq_true (by omega) | exact dec_notT (by omega)) ?_) | (refine is_cd ?_; refine cw_false rfl (by first | assumption | exact decide_eq_false (by omega) | exact dec_notF (by omega)) ?_) | (refine cw_skip ?_) | (refine cw_block ?_) | (refine cw_exit ?_) | (refine cw_ret ?_)) | (refine is_qw ?_; first | (with_reducible refine qw_then ?_) | (with_reducible refine qw_in ?_) | (with_reducible refine qw_in_hit ?_) | (refine qw_in_miss rfl ?_) | (with_reducible refine qw_then_exit ?_) | (with_reducible refine qw_then_ret ?_) | (with_reducible refine qw_in_ret ?_)) | (refine lw_nil ?_) | (refine is_guarded ?_; first | (refine lw_not rfl rfl rfl rfl ?_) | (refine lw_not_u rfl rfl rfl ?_) | (refine lw_on rfl rfl rfl ?_) | (refine lw_on rfl rfl (by first | assumption | exact decide_eq_true (by omega) | exact decide_eq_false (by omega) | exact dec_notT (by omega) | exact dec_notF (by omega)) ?_) | (refine lw_not rfl rfl rfl (by first | assumption | exact decide_eq_true (by omega) | exact decide_eq_false (by omega) | exact dec_notT (by omega) | exact dec_notF (by omega)) ?_) | (refine lw_gs_t rfl rfl rfl (fun hc => ?_) (fun hc => ?_) <;> (first | replace hc := of_decide_eq_true hc | replace hc := of_decide_eq_false hc | replace hc := dec_nT hc | replace hc := dec_nF hc | skip) <;> (try (exfalso; omega))) | (refine lw_gs_f rfl rfl rfl (fun hc => ?_) (fun hc => ?_) <;> (first | replace hc := of_decide_eq_true hc | replace hc := of_decide_eq_false hc | replace hc := dec_nT hc | replace hc := dec_nF hc | skip) <;> (try (exfalso; omega)))) | ((refine is_bin ?_; first | (refine lw_pure rfl (pv_lss rfl rfl) ?_) | (refine lw_pure rfl (pv_neq rfl rfl) ?_) | (refine lw_pure rfl (pv_leq rfl rfl) ?_) | (refine lw_pure rfl (pv_gtr rfl rfl) ?_) | (refine lw_pure rfl (pv_geq rfl rfl) ?_) | (refine lw_pure rfl (pv_inc rfl rfl (by omega)) ?_) | (refine lw_pure rfl (pv_add rfl rfl (by omega)) ?_))) | ((refine is_load ?_; first | (refine lw_pure rfl (pv_load (t1 rfl) rfl (by first | fail)) ?_) | (refine lw_pure rfl (pv_loada (tA rfl) rfl (by first | fail) (by rfl)) ?_))) | ((refine is_ia ?_; first | (refine lw_pure rfl (pv_ian (tS rfl) rfl rfl (by omega)) ?_) | (refine lw_pure rfl (pv_ia (tS rfl) rfl rfl (by omega)) ?_))) | ((refine is_bi ?_; first | (refine lw_pure rfl (pv_lenl (tS rfl) rfl) ?_) | (refine lw_pure rfl (pv_lens (tStr rfl) rfl) ?_))) | (refine is_pk ?_; refine lw_pure rfl (pv_pick_t rfl rfl rfl) ?_) | (refine is_pk ?_; refine lw_pure rfl (pv_pick_f rfl rfl rfl) ?_) | (refine is_pk ?_; refine lw_pure rfl (pv_pick_t rfl (by first | assumption | exact decide_eq_true (by omega) | exact dec_notT (by omega)) rfl) ?_) | (refine is_pk ?_; refine lw_pure rfl (pv_pick_f rfl (by first | assumption | exact decide_eq_false (by omega) | exact dec_notF (by omega)) rfl) ?_) | (refine is_pk ?_; refine lw_pure rfl (pv_pick rfl rfl rfl) ?_) | (refine is_cv ?_; refine lw_pure rfl (pv_conv (tCv rfl rfl) rfl (by omega)) ?_) | (refine is_cw ?_; refine cw_split rfl (fun hc => ?_) (fun hc => ?_) <;> (first | replace hc := of_decide_eq_true hc | replace hc := of_decide_eq_false hc | replace hc := dec_nT hc | replace hc := dec_nF hc | skip) <;> (try (exfalso; omega))))
    all_goals (refine qw_ret1 rfl rfl ⟨ret_bool ?_, hw⟩; rw [name_all hn]; first | (rw [decide_eq_decide]; omega) | (symm; rw [decide_eq_false_iff_not]; omega))

structure Acc where
  name : ByteArray
  opn : Bool
deriving DecidableEq, Inhabited
structure Ins where
  name : ByteArray
  tick : Int
  halt : Bool
deriving DecidableEq, Inhabited
structure Ord where
  id : Int
  acct : Int
  inst : Int
  side : Int
  price : Int
  left : Int
deriving DecidableEq, Inhabited
structure Bid where
  acct : Int
  amt : Int
deriving DecidableEq, Inhabited
structure AuH where
  id : Int
  seller : Int
  inst : Int
  shut : Bool
  qty : Int
  reserve : Int
  step : Int
  fin : Int
deriving DecidableEq, Inhabited
structure Auc where
  h : AuH
  bids : List Bid
deriving DecidableEq, Inhabited
structure Stt where
  clock : Int
  fee : Int
  nord : Int
  nauc : Int
  accs : List Acc
  inss : List Ins
  rows : List Row
  ords : List Ord
  aucs : List Auc
deriving DecidableEq, Inhabited

def btw (n m : Int) : Bool := decide (1 ≤ n ∧ n ≤ m)
theorem btw_iff {n m : Int} : btw n m = true ↔ 1 ≤ n ∧ n ≤ m := by simp [btw]
def mayOne (o : Ord) : Bool := decide ((1 ≤ o.id ∧ o.id ≤ 1099511627776) ∧ (1 ≤ o.acct ∧ o.acct ≤ 64) ∧ (1 ≤ o.inst ∧ o.inst ≤ 16) ∧ (o.side = 1 ∨ o.side = 2) ∧ (1 ≤ o.price ∧ o.price ≤ 1073741824) ∧ (1 ≤ o.left ∧ o.left ≤ 1048576))
theorem mayOne_iff {o : Ord} : mayOne o = true ↔ (1 ≤ o.id ∧ o.id ≤ 1099511627776) ∧ (1 ≤ o.acct ∧ o.acct ≤ 64) ∧ (1 ≤ o.inst ∧ o.inst ≤ 16) ∧ (o.side = 1 ∨ o.side = 2) ∧ (1 ≤ o.price ∧ o.price ≤ 1073741824) ∧ (1 ≤ o.left ∧ o.left ≤ 1048576) := by simp [mayOne]
def MayO (l : List Ord) : Prop := l.length ≤ 128 ∧ (∀ o ∈ l, mayOne o = true) ∧ l.Pairwise fun a b => a.id < b.id
instance (l : List Ord) : Decidable (MayO l) := inferInstanceAs (Decidable (_ ∧ _ ∧ _))
def mayO (l : List Ord) : Bool := decide (MayO l)
theorem mayO_iff {l : List Ord} : mayO l = true ↔ MayO l := by simp [mayO]
def holdsA (o : Ord) : Int := if mayOne o then (if o.side = 1 then 0 else o.inst) else 0
def holdsN (o : Ord) : Int := if mayOne o then (if o.side = 1 then o.price * o.left else o.left) else 0

def headB (a : AuH) : Bool := btw a.id 1099511627776 && btw a.seller 64 && btw a.inst 16 && btw a.qty 1048576 && btw a.reserve 1125899906842624 && btw a.fin 1099511627776
def mannB (a : Auc) : Bool := if a.h.shut then decide (a.h.step = 0) && decide (a.bids.length ≤ 16) else btw a.h.step 1125899906842624 && decide (a.bids.length ≤ 1) && a.bids.all fun b => decide (a.h.reserve ≤ b.amt)
def bidB (s : Int) (b : Bid) : Bool := btw b.acct 64 && decide (b.acct ≠ s) && btw b.amt 1125899906842624
def bidsB (s : Int) (l : List Bid) : Bool := l.all (bidB s) && decide ((l.map (·.acct)).Nodup)
def mayAu (a : Auc) : Bool := headB a.h && mannB a && bidsB a.h.seller a.bids
def mayAus (l : List Auc) : Bool := l.all mayAu && decide (l.Pairwise fun a b => a.h.id < b.h.id) && decide (l.length ≤ 32)

def accOf (l : List Acc) (a : Int) : Acc × Bool := if 1 ≤ a ∧ a ≤ (l.length : Nat) then (match l[(a - 1).toNat]? with
  | some x => if x.opn then (x, true) else (⟨ByteArray.empty, false⟩, false)
  | none => (⟨ByteArray.empty, false⟩, false)) else (⟨ByteArray.empty, false⟩, false)
def insOf (l : List Ins) (i : Int) : Ins × Bool := if 1 ≤ i ∧ i ≤ (l.length : Nat) then (match l[(i - 1).toNat]? with
  | some x => (x, true)
  | none => (⟨ByteArray.empty, 0, false⟩, false)) else (⟨ByteArray.empty, 0, false⟩, false)
def openB (l : List Acc) (a : Int) : Bool := (accOf l a).2
def isB (l : List Ins) (i : Int) : Bool := (insOf l i).2
def namedOf (l : List Acc) (n : ByteArray) : Int := match l.findIdx? (fun x => decide (x.name = n)) with
  | some i => (i : Nat) + 1
  | none => 0

abbrev PartT := (Int × Int) × Int
def partO (o : Ord) : List PartT := if 0 < holdsN o then [((o.acct, holdsA o), holdsN o)] else []
def partA (a : Auc) : List PartT := if mayAu a then ((a.h.seller, a.h.inst), a.h.qty) :: a.bids.map fun b => ((b.acct, 0), b.amt) else []
def partsP (os : List Ord) (us : List Auc) : List PartT := os.flatMap partO ++ us.flatMap partA
def heldL (l : List PartT) (k : Int × Int) : Int := ((l.filter fun p => decide (p.1 = k)).map (·.2)).sum
def heldP (t : Stt) (a s : Int) : Int := heldL (partsP t.ords t.aucs) (a, s)

/-! the rules -/
def numsB (t : Stt) : Bool := decide ((0 ≤ t.clock ∧ t.clock ≤ 1099511627776) ∧ (0 ≤ t.fee ∧ t.fee ≤ 1000) ∧ (1 ≤ t.nord ∧ t.nord ≤ 1099511627777) ∧ (1 ≤ t.nauc ∧ t.nauc ≤ 1099511627777))
def namesB (l : List ByteArray) : Bool := l.all nameR && decide l.Nodup
def accsB (l : List Acc) : Bool := decide (l.length ≤ 64) && namesB (l.map (·.name))
def tickB (x : Ins) : Bool := decide (1 ≤ x.tick ∧ x.tick ≤ 1073741824)
def inssB (l : List Ins) : Bool := l.all tickB && (decide (l.length ≤ 16) && namesB (l.map (·.name)))
def rowW (t : Stt) (r : Row) : Bool := (decide (r.acct ≠ 0) && !openB t.accs r.acct) || decide ((t.inss.length : Nat) < r.asset)
def rowsB (t : Stt) : Bool := mayR t.rows && !t.rows.any (rowW t)
def ordW (t : Stt) (o : Ord) : Bool := decide (t.nord ≤ o.id) || (!openB t.accs o.acct || (!isB t.inss o.inst || decide (o.price % (insOf t.inss o.inst).1.tick ≠ 0)))
def ordsB (t : Stt) : Bool := mayO t.ords && !t.ords.any (ordW t)
def aucW (t : Stt) (a : Auc) : Bool := decide (t.nauc ≤ a.h.id) || (!openB t.accs a.h.seller || (!isB t.inss a.h.inst || a.bids.any fun b => !openB t.accs b.acct))
def aucsB (t : Stt) : Bool := mayAus t.aucs && !t.aucs.any (aucW t)
def heldB (t : Stt) : Bool := t.rows.all (fun r => decide (heldP t r.acct r.asset = r.held)) && (partsP t.ords t.aucs).all fun p => t.rows.any (isKey p.1.1 p.1.2)
def wNums : ByteArray := ⟨#[110, 117, 109, 98, 101, 114, 115]⟩
def wAccs : ByteArray := ⟨#[97, 99, 99, 111, 117, 110, 116, 115]⟩
def wInss : ByteArray := ⟨#[105, 110, 115, 116, 114, 117, 109, 101, 110, 116, 115]⟩
def wRows : ByteArray := ⟨#[114, 111, 119, 115]⟩
def wOrds : ByteArray := ⟨#[111, 114, 100, 101, 114, 115]⟩
def wAucs : ByteArray := ⟨#[97, 117, 99, 116, 105, 111, 110, 115]⟩
def wHeld : ByteArray := ⟨#[104, 101, 108, 100]⟩
def checkF (t : Stt) : ByteArray := if !numsB t then wNums else if !accsB t.accs then wAccs else if !inssB t.inss then wInss else if !rowsB t then wRows else if !ordsB t then wOrds else if !aucsB t then wAucs else if !heldB t then wHeld else ByteArray.empty

def encA (x : Acc) : List Value := [.string x.name, .bool x.opn]
theorem encA_len (x : Acc) : (encA x).length = 2 := rfl
theorem encA_one (x : Acc) : ∀ v ∈ encA x, v.oneCell' = true := by intro v hv; simp [encA] at hv; rcases hv with rfl | rfl <;> rfl
def encN (x : Ins) : List Value := [.string x.name, .int .i64 x.tick, .bool x.halt]
theorem encN_len (x : Ins) : (encN x).length = 3 := rfl
theorem encN_one (x : Ins) : ∀ v ∈ encN x, v.oneCell' = true := by intro v hv; simp [encN] at hv; rcases hv with rfl | rfl | rfl <;> rfl
def encO (o : Ord) : List Value := [.int .i64 o.id, .int .i64 o.acct, .int .i64 o.inst, .int .u8 o.side, .int .i64 o.price, .int .i64 o.left]
theorem encO_len (o : Ord) : (encO o).length = 6 := rfl
def encD (b : Bid) : List Value := [.int .i64 b.acct, .int .i64 b.amt]
theorem encD_len (b : Bid) : (encD b).length = 2 := rfl
theorem encD_one (b : Bid) : ∀ v ∈ encD b, v.oneCell' = true := by intro v hv; simp [encD] at hv; rcases hv with rfl | rfl <;> rfl
structure AucC where
  h : AuH
  ba : Option Addr
  bm : Nat
  bc : Nat
def encC (x : AucC) : List Value := [.int .i64 x.h.id, .int .i64 x.h.seller, .int .i64 x.h.inst, .bool x.h.shut, .int .i64 x.h.qty, .int .i64 x.h.reserve, .int .i64 x.h.step, .int .i64 x.h.fin, .slice x.ba x.bm x.bc]
theorem encC_len (x : AucC) : (encC x).length = 9 := rfl
theorem encC_one (x : AucC) : ∀ v ∈ encC x, v.oneCell' = true := by intro v hv; simp [encC] at hv; rcases hv with rfl | rfl | rfl | rfl | rfl | rfl | rfl | rfl | rfl <;> rfl
structure AuR (w : World) (x : AucC) (a : Auc) : Prop where
  h : x.h = a.h
  m : a.bids.length = x.bm
  s : SlR encD 2 w x.ba x.bc a.bids
theorem AuR.mono {w w' : World} {x : AucC} {a : Auc} (h : AuR w x a) (hb : Below w.heap.size w w') : AuR w' x a := ⟨h.h, h.m, h.s.mono hb⟩
def AusR (w : World) (xs : List AucC) (us : List Auc) : Prop := xs.length = us.length ∧ ∀ (j : Nat) x a, xs[j]? = some x → us[j]? = some a → AuR w x a
theorem AusR.mono {w w' : World} {xs : List AucC} {us : List Auc} (h : AusR w xs us) (hb : Below w.heap.size w w') : AusR w' xs us := ⟨h.1, fun j x a h1 h2 => (h.2 j x a h1 h2).mono hb⟩
theorem AusR.nil (w : World) : AusR w [] [] := ⟨rfl, fun j x a h _ => by simp at h⟩
theorem AusR.at {w : World} {xs : List AucC} {us : List Auc} (h : AusR w xs us) {j : Nat} {a : Auc} (ha : us[j]? = some a) : ∃ x, xs[j]? = some x ∧ AuR w x a := by
  have hj := (List.getElem?_eq_some_iff.1 ha).1
  refine ⟨xs[j]'(by rw [h.1]; exact hj), List.getElem?_eq_getElem _, h.2 j _ a (List.getElem?_eq_getElem _) ha⟩

structure SttC where
  clock : Int
  fee : Int
  nord : Int
  nauc : Int
  pa : Option Addr
  ma : Nat
  ca : Nat
  pi : Option Addr
  mi : Nat
  ci : Nat
  pr : Option Addr
  mr : Nat
  cr : Nat
  po : Option Addr
  mo : Nat
  co : Nat
  px : Option Addr
  mx : Nat
  cx : Nat
abbrev encS (s : SttC) : List Value := [.int .i64 s.clock, .int .i64 s.fee, .int .i64 s.nord, .int .i64 s.nauc, .slice s.pa s.ma s.ca, .slice s.pi s.mi s.ci, .slice s.pr s.mr s.cr, .slice s.po s.mo s.co, .slice s.px s.mx s.cx]
structure StR (w : World) (s : SttC) (t : Stt) : Prop where
  n : s.clock = t.clock ∧ s.fee = t.fee ∧ s.nord = t.nord ∧ s.nauc = t.nauc
  ma : t.accs.length = s.ma
  mi : t.inss.length = s.mi
  mr : t.rows.length = s.mr
  mo : t.ords.length = s.mo
  mx : t.aucs.length = s.mx
  A : SlR encA 2 w s.pa s.ca t.accs
  I : SlR encN 3 w s.pi s.ci t.inss
  R : SlR encR 4 w s.pr s.cr t.rows
  O : SlR encO 6 w s.po s.co t.ords
  X : ∃ xs, SlR encC 9 w s.px s.cx xs ∧ AusR w xs t.aucs
theorem StR.mono {w w' : World} {s : SttC} {t : Stt} (h : StR w s t) (hb : Below w.heap.size w w') : StR w' s t := ⟨h.n, h.ma, h.mi, h.mr, h.mo, h.mx, h.A.mono hb, h.I.mono hb, h.R.mono hb, h.O.mono hb, by
  obtain ⟨xs, h1, h2⟩ := h.X; exact ⟨xs, h1.mono hb, h2.mono hb⟩⟩
structure StIn (t : Stt) : Prop where
  a : ∀ x ∈ t.accs, x.name.size ≤ 140737488355328
  i : ∀ x ∈ t.inss, x.name.size ≤ 140737488355328 ∧ (-9223372036854775808 ≤ x.tick ∧ x.tick ≤ 9223372036854775807)
  r : In64R t.rows
  o : ∀ x ∈ t.ords, (-9223372036854775808 ≤ x.price ∧ x.price ≤ 9223372036854775807) ∧ (-9223372036854775808 ≤ x.left ∧ x.left ≤ 9223372036854775807)
  no : -9223372036854775808 ≤ t.nord ∧ t.nord ≤ 9223372036854775807
theorem elemA : ElemT Tryz.prog 24 34 2 24 := elem_of Tryz.underlying24 (by kernel_rfl) (by omega)
theorem elemIn : ElemT Tryz.prog 25 37 3 32 := elem_of Tryz.underlying25 (by kernel_rfl) (by omega)
theorem elemO : ElemT Tryz.prog 27 41 6 48 := elem_of Tryz.underlying27 (by kernel_rfl) (by omega)
theorem elemD : ElemT Tryz.prog 42 46 2 16 := elem_of Tryz.underlying42 (by kernel_rfl) (by omega)
theorem elemC : ElemT Tryz.prog 28 44 9 88 := elem_of Tryz.underlying28 (by kernel_rfl) (by omega)
end Go.Proofs.YtekomjnjddhfmaaGreat
