/-
  Events, plain: a kind's fields, a class's bounds, which event may be; the table of kinds in memory. Conditions: none.
-/
import Derived.Test.YtkehmbgcglbffaaDoorSt
import Derived.Test.YtkehmbgcglbffaaDoorRows
namespace Go.Proofs.YtkehmbgcglbffaaDoor
open Go.RowKit Go.PlainAid

/-- a kind: its name, its classes in three versions, whether it has a text -/
structure KRow where
  name : ByteArray
  f1 : ByteArray
  f2 : ByteArray
  f3 : ByteArray
  text : Bool
deriving Inhabited
def encK (r : KRow) : List Value := [.string r.name, .string r.f1, .string r.f2, .string r.f3, .bool r.text]
theorem encK_len (r : KRow) : (encK r).length = 5 := rfl
def krowOf : DataW Unit → KRow
  | .agg [.lit (.string n), .agg [.lit (.string a), .lit (.string b), .lit (.string c)], .lit (.bool t)] => ⟨⟨n.toArray⟩, ⟨a.toArray⟩, ⟨b.toArray⟩, ⟨c.toArray⟩, t⟩
  | _ => ⟨⟨#[]⟩, ⟨#[]⟩, ⟨#[]⟩, ⟨#[]⟩, false⟩
def partsOf : DataW Unit → List (DataW Unit)
  | .agg l => l
  | _ => []
@[irreducible] def kindsT : List KRow := (partsOf Rows.laid_souk_schema_kinds).map krowOf
theorem kindsT_len : kindsT.length = 23 := by kernel_rfl
def blankS : ByteArray := { data := #[32] }
def blankK : KRow := ⟨ByteArray.empty, blankS, blankS, blankS, false⟩
@[irreducible] def kindR (k : Int) : KRow := if 1 ≤ k ∧ k ≤ 23 then kindsT.getD (k - 1).toNat blankK else blankK
def fieldV (r : KRow) (v : Int) : ByteArray := if v = 1 then r.f1 else if v = 2 then r.f2 else r.f3
/-- plain letters, as a test -/
def ascB (s : ByteArray) : Bool := s.data.toList.all fun b => decide (b.toNat < 128)
theorem asc_of {s : ByteArray} (h : ascB s = true) : Asc s := by
  intro x hx
  unfold ascB at h
  simp only [bytesI, List.mem_map] at hx
  obtain ⟨b, hb, rfl⟩ := hx
  have := List.all_eq_true.1 h b hb
  have := of_decide_eq_true this
  omega
theorem kinds_asc : (kindsT.all fun r => ascB r.f1 && ascB r.f2 && ascB r.f3) = true := by kernel_rfl
theorem field_asc (k v : Int) : Asc (fieldV (kindR k) v) := by
  have hb : Asc blankS := asc_of (by kernel_rfl)
  unfold kindR
  by_cases hk : 1 ≤ k ∧ k ≤ 23
  · rw [if_pos hk]
    have hl := kindsT_len
    have hi : (k - 1).toNat < kindsT.length := by omega
    have hm : kindsT.getD (k - 1).toNat blankK ∈ kindsT := by
      rw [List.getD_eq_getElem?_getD, List.getElem?_eq_getElem hi]; exact List.getElem_mem hi
    have := List.all_eq_true.1 kinds_asc _ hm
    simp only [Bool.and_eq_true] at this
    unfold fieldV
    split
    · exact asc_of this.1.1
    · split
      · exact asc_of this.1.2
      · exact asc_of this.2
  · rw [if_neg hk]; unfold fieldV blankK; (repeat' split) <;> exact hb
/-- a kind's classes in a version, and whether it has a text -/
def fieldsR (v k : Int) : Option (ByteArray × Bool) := if 1 ≤ v ∧ v ≤ 3 then (if (32 : Int) ∈ bytesI (fieldV (kindR k) v) then none else some (fieldV (kindR k) v, (kindR k).text)) else none
/-- the greatest number of a class, and in how many it was told -/
@[irreducible] def highC (c : Int) : Option (Int × Int) :=
  if c = 97 then some (64, 1) else if c = 105 then some (16, 1) else if c = 111 ∨ c = 99 then some (1099511627776, 1) else if c = 113 then some (1048576, 1)
  else if c = 109 ∨ c = 122 then some (1125899906842624, 100) else if c = 112 ∨ c = 107 then some (1073741824, 100) else if c = 98 then some (1000, 100)
  else if c = 116 then some (1099511627776, 10) else if c = 115 then some (2, 1) else none
def lowC (c : Int) : Int := if c = 122 ∨ c = 98 then 0 else 1
def boundR (v c : Int) : Option (Int × Int) :=
  if 1 ≤ v ∧ v ≤ 3 then
    match highC c with
    | none => none
    | some (h, b) => if v < 3 ∧ c = 115 then some (0, 1) else some (lowC c, if v < 3 ∧ c = 116 ∨ v < 2 ∧ b = 100 then h.tdiv b else h)
  else none
def bLo (v c : Int) : Int := match boundR v c with | some p => p.1 | none => 0
def bHi (v c : Int) : Int := match boundR v c with | some p => p.2 | none => 0
def bIs (v c : Int) : Bool := (boundR v c).isSome
def fitsR (v c n : Int) : Bool := bIs v c && (decide (bLo v c ≤ n) && decide (n ≤ bHi v c))
def allR (v : Int) (cs ns : List Int) : Bool := decide (cs.length = ns.length) && (cs.zip ns).all fun p => fitsR v p.1 p.2
def okC (c : Int) : Bool := decide ((97 ≤ c ∧ c ≤ 122) ∨ (48 ≤ c ∧ c ≤ 57) ∨ c = 45 ∨ c = 95)
def nameR (s : ByteArray) : Bool := decide (1 ≤ s.size ∧ s.size ≤ 24) && (bytesI s).all okC
/-- an event: its version, its kind, its numbers, its texts -/
structure Evt where
  v : Int
  kind : Int
  nums : List Int
  texts : List ByteArray
def textsR (t : Bool) (l : List ByteArray) : Bool := if t then (match l with | [x] => nameR x | _ => false) else decide (l.length = 0)
def mayE (e : Evt) : Bool := match fieldsR e.v e.kind with
  | none => false
  | some (s, t) => allR e.v (bytesI s) e.nums && textsR t e.texts
/-- the table of kinds lies in memory -/
structure KnW (w : World) : Prop where
  s : SlR encK 5 w (some ⟨0, 0, none⟩) 23 kindsT
theorem KnW.mono {w w' : World} (h : KnW w) (hb : Below w.heap.size w w') : KnW w' := ⟨h.s.mono hb⟩
/-! ### numbers of eight bits -/
section
variable {P : Program} {n : Nat} {l : Fr} {w : World} {d : Option Nat} {ty : TypeId} {pos : String} {af : Array Edge} {g : Option (Nat × Bool)} {x y : Operand} {t t' : TypeId} {k : IntKind} {a b : Int}
theorem pv_sub8 (hx : ev l x = some (.int .u8 a)) (hy : ev l y = some (.int .u8 b)) (h : 0 ≤ a - b ∧ a - b ≤ 255) : Pv P n l ⟨d, .binOp .sub t x y t', ty, pos, af, g⟩ (.int .u8 (a - b)) w := by
  have := pv_sub_w (P := P) (n := n) (w := w) (d := d) (ty := ty) (pos := pos) (af := af) (g := g) (t := t) (t' := t') hx hy
  rwa [IntWalk.u8_in _ (by omega)] at this
theorem pv_add8 (hx : ev l x = some (.int .u8 a)) (hy : ev l y = some (.int .u8 b)) (h : 0 ≤ a + b ∧ a + b ≤ 255) : Pv P n l ⟨d, .binOp .add t x y t', ty, pos, af, g⟩ (.int .u8 (a + b)) w := by
  have := pv_add_w (P := P) (n := n) (w := w) (d := d) (ty := ty) (pos := pos) (af := af) (g := g) (t := t) (t' := t') hx hy
  rwa [IntWalk.u8_in _ (by omega)] at this
theorem pv_conv8 (ht : cvB P t t' .u8 = true) (hx : ev l x = some (.int k a)) (h : 0 ≤ a ∧ a ≤ 255) : Pv P n l ⟨d, .convert t t' x, ty, pos, af, g⟩ (.int .u8 a) w := by
  have := pv_conv_w (P := P) (n := n) (w := w) (d := d) (ty := ty) (pos := pos) (af := af) (g := g) ht hx
  rwa [IntWalk.u8_in _ (by omega)] at this
theorem pv_quo (hx : ev l x = some (.int .i64 a)) (hy : ev l y = some (.int .i64 b)) (h : 0 ≤ a ∧ a ≤ 9223372036854775807) (hb : 1 ≤ b) : Pv P n l ⟨d, .binOp .quo t x y t', ty, pos, af, g⟩ (.int .i64 (a.tdiv b)) w := ⟨fun A hA => by
  have h0 : b ≠ 0 := by omega
  have h1 : 0 ≤ a.tdiv b := Int.tdiv_nonneg h.1 (by omega)
  have h2 : a.tdiv b ≤ a := Int.tdiv_le_self b h.1
  have e : IntKind.i64.wrap (a.tdiv b) = a.tdiv b := IntWalk.i64_in _ ⟨by omega, by omega⟩
  simp [execOp, hA.ev hx, hA.ev hy, eqGuard, binOp, Op.intDiv, h0, e]⟩
end
end Go.Proofs.YtkehmbgcglbffaaDoor
