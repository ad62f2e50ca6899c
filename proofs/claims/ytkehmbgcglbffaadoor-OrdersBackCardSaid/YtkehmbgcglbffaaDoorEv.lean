/-
  Events in memory: an event's cells, and what they read as. Conditions: none.
-/
import Derived.Test.YtkehmbgcglbffaaDoorOk
namespace Go.Proofs.YtkehmbgcglbffaaDoor
open Go.RowKit Go.PlainAid

/-- an event as its cells stand -/
structure EvC where
  v : Int
  kind : Int
  an : Option Addr
  mn : Nat
  cn : Nat
  ax : Option Addr
  mx : Nat
  cx : Nat
abbrev encV (x : EvC) : List Value := [.int .u8 x.v, .int .u8 x.kind, .slice x.an x.mn x.cn, .slice x.ax x.mx x.cx]
theorem encV_len (x : EvC) : (encV x).length = 4 := rfl
theorem encV_one (x : EvC) : ∀ v ∈ encV x, v.oneCell' = true := by intro v hv; simp at hv; rcases hv with rfl | rfl | rfl | rfl <;> rfl
/-- .. and what it reads as -/
structure EvR (w : World) (x : EvC) (e : Evt) : Prop where
  v : x.v = e.v
  kind : x.kind = e.kind
  mn : e.nums.length = x.mn
  mx : e.texts.length = x.mx
  nums : SlR encI 1 w x.an x.cn e.nums
  texts : SlR encT 1 w x.ax x.cx e.texts
  h8 : 0 ≤ e.kind ∧ e.kind ≤ 255
  tx : TxtIn e.texts
theorem EvR.mono {w w' : World} {x : EvC} {e : Evt} (h : EvR w x e) (hb : Below w.heap.size w w') : EvR w' x e := ⟨h.v, h.kind, h.mn, h.mx, h.nums.mono hb, h.texts.mono hb, h.h8, h.tx⟩
theorem is_seqr {P : Program} {n : Nat} {l : Fr} {w : World} {Q : Exit → Act → World → Prop} (i : Nat) {ops : Array Oper} {d : Bool} {y : Code} (h : CW P n (.seq (.region i ops d) y) Q l w) : CW P n (.seq (.region i ops d) y) Q l w := h
section
variable {k nb : Nat} {P : Program} {n : Nat} {l : Fr} {w : World} {Q : Exit → Act → World → Prop} {ops : Array Oper} {os : List Oper} {d : Nat} {ty : TypeId} {pos : String} {af : Array Edge} {S T : TypeId}
theorem lw_bsN (E : ElemT P S T k nb) {m : Nat} {ps : List (Nat × Operand)} {vs cs : List Value} (hd : Nat.blt d n = true) (hps : ps.map (·.1) = List.range m) (hvs : evs l (ps.map (·.2)) = some vs) (hp : 0 < m) (hs : m * k ≤ 16777216) (hcs : (vs.flatMap fun v => v.cells.toList) = cs) (h1 : ∀ v ∈ vs, v.cells.size = k)
    (h : ∀ N w', w.heap.size ≤ N → PT w' N T cs → Below w.heap.size w w' → LW P n ops Q os ((d, .slice (some ⟨N, 0, none⟩) m m) :: l) w') :
    LW P n ops Q (⟨some d, .buildSlice S m ps.toArray, ty, pos, af, none⟩ :: os) l w :=
  lw_bs E hd hps hvs hp hs hcs h1 fun w' hp hb _ => h _ w' (Nat.le_refl _) hp hb
end
theorem tx_nil : TxtIn [] := fun x hx => by cases hx
end Go.Proofs.YtkehmbgcglbffaaDoor
