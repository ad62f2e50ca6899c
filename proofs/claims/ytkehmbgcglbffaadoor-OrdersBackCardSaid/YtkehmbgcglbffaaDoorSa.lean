/-
  Arrays over the walker: an element's address, an array that is built empty, two arrays of numbers compared. Conditions: what each law names.
-/
import Derived.Test.YtkehmbgcglbffaaDoorSm
import Derived.Laws.StructEq
namespace Go.Proofs.YtkehmbgcglbffaaDoor
open Go.RowKit

def arB (P : Program) (t : TypeId) (m e : Nat) : Bool := match P.underlying t with
  | some (.array k q) => k == m && sizeB P q e
  | _ => false
theorem arB_of {P : Program} {t m e : Nat} (h : arB P t m e = true) : ∃ q, P.underlying t = some (.array m q) ∧ sizeB P q e = true := by
  unfold arB at h
  cases hu : P.underlying t with
  | none => rw [hu] at h; cases h
  | some d =>
    rw [hu] at h
    cases d <;> try (cases h; done)
    rename_i k q
    simp only [Bool.and_eq_true, beq_iff_eq] at h
    obtain ⟨rfl, h2⟩ := h
    exact ⟨_, rfl, h2⟩
section
variable {P : Program} {n : Nat} {l : Fr} {w : World} {d : Option Nat} {ty : TypeId} {pos : String} {af : Array Edge} {g : Option (Nat × Bool)} {x y : Operand} {t t' : TypeId} {k : IntKind}
theorem pv_iaa {B o m e : Nat} {i : Int} (ht : arB P t m e = true) (hx : ev l x = some (.pointer (some ⟨B, o, none⟩))) (hy : ev l y = some (.int k i)) (h : 0 ≤ i ∧ i < m) : Pv P n l ⟨d, .indexAddr t x y, ty, pos, af, g⟩ (.pointer (some ⟨B, o + i.toNat * e, none⟩)) w := ⟨fun A hA => by
  obtain ⟨q, h1, h2⟩ := arB_of ht
  simp [execOp, hA.ev hx, hA.ev hy, Instr.indexAt, run_underlying h1, asIntOf, Instr.sureAddr, h.1, h.2, sizeB_run h2, Addr.add_lit]⟩
theorem pv_build0 {zs : List Value} (h : P.built t [] = some zs.toArray) : Pv P n l ⟨d, .build t #[], ty, pos, af, g⟩ (.agg zs.toArray) w := ⟨fun A hA => by
  have := run_build (P := P) w t #[] zs.toArray h
  simp [execOp, this]⟩
theorem part_one {e : TypeId} {cs : Array Value} {i : Nat} {v : Value} (h : oneB P e = true) (hv : cs[i]? = some v) (w : World) : (part e cs i).run P w = .ok v w := by
  simp [part, oneB_run h, hv]
theorem run_equalIn_ints (dp : Nat) {m : Nat} {e : TypeId} (ht : P.underlying t = some (.array m e)) (he : P.underlying e = some (.int k)) (hs : sizeB P e 1 = true) (xs ys : List Int) (hx : xs.length = m) (hy : ys.length = m) (w : World) :
    (Op.equalIn (dp + 2) t (.agg (xs.map fun x => Value.int k x).toArray) (.agg (ys.map fun x => Value.int k x).toArray)).run P w = .ok (decide (xs = ys)) w := by
  have h1 : oneB P e = true := by simp [oneB, he]
  have key : ∀ (c s : Nat), s + c = m → (∀ i, i < s → xs[i]? = ys[i]?) →
      ((forIn (List.range' s c) ((none, ()) : Option Bool × Unit) fun i r => do
        let b ← Op.equalIn (dp + 1) e (← part e (xs.map fun x => Value.int k x).toArray (i * 1)) (← part e (ys.map fun x => Value.int k x).toArray (i * 1))
        if !b then pure (ForInStep.done (some false, ())) else pure (ForInStep.yield (none, ()))) : Sem _).run P w = .ok (if xs = ys then none else some false, ()) w := by
    intro c
    induction c with
    | zero =>
      intro s hs hn
      have : xs = ys := by
        apply List.ext_getElem?
        intro i
        by_cases hi : i < s
        · exact hn i hi
        · rw [List.getElem?_eq_none (by omega), List.getElem?_eq_none (by omega)]
      simp [this]
    | succ c ih =>
      intro s hs hn
      have hxs : xs[s]? = some xs[s] := List.getElem?_eq_getElem (by omega)
      have hys : ys[s]? = some ys[s] := List.getElem?_eq_getElem (by omega)
      have p1 := part_one (P := P) (cs := (xs.map fun x => Value.int k x).toArray) (i := s) (v := .int k xs[s]) h1 (by simp [hxs]) w
      have p2 := part_one (P := P) (cs := (ys.map fun x => Value.int k x).toArray) (i := s) (v := .int k ys[s]) h1 (by simp [hys]) w
      rw [List.range'_succ, List.forIn_cons]
      simp only [Sem.run_bind, Nat.mul_one, p1, p2, Result.andThen, run_equalIn_int w dp e k k _ _ he]
      by_cases hq : xs[s] = ys[s]
      · simp only [hq, beq_self_eq_true, Bool.not_true, Bool.false_eq_true, if_false, Sem.run_pure]
        have := ih (s + 1) (by omega) (fun i hi => by
          by_cases his : i = s
          · subst his; rw [hxs, hys, hq]
          · exact hn i (by omega))
        simpa using this
      · have hne : xs ≠ ys := fun e => hq (by subst e; rfl)
        have hb : (xs[s] == ys[s]) = false := by simpa using hq
        simp only [hb, Bool.not_false, if_true, Sem.run_pure, if_neg hne]
  have hk := key m 0 (by omega) (by intro i hi; omega)
  rw [Op.equalIn]
  simp only [Sem.run_bind, run_underlying ht, Result.andThen_ok, sizeB_run hs]
  simp only [Std.Legacy.Range.forIn_eq_forIn_range', Std.Legacy.Range.size, Nat.sub_zero, Nat.add_sub_cancel, Nat.div_one]
  rw [hk]
  by_cases hq : xs = ys <;> simp [hq]
theorem pv_eqlA (op : BinOp) (hop : op = .eql) {m : Nat} {e : TypeId} (ht : P.underlying t = some (.array m e)) (he : P.underlying e = some (.int k)) (hs : sizeB P e 1 = true) (hg : P.eqGuardType P.depth t = false) (xs ys : List Int) (hxl : xs.length = m) (hyl : ys.length = m) (hx : ev l x = some (.agg (xs.map fun x => Value.int k x).toArray)) (hy : ev l y = some (.agg (ys.map fun x => Value.int k x).toArray)) : Pv P n l ⟨d, .binOp op t x y t', ty, pos, af, g⟩ (.bool (decide (xs = ys))) w := ⟨fun A hA => by
  subst hop
  have h1 := run_eqGuard_agg (P := P) w .eql t x y (xs.map fun x => Value.int k x).toArray (ys.map fun x => Value.int k x).toArray hg
  have h2 := run_equalIn_ints (P := P) (k := k) 9998 ht he hs xs ys hxl hyl w
  have h3 := run_eql_struct (P := P) w t (xs.map fun x => Value.int k x).toArray (ys.map fun x => Value.int k x).toArray
  rw [h2] at h3
  simp [execOp, hA.ev hx, hA.ev hy, h1, h3]⟩
end
/-! ### growth, with the tape's place -/
structure BelowD (w w' : World) : Prop where
  b : Below w.heap.size w w'
  d : w.drawn ≤ w'.drawn
theorem BelowD.refl (w : World) : BelowD w w := ⟨Below.refl _ _, Nat.le_refl _⟩
theorem BelowD.trans {w w1 w2 : World} (h : BelowD w w1) (k : BelowD w1 w2) : BelowD w w2 := ⟨grow_trans h.b k.b, Nat.le_trans h.d k.d⟩
theorem BelowD.drew {w w1 : World} (h : BelowD w w1) : BelowD w w1.drew := ⟨h.b.drew, Nat.le_succ_of_le h.d⟩
section
variable {P : Program} {n : Nat} {l : Fr} {w : World} {Q : Exit → Act → World → Prop} {ops : Array Oper} {os : List Oper} {ty t S T : TypeId} {pos : String} {af : Array Edge} {g : Option (Nat × Bool)} {x : Operand} {v : Value} {k nb : Nat}
theorem lw_boxD {d : Nat} (hd : Nat.blt d n = true) (hx : ev l x = some v) {cs : List Value} (hcs : v.cells.toList = cs) (h : ∀ N w', w.heap.size ≤ N → PT w' N t cs → BelowD w w' → LW P n ops Q os ((d, .pointer (some ⟨N, 0, none⟩)) :: l) w') :
    LW P n ops Q (⟨some d, .box t x, ty, pos, af, none⟩ :: os) l w := lw_eff hd (ev_box hx) (h _ _ (Nat.le_refl _) (hcs ▸ PT.new w _ _) ⟨below_alloc _ _, Nat.le_refl _⟩)
theorem act_bsD {d : Option Nat} {Z : Value → World → Prop} (E : ElemT P S T k nb) {m : Nat} {ps : List (Nat × Operand)} {vs cs : List Value} (hps : ps.map (·.1) = List.range m) (hvs : evs l (ps.map (·.2)) = some vs) (hp : 0 < m) (hs : m * k ≤ 16777216) (hcs : (vs.flatMap fun v => v.cells.toList) = cs) (h1 : ∀ v ∈ vs, v.cells.size = k) (hlen : vs.length = m)
    (h : ∀ w', PT w' w.heap.size T cs → BelowD w w' → Z (.slice (some ⟨w.heap.size, 0, none⟩) m m) w') : Act1 P n l ⟨d, .buildSlice S m ps.toArray, ty, pos, af, g⟩ w Z := by
  subst hcs
  have e : (List.range m).zip vs = (vs.zipIdx 0).map fun x => (x.2, x.1) := by
    refine List.ext_getElem? fun i => ?_
    rw [List.getElem?_map, List.getElem?_zipIdx]
    by_cases hi : i < m
    · rw [List.getElem?_eq_getElem (by simp; omega), List.getElem_zip, List.getElem?_eq_getElem (by omega)]; simp
    · rw [List.getElem?_eq_none (by simp; omega), List.getElem?_eq_none (by omega)]; rfl
  refine act_ev (ev_buildSlice hps hvs (e := T) (cells := (vs.flatMap fun v => v.cells.toList).toArray) (fun w => ?_)) (h _ (by simpa using PT.new w (vs.flatMap fun v => v.cells.toList).toArray T) ⟨below_alloc _ _, Nat.le_refl _⟩)
  rw [e]; exact run_bs E vs hlen h1 hs hp w
end
end Go.Proofs.YtkehmbgcglbffaaDoor
