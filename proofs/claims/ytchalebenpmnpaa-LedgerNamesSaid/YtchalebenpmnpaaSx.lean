/-
  A walk over a frame that is known by a list: what stands in slots, as pairs; the judgements and the rules of control. Conditions: none (laws on any program).
-/
import Derived.Test.YtchalebenpmnpaaHx
namespace Go.Proofs.Ytchalebenpmnpaa
open Go.RowKit

/-- what stands in slots -/
abbrev Fr := List (Nat × Value)
def look : Fr → Nat → Option Value
  | [], _ => none
  | (t, v) :: r, s => bif Nat.beq t s then some v else look r s
def Holds (n : Nat) (l : Fr) (a : Act) : Prop := a.tmps.size = n ∧ a.defers = [] ∧ ∀ t v, look l t = some v → a.tmps[t]? = some v
def ev (l : Fr) : Operand → Option Value
  | .tmp t => look l t
  | .const v => some v
  | .global g => some (.pointer (some ⟨g, 0, none⟩))
  | .func f => some (.func (.func f) #[] #[])
def evs (l : Fr) : List Operand → Option (List Value)
  | [] => some []
  | x :: r => match ev l x, evs l r with
    | some v, some vs => some (v :: vs)
    | _, _ => none
section
variable {n : Nat} {l : Fr} {a : Act} {P : Program} {w : World} {Q : Exit → Act → World → Prop}
theorem Holds.ev (h : Holds n l a) {x : Operand} {v : Value} (e : ev l x = some v) : a.eval x = v := by
  cases x with
  | tmp t => simp only [Go.Proofs.Ytchalebenpmnpaa.ev] at e; simp [Act.eval, h.2.2 t v e]
  | const v' => simpa [Go.Proofs.Ytchalebenpmnpaa.ev, Act.eval] using e
  | global g => simpa [Go.Proofs.Ytchalebenpmnpaa.ev, Act.eval] using e
  | func f => simpa [Go.Proofs.Ytchalebenpmnpaa.ev, Act.eval] using e
theorem Holds.evs (h : Holds n l a) : ∀ {xs : List Operand} {vs : List Value}, evs l xs = some vs → xs.map a.eval = vs
  | [], vs, e => by simp only [Go.Proofs.Ytchalebenpmnpaa.evs, Option.some.injEq] at e; subst e; rfl
  | x :: r, vs, e => by
    simp only [Go.Proofs.Ytchalebenpmnpaa.evs] at e
    cases hx : Go.Proofs.Ytchalebenpmnpaa.ev l x with
    | none => rw [hx] at e; cases e
    | some v =>
      cases hr : Go.Proofs.Ytchalebenpmnpaa.evs l r with
      | none => rw [hx, hr] at e; cases e
      | some vs' =>
        rw [hx, hr] at e
        simp only [Option.some.injEq] at e; subst e
        rw [List.map_cons, h.ev hx, h.evs hr]
theorem Holds.put (h : Holds n l a) {d : Nat} (hd : Nat.blt d n = true) (v : Value) : Holds n ((d, v) :: l) (a.put (some d) v) := by
  obtain ⟨h1, h2, h3⟩ := h
  have hd' : d < n := by simpa [Nat.blt_eq] using hd
  refine ⟨by simpa [Act.put] using h1, h2, fun t u e => ?_⟩
  simp only [look] at e
  by_cases ht : d = t
  · subst ht
    simp only [Nat.beq_refl, cond_true, Option.some.injEq] at e
    subst e
    simp [Act.put, h1, hd']
  · have : Nat.beq d t = false := by rw [Bool.eq_false_iff]; exact fun e => ht (Nat.eq_of_beq_eq_true e)
    rw [this, cond_false] at e
    simp only [Act.put]
    rw [Array.getElem?_setIfInBounds_ne ht]
    exact h3 t u e
theorem Holds.put_none (h : Holds n l a) (v : Value) : Holds n l (a.put none v) := h
/-- the slots of one frame stand in another -/
def Sub : Fr → Fr → Prop
  | [], _ => True
  | (t, v) :: r, l => look l t = some v ∧ Sub r l
theorem Sub.look {m l : Fr} (h : Sub m l) : ∀ {t v}, look m t = some v → look l t = some v := by
  induction m with
  | nil => intro t v e; simp [Go.Proofs.Ytchalebenpmnpaa.look] at e
  | cons p r ih =>
    obtain ⟨s, u⟩ := p
    intro t v e
    simp only [Go.Proofs.Ytchalebenpmnpaa.look] at e
    by_cases hs : s = t
    · subst hs
      simp only [Nat.beq_refl, cond_true, Option.some.injEq] at e
      subst e; exact h.1
    · have : Nat.beq s t = false := by rw [Bool.eq_false_iff]; exact fun e => hs (Nat.eq_of_beq_eq_true e)
      rw [this, cond_false] at e
      exact ih h.2 e
theorem Holds.sub (h : Holds n l a) {m : Fr} (hs : Sub m l) : Holds n m a := ⟨h.1, h.2.1, fun _ _ e => h.2.2 _ _ (hs.look e)⟩

/-! ### the judgements: code, a region's list, a region that draws, an exit -/
structure CW (P : Program) (n : Nat) (c : Code) (Q : Exit → Act → World → Prop) (l : Fr) (w : World) : Prop where
  out : ∀ a, Holds n l a → c.wp P Q a w
structure LW (P : Program) (n : Nat) (ops : Array Oper) (Q : Exit → Act → World → Prop) (os : List Oper) (l : Fr) (w : World) : Prop where
  out : ∀ a, Holds n l a → wpList P ops Q os a w
structure AW (P : Program) (n : Nat) (ops : Array Oper) (Q : Exit → Act → World → Prop) (S : World → Prop) (fuel : Nat) (listed : Array Bool) (l : Fr) (w : World) : Prop where
  out : ∀ a, Holds n l a → wpAnyH P .any ops Q S fuel listed a w
structure QW (n : Nat) (Q : Exit → Act → World → Prop) (e : Exit) (l : Fr) (w : World) : Prop where
  out : ∀ a, Holds n l a → Q e a w
theorem cw_seq {x y : Code} (h : CW P n x (Exit.then (y.wp P Q) Q) l w) : CW P n (.seq x y) Q l w := ⟨fun a ha => wp_seq (h.out a ha)⟩
theorem cw_skip (h : QW n Q .normal l w) : CW P n .skip Q l w := ⟨fun a ha => wp_skip (h.out a ha)⟩
theorem cw_label {i : Nat} (h : QW n Q .normal l w) : CW P n (.label i) Q l w := ⟨fun a ha => wp_label (h.out a ha)⟩
theorem cw_exit {i : Nat} (h : QW n Q (.exit i) l w) : CW P n (.exit i) Q l w := ⟨fun a ha => wp_exit (h.out a ha)⟩
theorem cw_ret (h : QW n Q .ret l w) : CW P n .ret Q l w := ⟨fun a ha => wp_ret (h.out a ha)⟩
theorem cw_block {i : Nat} {c : Code} (h : CW P n c (Exit.inBlock i Q) l w) : CW P n (.block i c) Q l w := ⟨fun a ha => wp_block (h.out a ha)⟩
theorem cw_true {c : Operand} {x y : Code} {b : Bool} (hc : ev l c = some (.bool b)) (hb : b = true) (h : CW P n x Q l w) : CW P n (.cond c x y) Q l w := ⟨fun a ha => wp_cond_true ((ha.ev hc).trans (by rw [hb])) (h.out a ha)⟩
theorem cw_false {c : Operand} {x y : Code} {b : Bool} (hc : ev l c = some (.bool b)) (hb : b = false) (h : CW P n y Q l w) : CW P n (.cond c x y) Q l w := ⟨fun a ha => wp_cond_false ((ha.ev hc).trans (by rw [hb])) (h.out a ha)⟩
theorem cw_split {c : Operand} {x y : Code} {b : Bool} (hc : ev l c = some (.bool b)) (h1 : b = true → CW P n x Q l w) (h2 : b = false → CW P n y Q l w) : CW P n (.cond c x y) Q l w := by
  cases b with
  | true => exact cw_true hc rfl (h1 rfl)
  | false => exact cw_false hc rfl (h2 rfl)
theorem cw_region {i : Nat} {ops : List Oper} (h : LW P n ops.toArray Q ops l w) : CW P n (.region i ops.toArray false) Q l w := ⟨fun a ha => wp_region_lit (h.out a ha)⟩
theorem cw_draw {i : Nat} {ops : Array Oper} (S : World → Prop) (hm : P.follows .mixedOrders = true) (h : AW P n ops Q S ops.size (Array.replicate ops.size false) l w.drew) : CW P n (.region i ops true) Q l w := ⟨fun a ha => wp_region_held (S := S) hm (h.out a ha)⟩
/-- a round's end -/
def Round {σ : Type} (n : Nat) (L : σ → Fr) (I : σ → World → Prop) (μ : σ → Nat) (m : Nat) (a' : Act) (w' : World) : Prop := ∃ s', Holds n (L s') a' ∧ I s' w' ∧ μ s' < m
theorem cw_loop {σ : Type} {c : Code} (L : σ → Fr) (I : σ → World → Prop) (μ : σ → Nat) (s0 : σ) (h0 : Sub (L s0) l) (hI : I s0 w)
    (h : ∀ s w, I s w → CW P n c (Exit.then (Round n L I μ (μ s)) Q) (L s) w) : CW P n (.loop c) Q l w := ⟨fun a ha => by
  have key : ∀ m s a w, μ s < m → Holds n (L s) a → I s w → Code.rounds P c Q m a w := by
    intro m
    induction m with
    | zero => intro s a w hm; exact absurd hm (Nat.not_lt_zero _)
    | succ m ih =>
      intro s a w hm ha hI
      refine Code.wp_mono (fun e a' w' q => ?_) ((h s w hI).out a ha)
      cases e with
      | normal =>
        obtain ⟨s', h1, h2, h3⟩ := q
        exact ih s' a' w' (by omega) h1 h2
      | _ => exact q
  exact wp_loop_rounds _ (key (μ s0 + 1) s0 a w (Nat.lt_succ_self _) (ha.sub h0) hI)⟩
/-- where ways meet -/
def Join {σ : Type} (n : Nat) (L : σ → Fr) (I : σ → World → Prop) (a' : Act) (w' : World) : Prop := ∃ s, Holds n (L s) a' ∧ I s w'
theorem cw_cut {σ : Type} {x y : Code} (L : σ → Fr) (I : σ → World → Prop) (h1 : CW P n x (Exit.then (Join n L I) Q) l w) (h2 : ∀ s w, I s w → CW P n y Q (L s) w) : CW P n (.seq x y) Q l w := ⟨fun a ha => wp_seq (Code.wp_mono (fun e a' w' q => by
  cases e with
  | normal => obtain ⟨s, h3, h4⟩ := q; exact (h2 s w' h4).out a' h3
  | _ => exact q) (h1.out a ha))⟩
theorem cw_cutq {σ : Type} {x y : Code} {Q' : Exit → Act → World → Prop} (L : σ → Fr) (I : σ → World → Prop) (h1 : CW P n x (Exit.then (Join n L I) Q') l w) (h2 : ∀ s w, I s w → CW P n y Q (L s) w) : CW P n x (Exit.then (Code.wp P y Q) Q') l w := ⟨fun a ha => Code.wp_mono (fun e a' w' q => by
  cases e with
  | normal => obtain ⟨s, h3, h4⟩ := q; exact (h2 s w' h4).out a' h3
  | _ => exact q) (h1.out a ha)⟩
theorem qw_join {σ : Type} {L : σ → Fr} {I : σ → World → Prop} (s : σ) (h0 : Sub (L s) l) (hI : I s w) : QW n (Exit.then (Join n L I) Q) .normal l w := ⟨fun _ ha => ⟨s, ha.sub h0, hI⟩⟩
theorem qw_then {y : Code} {Q' : Exit → Act → World → Prop} (h : CW P n y Q l w) : QW n (Exit.then (Code.wp P y Q) Q') .normal l w := ⟨h.out⟩
theorem qw_then_exit {K : Act → World → Prop} {i : Nat} (h : QW n Q (.exit i) l w) : QW n (Exit.then K Q) (.exit i) l w := ⟨h.out⟩
theorem qw_then_ret {K : Act → World → Prop} (h : QW n Q .ret l w) : QW n (Exit.then K Q) .ret l w := ⟨h.out⟩
theorem qw_in {i : Nat} (h : QW n Q .normal l w) : QW n (Exit.inBlock i Q) .normal l w := ⟨h.out⟩
theorem qw_in_ret {i : Nat} (h : QW n Q .ret l w) : QW n (Exit.inBlock i Q) .ret l w := ⟨h.out⟩
theorem qw_in_hit {i : Nat} (h : QW n Q .normal l w) : QW n (Exit.inBlock i Q) (.exit i) l w := ⟨fun a ha => by
  show (if i = i then Q .normal a w else Q (.exit i) a w)
  rw [if_pos rfl]; exact h.out a ha⟩
theorem qw_in_miss {i j : Nat} (hij : Nat.beq j i = false) (h : QW n Q (.exit j) l w) : QW n (Exit.inBlock i Q) (.exit j) l w := ⟨fun a ha => by
  show (if j = i then Q .normal a w else Q (.exit j) a w)
  rw [if_neg (fun e => by subst e; simp at hij)]; exact h.out a ha⟩
theorem qw_round {σ : Type} {L : σ → Fr} {I : σ → World → Prop} {μ : σ → Nat} {m : Nat} (s' : σ) (h0 : Sub (L s') l) (hI : I s' w) (hm : μ s' < m) :
    QW n (Exit.then (Round n L I μ m) Q) .normal l w := ⟨fun _ ha => ⟨s', ha.sub h0, hI, hm⟩⟩
end
section
variable {n : Nat} {l : Fr} {P : Program} {w : World} {Q : Exit → Act → World → Prop} {ops : Array Oper} {os : List Oper}
/-! ### an operation that yields a value and leaves the world as it is -/
structure Pv (P : Program) (n : Nat) (l : Fr) (o : Oper) (v : Value) (w : World) : Prop where
  out : ∀ a, Holds n l a → (execOp a.eval o).run P w = .ok (.value v) w
/-- .. or another world -/
structure Ev (P : Program) (n : Nat) (l : Fr) (o : Oper) (v : Value) (w w' : World) : Prop where
  out : ∀ a, Holds n l a → (execOp a.eval o).run P w = .ok (.value v) w'
/-- .. no value -/
structure Sv (P : Program) (n : Nat) (l : Fr) (o : Oper) (w w' : World) : Prop where
  out : ∀ a, Holds n l a → (execOp a.eval o).run P w = .ok .skip w'
theorem lw_nil (h : QW n Q .normal l w) : LW P n ops Q [] l w := ⟨fun a ha => wpList_nil (h.out a ha)⟩
theorem lw_pure {d : Nat} {op : Op} {ty : TypeId} {pos : String} {af : Array Edge} {v : Value} (hd : Nat.blt d n = true) (hv : Pv P n l ⟨some d, op, ty, pos, af, none⟩ v w) (h : LW P n ops Q os ((d, v) :: l) w) :
    LW P n ops Q (⟨some d, op, ty, pos, af, none⟩ :: os) l w := ⟨fun a ha => wpList_plain rfl fun K hK => by
  unfold Oper.wp; rw [hv.out a ha]; exact hK _ _ (h.out _ (ha.put hd v))⟩
theorem lw_pure0 {op : Op} {ty : TypeId} {pos : String} {af : Array Edge} {v : Value} (hv : Pv P n l ⟨none, op, ty, pos, af, none⟩ v w) (h : LW P n ops Q os l w) :
    LW P n ops Q (⟨none, op, ty, pos, af, none⟩ :: os) l w := ⟨fun a ha => wpList_plain rfl fun K hK => by
  unfold Oper.wp; rw [hv.out a ha]; exact hK _ _ (h.out _ ha)⟩
theorem lw_eff {d : Nat} {op : Op} {ty : TypeId} {pos : String} {af : Array Edge} {v : Value} {w' : World} (hd : Nat.blt d n = true) (hv : Ev P n l ⟨some d, op, ty, pos, af, none⟩ v w w') (h : LW P n ops Q os ((d, v) :: l) w') :
    LW P n ops Q (⟨some d, op, ty, pos, af, none⟩ :: os) l w := ⟨fun a ha => wpList_plain rfl fun K hK => by
  unfold Oper.wp; rw [hv.out a ha]; exact hK _ _ (h.out _ (ha.put hd v))⟩
theorem lw_skip {op : Op} {ty : TypeId} {pos : String} {af : Array Edge} {w' : World} (hv : Sv P n l ⟨none, op, ty, pos, af, none⟩ w w') (h : LW P n ops Q os l w') :
    LW P n ops Q (⟨none, op, ty, pos, af, none⟩ :: os) l w := ⟨fun a ha => wpList_plain rfl fun K hK => by
  unfold Oper.wp; rw [hv.out a ha]; exact hK _ _ (h.out _ ha)⟩
/-- a step whose run is known but for its value and world -/
theorem lw_some {d : Nat} {op : Op} {ty : TypeId} {pos : String} {af : Array Edge} {Φ : Value → World → Prop} (hd : Nat.blt d n = true) (hv : ∀ a, Holds n l a → ∃ v w', (execOp a.eval ⟨some d, op, ty, pos, af, none⟩).run P w = .ok (.value v) w' ∧ Φ v w') (h : ∀ v w', Φ v w' → LW P n ops Q os ((d, v) :: l) w') :
    LW P n ops Q (⟨some d, op, ty, pos, af, none⟩ :: os) l w := ⟨fun a ha => wpList_plain rfl fun K hK => by
  obtain ⟨v, w', h1, h2⟩ := hv a ha
  unfold Oper.wp; rw [h1]; exact hK _ _ ((h v w' h2).out _ (ha.put hd v))⟩
/-- guarded: it is not wanted -/
theorem lw_not {d : Nat} {op : Op} {ty : TypeId} {pos : String} {af : Array Edge} {g : Nat} {t : Nat} {b c : Bool} (hd : Nat.blt d n = true) (hg : (ops[g]?).bind (·.dst) = some t) (ht : look l t = some (.bool c)) (hc : c = !b) (h : LW P n ops Q os ((d, undef) :: l) w) :
    LW P n ops Q (⟨some d, op, ty, pos, af, some (g, b)⟩ :: os) l w := ⟨fun a ha => wpList_step fun K hK => by
  have hw : Region.wanted ⟨some d, op, ty, pos, af, some (g, b)⟩ (yielded ops a.tmps) = false := by
    simp only [Region.wanted, yielded, hg, Option.bind_some, ha.2.2 t _ ht]
    subst hc; cases b <;> rfl
  rw [if_neg (by rw [hw]; simp)]; exact hK _ _ (h.out _ (ha.put hd _))⟩
theorem lw_not_u {d : Nat} {op : Op} {ty : TypeId} {pos : String} {af : Array Edge} {g : Nat} {t : Nat} {b : Bool} (hd : Nat.blt d n = true) (hg : (ops[g]?).bind (·.dst) = some t) (ht : look l t = some undef) (h : LW P n ops Q os ((d, undef) :: l) w) :
    LW P n ops Q (⟨some d, op, ty, pos, af, some (g, b)⟩ :: os) l w := ⟨fun a ha => wpList_step fun K hK => by
  have hw : Region.wanted ⟨some d, op, ty, pos, af, some (g, b)⟩ (yielded ops a.tmps) = false := by
    simp only [Region.wanted, yielded, hg, Option.bind_some, ha.2.2 t _ ht]; cases b <;> rfl
  rw [if_neg (by rw [hw]; simp)]; exact hK _ _ (h.out _ (ha.put hd _))⟩
/-- guarded: it is wanted, so it is as if it had no guard -/
theorem lw_on {d : Option Nat} {op : Op} {ty : TypeId} {pos : String} {af : Array Edge} {g : Nat} {t : Nat} {b c : Bool} (hg : (ops[g]?).bind (·.dst) = some t) (ht : look l t = some (.bool c)) (hc : c = b) (h : LW P n ops Q (⟨d, op, ty, pos, af, none⟩ :: os) l w) :
    LW P n ops Q (⟨d, op, ty, pos, af, some (g, b)⟩ :: os) l w := ⟨fun a ha => by
  have hw : Region.wanted ⟨d, op, ty, pos, af, some (g, b)⟩ (yielded ops a.tmps) = true := by
    simp only [Region.wanted, yielded, hg, Option.bind_some, ha.2.2 t _ ht]
    subst hc; simp
  have h1 := h.out a ha
  unfold wpList at h1 ⊢
  rw [if_pos hw]
  rw [if_pos (by rfl)] at h1
  exact h1⟩
/-- guarded by a test: both ways -/
theorem lw_gs_t {d : Nat} {op : Op} {ty : TypeId} {pos : String} {af : Array Edge} {g : Nat} {t : Nat} {c : Bool} (hd : Nat.blt d n = true) (hg : (ops[g]?).bind (·.dst) = some t) (ht : look l t = some (.bool c)) (h1 : c = true → LW P n ops Q (⟨some d, op, ty, pos, af, none⟩ :: os) l w) (h2 : c = false → LW P n ops Q os ((d, undef) :: l) w) :
    LW P n ops Q (⟨some d, op, ty, pos, af, some (g, true)⟩ :: os) l w := by
  cases c with
  | true => exact lw_on hg ht rfl (h1 rfl)
  | false => exact lw_not hd hg ht rfl (h2 rfl)
theorem lw_gs_f {d : Nat} {op : Op} {ty : TypeId} {pos : String} {af : Array Edge} {g : Nat} {t : Nat} {c : Bool} (hd : Nat.blt d n = true) (hg : (ops[g]?).bind (·.dst) = some t) (ht : look l t = some (.bool c)) (h1 : c = false → LW P n ops Q (⟨some d, op, ty, pos, af, none⟩ :: os) l w) (h2 : c = true → LW P n ops Q os ((d, undef) :: l) w) :
    LW P n ops Q (⟨some d, op, ty, pos, af, some (g, false)⟩ :: os) l w := by
  cases c with
  | false => exact lw_on hg ht rfl (h1 rfl)
  | true => exact lw_not hd hg ht rfl (h2 rfl)
/-! ### calls -/
def entersB (P : Program) (f : FuncId) : Bool := match P.funcs[f]? with
  | some fn => !(fn.name == "runtime.NumGoroutine") && !fn.body.isNone
  | none => false
theorem run_callFunc {f : FuncId} (h : entersB P f = true) (vs : Array Value) (w : World) : (callFunc f vs).run P w = .ok (.enter f vs) w := by
  unfold entersB at h
  cases hf : P.funcs[f]? with
  | none => rw [hf] at h; cases h
  | some fn =>
    rw [hf] at h
    simp only [Bool.and_eq_true, Bool.not_eq_true', beq_eq_false_iff_ne, ne_eq] at h
    have h2 : ¬ fn.body = none := fun e => by rw [e] at h; simp at h
    simp only [callFunc, Sem.run_bind, run_program, Result.andThen_ok, hf]
    simp [h.1, h2]
theorem run_call {f : FuncId} {first cap : Array Value} {a : Act} {x : Operand} {args : List Operand} {ts : Array TypeId} {d : Option Nat} {ty : TypeId} {pos : String} {af : Array Edge} {g : Option (Nat × Bool)} (he : entersB P f = true) (ha : Holds n l a) (hx : ev l x = some (.func (.func f) first cap)) {vs : List Value} (hvs : evs l args = some vs) :
    (execOp a.eval ⟨d, .call ⟨.value x, args.toArray, ts⟩, ty, pos, af, g⟩).run P w = .ok (.enter f (first ++ vs.toArray ++ cap)) w := by
  simp [execOp, resolve, ha.ev hx, Deferred.ofValue, invoke, ha.evs hvs, run_callFunc he]
theorem run_call0 {f : FuncId} {a : Act} {args : List Operand} {ts : Array TypeId} {d : Option Nat} {ty : TypeId} {pos : String} {af : Array Edge} {g : Option (Nat × Bool)} (he : entersB P f = true) (ha : Holds n l a) {vs : List Value} (hvs : evs l args = some vs) :
    (execOp a.eval ⟨d, .call ⟨.value (.func f), args.toArray, ts⟩, ty, pos, af, g⟩).run P w = .ok (.enter f vs.toArray) w := by
  have := run_call (w := w) (x := .func f) (ts := ts) (d := d) (ty := ty) (pos := pos) (af := af) (g := g) (first := #[]) (cap := #[]) he ha rfl hvs
  simpa using this
/-- a call of a function of the program -/
theorem lw_call {d : Nat} {f : FuncId} {args : List Operand} {ts : Array TypeId} {ty : TypeId} {pos : String} {af : Array Edge} {vs : List Value} {R : Ending → World → Prop} (he : entersB P f = true) (hd : Nat.blt d n = true) (hvs : evs l args = some vs)
    (hc : Calls P f vs.toArray w R) (h : ∀ e w', R e w' → ∃ v, e = .returned v ∧ LW P n ops Q os ((d, v) :: l) w') :
    LW P n ops Q (⟨some d, .call ⟨.value (.func f), args.toArray, ts⟩, ty, pos, af, none⟩ :: os) l w := ⟨fun a ha => wpList_plain rfl fun K hK => by
  unfold Oper.wp; rw [run_call0 he ha hvs]
  refine Calls.mono hc fun e w' hr => ?_
  obtain ⟨v, rfl, hl⟩ := h e w' hr
  exact hK _ _ (hl.out _ (ha.put hd v))⟩
theorem lw_callv {d : Nat} {f : FuncId} {x : Operand} {first cap : Array Value} {args : List Operand} {ts : Array TypeId} {ty : TypeId} {pos : String} {af : Array Edge} {vs : List Value} {R : Ending → World → Prop} (hx : ev l x = some (.func (.func f) first cap)) (he : entersB P f = true) (hd : Nat.blt d n = true) (hvs : evs l args = some vs)
    (hc : Calls P f (first ++ vs.toArray ++ cap) w R) (h : ∀ e w', R e w' → ∃ v, e = .returned v ∧ LW P n ops Q os ((d, v) :: l) w') :
    LW P n ops Q (⟨some d, .call ⟨.value x, args.toArray, ts⟩, ty, pos, af, none⟩ :: os) l w := ⟨fun a ha => wpList_plain rfl fun K hK => by
  unfold Oper.wp; rw [run_call he ha hx hvs]
  refine Calls.mono hc fun e w' hr => ?_
  obtain ⟨v, rfl, hl⟩ := h e w' hr
  exact hK _ _ (hl.out _ (ha.put hd v))⟩
/-! ### a region that draws its order -/
variable {S : World → Prop} {fuel : Nat} {listed : Array Bool}
theorem aw_done (hr : Region.ready .any ops listed = []) (h : QW n Q .normal l w) : AW P n ops Q S fuel listed l w := ⟨fun a ha => wpAnyH_done hr (h.out a ha) fuel⟩
/-- nobody's panic is let out -/
def NoPanic (Q : Exit → Act → World → Prop) : Prop := ∀ c d v a w, Q (.panic c) (Act.put a d v) w → Q (.panic c) a w
theorem NoPanic.then {K : Act → World → Prop} (h : NoPanic Q) : NoPanic (Exit.then K Q) := h
theorem NoPanic.inBlock {i : Nat} (h : NoPanic Q) : NoPanic (Exit.inBlock i Q) := h
theorem NoPanic.body {fn : Func} {R : Ending → World → Prop} : NoPanic (bodyPost P fn R) := fun c d v a w h => by
  cases d <;> exact h
theorem cw_drawn {i : Nat} {ops : Array Oper} (S : World → Prop) (hm : P.follows .mixedOrders = true) (hQ : NoPanic Q) (h : NoPanic Q → AW P n ops Q S ops.size (Array.replicate ops.size false) l w.drew) : CW P n (.region i ops true) Q l w := cw_draw S hm (h hQ)
theorem aw_take (i : Nat) {d : Nat} {op : Op} {ty : TypeId} {pos : String} {af : Array Edge} {v : Value} (ho : ops[i]? = some ⟨some d, op, ty, pos, af, none⟩)
    (hs : Region.noSelect ops = true) (hf : Region.free .any ops listed i = true) (hr : (Region.ready .any ops listed).contains i = true) (hQ : NoPanic Q) (hS : S w) (hd : Nat.blt d n = true)
    (hv : ∀ w, S w → Pv P n l ⟨some d, op, ty, pos, af, none⟩ v w) (h : AW P n ops Q S fuel (listed.setIfInBounds i true) ((d, v) :: l) w) : AW P n ops Q S (fuel + 1) listed l w := ⟨fun a ha =>
  wpAnyH_take ho hs hf hr (fun c a w => hQ c _ v a w) (Or.inl ⟨rfl, fun w hw => (hv w hw).out a ha⟩) hS (h.out _ (ha.put hd v))⟩
theorem aw_take_on (i : Nat) {d : Nat} {op : Op} {ty : TypeId} {pos : String} {af : Array Edge} {v : Value} {g t : Nat} {b c : Bool} (ho : ops[i]? = some ⟨some d, op, ty, pos, af, some (g, b)⟩) (hg : (ops[g]?).bind (·.dst) = some t) (ht : look l t = some (.bool c)) (hc : c = b)
    (hs : Region.noSelect ops = true) (hf : Region.free .any ops listed i = true) (hr : (Region.ready .any ops listed).contains i = true) (hQ : NoPanic Q) (hS : S w) (hd : Nat.blt d n = true)
    (hv : ∀ w, S w → Pv P n l ⟨some d, op, ty, pos, af, some (g, b)⟩ v w) (h : AW P n ops Q S fuel (listed.setIfInBounds i true) ((d, v) :: l) w) : AW P n ops Q S (fuel + 1) listed l w := ⟨fun a ha =>
  wpAnyH_take ho hs hf hr (fun c a w => hQ c _ v a w) (Or.inl ⟨by simp only [Region.wanted, yielded, hg, Option.bind_some, ha.2.2 t _ ht]; subst hc; simp, fun w hw => (hv w hw).out a ha⟩) hS (h.out _ (ha.put hd v))⟩
theorem aw_not (i : Nat) {d : Nat} {op : Op} {ty : TypeId} {pos : String} {af : Array Edge} {g t : Nat} {b c : Bool} (ho : ops[i]? = some ⟨some d, op, ty, pos, af, some (g, b)⟩) (hg : (ops[g]?).bind (·.dst) = some t) (ht : look l t = some (.bool c)) (hc : c = !b)
    (hs : Region.noSelect ops = true) (hf : Region.free .any ops listed i = true) (hr : (Region.ready .any ops listed).contains i = true) (hQ : NoPanic Q) (hS : S w) (hd : Nat.blt d n = true)
    (h : AW P n ops Q S fuel (listed.setIfInBounds i true) ((d, undef) :: l) w) : AW P n ops Q S (fuel + 1) listed l w := ⟨fun a ha =>
  wpAnyH_take ho hs hf hr (fun c a w => hQ c _ _ a w) (Or.inr ⟨by simp only [Region.wanted, yielded, hg, Option.bind_some, ha.2.2 t _ ht]; subst hc; cases b <;> rfl, rfl⟩) hS (h.out _ (ha.put hd _))⟩
theorem aw_not_u (i : Nat) {d : Nat} {op : Op} {ty : TypeId} {pos : String} {af : Array Edge} {g t : Nat} {b : Bool} (ho : ops[i]? = some ⟨some d, op, ty, pos, af, some (g, b)⟩) (hg : (ops[g]?).bind (·.dst) = some t) (ht : look l t = some undef)
    (hs : Region.noSelect ops = true) (hf : Region.free .any ops listed i = true) (hr : (Region.ready .any ops listed).contains i = true) (hQ : NoPanic Q) (hS : S w) (hd : Nat.blt d n = true)
    (h : AW P n ops Q S fuel (listed.setIfInBounds i true) ((d, undef) :: l) w) : AW P n ops Q S (fuel + 1) listed l w := ⟨fun a ha =>
  wpAnyH_take ho hs hf hr (fun c a w => hQ c _ _ a w) (Or.inr ⟨by simp only [Region.wanted, yielded, hg, Option.bind_some, ha.2.2 t _ ht]; cases b <;> rfl, rfl⟩) hS (h.out _ (ha.put hd _))⟩
/-- one alone may come up -/
def guardOn (ops : Array Oper) (l : Fr) : Option (Nat × Bool) → Bool
  | none => true
  | some (g, b) => match (ops[g]?).bind (·.dst) with
    | some t => match look l t with
      | some (.bool c) => c == b
      | _ => false
    | none => false
theorem wanted_of {a : Act} (ha : Holds n l a) {o : Oper} (h : guardOn ops l o.guard = true) : Region.wanted o (yielded ops a.tmps) = true := by
  unfold Region.wanted
  cases hg : o.guard with
  | none => rfl
  | some p =>
    obtain ⟨g, b⟩ := p
    rw [hg] at h
    simp only [guardOn] at h
    cases hd : (ops[g]?).bind (·.dst) with
    | none => rw [hd] at h; cases h
    | some t =>
      rw [hd] at h
      dsimp only at h
      cases hl : look l t with
      | none => rw [hl] at h; cases h
      | some v =>
        rw [hl] at h
        cases v <;> try (cases h; done)
        simp only [yielded, hd, Option.bind_some, ha.2.2 t _ hl]
        simpa using h
/-- what one that acts comes to: its value and world, behind S -/
structure Act1 (P : Program) (n : Nat) (l : Fr) (o : Oper) (w : World) (Z : Value → World → Prop) : Prop where
  out : ∀ a, Holds n l a → ∀ (K : Act → World → Prop) Q, (∀ v w', Z v w' → K (a.put o.dst v) w') → Oper.wp P o a w K Q
theorem act_call {d : Option Nat} {f : FuncId} {args : List Operand} {ts : Array TypeId} {ty : TypeId} {pos : String} {af : Array Edge} {g : Option (Nat × Bool)} {vs : List Value} {R : Ending → World → Prop} {Z : Value → World → Prop} (he : entersB P f = true) (hvs : evs l args = some vs)
    (hc : Calls P f vs.toArray w R) (h : ∀ e w', R e w' → ∃ v, e = .returned v ∧ Z v w') : Act1 P n l ⟨d, .call ⟨.value (.func f), args.toArray, ts⟩, ty, pos, af, g⟩ w Z := ⟨fun a ha K Q hK => by
  unfold Oper.wp; rw [run_call0 he ha hvs]
  refine Calls.mono hc fun e w' hr => ?_
  obtain ⟨v, rfl, hl⟩ := h e w' hr
  exact hK v w' hl⟩
theorem act_ev {d : Option Nat} {op : Op} {ty : TypeId} {pos : String} {af : Array Edge} {g : Option (Nat × Bool)} {v : Value} {w' : World} {Z : Value → World → Prop} (hv : Ev P n l ⟨d, op, ty, pos, af, g⟩ v w w') (h : Z v w') : Act1 P n l ⟨d, op, ty, pos, af, g⟩ w Z := ⟨fun a ha K Q hK => by
  unfold Oper.wp; rw [hv.out a ha]; exact hK _ _ h⟩
theorem act_some {d : Option Nat} {op : Op} {ty : TypeId} {pos : String} {af : Array Edge} {g : Option (Nat × Bool)} {Z Φ : Value → World → Prop} (hv : ∀ a, Holds n l a → ∃ v w', (execOp a.eval ⟨d, op, ty, pos, af, g⟩).run P w = .ok (.value v) w' ∧ Φ v w') (h : ∀ v w', Φ v w' → Z v w') : Act1 P n l ⟨d, op, ty, pos, af, g⟩ w Z := ⟨fun a ha K Q hK => by
  obtain ⟨v, w', h1, h2⟩ := hv a ha
  unfold Oper.wp; rw [h1]; exact hK _ _ (h v w' h2)⟩
theorem act_sv {d : Option Nat} {op : Op} {ty : TypeId} {pos : String} {af : Array Edge} {g : Option (Nat × Bool)} {w' : World} {Z : Value → World → Prop} (hv : Sv P n l ⟨d, op, ty, pos, af, g⟩ w w') (h : Z undef w') : Act1 P n l ⟨d, op, ty, pos, af, g⟩ w Z := ⟨fun a ha K Q hK => by
  unfold Oper.wp; rw [hv.out a ha]; exact hK _ _ h⟩
def putD (d : Option Nat) (v : Value) (l : Fr) : Fr := match d with | some t => (t, v) :: l | none => l
def inD (d : Option Nat) (n : Nat) : Bool := match d with | some t => Nat.blt t n | none => true
theorem Holds.putD {a : Act} (h : Holds n l a) {d : Option Nat} (hd : inD d n = true) (v : Value) : Holds n (putD d v l) (a.put d v) := by
  cases d with
  | none => exact h
  | some t => exact h.put hd v
theorem aw_act (i : Nat) {o : Oper} (hr : Region.ready .any ops listed = [i]) (ho : ops[i]? = some o) (hg : guardOn ops l o.guard = true) (hd : inD o.dst n = true)
    (h : Act1 P n l o w fun v w' => S w' ∧ (S w' → AW P n ops Q S fuel (listed.setIfInBounds i true) (putD o.dst v l) w')) : AW P n ops Q S (fuel + 1) listed l w := ⟨fun a ha => by
  refine wpAnyH_all hr (by simp) fun j hj => ?_
  rw [List.mem_singleton] at hj; subst hj
  unfold wpOp; rw [ho]
  dsimp only
  rw [if_pos (wanted_of ha hg)]
  exact Or.inl (h.out a ha _ _ fun v w' hZ => ⟨hZ.1, (hZ.2 hZ.1).out _ (ha.putD hd v)⟩)⟩
/-- two may come up -/
theorem aw_act2 (i j : Nat) {o p : Oper} (hr : Region.ready .any ops listed = [i, j]) (ho : ops[i]? = some o) (hp : ops[j]? = some p) (hg : guardOn ops l o.guard = true) (hg2 : guardOn ops l p.guard = true) (hd : inD o.dst n = true) (hd2 : inD p.dst n = true)
    (h : Act1 P n l o w fun v w' => S w' ∧ (S w' → AW P n ops Q S fuel (listed.setIfInBounds i true) (putD o.dst v l) w'))
    (h2 : Act1 P n l p w fun v w' => S w' ∧ (S w' → AW P n ops Q S fuel (listed.setIfInBounds j true) (putD p.dst v l) w')) : AW P n ops Q S (fuel + 1) listed l w := ⟨fun a ha => by
  refine wpAnyH_all hr (by simp) fun k hk => ?_
  rcases List.mem_cons.1 hk with hk | hk
  · subst hk
    unfold wpOp; rw [ho]
    dsimp only
    rw [if_pos (wanted_of ha hg)]
    exact Or.inl (h.out a ha _ _ fun v w' hZ => ⟨hZ.1, (hZ.2 hZ.1).out _ (ha.putD hd v)⟩)
  · rw [List.mem_singleton] at hk; subst hk
    unfold wpOp; rw [hp]
    dsimp only
    rw [if_pos (wanted_of ha hg2)]
    exact Or.inl (h2.out a ha _ _ fun v w' hZ => ⟨hZ.1, (hZ.2 hZ.1).out _ (ha.putD hd2 v)⟩)⟩
end
/-! ### guards: of which kind the next step is -/
section
variable {P : Program} {n : Nat} {l : Fr} {w : World} {Q : Exit → Act → World → Prop} {ops : Array Oper} {os : List Oper} {d : Option Nat} {ty : TypeId} {pos : String} {af : Array Edge} {g : Option (Nat × Bool)}
theorem is_cw {c : Code} (h : CW P n c Q l w) : CW P n c Q l w := h
theorem is_cd {c : Operand} {x y : Code} (h : CW P n (.cond c x y) Q l w) : CW P n (.cond c x y) Q l w := h
theorem is_qw {e : Exit} (h : QW n Q e l w) : QW n Q e l w := h
theorem is_guarded {op : Op} {p : Nat × Bool} (h : LW P n ops Q (⟨d, op, ty, pos, af, some p⟩ :: os) l w) : LW P n ops Q (⟨d, op, ty, pos, af, some p⟩ :: os) l w := h
theorem is_bin {o : BinOp} {t t' : TypeId} {x y : Operand} (h : LW P n ops Q (⟨d, .binOp o t x y t', ty, pos, af, none⟩ :: os) l w) : LW P n ops Q (⟨d, .binOp o t x y t', ty, pos, af, none⟩ :: os) l w := h
theorem is_load {t : TypeId} {x : Operand} (h : LW P n ops Q (⟨d, .load t x, ty, pos, af, none⟩ :: os) l w) : LW P n ops Q (⟨d, .load t x, ty, pos, af, none⟩ :: os) l w := h
theorem is_ia {t : TypeId} {x y : Operand} (h : LW P n ops Q (⟨d, .indexAddr t x y, ty, pos, af, none⟩ :: os) l w) : LW P n ops Q (⟨d, .indexAddr t x y, ty, pos, af, none⟩ :: os) l w := h
theorem is_fa {t f : Nat} {x : Operand} (h : LW P n ops Q (⟨d, .fieldAddr t x f, ty, pos, af, none⟩ :: os) l w) : LW P n ops Q (⟨d, .fieldAddr t x f, ty, pos, af, none⟩ :: os) l w := h
theorem is_fd {t f : Nat} {x : Operand} (h : LW P n ops Q (⟨d, .field t x f, ty, pos, af, none⟩ :: os) l w) : LW P n ops Q (⟨d, .field t x f, ty, pos, af, none⟩ :: os) l w := h
theorem is_bi {b : Builtin} {xs : Array Operand} {ts : Array TypeId} (h : LW P n ops Q (⟨d, .call ⟨.builtin b, xs, ts⟩, ty, pos, af, none⟩ :: os) l w) : LW P n ops Q (⟨d, .call ⟨.builtin b, xs, ts⟩, ty, pos, af, none⟩ :: os) l w := h
theorem is_pk {x y z : Operand} (h : LW P n ops Q (⟨d, .pick x y z, ty, pos, af, none⟩ :: os) l w) : LW P n ops Q (⟨d, .pick x y z, ty, pos, af, none⟩ :: os) l w := h
theorem is_sl {t : TypeId} {x : Operand} {y z u : Option Operand} (h : LW P n ops Q (⟨d, .slice t x y z u, ty, pos, af, none⟩ :: os) l w) : LW P n ops Q (⟨d, .slice t x y z u, ty, pos, af, none⟩ :: os) l w := h
theorem is_cv {t t' : TypeId} {x : Operand} (h : LW P n ops Q (⟨d, .convert t t' x, ty, pos, af, none⟩ :: os) l w) : LW P n ops Q (⟨d, .convert t t' x, ty, pos, af, none⟩ :: os) l w := h
theorem is_bd {t : TypeId} {ps : Array (Nat × Operand)} (h : LW P n ops Q (⟨d, .build t ps, ty, pos, af, none⟩ :: os) l w) : LW P n ops Q (⟨d, .build t ps, ty, pos, af, none⟩ :: os) l w := h
theorem is_un {o : UnOp} {t : TypeId} {x : Operand} (h : LW P n ops Q (⟨d, .unOp o t x, ty, pos, af, none⟩ :: os) l w) : LW P n ops Q (⟨d, .unOp o t x, ty, pos, af, none⟩ :: os) l w := h
end
end Go.Proofs.Ytchalebenpmnpaa
