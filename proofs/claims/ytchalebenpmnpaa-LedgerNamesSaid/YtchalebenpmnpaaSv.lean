/-
  What an operation yields over a frame that is known by a list: numbers, tests, loads, addresses, slices, structs, closures, new blocks, stores. Conditions: what each law names.
-/
import Derived.Test.YtchalebenpmnpaaSx
import Derived.Test.YtchalebenpmnpaaMa
import Derived.Laws.Tables
import Derived.Great.BuildSlice
namespace Go.Proofs.Ytchalebenpmnpaa
open Go.RowKit

/-! ### small tables -/
def lk1 : List (Nat × Nat) → Nat → Option Nat
  | [], _ => none
  | (a, b) :: r, s => bif Nat.beq a s then some b else lk1 r s
def lk2 : List (Nat × Nat × Nat) → Nat → Nat → Option Nat
  | [], _, _ => none
  | (a, b, c) :: r, s, f => bif Nat.beq a s && Nat.beq b f then some c else lk2 r s f
def lk3 : List (Nat × Nat × Nat × Nat) → Nat → Nat → Option (Nat × Nat)
  | [], _, _ => none
  | (a, b, c) :: r, s, f => bif Nat.beq a s && Nat.beq b f then some c else lk3 r s f
def lkk : List (Nat × IntKind) → Nat → Option IntKind
  | [], _ => none
  | (a, b) :: r, s => bif Nat.beq a s then some b else lkk r s
def lkm : List Nat → Nat → Bool
  | [], _ => false
  | a :: r, s => Nat.beq a s || lkm r s
theorem lk1_all {p : Nat → Nat → Bool} : ∀ {tab : List (Nat × Nat)}, tab.all (fun e => p e.1 e.2) = true → ∀ {s o : Nat}, lk1 tab s = some o → p s o = true
  | [], _, _, _, e => by cases e
  | (a, b) :: r, h, s, o, e => by
    simp only [List.all_cons, Bool.and_eq_true] at h
    simp only [lk1] at e
    cases hq : Nat.beq a s with
    | true => rw [hq, cond_true] at e; injection e with e; rw [Nat.eq_of_beq_eq_true hq, e] at h; exact h.1
    | false => rw [hq, cond_false] at e; exact lk1_all h.2 e
theorem lk2_all {p : Nat → Nat → Nat → Bool} : ∀ {tab : List (Nat × Nat × Nat)}, tab.all (fun e => p e.1 e.2.1 e.2.2) = true → ∀ {s f o : Nat}, lk2 tab s f = some o → p s f o = true
  | [], _, _, _, _, e => by cases e
  | (a, b, c) :: r, h, s, f, o, e => by
    simp only [List.all_cons, Bool.and_eq_true] at h
    simp only [lk2] at e
    cases hq : Nat.beq a s && Nat.beq b f with
    | true =>
      rw [hq, cond_true] at e; injection e with e
      rw [Bool.and_eq_true] at hq
      rw [Nat.eq_of_beq_eq_true hq.1, Nat.eq_of_beq_eq_true hq.2, e] at h; exact h.1
    | false => rw [hq, cond_false] at e; exact lk2_all h.2 e
theorem lk3_all {p : Nat → Nat → Nat → Nat → Bool} : ∀ {tab : List (Nat × Nat × Nat × Nat)}, tab.all (fun e => p e.1 e.2.1 e.2.2.1 e.2.2.2) = true → ∀ {s f o m : Nat}, lk3 tab s f = some (o, m) → p s f o m = true
  | [], _, _, _, _, _, e => by cases e
  | (a, b, c) :: r, h, s, f, o, m, e => by
    simp only [List.all_cons, Bool.and_eq_true] at h
    simp only [lk3] at e
    cases hq : Nat.beq a s && Nat.beq b f with
    | true =>
      rw [hq, cond_true] at e; injection e with e
      rw [Bool.and_eq_true] at hq
      subst e
      rw [Nat.eq_of_beq_eq_true hq.1, Nat.eq_of_beq_eq_true hq.2] at h; exact h.1
    | false => rw [hq, cond_false] at e; exact lk3_all h.2 e
theorem lkk_all {p : Nat → IntKind → Bool} : ∀ {tab : List (Nat × IntKind)}, tab.all (fun e => p e.1 e.2) = true → ∀ {s : Nat} {o : IntKind}, lkk tab s = some o → p s o = true
  | [], _, _, _, e => by cases e
  | (a, b) :: r, h, s, o, e => by
    simp only [List.all_cons, Bool.and_eq_true] at h
    simp only [lkk] at e
    cases hq : Nat.beq a s with
    | true => rw [hq, cond_true] at e; injection e with e; rw [Nat.eq_of_beq_eq_true hq, e] at h; exact h.1
    | false => rw [hq, cond_false] at e; exact lkk_all h.2 e
theorem lkm_all {p : Nat → Bool} : ∀ {tab : List Nat}, tab.all p = true → ∀ {s : Nat}, lkm tab s = true → p s = true
  | [], _, _, e => by cases e
  | a :: r, h, s, e => by
    simp only [List.all_cons, Bool.and_eq_true] at h
    simp only [lkm, Bool.or_eq_true] at e
    rcases e with e | e
    · rw [← Nat.eq_of_beq_eq_true e]; exact h.1
    · exact lkm_all h.2 e
def oneB (P : Program) (t : TypeId) : Bool := match P.underlying t with
  | some (.struct _) | some (.array _ _) | none => false
  | some _ => true
def aggB (P : Program) (t : TypeId) (k : Nat) : Bool := match P.underlying t, P.info? t with
  | some (.struct _), some i | some (.array _ _), some i => i.size == k
  | _, _ => false
def sizeB (P : Program) (t : TypeId) (k : Nat) : Bool := match P.info? t with
  | some i => i.size == k
  | none => false
def slB (P : Program) (t : TypeId) (k : Nat) : Bool := match P.underlying t with
  | some (.slice e) => sizeB P e k
  | _ => false
def faB (P : Program) (s f off : Nat) : Bool := match P.underlying s with
  | some (.struct fs) => match fs[f]? with
    | some x => x.offset == off && (match P.info? x.type with | some i => !(i.size == 0) | none => false)
    | none => false
  | _ => false
/-- field f of a struct type: one cell at 'off' -/
def fdB (P : Program) (s f off : Nat) : Bool := match P.underlying s with
  | some (.struct fs) => match fs[f]? with
    | some x => x.offset == off && oneB P x.type
    | none => false
  | _ => false
/-- .. or an aggregate of k cells -/
def fgB (P : Program) (s f off k : Nat) : Bool := match P.underlying s with
  | some (.struct fs) => match fs[f]? with
    | some x => x.offset == off && aggB P x.type k
    | none => false
  | _ => false
def cvB (P : Program) (s d : Nat) (k : IntKind) : Bool := match P.underlying s, P.underlying d with
  | some _, some (.int k') => k' == k
  | _, _ => false
def isKB (P : Program) (t : Nat) (k : IntKind) : Bool := match P.underlying t with
  | some (.int k') => k' == k
  | _ => false
def isT (P : Program) (t : Nat) (d : TypeDesc → Bool) : Bool := match P.underlying t with
  | some x => d x
  | none => false
section
variable {P : Program} {w : World}
theorem sizeB_run {t k : Nat} (h : sizeB P t k = true) (w : World) : (sizeOf t).run P w = .ok k w := by
  unfold sizeB at h
  cases hi : P.info? t with
  | none => rw [hi] at h; cases h
  | some i => rw [hi] at h; simp only [beq_iff_eq] at h; simp [sizeOf, typeInfo, hi, h]
theorem oneB_run {t : Nat} (h : oneB P t = true) (w : World) : (isAgg t).run P w = .ok false w := by
  unfold oneB at h
  cases hu : P.underlying t with
  | none => rw [hu] at h; cases h
  | some d =>
    rw [hu] at h
    cases d <;> first | (cases h; done) | (simp [isAgg, run_underlying hu])
theorem aggB_run {t k : Nat} (h : aggB P t k = true) (w : World) : (isAgg t).run P w = .ok true w ∧ (sizeOf t).run P w = .ok k w := by
  unfold aggB at h
  cases hu : P.underlying t with
  | none => rw [hu] at h; cases h
  | some d =>
    cases hi : P.info? t with
    | none => rw [hu, hi] at h; cases d <;> cases h
    | some i =>
      rw [hu, hi] at h
      cases d <;> first | (cases h; done) | (simp only [beq_iff_eq] at h; simp [isAgg, run_underlying hu, sizeOf, typeInfo, hi, h])
theorem slB_of {t k : Nat} (h : slB P t k = true) : ∃ e, P.underlying t = some (.slice e) ∧ sizeB P e k = true := by
  unfold slB at h
  cases hu : P.underlying t with
  | none => rw [hu] at h; cases h
  | some d =>
    rw [hu] at h
    cases d <;> first | (cases h; done) | exact ⟨_, rfl, h⟩
theorem faB_of {s f off : Nat} (h : faB P s f off = true) : ∃ fs x k, P.underlying s = some (.struct fs) ∧ fs[f]? = some x ∧ x.offset = off ∧ sizeB P x.type k = true ∧ k ≠ 0 := by
  unfold faB at h
  cases hu : P.underlying s with
  | none => rw [hu] at h; cases h
  | some d =>
    rw [hu] at h
    cases d <;> try (cases h; done)
    rename_i fs
    dsimp only at h
    cases hf : fs[f]? with
    | none => rw [hf] at h; cases h
    | some x =>
      rw [hf] at h
      simp only [Bool.and_eq_true, beq_iff_eq] at h
      cases hi : P.info? x.type with
      | none => rw [hi] at h; cases h.2
      | some i => rw [hi] at h; exact ⟨fs, x, i.size, rfl, hf, h.1, by simp [sizeB, hi], by simpa using h.2⟩
theorem fdB_of {s f off : Nat} (h : fdB P s f off = true) : ∃ fs x, P.underlying s = some (.struct fs) ∧ fs[f]? = some x ∧ x.offset = off ∧ oneB P x.type = true := by
  unfold fdB at h
  cases hu : P.underlying s with
  | none => rw [hu] at h; cases h
  | some d =>
    rw [hu] at h
    cases d <;> try (cases h; done)
    rename_i fs
    dsimp only at h
    cases hf : fs[f]? with
    | none => rw [hf] at h; cases h
    | some x =>
      rw [hf] at h
      simp only [Bool.and_eq_true, beq_iff_eq] at h
      exact ⟨fs, x, rfl, hf, h.1, h.2⟩
theorem fgB_of {s f off k : Nat} (h : fgB P s f off k = true) : ∃ fs x, P.underlying s = some (.struct fs) ∧ fs[f]? = some x ∧ x.offset = off ∧ aggB P x.type k = true := by
  unfold fgB at h
  cases hu : P.underlying s with
  | none => rw [hu] at h; cases h
  | some d =>
    rw [hu] at h
    cases d <;> try (cases h; done)
    rename_i fs
    dsimp only at h
    cases hf : fs[f]? with
    | none => rw [hf] at h; cases h
    | some x =>
      rw [hf] at h
      simp only [Bool.and_eq_true, beq_iff_eq] at h
      exact ⟨fs, x, rfl, hf, h.1, h.2⟩
theorem cvB_of {s d : Nat} {k : IntKind} (h : cvB P s d k = true) : (∃ x, P.underlying s = some x) ∧ P.underlying d = some (.int k) := by
  unfold cvB at h
  cases hs : P.underlying s with
  | none => rw [hs] at h; cases h
  | some x =>
    cases hd : P.underlying d with
    | none => rw [hs, hd] at h; cases h
    | some y =>
      rw [hs, hd] at h
      cases y <;> try (cases h; done)
      exact ⟨⟨x, rfl⟩, by rw [beq_iff_eq] at h; rw [h]⟩
theorem cvB_mk {s d : Nat} {k k' : IntKind} (h : isKB P s k' = true) (h2 : isKB P d k = true) : cvB P s d k = true := by
  unfold isKB at h h2
  unfold cvB
  cases hs : P.underlying s with
  | none => rw [hs] at h; cases h
  | some x =>
    cases hd : P.underlying d with
    | none => rw [hd] at h2; cases h2
    | some y =>
      rw [hd] at h2
      cases y <;> first | (cases h2; done) | exact h2
theorem isT_of {t : Nat} {d : TypeDesc → Bool} (h : isT P t d = true) : ∃ x, P.underlying t = some x ∧ d x = true := by
  unfold isT at h
  cases hu : P.underlying t with
  | none => rw [hu] at h; cases h
  | some x => rw [hu] at h; exact ⟨x, rfl, h⟩
end
/-- a struct's cells, filled part by part -/
def fillL (pl : List (Nat × Nat)) : List Value → List (Nat × Value) → Option (List Value)
  | cs, [] => some cs
  | cs, (i, v) :: r => match pl[i]? with
    | some (off, size) => if v.cells.size = size ∧ off + size ≤ cs.length then fillL pl (cs.take off ++ v.cells.toList ++ cs.drop (off + size)) r else none
    | none => none
theorem fillL_eq (pl : List (Nat × Nat)) : ∀ (ps : List (Nat × Value)) (cs : List Value), Instr.fill (fun i => pl[i]?) cs.toArray ps = (fillL pl cs ps).map List.toArray
  | [], cs => by simp [Instr.fill, fillL]
  | (i, v) :: r, cs => by
    simp only [Instr.fill, fillL]
    cases hp : pl[i]? with
    | none => rfl
    | some p =>
      obtain ⟨off, size⟩ := p
      dsimp only
      by_cases hc : v.cells.size = size ∧ off + size ≤ cs.length
      · obtain ⟨hc1, hc2⟩ := hc
        rw [if_neg (by simp [hc1]; omega), if_pos ⟨hc1, hc2⟩, ← fillL_eq pl r]
        congr 1
        obtain ⟨h1, h2⟩ := Great.foldl_set off v.cells.toList 0 cs.toArray
        refine Array.ext_getElem? fun k => ?_
        have h3 := h2 k
        rw [← Array.foldl_toList, Array.toList_zipIdx, h3]
        have hlen : v.cells.toList.length = size := by simpa using hc1
        simp only [Nat.add_zero, hlen, List.getElem?_toArray, List.size_toArray]
        by_cases hk1 : k < off
        · rw [if_neg (by omega), List.append_assoc, List.getElem?_append_left (by rw [List.length_take]; omega), List.getElem?_take, if_pos hk1]
        · have hto : (cs.take off).length = off := by rw [List.length_take]; omega
          rw [List.append_assoc, List.getElem?_append_right (by omega), hto]
          by_cases hk2 : k < off + size
          · rw [if_pos ⟨by omega, hk2, by omega⟩, List.getElem?_append_left (by omega)]
          · rw [if_neg (by omega), List.getElem?_append_right (by omega), hlen, List.getElem?_drop]
            congr 1; omega
      · rw [if_pos (by
          simp only [List.size_toArray, Bool.or_eq_true, decide_eq_true_eq, ne_eq]
          by_cases h1 : v.cells.size = size
          · right; have : ¬ off + size ≤ cs.length := fun h => hc ⟨h1, h⟩
            omega
          · left; exact h1), if_neg hc]
        rfl
section
variable {P : Program} {n : Nat} {l : Fr} {w : World} {d : Option Nat} {ty : TypeId} {pos : String} {af : Array Edge} {g : Option (Nat × Bool)} {x y z : Operand} {v : Value} {t t' : TypeId} {k : IntKind} {a b : Int}
theorem pv_move (hx : ev l x = some v) : Pv P n l ⟨d, .move x, ty, pos, af, g⟩ v w := ⟨fun A hA => by simp [execOp, hA.ev hx]⟩
theorem pv_assign (hx : ev l x = some v) : Pv P n l ⟨d, .assign x, ty, pos, af, g⟩ v w := ⟨fun A hA => by simp [execOp, hA.ev hx]⟩
theorem pv_pick {c : Bool} {u : Value} (hx : ev l x = some (.bool c)) (hy : ev l y = some v) (hz : ev l z = some u) : Pv P n l ⟨d, .pick x y z, ty, pos, af, g⟩ (if c then v else u) w := ⟨fun A hA => by
  cases c <;> simp [execOp, hA.ev hx, hA.ev hy, hA.ev hz, asBool]⟩
theorem pv_pick_t {c : Bool} (hx : ev l x = some (.bool c)) (hc : c = true) (hy : ev l y = some v) : Pv P n l ⟨d, .pick x y z, ty, pos, af, g⟩ v w := ⟨fun A hA => by
  subst hc; simp [execOp, hA.ev hx, hA.ev hy, asBool]⟩
theorem pv_pick_f {c : Bool} (hx : ev l x = some (.bool c)) (hc : c = false) (hz : ev l z = some v) : Pv P n l ⟨d, .pick x y z, ty, pos, af, g⟩ v w := ⟨fun A hA => by
  subst hc; simp [execOp, hA.ev hx, hA.ev hz, asBool]⟩
theorem pv_shr {k' : IntKind} (hx : ev l x = some (.int k a)) (hy : ev l y = some (.int k' b)) (hb : 0 ≤ b) : Pv P n l ⟨d, .binOp .shr t x y t', ty, pos, af, g⟩ (.int k (a.fdiv (2 ^ (min b.toNat k.bits)))) w := ⟨fun A hA => by
  simp [execOp, hA.ev hx, hA.ev hy, eqGuard, binOp, Op.shift, Int.not_lt.2 hb]⟩
theorem pv_lss (hx : ev l x = some (.int k a)) (hy : ev l y = some (.int k b)) : Pv P n l ⟨d, .binOp .lss t x y t', ty, pos, af, g⟩ (.bool (decide (a < b))) w := ⟨fun A hA => by simp [execOp, hA.ev hx, hA.ev hy, eqGuard, binOp, Op.intCmp]⟩
theorem pv_leq (hx : ev l x = some (.int k a)) (hy : ev l y = some (.int k b)) : Pv P n l ⟨d, .binOp .leq t x y t', ty, pos, af, g⟩ (.bool (decide (a ≤ b))) w := ⟨fun A hA => by simp [execOp, hA.ev hx, hA.ev hy, eqGuard, binOp, Op.intCmp]⟩
theorem pv_gtr (hx : ev l x = some (.int k a)) (hy : ev l y = some (.int k b)) : Pv P n l ⟨d, .binOp .gtr t x y t', ty, pos, af, g⟩ (.bool (decide (b < a))) w := ⟨fun A hA => by simp [execOp, hA.ev hx, hA.ev hy, eqGuard, binOp, Op.intCmp]⟩
theorem pv_geq (hx : ev l x = some (.int k a)) (hy : ev l y = some (.int k b)) : Pv P n l ⟨d, .binOp .geq t x y t', ty, pos, af, g⟩ (.bool (decide (b ≤ a))) w := ⟨fun A hA => by simp [execOp, hA.ev hx, hA.ev hy, eqGuard, binOp, Op.intCmp]⟩
theorem pv_eql (hx : ev l x = some (.int k a)) (hy : ev l y = some (.int k b)) : Pv P n l ⟨d, .binOp .eql t x y t', ty, pos, af, g⟩ (.bool (decide (a = b))) w := ⟨fun A hA => by
  simp [execOp, hA.ev hx, hA.ev hy, eqGuard, binOp, Op.intCmp]; rfl⟩
theorem pv_neq (hx : ev l x = some (.int k a)) (hy : ev l y = some (.int k b)) : Pv P n l ⟨d, .binOp .neq t x y t', ty, pos, af, g⟩ (.bool (!decide (a = b))) w := ⟨fun A hA => by
  simp [execOp, hA.ev hx, hA.ev hy, eqGuard, binOp, Op.intCmp]; rfl⟩
theorem pv_neqs (hx : ev l x = some (.int k a)) (hy : ev l y = some (.int k a)) : Pv P n l ⟨d, .binOp .neq t x y t', ty, pos, af, g⟩ (.bool false) w := by
  have := pv_neq (P := P) (n := n) (w := w) (d := d) (ty := ty) (pos := pos) (af := af) (g := g) (t := t) (t' := t') hx hy
  simpa using this
theorem pv_eqls (hx : ev l x = some (.int k a)) (hy : ev l y = some (.int k a)) : Pv P n l ⟨d, .binOp .eql t x y t', ty, pos, af, g⟩ (.bool true) w := by
  have := pv_eql (P := P) (n := n) (w := w) (d := d) (ty := ty) (pos := pos) (af := af) (g := g) (t := t) (t' := t') hx hy
  simpa using this
theorem pv_add_w (hx : ev l x = some (.int k a)) (hy : ev l y = some (.int k b)) : Pv P n l ⟨d, .binOp .add t x y t', ty, pos, af, g⟩ (.int k (k.wrap (a + b))) w := ⟨fun A hA => by simp [execOp, hA.ev hx, hA.ev hy, eqGuard, binOp, Op.intArith]⟩
theorem pv_sub_w (hx : ev l x = some (.int k a)) (hy : ev l y = some (.int k b)) : Pv P n l ⟨d, .binOp .sub t x y t', ty, pos, af, g⟩ (.int k (k.wrap (a - b))) w := ⟨fun A hA => by simp [execOp, hA.ev hx, hA.ev hy, eqGuard, binOp, Op.intArith]⟩
theorem pv_mul_w (hx : ev l x = some (.int k a)) (hy : ev l y = some (.int k b)) : Pv P n l ⟨d, .binOp .mul t x y t', ty, pos, af, g⟩ (.int k (k.wrap (a * b))) w := ⟨fun A hA => by simp [execOp, hA.ev hx, hA.ev hy, eqGuard, binOp, Op.intArith]⟩
theorem pv_add (hx : ev l x = some (.int .i64 a)) (hy : ev l y = some (.int .i64 b)) (h : -9223372036854775808 ≤ a + b ∧ a + b ≤ 9223372036854775807) : Pv P n l ⟨d, .binOp .add t x y t', ty, pos, af, g⟩ (.int .i64 (a + b)) w := by
  have := pv_add_w (P := P) (n := n) (w := w) (d := d) (ty := ty) (pos := pos) (af := af) (g := g) (t := t) (t' := t') hx hy
  rwa [IntWalk.i64_in _ h] at this
theorem pv_sub (hx : ev l x = some (.int .i64 a)) (hy : ev l y = some (.int .i64 b)) (h : -9223372036854775808 ≤ a - b ∧ a - b ≤ 9223372036854775807) : Pv P n l ⟨d, .binOp .sub t x y t', ty, pos, af, g⟩ (.int .i64 (a - b)) w := by
  have := pv_sub_w (P := P) (n := n) (w := w) (d := d) (ty := ty) (pos := pos) (af := af) (g := g) (t := t) (t' := t') hx hy
  rwa [IntWalk.i64_in _ h] at this
theorem pv_mul (hx : ev l x = some (.int .i64 a)) (hy : ev l y = some (.int .i64 b)) (h : -9223372036854775808 ≤ a * b ∧ a * b ≤ 9223372036854775807) : Pv P n l ⟨d, .binOp .mul t x y t', ty, pos, af, g⟩ (.int .i64 (a * b)) w := by
  have := pv_mul_w (P := P) (n := n) (w := w) (d := d) (ty := ty) (pos := pos) (af := af) (g := g) (t := t) (t' := t') hx hy
  rwa [IntWalk.i64_in _ h] at this
/-- a counter: k + 1 -/
theorem pv_inc {m : Nat} (hx : ev l x = some (.int .i64 (m : Int))) (hy : ev l y = some (.int .i64 1)) (h : m < 9223372036854775807) : Pv P n l ⟨d, .binOp .add t x y t', ty, pos, af, g⟩ (.int .i64 ((m + 1 : Nat) : Int)) w := by
  have := pv_add (P := P) (n := n) (w := w) (d := d) (ty := ty) (pos := pos) (af := af) (g := g) (t := t) (t' := t') hx hy (by omega)
  simpa using this
theorem pv_neg_w (hx : ev l x = some (.int k a)) : Pv P n l ⟨d, .unOp .neg t x, ty, pos, af, g⟩ (.int k (k.wrap (0 - a))) w := ⟨fun A hA => by simp [execOp, hA.ev hx, Op.unary, Op.intArith]⟩
theorem pv_neg (hx : ev l x = some (.int .i64 a)) (h : -9223372036854775808 ≤ -a ∧ -a ≤ 9223372036854775807) : Pv P n l ⟨d, .unOp .neg t x, ty, pos, af, g⟩ (.int .i64 (-a)) w := by
  have := pv_neg_w (P := P) (n := n) (w := w) (d := d) (ty := ty) (pos := pos) (af := af) (g := g) (t := t) hx
  rwa [IntWalk.i64_in _ (by omega), Int.zero_sub] at this
theorem pv_not {c : Bool} (hx : ev l x = some (.bool c)) : Pv P n l ⟨d, .unOp .not t x, ty, pos, af, g⟩ (.bool (!c)) w := ⟨fun A hA => by simp [execOp, hA.ev hx, Op.unary]⟩
theorem pv_seql {s u : ByteArray} (hx : ev l x = some (.string s)) (hy : ev l y = some (.string u)) : Pv P n l ⟨d, .binOp .eql t x y t', ty, pos, af, g⟩ (.bool (s.toList == u.toList)) w := ⟨fun A hA => by simp [execOp, hA.ev hx, hA.ev hy, eqGuard, binOp, Op.stringOp]⟩
theorem pv_sneq {s u : ByteArray} (hx : ev l x = some (.string s)) (hy : ev l y = some (.string u)) : Pv P n l ⟨d, .binOp .neq t x y t', ty, pos, af, g⟩ (.bool (!(s.toList == u.toList))) w := ⟨fun A hA => by simp [execOp, hA.ev hx, hA.ev hy, eqGuard, binOp, Op.stringOp]⟩
theorem pv_beql {c e : Bool} (ht : isT P t (fun x => x matches .bool) = true) (hx : ev l x = some (.bool c)) (hy : ev l y = some (.bool e)) : Pv P n l ⟨d, .binOp .eql t x y t', ty, pos, af, g⟩ (.bool (c == e)) w := ⟨fun A hA => by
  obtain ⟨u, hu, h2⟩ := isT_of ht
  have h3 : u = .bool := by cases u <;> first | rfl | (simp at h2; done)
  subst h3
  simp only [execOp, hA.ev hx, hA.ev hy, Sem.run_bind]
  simp [eqGuard, run_eql_bool w t c e hu]⟩
theorem pv_bneq {c e : Bool} (ht : isT P t (fun x => x matches .bool) = true) (hx : ev l x = some (.bool c)) (hy : ev l y = some (.bool e)) : Pv P n l ⟨d, .binOp .neq t x y t', ty, pos, af, g⟩ (.bool (!(c == e))) w := ⟨fun A hA => by
  obtain ⟨u, hu, h2⟩ := isT_of ht
  have h3 : u = .bool := by cases u <;> first | rfl | (simp at h2; done)
  subst h3
  simp only [execOp, hA.ev hx, hA.ev hy, Sem.run_bind]
  simp [eqGuard, run_neq_bool w t c e hu]⟩
theorem pv_len {ad : Option Addr} {m c : Nat} (ht : isT P t (fun x => x matches .slice _) = true) (hx : ev l x = some (.slice ad m c)) : Pv P n l ⟨d, .call ⟨.builtin .len, #[x], #[t]⟩, ty, pos, af, g⟩ (.int .i64 m) w := ⟨fun A hA => by
  obtain ⟨u, hu, h2⟩ := isT_of ht
  cases u <;> try (simp at h2; done)
  simp [execOp, resolve, hA.ev hx, invoke, builtin, Builtin.len_, run_underlying hu, goInt]⟩
theorem pv_lenl {ad : Option Addr} {m c e : Nat} (ht : slB P t e = true) (hx : ev l x = some (.slice ad m c)) : Pv P n l ⟨d, .call ⟨.builtin .len, #[x], #[t]⟩, ty, pos, af, g⟩ (.int .i64 m) w := ⟨fun A hA => by
  obtain ⟨u, hu, _⟩ := slB_of ht
  simp [execOp, resolve, hA.ev hx, invoke, builtin, Builtin.len_, run_underlying hu, goInt]⟩
theorem pv_lens {s : ByteArray} (ht : isT P t (fun x => x matches .string) = true) (hx : ev l x = some (.string s)) : Pv P n l ⟨d, .call ⟨.builtin .len, #[x], #[t]⟩, ty, pos, af, g⟩ (.int .i64 s.size) w := ⟨fun A hA => by
  obtain ⟨u, hu, h2⟩ := isT_of ht
  have h3 : u = .string := by cases u <;> first | rfl | (simp at h2; done)
  subst h3
  simp [execOp, resolve, hA.ev hx, invoke, builtin, Builtin.len_, run_underlying hu, goInt]⟩
theorem pv_min {ts : Array TypeId} (hx : ev l x = some (.int k a)) (hy : ev l y = some (.int k b)) : Pv P n l ⟨d, .call ⟨.builtin .min, #[x, y], ts⟩, ty, pos, af, g⟩ (.int k (if b < a then b else a)) w := ⟨fun A hA => by
  simp [execOp, resolve, hA.ev hx, hA.ev hy, invoke, builtin, run_min_int2]⟩
theorem pv_max {ts : Array TypeId} (hx : ev l x = some (.int k a)) (hy : ev l y = some (.int k b)) : Pv P n l ⟨d, .call ⟨.builtin .max, #[x, y], ts⟩, ty, pos, af, g⟩ (.int k (if a < b then b else a)) w := ⟨fun A hA => by
  simp [execOp, resolve, hA.ev hx, hA.ev hy, invoke, builtin, run_max_int2]⟩
theorem pv_extract {i : Nat} {vs : Array Value} (hx : ev l x = some (.tuple vs)) (hv : vs[i]? = some v) : Pv P n l ⟨d, .extract x i, ty, pos, af, g⟩ v w := ⟨fun A hA => by
  simp [execOp, hA.ev hx, Instr.extract, hv]⟩
theorem pv_field {f off : Nat} {cs : Array Value} (hf : fdB P t f off = true) (hx : ev l x = some (.agg cs)) (hv : cs[off]? = some v) : Pv P n l ⟨d, .field t x f, ty, pos, af, g⟩ v w := ⟨fun A hA => by
  obtain ⟨fs, q, h1, h2, h3, h4⟩ := fdB_of hf
  subst h3
  simp [execOp, hA.ev hx, Instr.field, run_underlying h1, h2, asAgg, part, oneB_run h4, hv]⟩
theorem pv_fieldg {f off m : Nat} {cs : Array Value} (hf : fgB P t f off m = true) (hx : ev l x = some (.agg cs)) : Pv P n l ⟨d, .field t x f, ty, pos, af, g⟩ (.agg (cs.extract off (off + m))) w := ⟨fun A hA => by
  obtain ⟨fs, q, h1, h2, h3, h4⟩ := fgB_of hf
  obtain ⟨h5, h6⟩ := aggB_run h4 w
  subst h3
  simp [execOp, hA.ev hx, Instr.field, run_underlying h1, h2, asAgg, part, h5, h6]⟩
theorem pv_fa {f off B o : Nat} (hf : faB P t f off = true) (hx : ev l x = some (.pointer (some ⟨B, o, none⟩))) : Pv P n l ⟨d, .fieldAddr t x f, ty, pos, af, g⟩ (.pointer (some ⟨B, o + off, none⟩)) w := ⟨fun A hA => by
  obtain ⟨fs, q, m, h1, h2, h3, h4, h5⟩ := faB_of hf
  subst h3
  simp [execOp, hA.ev hx, Instr.fieldAt, run_underlying h1, h2, Instr.sureAddr, fieldPlace, sizeB_run h4, h5, Addr.add_lit]⟩
theorem pv_ia {B o m c e : Nat} {i : Int} (ht : slB P t e = true) (hx : ev l x = some (.slice (some ⟨B, o, none⟩) m c)) (hy : ev l y = some (.int k i)) (h : 0 ≤ i ∧ i < m) : Pv P n l ⟨d, .indexAddr t x y, ty, pos, af, g⟩ (.pointer (some ⟨B, o + i.toNat * e, none⟩)) w := ⟨fun A hA => by
  obtain ⟨q, h1, h2⟩ := slB_of ht
  simp [execOp, hA.ev hx, hA.ev hy, Instr.indexAt, run_underlying h1, asIntOf, h.1, h.2, sizeB_run h2, Addr.add_lit]⟩
theorem pv_ian {B o m c e j : Nat} (ht : slB P t e = true) (hx : ev l x = some (.slice (some ⟨B, o, none⟩) m c)) (hy : ev l y = some (.int k (j : Int))) (h : j < m) : Pv P n l ⟨d, .indexAddr t x y, ty, pos, af, g⟩ (.pointer (some ⟨B, o + j * e, none⟩)) w := by
  have := pv_ia (P := P) (n := n) (w := w) (d := d) (ty := ty) (pos := pos) (af := af) (g := g) ht hx hy ⟨by omega, by omega⟩
  simpa using this
theorem pv_load {B o : Nat} (ht : oneB P t = true) (hx : ev l x = some (.pointer (some ⟨B, o, none⟩))) (hc : w.cell? ⟨B, o, none⟩ = some v) : Pv P n l ⟨d, .load t x, ty, pos, af, g⟩ v w := ⟨fun A hA => by
  simp [execOp, hA.ev hx, Instr.loadAt, Instr.sureAddr, loadVar, oneB_run ht, hc]⟩
theorem pv_loada {B o m : Nat} {cs : List Value} (ht : aggB P t m = true) (hx : ev l x = some (.pointer (some ⟨B, o, none⟩))) (hc : ∀ i u, cs[i]? = some u → w.cell? ⟨B, o + i, none⟩ = some u) (hm : cs.length = m) : Pv P n l ⟨d, .load t x, ty, pos, af, g⟩ (.agg cs.toArray) w := ⟨fun A hA => by
  obtain ⟨h1, h2⟩ := aggB_run ht w
  have h3 := run_loadCells_list (P := P) w ⟨B, o, none⟩ cs (fun j u hu => by rw [Addr.add_lit]; exact hc j u hu)
  rw [hm] at h3
  simp [execOp, hA.ev hx, Instr.loadAt, Instr.sureAddr, loadVar, h1, h2, h3]⟩
theorem pv_conv_w {k' : IntKind} (ht : cvB P t t' k' = true) (hx : ev l x = some (.int k a)) : Pv P n l ⟨d, .convert t t' x, ty, pos, af, g⟩ (.int k' (k'.wrap a)) w := ⟨fun A hA => by
  obtain ⟨⟨u, h1⟩, h2⟩ := cvB_of ht
  simp [execOp, hA.ev hx, convert, run_underlying h1, run_underlying h2, Conv.intToInt]⟩
theorem pv_conv (ht : cvB P t t' .i64 = true) (hx : ev l x = some (.int k a)) (h : -9223372036854775808 ≤ a ∧ a ≤ 9223372036854775807) : Pv P n l ⟨d, .convert t t' x, ty, pos, af, g⟩ (.int .i64 a) w := by
  have := pv_conv_w (P := P) (n := n) (w := w) (d := d) (ty := ty) (pos := pos) (af := af) (g := g) ht hx
  rwa [IntWalk.i64_in _ h] at this
theorem pv_build {ps : List (Nat × Operand)} {is : List Nat} {vs : List Value} {pl : List (Nat × Nat)} {zs cells : List Value} (h1 : ps.map (·.1) = is) (h2 : evs l (ps.map (·.2)) = some vs) (hb : ∀ ps, P.built t ps = Instr.fill (fun i => pl.toArray[i]?) zs.toArray ps) (h : fillL pl zs (is.zip vs) = some cells) : Pv P n l ⟨d, .build t ps.toArray, ty, pos, af, g⟩ (.agg cells.toArray) w := ⟨fun A hA => by
  have e : (ps.map fun p => (p.1, A.eval p.2)) = is.zip vs := by
    rw [← h1, ← hA.evs h2, List.map_map, List.zip_map']; rfl
  have := run_build (P := P) w t (is.zip vs).toArray cells.toArray ((hb _).trans (by rw [show (fun i : Nat => pl.toArray[i]?) = fun i => pl[i]? from by funext i; simp, fillL_eq, h]; rfl))
  simp only [execOp]
  have e2 : (ps.toArray.map fun p : Nat × Operand => (p.1, A.eval p.2)) = (is.zip vs).toArray := by rw [← e]; simp
  simp [e2, this]⟩
theorem pv_makeFunc {fn : Fn} {xs ys : List Operand} {us vs : List Value} (hx : evs l xs = some us) (hy : evs l ys = some vs) : Pv P n l ⟨d, .makeFunc fn xs.toArray ys.toArray, ty, pos, af, g⟩ (.func fn us.toArray vs.toArray) w := ⟨fun A hA => by
  simp [execOp, Instr.makeFunc, hA.evs hx, hA.evs hy]⟩
theorem pv_nilp {ad : Addr} (hx : ev l x = some (.pointer (some ad))) : Pv P n l ⟨d, .nilCheck x, ty, pos, af, g⟩ (.pointer (some ad)) w := ⟨fun A hA => by simp [execOp, hA.ev hx]⟩
/-- x[i:j] -/
theorem pv_slice_lh {ad : Option Addr} {m c e : Nat} {k k' : IntKind} {i j : Int} (ht : slB P t e = true) (hx : ev l x = some (.slice ad m c)) (hy : ev l y = some (.int k i)) (hz : ev l z = some (.int k' j)) (h : 0 ≤ i ∧ i ≤ j ∧ j ≤ c) :
    Pv P n l ⟨d, .slice t x (some y) (some z) none, ty, pos, af, g⟩ (.slice (if c = i.toNat then ad else ad.map (·.add (i.toNat * e))) (j.toNat - i.toNat) (c - i.toNat)) w := ⟨fun A hA => by
  obtain ⟨q, h1, h2⟩ := slB_of ht
  have h3 : i ≤ (j.toNat : Int) := by omega
  have h4 : 0 ≤ j := by omega
  simp [execOp, hA.ev hx, hA.ev hy, hA.ev hz, Instr.sliceAt, Instr.slice, run_underlying h1, Instr.sliceBounds, Instr.sliceBound, asIntOf, h.1, h.2.2, h4, sizeB_run h2]
  intro h9; omega⟩
theorem pv_slice_l {ad : Option Addr} {m c e : Nat} {k : IntKind} {i : Int} (ht : slB P t e = true) (hx : ev l x = some (.slice ad m c)) (hy : ev l y = some (.int k i)) (h : 0 ≤ i ∧ i ≤ m) :
    Pv P n l ⟨d, .slice t x (some y) none none, ty, pos, af, g⟩ (.slice (if c = i.toNat then ad else ad.map (·.add (i.toNat * e))) (m - i.toNat) (c - i.toNat)) w := ⟨fun A hA => by
  obtain ⟨q, h1, h2⟩ := slB_of ht
  simp [execOp, hA.ev hx, hA.ev hy, Instr.sliceAt, Instr.slice, run_underlying h1, Instr.sliceBounds, Instr.sliceBound, asIntOf, h.1, h.2, sizeB_run h2]⟩
theorem pv_slice_h {ad : Option Addr} {m c e : Nat} {k : IntKind} {j : Int} (ht : slB P t e = true) (hx : ev l x = some (.slice ad m c)) (hz : ev l z = some (.int k j)) (h : 0 ≤ j ∧ j ≤ c) :
    Pv P n l ⟨d, .slice t x none (some z) none, ty, pos, af, g⟩ (.slice ad j.toNat c) w := ⟨fun A hA => by
  obtain ⟨q, h1, h2⟩ := slB_of ht
  simp [execOp, hA.ev hx, hA.ev hz, Instr.sliceAt, Instr.slice, run_underlying h1, Instr.sliceBounds, Instr.sliceBound, asIntOf, h.1, h.2, sizeB_run h2]
  intro _; cases ad <;> simp [Addr.add]⟩
/-- any operation whose run is known in each such frame -/
theorem pv_of {op : Op} (h : ∀ A, Holds n l A → (execOp A.eval ⟨d, op, ty, pos, af, g⟩).run P w = .ok (.value v) w) : Pv P n l ⟨d, op, ty, pos, af, g⟩ v w := ⟨h⟩
/-! ### new blocks -/
theorem ev_alloc {z : Value} (hz : ∀ w, (zeroValue t).run P w = .ok z w) : Ev P n l ⟨d, .alloc t, ty, pos, af, g⟩ (.pointer (some ⟨w.heap.size, 0, none⟩)) w (w.alloc (.cells z.cells t)) := ⟨fun A hA => by
  simp [execOp, Instr.alloc, hz, newVar, newRow]⟩
theorem ev_box (hx : ev l x = some v) : Ev P n l ⟨d, .box t x, ty, pos, af, g⟩ (.pointer (some ⟨w.heap.size, 0, none⟩)) w (w.alloc (.cells v.cells t)) := ⟨fun A hA => by
  simp [execOp, Instr.box, hA.ev hx, newVar, newRow]⟩
theorem ev_buildSlice {m : Nat} {ps : List (Nat × Operand)} {is : List Nat} {vs : List Value} {e : TypeId} {cells : Array Value} (h1 : ps.map (·.1) = is) (h2 : evs l (ps.map (·.2)) = some vs)
    (h : ∀ w, (Instr.buildSlice t m (is.zip vs).toArray).run P w = .ok (.slice (some ⟨w.heap.size, 0, none⟩) m m) (w.alloc (.cells cells e))) : Ev P n l ⟨d, .buildSlice t m ps.toArray, ty, pos, af, g⟩ (.slice (some ⟨w.heap.size, 0, none⟩) m m) w (w.alloc (.cells cells e)) := ⟨fun A hA => by
  have e1 : (ps.map fun p => (p.1, A.eval p.2)) = is.zip vs := by
    rw [← h1, ← hA.evs h2, List.map_map, List.zip_map']; rfl
  have e2 : (ps.toArray.map fun p : Nat × Operand => (p.1, A.eval p.2)) = (is.zip vs).toArray := by rw [← e1]; simp
  simp only [execOp]
  simp [e2, h w]⟩
/-- an append whose run is known -/
theorem some_append {ts : TypeId} {v u : Value} {Φ : Value → World → Prop} (hx : ev l x = some v) (hy : ev l y = some u) (hrun : ∃ v' w', (Builtin.append_ #[ts, ts] ty #[v, u]).run P w = .ok v' w' ∧ Φ v' w') :
    ∀ a, Holds n l a → ∃ v w', (execOp a.eval ⟨d, .call ⟨.builtin .append, #[x, y], #[ts, ts]⟩, ty, pos, af, g⟩).run P w = .ok (.value v) w' ∧ Φ v w' := fun A hA => by
  obtain ⟨v', w', h1, h2⟩ := hrun
  exact ⟨v', w', by simp [execOp, resolve, hA.ev hx, hA.ev hy, invoke, builtin, h1], h2⟩
end
/-! ### a function is entered, and left -/
def zipN : Nat → List Value → Fr
  | _, [] => []
  | i, v :: r => (i, v) :: zipN (i + 1) r
theorem look_zipN : ∀ (vs : List Value) (i t : Nat) (v : Value), look (zipN i vs) t = some v → i ≤ t ∧ vs[t - i]? = some v
  | [], i, t, v, h => by simp [zipN, look] at h
  | u :: r, i, t, v, h => by
    simp only [zipN, look] at h
    by_cases hs : i = t
    · subst hs; simp only [Nat.beq_refl, cond_true, Option.some.injEq] at h; subst h; simp
    · have : Nat.beq i t = false := by rw [Bool.eq_false_iff]; exact fun e => hs (Nat.eq_of_beq_eq_true e)
      rw [this, cond_false] at h
      obtain ⟨h1, h2⟩ := look_zipN r (i + 1) t v h
      refine ⟨by omega, ?_⟩
      rw [show t - i = (t - (i + 1)) + 1 by omega, List.getElem?_cons_succ]; exact h2
theorem fn_enter {P : Program} {f : FuncId} {fn : Func} {c : Code} {vs : List Value} {w : World} {R : Ending → World → Prop} (n : Nat) (hf : P.funcs[f]? = some fn) (hb : fn.body = some c) (hn : fn.ntmps = n) (hle : Nat.ble vs.length n = true)
    (h : CW P n c (bodyPost P fn R) (zipN 0 vs) w) : Calls P f vs.toArray w R := by
  refine calls_of_wp hf hb (h.out _ ⟨?_, rfl, fun t v e => ?_⟩)
  · have : vs.length ≤ n := Nat.le_of_ble_eq_true hle
    simp [hn]; omega
  · obtain ⟨_, h2⟩ := look_zipN vs 0 t v e
    rw [Nat.sub_zero] at h2
    have hlt : t < vs.toArray.size := by simpa using (List.getElem?_eq_some_iff.1 h2).1
    show (vs.toArray ++ Array.replicate (fn.ntmps - vs.toArray.size) undef)[t]? = some v
    rw [Array.getElem?_append_left hlt]; simpa using h2
section
variable {P : Program} {n : Nat} {l : Fr} {w : World} {fn : Func} {R : Ending → World → Prop}
theorem Holds.slot {a : Act} (h : Holds n l a) {t : Nat} {v : Value} (e : look l t = some v) : a.tmps.getD t undef = v := by
  simp [h.2.2 t v e]
theorem qw_ret1 {t : Nat} {v : Value} (hr : fn.results = #[.tmp t]) (h1 : look l t = some v) (hR : R (.returned v) w) : QW n (bodyPost P fn R) .ret l w := ⟨fun _ ha => ⟨ha.2.1, v, by rw [results_tmp hr, ha.slot h1], hR⟩⟩
theorem qw_ret2 {t t2 : Nat} {v v2 : Value} (hr : fn.results = #[.tmp t, .tmp t2]) (h1 : look l t = some v) (h2 : look l t2 = some v2) (hR : R (.returned (.tuple #[v, v2])) w) : QW n (bodyPost P fn R) .ret l w := ⟨fun _ ha => ⟨ha.2.1, _, by rw [results_tmp2 hr, ha.slot h1, ha.slot h2], hR⟩⟩
theorem qw_ret3 {t t2 t3 : Nat} {v v2 v3 : Value} (hr : fn.results = #[.tmp t, .tmp t2, .tmp t3]) (h1 : look l t = some v) (h2 : look l t2 = some v2) (h3 : look l t3 = some v3) (hR : R (.returned (.tuple #[v, v2, v3])) w) : QW n (bodyPost P fn R) .ret l w := ⟨fun _ ha => ⟨ha.2.1, .tuple #[v, v2, v3], by simp [results, hr, ha.2.2 _ _ h1, ha.2.2 _ _ h2, ha.2.2 _ _ h3], hR⟩⟩
theorem qw_ret0 (hr : fn.results = #[]) (hR : R (.returned (.tuple #[])) w) : QW n (bodyPost P fn R) .ret l w := ⟨fun _ ha => ⟨ha.2.1, _, results_none hr _ _ _, hR⟩⟩
theorem qw_end0 (hr : fn.results = #[]) (hR : R (.returned (.tuple #[])) w) : QW n (bodyPost P fn R) .normal l w := ⟨fun _ ha => ⟨ha.2.1, _, results_none hr _ _ _, hR⟩⟩
/-- results that lie in memory: how each is read -/
theorem qw_retv {v : Value} (h : ∀ a, Holds n l a → (results fn a.tmps).run P w = .ok v w) (hR : R (.returned v) w) : QW n (bodyPost P fn R) .ret l w := ⟨fun a ha => ⟨ha.2.1, v, h a ha, hR⟩⟩
theorem agg_ld {t m B o : Nat} {cs : List Value} (ht : aggB P t m = true) (hm : cs.length = m) (hc : ∀ i u, cs[i]? = some u → w.cell? ⟨B, o + i, none⟩ = some u) : (loadVar t ⟨B, o, none⟩).run P w = .ok (.agg cs.toArray) w := by
  obtain ⟨h1, h2⟩ := aggB_run ht w
  have h3 := run_loadCells_list (P := P) w ⟨B, o, none⟩ cs (fun j u hu => by rw [Addr.add_lit]; exact hc j u hu)
  rw [hm] at h3
  simp [loadVar, h1, h2, h3]
theorem one_ld {t B o : Nat} {v : Value} (ht : oneB P t = true) (hc : w.cell? ⟨B, o, none⟩ = some v) : (loadVar t ⟨B, o, none⟩).run P w = .ok v w := by
  simp [loadVar, oneB_run ht, hc]
/-- one result, in memory -/
theorem qw_retc {t T B o : Nat} {v : Value} (hr : fn.results = #[.cell t T]) (h1 : look l t = some (.pointer (some ⟨B, o, none⟩))) (hl : (loadVar T ⟨B, o, none⟩).run P w = .ok v w) (hR : R (.returned v) w) : QW n (bodyPost P fn R) .ret l w :=
  qw_retv (fun a ha => by simp [results, hr, ha.2.2 _ _ h1, asAddr, hl]) hR
/-- the first in memory, the second in a slot -/
theorem qw_retct {t T B o t2 : Nat} {v v2 : Value} (hr : fn.results = #[.cell t T, .tmp t2]) (h1 : look l t = some (.pointer (some ⟨B, o, none⟩))) (h2 : look l t2 = some v2) (hl : (loadVar T ⟨B, o, none⟩).run P w = .ok v w) (hR : R (.returned (.tuple #[v, v2])) w) : QW n (bodyPost P fn R) .ret l w :=
  qw_retv (fun a ha => by simp [results, hr, ha.2.2 _ _ h1, ha.2.2 _ _ h2, asAddr, hl]) hR
end
/-! ### blocks that are known whole -/
def PT (w : World) (N : Nat) (T : TypeId) (cs : List Value) : Prop := w.heap[N]? = some (.cells cs.toArray T (0, 0))
section
variable {P : Program} {n : Nat} {l : Fr} {w w' : World} {N : Nat} {T : TypeId} {cs : List Value}
theorem PT.lt (h : PT w N T cs) : N < w.heap.size := (Array.getElem?_eq_some_iff.1 h).1
theorem PT.mono (h : PT w N T cs) (hb : Below w.heap.size w w') : PT w' N T cs := (hb.block N h.lt).trans h
theorem PT.cell (h : PT w N T cs) (i : Nat) : w.cell? ⟨N, i, none⟩ = cs[i]? := by
  rw [cell_of_row w N i cs.toArray T (0, 0) h]; simp
theorem PT.ld (h : PT w N T cs) {i : Nat} {v : Value} (hv : cs[i]? = some v) : w.cell? ⟨N, i, none⟩ = some v := (h.cell i).trans hv
theorem PT.ld0 (h : PT w N T cs) {i : Nat} {v : Value} (hv : cs[i]? = some v) : w.cell? ⟨N, 0 + i, none⟩ = some v := by rw [Nat.zero_add]; exact h.ld hv
theorem PT.new (w : World) (cs : Array Value) (T : TypeId) : PT (w.alloc (.cells cs T)) w.heap.size T cs.toList := heap_alloc_new w _
theorem PT.grown {row : Option Nat} (h : PT w N T cs) (hg : w.grownBy w' row) (hne : row ≠ some N) : PT w' N T cs := (hg.block N h.lt (fun e => hne e.symm)).trans h
/-- a variable of one's own is written -/
theorem sv_store {d : Option Nat} {ty t : TypeId} {pos : String} {af : Array Edge} {g : Option (Nat × Bool)} {x y : Operand} {i : Nat} {v : Value} (hp : PT w N T cs) (ht : sizeB P t 1 = true) (hx : ev l x = some (.pointer (some ⟨N, i, none⟩))) (hy : ev l y = some v) (h1 : v.oneCell' = true) (hi : i < cs.length) :
    ∃ w', Sv P n l ⟨d, .store t x y, ty, pos, af, g⟩ w w' ∧ PT w' N T (cs.set i v) ∧ w.grownBy w' (some N) ∧ w'.heap.size = w.heap.size := by
  refine ⟨w.setCell ⟨N, i, none⟩ v, ⟨fun A hA => ?_⟩, ?_, ?_, by simp⟩
  · have hc := hp.cell i
    rw [List.getElem?_eq_getElem hi] at hc
    have hfz : w.frozen? ⟨N, i, none⟩ = false := by simp [World.frozen?, show w.heap[N]? = _ from hp]
    have hs : v.cells.size = 1 ∧ v.cells.toList = [v] := by cases v <;> first | (simp [Value.oneCell'] at h1; done) | exact ⟨rfl, rfl⟩
    have hst := run_store P w ⟨N, i, none⟩ v .plain h1
    rw [hc] at hst
    simp only [hfz, Bool.false_eq_true, if_false] at hst
    simp [execOp, hA.ev hx, hA.ev hy, Instr.storeAt, Instr.sureAddr, storeVar, sizeB_run ht, hs.1, hs.2, storeCells, Addr.add, hst]
  · unfold PT
    rw [setCell_eq_setRow w N i cs.toArray T (0, 0) _ hp]
    have := setRow_heap w N cs.toArray (cs.toArray.setIfInBounds i v) T (0, 0) hp
    simpa using this
  · rw [setCell_eq_setRow w N i cs.toArray T (0, 0) _ hp]
    exact ⟨rfl, rfl, rfl, by simp, fun q hq hne => setRow_other w N q _ (fun e => hne (by rw [e]))⟩
/-- .. a struct -/
theorem sv_storea {d : Option Nat} {ty t : TypeId} {pos : String} {af : Array Edge} {g : Option (Nat × Bool)} {x y : Operand} {i k : Nat} {vs : List Value} (hp : PT w N T cs) (ht : sizeB P t k = true) (hx : ev l x = some (.pointer (some ⟨N, i, none⟩))) (hy : ev l y = some (.agg vs.toArray)) (hk : vs.length = k) (h1 : ∀ v ∈ vs, v.oneCell' = true) (hi : i + k ≤ cs.length) :
    ∃ w', Sv P n l ⟨d, .store t x y, ty, pos, af, g⟩ w w' ∧ PT w' N T (cs.take i ++ vs ++ cs.drop (i + k)) ∧ w.grownBy w' (some N) ∧ w'.heap.size = w.heap.size := by
  have hst := run_storeCells_at (P := P) N i T vs 0 cs.toArray w hp (by simp; omega) h1
  refine ⟨w.setRow N (cs.toArray.toList.take (i + 0) ++ vs ++ cs.toArray.toList.drop (i + 0 + vs.length)).toArray, ⟨fun A hA => ?_⟩, ?_, ?_, ?_⟩
  · simp [execOp, hA.ev hx, hA.ev hy, Instr.storeAt, Instr.sureAddr, storeVar, sizeB_run ht, Value.cells, hk]
    rw [hst]; simp [hk]
  · have := setRow_heap w N cs.toArray (cs.toArray.toList.take (i + 0) ++ vs ++ cs.toArray.toList.drop (i + 0 + vs.length)).toArray T (0, 0) hp
    unfold PT; rw [this]; simp [hk]
  · exact ⟨rfl, rfl, rfl, by simp, fun q hq hne => setRow_other w N q _ (fun e => hne (by rw [e]))⟩
  · simp
end
/-! ### steps that make or write memory, the world behind them a letter -/
theorem PT.lda {w : World} {N : Nat} {T : TypeId} {cs : List Value} (h : PT w N T cs) : ∀ i u, cs[i]? = some u → w.cell? ⟨N, 0 + i, none⟩ = some u := fun _ _ hu => h.ld0 hu
theorem dec_notT {p : Prop} [Decidable p] (h : ¬ p) : (!decide p) = true := by simp [h]
theorem dec_notF {p : Prop} [Decidable p] (h : p) : (!decide p) = false := by simp [h]
theorem dec_nT {p : Prop} [Decidable p] (h : (!decide p) = true) : ¬ p := by simpa using h
theorem dec_nF {p : Prop} [Decidable p] (h : (!decide p) = false) : p := by simpa using h
theorem below_drew (w : World) : Below w.heap.size w w.drew := (Below.refl _ _).drew
/-- what was there at the start stands -/
structure Ext (w0 w : World) : Prop where
  b : Below w0.heap.size w0 w
theorem Ext.mono {w0 w w' : World} (h : Ext w0 w) (hb : Below w.heap.size w w') : Ext w0 w' := ⟨grow_trans h.b hb⟩
theorem Ext.grown {w0 w w' : World} (h : Ext w0 w) {row : Option Nat} (hg : w.grownBy w' row) (hr : ∀ q, row = some q → w0.heap.size ≤ q) : Ext w0 w' := ⟨h.b.grown hg h.b.size hr⟩
theorem Ext.refl (w : World) : Ext w w := ⟨Below.refl _ _⟩
theorem Ext.le {w0 w : World} (h : Ext w0 w) : w0.heap.size ≤ w.heap.size := h.b.size
section
variable {α : Type} {enc : α → List Value} {k nb : Nat} {P : Program} {n : Nat} {l : Fr} {w : World} {Q : Exit → Act → World → Prop} {ops : Array Oper} {os : List Oper} {d : Nat} {ty : TypeId} {pos : String} {af : Array Edge} {x y : Operand} {v : Value} {t S T : TypeId}
theorem SlR.ld {b off cap : Nat} {xs : List α} (h : SlR enc k w (some ⟨b, off, none⟩) cap xs) {j : Nat} {u : α} (hx : xs[j]? = some u) {i : Nat} {v : Value} (hv : (enc u)[i]? = some v) : w.cell? ⟨b, off + j * k + i, none⟩ = some v := (h.ofSome _ rfl (by have := h.le; have := (List.getElem?_eq_some_iff.1 hx).1; omega)).2.2 j u hx i v hv
theorem SlR.lda {b off cap : Nat} {xs : List α} (h : SlR enc k w (some ⟨b, off, none⟩) cap xs) {j : Nat} {u : α} (hx : xs[j]? = some u) : ∀ i v, (enc u)[i]? = some v → w.cell? ⟨b, off + j * k + i, none⟩ = some v := fun _ _ hv => h.ld hx hv
/-- at elements of one cell -/
theorem SlR.ld1 {b off cap : Nat} {xs : List α} (h : SlR enc 1 w (some ⟨b, off, none⟩) cap xs) {j : Nat} {u : α} (hx : xs[j]? = some u) {v : Value} (hv : (enc u)[0]? = some v) : w.cell? ⟨b, off + j * 1, none⟩ = some v := h.ld hx hv
theorem PT.slR (hk : ∀ x, (enc x).length = k) {B : Nat} {xs : List α} (h : PT w B T (xs.flatMap enc)) {m : Nat} (hm : m = xs.length) (hmx : m ≤ 9223372036854775807) : SlR enc k w (some ⟨B, 0, none⟩) m xs := by
  refine ⟨by omega, hmx, (fun h => by cases h), fun ad had _ => ?_⟩
  cases had
  refine ⟨rfl, h.lt, fun j x hx i v hv => ?_⟩
  simp only [Nat.zero_add]
  exact h.ld (Go.Proofs.Ytchalebenpmnpaa.flat_get enc k hk xs j x i v hx hv)
theorem lw_box (hd : Nat.blt d n = true) (hx : ev l x = some v) (h : ∀ w', PT w' w.heap.size t v.cells.toList → Below w.heap.size w w' → w'.heap.size = w.heap.size + 1 → LW P n ops Q os ((d, .pointer (some ⟨w.heap.size, 0, none⟩)) :: l) w') :
    LW P n ops Q (⟨some d, .box t x, ty, pos, af, none⟩ :: os) l w := lw_eff hd (ev_box hx) (h _ (PT.new w _ _) (below_alloc _ _) (by simp))
theorem lw_alloc {z : Value} (hd : Nat.blt d n = true) (hz : ∀ w, (zeroValue t).run P w = .ok z w) (h : ∀ w', PT w' w.heap.size t z.cells.toList → Below w.heap.size w w' → w'.heap.size = w.heap.size + 1 → LW P n ops Q os ((d, .pointer (some ⟨w.heap.size, 0, none⟩)) :: l) w') :
    LW P n ops Q (⟨some d, .alloc t, ty, pos, af, none⟩ :: os) l w := lw_eff hd (ev_alloc hz) (h _ (PT.new w _ _) (below_alloc _ _) (by simp))
theorem lw_store {N i : Nat} {cs : List Value} (hp : PT w N T cs) (ht : sizeB P t 1 = true) (hx : ev l x = some (.pointer (some ⟨N, i, none⟩))) (hy : ev l y = some v) (h1 : v.oneCell' = true) (hi : i < cs.length) (h : ∀ w', PT w' N T (cs.set i v) → w.grownBy w' (some N) → w'.heap.size = w.heap.size → LW P n ops Q os l w') :
    LW P n ops Q (⟨none, .store t x y, ty, pos, af, none⟩ :: os) l w := by
  obtain ⟨w', a, b, c, e⟩ := sv_store (d := none) (ty := ty) (pos := pos) (af := af) (g := none) (P := P) (n := n) hp ht hx hy h1 hi
  exact lw_skip a (h w' b c e)
/-- a variable that holds a struct is written whole -/
theorem lw_storea {N m : Nat} {cs vs : List Value} (hp : PT w N T cs) (ht : sizeB P t m = true) (hx : ev l x = some (.pointer (some ⟨N, 0, none⟩))) (hy : ev l y = some (.agg vs.toArray)) (hm : vs.length = m) (hc : cs.length = m) (h1 : ∀ v ∈ vs, v.oneCell' = true) (h : ∀ w', PT w' N T vs → w.grownBy w' (some N) → w'.heap.size = w.heap.size → LW P n ops Q os l w') :
    LW P n ops Q (⟨none, .store t x y, ty, pos, af, none⟩ :: os) l w := by
  obtain ⟨w', a, b, c, e⟩ := sv_storea (d := none) (ty := ty) (pos := pos) (af := af) (g := none) (P := P) (n := n) (i := 0) hp ht hx hy hm h1 (by omega)
  refine lw_skip a (h w' ?_ c e)
  have e1 : cs.take 0 ++ vs ++ cs.drop (0 + m) = vs := by rw [List.drop_of_length_le (by omega)]; simp
  rwa [e1] at b
/-- a variable that is made and written at once -/
theorem lw_var {m : Nat} {vs : List Value} {z : Value} {ty2 : TypeId} {pos2 : String} {af2 : Array Edge} (hd : Nat.blt d n = true) (hz : ∀ w, (zeroValue t).run P w = .ok z w) (hzc : z.cells.size = m) (ht : sizeB P t m = true) (hy : ev ((d, .pointer (some ⟨w.heap.size, 0, none⟩)) :: l) y = some (.agg vs.toArray)) (hm : vs.length = m) (h1 : vs.all (·.oneCell') = true)
    (h : ∀ w', PT w' w.heap.size t vs → Below w.heap.size w w' → w'.heap.size = w.heap.size + 1 → LW P n ops Q os ((d, .pointer (some ⟨w.heap.size, 0, none⟩)) :: l) w') :
    LW P n ops Q (⟨some d, .alloc t, ty, pos, af, none⟩ :: ⟨none, .store t (.tmp d) y, ty2, pos2, af2, none⟩ :: os) l w := by
  refine lw_alloc hd hz fun w1 hp hb hs => ?_
  refine lw_storea hp ht (by simp [ev, look]) hy hm (by simpa using hzc) (fun v hv => List.all_eq_true.1 h1 v hv) fun w2 hp2 hg hs2 => ?_
  exact h w2 hp2 (hb.grown hg (by omega) (by intro q hq; injection hq with hq; omega)) (by omega)
theorem lw_var1 {z : Value} {ty2 : TypeId} {pos2 : String} {af2 : Array Edge} (hd : Nat.blt d n = true) (hz : ∀ w, (zeroValue t).run P w = .ok z w) (hzc : z.cells.size = 1) (ht : sizeB P t 1 = true) (hy : ev ((d, .pointer (some ⟨w.heap.size, 0, none⟩)) :: l) y = some v) (h1 : v.oneCell' = true)
    (h : ∀ w', PT w' w.heap.size t [v] → Below w.heap.size w w' → w'.heap.size = w.heap.size + 1 → LW P n ops Q os ((d, .pointer (some ⟨w.heap.size, 0, none⟩)) :: l) w') :
    LW P n ops Q (⟨some d, .alloc t, ty, pos, af, none⟩ :: ⟨none, .store t (.tmp d) y, ty2, pos2, af2, none⟩ :: os) l w := by
  refine lw_alloc hd hz fun w1 hp hb hs => ?_
  refine lw_store (i := 0) hp ht (by simp [ev, look]) hy h1 (by simp [hzc]) fun w2 hp2 hg hs2 => ?_
  have e : z.cells.toList.set 0 v = [v] := by
    have : z.cells.toList.length = 1 := by simpa using hzc
    match hq : z.cells.toList, this with
    | [a], _ => rfl
  rw [e] at hp2
  exact h w2 hp2 (hb.grown hg (by omega) (by intro q hq; injection hq with hq; omega)) (by omega)
/-- the same, the new block's number a letter -/
theorem lw_varN {m : Nat} {vs : List Value} {z : Value} {ty2 : TypeId} {pos2 : String} {af2 : Array Edge} (hd : Nat.blt d n = true) (hz : ∀ w, (zeroValue t).run P w = .ok z w) (hzc : z.cells.size = m) (ht : sizeB P t m = true) (hy : ∀ p, ev ((d, p) :: l) y = some (.agg vs.toArray)) (hm : vs.length = m) (h1 : vs.all (·.oneCell') = true)
    (h : ∀ N w', w.heap.size ≤ N → PT w' N t vs → Below w.heap.size w w' → LW P n ops Q os ((d, .pointer (some ⟨N, 0, none⟩)) :: l) w') :
    LW P n ops Q (⟨some d, .alloc t, ty, pos, af, none⟩ :: ⟨none, .store t (.tmp d) y, ty2, pos2, af2, none⟩ :: os) l w :=
  lw_var hd hz hzc ht (hy _) hm h1 fun w' hp hb _ => h _ w' (Nat.le_refl _) hp hb
theorem lw_var1N {z : Value} {ty2 : TypeId} {pos2 : String} {af2 : Array Edge} (hd : Nat.blt d n = true) (hz : ∀ w, (zeroValue t).run P w = .ok z w) (hzc : z.cells.size = 1) (ht : sizeB P t 1 = true) (hy : ∀ p, ev ((d, p) :: l) y = some v) (h1 : v.oneCell' = true)
    (h : ∀ N w', w.heap.size ≤ N → PT w' N t [v] → Below w.heap.size w w' → LW P n ops Q os ((d, .pointer (some ⟨N, 0, none⟩)) :: l) w') :
    LW P n ops Q (⟨some d, .alloc t, ty, pos, af, none⟩ :: ⟨none, .store t (.tmp d) y, ty2, pos2, af2, none⟩ :: os) l w :=
  lw_var1 hd hz hzc ht (hy _) h1 fun w' hp hb _ => h _ w' (Nat.le_refl _) hp hb
theorem lw_boxN (hd : Nat.blt d n = true) (hx : ev l x = some v) {cs : List Value} (hcs : v.cells.toList = cs) (h : ∀ N w', w.heap.size ≤ N → PT w' N t cs → Below w.heap.size w w' → LW P n ops Q os ((d, .pointer (some ⟨N, 0, none⟩)) :: l) w') :
    LW P n ops Q (⟨some d, .box t x, ty, pos, af, none⟩ :: os) l w := lw_box hd hx fun w' hp hb _ => h _ w' (Nat.le_refl _) (hcs ▸ hp) hb
theorem run_bs (E : ElemT P S T k nb) {m : Nat} (vs : List Value) (hm : vs.length = m) (h1 : ∀ v ∈ vs, v.cells.size = k) (hs : m * k ≤ 16777216) (hp : 0 < m) (w : World) : (Instr.buildSlice S m ((vs.zipIdx 0).map fun x => (x.2, x.1)).toArray).run P w = .ok (.slice (some ⟨w.heap.size, 0, none⟩) m m) (w.alloc (.cells (vs.flatMap fun v => v.cells.toList).toArray T)) := by
  obtain ⟨i, z, hi, hz, hsz, _, hzs⟩ := E.info
  refine run_buildSlice w S T m _ _ i z E.sl hi hz (by rw [hsz]; omega) (by rw [hsz]; have := Nat.mul_pos hp E.pos; omega) ?_
  rw [hsz]
  exact Great.fill_whole E.pos vs _ h1 (by simp [hm])
theorem lw_bs (E : ElemT P S T k nb) {m : Nat} {ps : List (Nat × Operand)} {vs cs : List Value} (hd : Nat.blt d n = true) (hps : ps.map (·.1) = List.range m) (hvs : evs l (ps.map (·.2)) = some vs) (hp : 0 < m) (hs : m * k ≤ 16777216) (hcs : (vs.flatMap fun v => v.cells.toList) = cs) (h1 : ∀ v ∈ vs, v.cells.size = k)
    (h : ∀ w', PT w' w.heap.size T cs → Below w.heap.size w w' → w'.heap.size = w.heap.size + 1 → LW P n ops Q os ((d, .slice (some ⟨w.heap.size, 0, none⟩) m m) :: l) w') :
    LW P n ops Q (⟨some d, .buildSlice S m ps.toArray, ty, pos, af, none⟩ :: os) l w := by
  subst hcs
  have hlen : vs.length = m := by
    have h2 : ∀ (xs : List Operand) (us : List Value), evs l xs = some us → us.length = xs.length := by
      intro xs
      induction xs with
      | nil => intro us e; simp only [evs, Option.some.injEq] at e; subst e; rfl
      | cons x r ih =>
        intro us e
        simp only [evs] at e
        cases hx : ev l x with
        | none => rw [hx] at e; cases e
        | some a =>
          cases hr : evs l r with
          | none => rw [hx, hr] at e; cases e
          | some b => rw [hx, hr] at e; simp only [Option.some.injEq] at e; subst e; simp [ih b hr]
    rw [h2 _ _ hvs, List.length_map, ← List.length_map (f := (·.1)), hps, List.length_range]
  have e : (List.range m).zip vs = (vs.zipIdx 0).map fun x => (x.2, x.1) := by
    refine List.ext_getElem? fun i => ?_
    rw [List.getElem?_map, List.getElem?_zipIdx]
    by_cases hi : i < m
    · rw [List.getElem?_eq_getElem (by simp; omega), List.getElem_zip, List.getElem?_eq_getElem (by omega)]; simp
    · rw [List.getElem?_eq_none (by simp; omega), List.getElem?_eq_none (by omega)]; rfl
  refine lw_eff hd (ev_buildSlice hps hvs (e := T) (cells := (vs.flatMap fun v => v.cells.toList).toArray) (fun w => ?_)) (h _ (by simpa using PT.new w (vs.flatMap fun v => v.cells.toList).toArray T) (below_alloc _ _) (by simp))
  rw [e]; exact run_bs E vs hlen h1 hs hp w
/-- one element -/
theorem lw_bs1 (E : ElemT P S T k nb) (hd : Nat.blt d n = true) (hx : ev l x = some v) {cs : List Value} (hcs : v.cells.toList = cs) (hk : cs.length = k) (hs : k ≤ 16777216)
    (h : ∀ w', PT w' w.heap.size T cs → Below w.heap.size w w' → w'.heap.size = w.heap.size + 1 → LW P n ops Q os ((d, .slice (some ⟨w.heap.size, 0, none⟩) 1 1) :: l) w') :
    LW P n ops Q (⟨some d, .buildSlice S 1 #[(0, x)], ty, pos, af, none⟩ :: os) l w :=
  lw_bs (ps := [(0, x)]) (vs := [v]) E hd rfl (by simp [evs, hx]) (by omega) (by omega) (by simpa using hcs) (by intro u hu; rw [List.mem_singleton] at hu; subst hu; rw [← hk, ← hcs]; simp) h
/-- a list of one's own grows -/
theorem lw_app (E : ElemT P S T k nb) (hk : ∀ x, (enc x).length = k) (h1c : ∀ x, ∀ v ∈ enc x, v.oneCell' = true) {base : Nat} {xs ys : List α} {a : Option Addr} {m c : Nat} (hd : Nat.blt d n = true) (hx : ev l x = some v) (hy : ev l y = some (.slice a m c)) (ho : Own enc k T base w v xs) (hs : SlR enc k w a c ys) (hm : m = ys.length) (hb : base ≤ w.heap.size)
    (hsz : (xs.length + ys.length) * nb ≤ 140737488355328) (hmx : xs.length + ys.length ≤ maxLen) (h : ∀ v' w', Own enc k T base w' v' (xs ++ ys) → w.grownBy w' v.ownBlock → Below base w w' → LW P n ops Q os ((d, v') :: l) w') :
    LW P n ops Q (⟨some d, .call ⟨.builtin .append, #[x, y], #[S, S]⟩, ty, pos, af, none⟩ :: os) l w := by
  subst hm
  refine lw_some (Φ := fun v' w' => Own enc k T base w' v' (xs ++ ys) ∧ w.grownBy w' v.ownBlock) hd (some_append hx hy (app_own E hk h1c ty ho hs hb hsz hmx)) fun v' w' hp => h v' w' hp.1 hp.2 ?_
  exact (Below.refl _ _).grown hp.2 hb (fun q hq => (Own.lt ho q hq).1)
/-- one that is full is copied -/
theorem lw_appf (E : ElemT P S T k nb) (hk : ∀ x, (enc x).length = k) (h1c : ∀ x, ∀ v ∈ enc x, v.oneCell' = true) {xs ys : List α} {a a' : Option Addr} {m c m' c' : Nat} (hd : Nat.blt d n = true) (hx : ev l x = some (.slice a' m' c')) (hy : ev l y = some (.slice a m c)) (ho : SlR enc k w a' c' xs) (hs : SlR enc k w a c ys) (hm' : m' = xs.length) (hm : m = ys.length) (hf : c' < xs.length + ys.length)
    (hsz : (xs.length + ys.length) * nb ≤ 140737488355328) (hmx : xs.length + ys.length ≤ maxLen) (h : ∀ v' w', Own enc k T w.heap.size w' v' (xs ++ ys) → Below w.heap.size w w' → LW P n ops Q os ((d, v') :: l) w') :
    LW P n ops Q (⟨some d, .call ⟨.builtin .append, #[x, y], #[S, S]⟩, ty, pos, af, none⟩ :: os) l w := by
  subst hm hm'
  refine lw_some (Φ := fun v' w' => Own enc k T w.heap.size w' v' (xs ++ ys) ∧ w.grownBy w' none) hd (some_append hx hy (app_full E hk h1c ty ho hs hf hsz hmx)) fun v' w' hp => h v' w' hp.1 ?_
  exact (Below.refl _ _).grown hp.2 (Nat.le_refl _) (by intro q hq; cases hq)
end
section
variable {α β : Type} {enc : α → List Value} {k nb : Nat} {P : Program} {n : Nat} {l : Fr} {w : World} {Q : Exit → Act → World → Prop} {ops : Array Oper} {os : List Oper} {d : Nat} {ty : TypeId} {pos : String} {af : Array Edge} {S T : TypeId}
/-- two lists of one's own, the second made behind the first -/
theorem own_ne {enc' : β → List Value} {k' : Nat} {T' : TypeId} {B : Nat} {w w' : World} {v v' : Value} {xs : List α} {ys : List β} (h : Own enc k T B w v xs) (h' : Own enc' k' T' w.heap.size w' v' ys) : v'.ownBlock = none ∨ v'.ownBlock ≠ v.ownBlock := by
  cases hv : v'.ownBlock with
  | none => exact Or.inl rfl
  | some q =>
    refine Or.inr fun e => ?_
    have h1 := (h'.lt q hv).1
    have h2 := (h.lt q e.symm).2
    omega
theorem own_ne' {enc' : β → List Value} {k' : Nat} {T' : TypeId} {B : Nat} {w w' : World} {v v' : Value} {xs : List α} {ys : List β} (h : Own enc k T B w v xs) (h' : Own enc' k' T' w.heap.size w' v' ys) : v.ownBlock = none ∨ v.ownBlock ≠ v'.ownBlock := by
  rcases own_ne h h' with e | e
  · cases hv : v.ownBlock with
    | none => exact Or.inl rfl
    | some q => exact Or.inr (by rw [e]; simp)
  · exact Or.inr fun e2 => e e2.symm
theorem Own.empty0 {α : Type} (enc : α → List Value) (k : Nat) (T : TypeId) (w : World) (base : Nat) (hb : base ≤ w.heap.size) : Own enc k T base (w.alloc (.cells #[] T)) (.slice (some ⟨w.heap.size, 0, none⟩) 0 0) ([] : List α) :=
  ⟨by simp, Or.inr ⟨w.heap.size, 0, #[], rfl, hb, heap_alloc_new w _, Nat.le_refl _, by simp, by simp, by simp⟩⟩
theorem own_ge {X W w w' : World} {v : Value} {xs : List α} (hX : Ext X W) (hw : W.heap.size ≤ w.heap.size) (h : Own enc k T w.heap.size w' v xs) : ∀ q, v.ownBlock = some q → X.heap.size ≤ q := fun q hq => Nat.le_trans hX.b.size (Nat.le_trans hw (h.lt q hq).1)
/-- []T{} -/
theorem lw_bs0 (E : ElemT P S T k nb) (hd : Nat.blt d n = true) (h : ∀ w', Own enc k T w.heap.size w' (.slice (some ⟨w.heap.size, 0, none⟩) 0 0) ([] : List α) → Below w.heap.size w w' → w'.heap.size = w.heap.size + 1 → LW P n ops Q os ((d, .slice (some ⟨w.heap.size, 0, none⟩) 0 0) :: l) w') :
    LW P n ops Q (⟨some d, .buildSlice S 0 #[], ty, pos, af, none⟩ :: os) l w := by
  obtain ⟨i, z, hi, hz, hsz, _, hzs⟩ := E.info
  refine lw_eff hd (w' := w.alloc (.cells #[] T)) ⟨fun A hA => ?_⟩ (h _ ?_ (below_alloc _ _) (by simp))
  · have e0 : Array.range 0 = #[] := Array.eq_empty_of_size_eq_zero (by simp)
    simp [execOp, Instr.buildSlice, run_underlying E.sl, sizeOf, typeInfo, hi, Instr.fill, newRow, e0]
  · exact Own.empty0 enc k T w _ (Nat.le_refl _)
end
theorem st_hw {W w w' : World} {N : Nat} (hw : Below W.heap.size W w) (hg : w.grownBy w' (some N)) (hN : W.heap.size ≤ N) : Below W.heap.size W w' := hw.grown hg hw.size (by intro q hq; injection hq with hq; omega)
section
variable {k nb : Nat} {P : Program} {n : Nat} {l : Fr} {w : World} {d : Option Nat} {ty : TypeId} {pos : String} {af : Array Edge} {g : Option (Nat × Bool)} {S T : TypeId} {Z : Value → World → Prop}
/-- a slice that is built, where it comes up -/
theorem act_bs (E : ElemT P S T k nb) {m : Nat} {ps : List (Nat × Operand)} {vs cs : List Value} (hps : ps.map (·.1) = List.range m) (hvs : evs l (ps.map (·.2)) = some vs) (hp : 0 < m) (hs : m * k ≤ 16777216) (hcs : (vs.flatMap fun v => v.cells.toList) = cs) (h1 : ∀ v ∈ vs, v.cells.size = k)
    (h : ∀ w', PT w' w.heap.size T cs → Below w.heap.size w w' → Z (.slice (some ⟨w.heap.size, 0, none⟩) m m) w') : Act1 P n l ⟨d, .buildSlice S m ps.toArray, ty, pos, af, g⟩ w Z := by
  subst hcs
  have hlen : vs.length = m := by
    have h2 : ∀ (xs : List Operand) (us : List Value), evs l xs = some us → us.length = xs.length := by
      intro xs
      induction xs with
      | nil => intro us e; simp only [evs, Option.some.injEq] at e; subst e; rfl
      | cons x r ih =>
        intro us e
        simp only [evs] at e
        cases hx : ev l x with
        | none => rw [hx] at e; cases e
        | some a =>
          cases hr : evs l r with
          | none => rw [hx, hr] at e; cases e
          | some b => rw [hx, hr] at e; simp only [Option.some.injEq] at e; subst e; simp [ih b hr]
    rw [h2 _ _ hvs, List.length_map, ← List.length_map (f := (·.1)), hps, List.length_range]
  have e : (List.range m).zip vs = (vs.zipIdx 0).map fun x => (x.2, x.1) := by
    refine List.ext_getElem? fun i => ?_
    rw [List.getElem?_map, List.getElem?_zipIdx]
    by_cases hi : i < m
    · rw [List.getElem?_eq_getElem (by simp; omega), List.getElem_zip, List.getElem?_eq_getElem (by omega)]; simp
    · rw [List.getElem?_eq_none (by simp; omega), List.getElem?_eq_none (by omega)]; rfl
  refine act_ev (ev_buildSlice hps hvs (e := T) (cells := (vs.flatMap fun v => v.cells.toList).toArray) (fun w => ?_)) (h _ (by simpa using PT.new w (vs.flatMap fun v => v.cells.toList).toArray T) (below_alloc _ _))
  rw [e]; exact run_bs E vs hlen h1 hs hp w
end
end Go.Proofs.Ytchalebenpmnpaa
