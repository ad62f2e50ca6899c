/-
  A region that draws its order, all but whose last operation yield in whatever order, as long as memory is what it was: its last one (f) may write what the others read. Conditions: what each law names.
-/
import Derived.Test.YtkehmbgcglbffaaDoorSl
namespace Go.Proofs.YtkehmbgcglbffaaDoor
open Go.RowKit

section
variable {P : Program} {ops : Array Oper} {Q : Exit → Act → World → Prop} {md : Region.Mode} {U : World → Prop} {f : Nat}
/-- whatever order is picked from here on, and U holds as long as f did not come up -/
def wpAnyF (P : Program) (md : Region.Mode) (ops : Array Oper) (Q : Exit → Act → World → Prop) (f : Nat) (U : World → Prop) : Nat → Array Bool → Act → World → Prop
  | 0, listed, a, w => Region.ready md ops listed = [] ∧ Q .normal a w
  | fuel + 1, listed, a, w =>
    (Region.ready md ops listed = [] → Q .normal a w) ∧
    ∀ i ∈ Region.ready md ops listed, wpOp P ops Q i (fun a' w' => ((listed.setIfInBounds i true).getD f true = false → U w') ∧ wpAnyF P md ops Q f U fuel (listed.setIfInBounds i true) a' w') a w
theorem wpAny_of_F : ∀ (fuel : Nat) (listed : Array Bool) (a : Act) (w : World), wpAnyF P md ops Q f U fuel listed a w → wpAny P md ops Q fuel listed a w
  | 0, _, _, _, h => h
  | fuel + 1, _, _, _, h => ⟨h.1, fun i hi => wpOp_mono (fun a' w' h' => wpAny_of_F fuel _ a' w' h'.2) (h.2 i hi)⟩
theorem wpAnyF_first {i : Nat} {oi : Oper} {v : Value} (hif : i ≠ f) (hwait : ∃ o, ops[f]? = some o ∧ ∃ e ∈ o.after, Region.binds md e = true ∧ e.on = i) (hi : ops[i]? = some oi) (hsel : ∀ (j : Nat) (o : Oper) cs b, ops[j]? = some o → o.op ≠ .select cs b)
    (hQ : ∀ c a w, Q (.panic c) (a.put oi.dst v) w → Q (.panic c) a w) :
    ∀ (fuel : Nat) (listed : Array Bool) (a : Act) (w : World),
      (∀ j oj, ops[j]? = some oj → j ≠ i → listed.getD j true = false → (∀ e ∈ oj.after, Region.binds md e = true → e.on ≠ i) → oi.apart ops oj = true) →
      i ∈ Region.ready md ops listed → listed.getD f true = false → YieldsIf P ops U oi v a → U w →
      wpAnyF P md ops Q f U fuel (listed.setIfInBounds i true) (a.put oi.dst v) w → wpAnyF P md ops Q f U (fuel + 1) listed a w := by
  intro fuel
  induction fuel with
  | zero =>
    intro listed a w _ hr _ hy hS H
    refine ⟨fun h => (by rw [h] at hr; cases hr), fun j hj => ?_⟩
    by_cases hji : j = i
    · subst hji; exact hy.wpOp hi hS ⟨fun _ => hS, H⟩
    · have := ready_mono hj hji
      rw [H.1] at this
      cases this
  | succ fuel ih =>
    intro listed a w hfree hr hf hy hS H
    refine ⟨fun h => (by rw [h] at hr; cases hr), fun j hj => ?_⟩
    by_cases hji : j = i
    · subst hji; exact hy.wpOp hi hS ⟨fun _ => hS, H⟩
    · have h1 := H.2 j (ready_mono hj hji)
      obtain ⟨hjun, oj, hoj, hall⟩ := mem_ready.1 hj
      have hun : ∀ e ∈ oj.after, Region.binds md e = true → e.on ≠ i := fun e he hb heq => by
        have h1 := hall e he hb
        have h0 := (mem_ready.1 hr).1
        rw [heq] at h1
        rcases Nat.lt_or_ge i listed.size with h' | h'
        · simp [h'] at h0 h1; rw [h0] at h1; cases h1
        · simp [Array.getElem?_eq_none h'] at h1
      have hjf : j ≠ f := fun e => by
        subst e
        obtain ⟨o, ho, e, he, hb, heq⟩ := hwait
        rw [hoj] at ho; injection ho with ho; subst ho
        exact hun e he hb heq
      have h2 := wpOp_putIf hoj (hfree j oj hoj hji hjun hun) (fun cs b => hsel i oi cs b hi) (fun cs b => hsel j oj cs b hoj) hQ hy h1
      have hfree' : ∀ k ok, ops[k]? = some ok → k ≠ i → (listed.setIfInBounds j true).getD k true = false →
          (∀ e ∈ ok.after, Region.binds md e = true → e.on ≠ i) → oi.apart ops ok = true := fun k ok hk hki hun hno => by
        refine hfree k ok hk hki ?_ hno
        by_cases hjk : j = k
        · subst hjk; exact hjun
        · rw [getD_set_ne true hjk] at hun; exact hun
      refine wpOp_mono (fun a' w' h3 => ?_) h2
      have hU' : U w' := h3.2.1 (by rw [getD_set_ne true hjf, getD_set_ne true hif]; exact hf)
      refine ⟨fun _ => hU', ih (listed.setIfInBounds j true) a' w' hfree' (ready_mono hr (Ne.symm hji)) (by rw [getD_set_ne true hjf]; exact hf) h3.1 hU' ?_⟩
      rw [Array.setIfInBounds_comm _ _ hji]
      exact h3.2.2
end
/-- closed: f waits for i -/
def waits (ops : Array Oper) (f i : Nat) : Bool := match ops[f]? with
  | some o => o.after.toList.any fun e => Region.binds .any e && Nat.beq e.on i
  | none => false
theorem waits_of {ops : Array Oper} {f i : Nat} (h : waits ops f i = true) : ∃ o, ops[f]? = some o ∧ ∃ e ∈ o.after, Region.binds .any e = true ∧ e.on = i := by
  unfold waits at h
  cases ho : ops[f]? with
  | none => rw [ho] at h; cases h
  | some o =>
    rw [ho] at h
    rw [List.any_eq_true] at h
    obtain ⟨e, he, h2⟩ := h
    rw [Bool.and_eq_true] at h2
    exact ⟨o, rfl, e, by simpa using he, h2.1, Nat.eq_of_beq_eq_true h2.2⟩
section
variable {n : Nat} {l : Fr} {P : Program} {w : World} {Q : Exit → Act → World → Prop} {ops : Array Oper} {U : World → Prop} {fuel : Nat} {listed : Array Bool} {f : Nat}
structure FW (P : Program) (n : Nat) (ops : Array Oper) (Q : Exit → Act → World → Prop) (f : Nat) (U : World → Prop) (fuel : Nat) (listed : Array Bool) (l : Fr) (w : World) : Prop where
  out : ∀ a, Holds n l a → wpAnyF P .any ops Q f U fuel listed a w
theorem cw_drawnF {i : Nat} {ops : Array Oper} (f : Nat) (U : World → Prop) (hm : P.follows .mixedOrders = true) (hQ : NoPanic Q) (h : NoPanic Q → FW P n ops Q f U ops.size (Array.replicate ops.size false) l w.drew) : CW P n (.region i ops true) Q l w :=
  ⟨fun a ha => wp_region_any hm (wpAny_of_F _ _ _ _ ((h hQ).out a ha))⟩
theorem fw_take (i : Nat) {d : Nat} {op : Op} {ty : TypeId} {pos : String} {af : Array Edge} {v : Value} (ho : ops[i]? = some ⟨some d, op, ty, pos, af, none⟩) (hwt : waits ops f i = true) (hif : Nat.beq i f = false) (hfl : listed.getD f true = false)
    (hs : Region.noSelect ops = true) (hf : Region.free .any ops listed i = true) (hr : (Region.ready .any ops listed).contains i = true) (hQ : NoPanic Q) (hU : U w) (hd : Nat.blt d n = true)
    (hv : ∀ w, U w → Pv P n l ⟨some d, op, ty, pos, af, none⟩ v w) (h : FW P n ops Q f U fuel (listed.setIfInBounds i true) ((d, v) :: l) w) : FW P n ops Q f U (fuel + 1) listed l w := ⟨fun a ha =>
  wpAnyF_first (fun e => by subst e; simp at hif) (waits_of hwt) ho (Region.noSelect_spec hs) (fun c a w => hQ c _ v a w) fuel listed a w (Region.free_spec ho hf) (by simpa using hr) hfl (Or.inl ⟨rfl, fun w hw => (hv w hw).out a ha⟩) hU (h.out _ (ha.put hd v))⟩
/-- .. and f itself, last -/
theorem fw_last {o : Oper} (hr : Region.ready .any ops listed = [f]) (ho : ops[f]? = some o) (hg : guardOn ops l o.guard = true) (hd : inD o.dst n = true) (hfs : (listed.setIfInBounds f true).getD f true = true) (he : Region.ready .any ops (listed.setIfInBounds f true) = [])
    (h : Act1 P n l o w fun v w' => QW n Q .normal (putD o.dst v l) w') : FW P n ops Q f U (fuel + 1) listed l w := ⟨fun a ha => by
  refine ⟨fun h0 => (by rw [hr] at h0; cases h0), fun j hj => ?_⟩
  rw [hr, List.mem_singleton] at hj; subst hj
  unfold wpOp; rw [ho]
  dsimp only
  rw [if_pos (wanted_of ha hg)]
  refine Or.inl (h.out a ha _ _ fun v w' hZ => ⟨fun hf => (by rw [hfs] at hf; cases hf), ?_⟩)
  have hq := hZ.out _ (ha.putD hd v)
  cases fuel with
  | zero => exact ⟨he, hq⟩
  | succ m => exact ⟨fun _ => hq, by rw [he]; simp⟩⟩
/-- a store, where it comes up -/
theorem act_store {T t : TypeId} {N i : Nat} {cs : List Value} {v : Value} {x y : Operand} {ty : TypeId} {pos : String} {af : Array Edge} {g : Option (Nat × Bool)} {d : Option Nat} {Z : Value → World → Prop} (hp : PT w N T cs) (ht : sizeB P t 1 = true) (hx : ev l x = some (.pointer (some ⟨N, i, none⟩))) (hy : ev l y = some v) (h1 : v.oneCell' = true) (hi : i < cs.length) (h : ∀ w', PT w' N T (cs.set i v) → w.grownBy w' (some N) → w'.heap.size = w.heap.size → Z undef w') : Act1 P n l ⟨d, .store t x y, ty, pos, af, g⟩ w Z := by
  obtain ⟨w', a, b, c, e⟩ := sv_store (d := d) (ty := ty) (pos := pos) (af := af) (g := g) (P := P) (n := n) hp ht hx hy h1 hi
  exact act_sv a (h w' b c e)
/-- .. of a struct, into a variable that is all that struct -/
theorem act_storea {T t : TypeId} {N m : Nat} {cs vs : List Value} {x y : Operand} {ty : TypeId} {pos : String} {af : Array Edge} {g : Option (Nat × Bool)} {d : Option Nat} {Z : Value → World → Prop} (hp : PT w N T cs) (ht : sizeB P t m = true) (hx : ev l x = some (.pointer (some ⟨N, 0, none⟩))) (hy : ev l y = some (.agg vs.toArray)) (hm : vs.length = m) (hc : cs.length = m) (h1 : ∀ v ∈ vs, v.oneCell' = true) (h : ∀ w', PT w' N T vs → w.grownBy w' (some N) → w'.heap.size = w.heap.size → Z undef w') : Act1 P n l ⟨d, .store t x y, ty, pos, af, g⟩ w Z := by
  obtain ⟨w', a, b, c, e⟩ := sv_storea (d := d) (ty := ty) (pos := pos) (af := af) (g := g) (P := P) (n := n) (i := 0) hp ht hx hy hm h1 (by omega)
  refine act_sv a (h w' ?_ c e)
  have e1 : cs.take 0 ++ vs ++ cs.drop (0 + m) = vs := by rw [List.drop_of_length_le (by omega)]; simp
  rwa [e1] at b
end
/-- a variable, where it comes up -/
theorem act_alloc {P : Program} {n : Nat} {l : Fr} {w : World} {d : Option Nat} {t ty : TypeId} {pos : String} {af : Array Edge} {g : Option (Nat × Bool)} {z : Value} {Z : Value → World → Prop} (hz : ∀ w, (zeroValue t).run P w = .ok z w) {cs : List Value} (hcs : z.cells.toList = cs) (h : ∀ N w', w.heap.size ≤ N → PT w' N t cs → Below w.heap.size w w' → Z (.pointer (some ⟨N, 0, none⟩)) w') : Act1 P n l ⟨d, .alloc t, ty, pos, af, g⟩ w Z := by
  refine act_ev (ev_alloc hz) (h _ _ (Nat.le_refl _) (hcs ▸ PT.new w _ _) (below_alloc _ _))
end Go.Proofs.YtkehmbgcglbffaaDoor
