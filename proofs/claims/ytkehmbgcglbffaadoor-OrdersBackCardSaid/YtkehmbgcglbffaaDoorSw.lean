/-
  More laws of the walker: a part of a block is loaded. Conditions: none.
-/
import Derived.Test.YtkehmbgcglbffaaDoorTy
import Derived.Laws.Externs
import Derived.Laws.Bits128
namespace Go.Proofs.YtkehmbgcglbffaaDoor
open Go.RowKit
theorem PT.ldp {w : World} {N : Nat} {T : TypeId} {cs : List Value} (h : PT w N T cs) {o m : Nat} : ∀ i u, ((cs.drop o).take m)[i]? = some u → w.cell? ⟨N, o + i, none⟩ = some u := fun i u hu => h.ld (by
  rw [List.getElem?_take] at hu
  split at hu
  · rwa [List.getElem?_drop] at hu
  · cases hu)
theorem pv_loadp {P : Program} {n : Nat} {l : Fr} {w : World} {d : Option Nat} {t ty : TypeId} {x : Operand} {pos : String} {af : Array Edge} {g : Option (Nat × Bool)} {B o m : Nat} {cs ds : List Value} (ht : aggB P t m = true) (hx : ev l x = some (.pointer (some ⟨B, o, none⟩))) (hc : ∀ i u, ((cs.drop o).take m)[i]? = some u → w.cell? ⟨B, o + i, none⟩ = some u) (hd : (cs.drop o).take m = ds) (hm : ds.length = m) : Pv P n l ⟨d, .load t x, ty, pos, af, g⟩ (.agg ds.toArray) w := pv_loada ht hx (hd ▸ hc) hm
/-- a function that the model stands in for -/
theorem pv_ext {P : Program} {n : Nat} {l : Fr} {w : World} {d : Option Nat} {ty : TypeId} {pos : String} {af : Array Edge} {g : Option (Nat × Bool)} {f : FuncId} {args : List Operand} {ts : Array TypeId} {vs : List Value} {v : Value} (hvs : evs l args = some vs) (hrun : (callFunc f vs.toArray).run P w = .ok (.value v) w) : Pv P n l ⟨d, .call ⟨.value (.func f), args.toArray, ts⟩, ty, pos, af, g⟩ v w := ⟨fun A hA => by
  have h := hA.evs hvs
  simp [execOp, resolve, Act.eval, Deferred.ofValue, invoke, h, hrun]⟩
theorem lw_allocN {P : Program} {n : Nat} {l : Fr} {w : World} {d : Nat} {t ty : TypeId} {pos : String} {af : Array Edge} {Q : Exit → Act → World → Prop} {ops : Array Oper} {os : List Oper} {z : Value} (hd : Nat.blt d n = true) (hz : ∀ w, (zeroValue t).run P w = .ok z w) {cs : List Value} (hcs : z.cells.toList = cs) (h : ∀ N w', w.heap.size ≤ N → PT w' N t cs → Below w.heap.size w w' → LW P n ops Q os ((d, .pointer (some ⟨N, 0, none⟩)) :: l) w') :
    LW P n ops Q (⟨some d, .alloc t, ty, pos, af, none⟩ :: os) l w := lw_alloc hd hz fun w' hp hb _ => h _ w' (Nat.le_refl _) (hcs ▸ hp) hb
theorem pv_shl {P : Program} {n : Nat} {l : Fr} {w : World} {d : Option Nat} {t t' ty : TypeId} {x y : Operand} {pos : String} {af : Array Edge} {g : Option (Nat × Bool)} {k k' : IntKind} {a b : Int} (hx : ev l x = some (.int k a)) (hy : ev l y = some (.int k' b)) (hb : 0 ≤ b) : Pv P n l ⟨d, .binOp .shl t x y t', ty, pos, af, g⟩ (.int k (k.wrap (a * 2 ^ (min b.toNat k.bits)))) w := ⟨fun A hA => by
  simp [execOp, hA.ev hx, hA.ev hy, eqGuard, binOp, Op.shift, Int.not_lt.2 hb]⟩
theorem i64_and32 (n : Int) : bits .and .i64 n 4294967295 = n % 4294967296 := by
  have h127 : (BitVec.ofInt 64 4294967295).toNat = 2 ^ 32 - 1 := by decide
  have key : (BitVec.ofInt 64 n &&& BitVec.ofInt 64 4294967295).toNat = (n % ((2 ^ 64 : Nat) : Int)).toNat % 2 ^ 32 := by
    rw [BitVec.toNat_and, BitVec.toNat_ofInt, h127, Nat.and_two_pow_sub_one_eq_mod]
  show IntKind.i64.wrap ((BitVec.ofInt 64 n &&& BitVec.ofInt 64 4294967295).toNat : Nat) = n % 4294967296
  rw [key, IntKind.wrap_i64]
  omega
theorem pv_and32 {P : Program} {n : Nat} {l : Fr} {w : World} {d : Option Nat} {t t' ty : TypeId} {x y : Operand} {pos : String} {af : Array Edge} {g : Option (Nat × Bool)} {a : Int} (hx : ev l x = some (.int .i64 a)) (hy : ev l y = some (.int .i64 4294967295)) : Pv P n l ⟨d, .binOp .and t x y t', ty, pos, af, g⟩ (.int .i64 (a % 4294967296)) w := ⟨fun A hA => by
  have h : (Op.intBits .and .i64 a 4294967295 : Sem Value) = pure (.int .i64 (a % 4294967296)) := by rw [← i64_and32 a]; rfl
  simp [execOp, hA.ev hx, hA.ev hy, eqGuard, binOp, h]⟩
theorem act_app {P : Program} {n : Nat} {l : Fr} {w : World} {d : Option Nat} {ty S T : TypeId} {x y : Operand} {pos : String} {af : Array Edge} {g : Option (Nat × Bool)} {v : Value} {k nb : Nat} {α : Type} {enc : α → List Value} {Z : Value → World → Prop} (E : ElemT P S T k nb) (hk : ∀ x, (enc x).length = k) (h1c : ∀ x, ∀ v ∈ enc x, v.oneCell' = true) {base : Nat} {xs ys : List α} {a : Option Addr} {m c : Nat} (hx : ev l x = some v) (hy : ev l y = some (.slice a m c)) (ho : Own enc k T base w v xs) (hs : SlR enc k w a c ys) (hm : m = ys.length) (hb : base ≤ w.heap.size)
    (hsz : (xs.length + ys.length) * nb ≤ 140737488355328) (hmx : xs.length + ys.length ≤ maxLen) (h : ∀ v' w', Own enc k T base w' v' (xs ++ ys) → w.grownBy w' v.ownBlock → Below base w w' → Z v' w') : Act1 P n l ⟨d, .call ⟨.builtin .append, #[x, y], #[S, S]⟩, ty, pos, af, g⟩ w Z := by
  subst hm
  refine act_some (Φ := fun v' w' => Own enc k T base w' v' (xs ++ ys) ∧ w.grownBy w' v.ownBlock) (some_append hx hy (app_own E hk h1c ty ho hs hb hsz hmx)) fun v' w' hp => h v' w' hp.1 hp.2 ?_
  exact (Below.refl _ _).grown hp.2 hb (fun q hq => (Own.lt ho q hq).1)

section
variable {P : Program} {n : Nat} {l : Fr} {w : World} {Q : Exit → Act → World → Prop} {ops : Array Oper} {S : World → Prop} {fuel : Nat} {listed : Array Bool}
/-- in a region that draws: guarded by a test: both ways -/
theorem aw_gs (i : Nat) {d : Nat} {op : Op} {ty : TypeId} {pos : String} {af : Array Edge} {v : Value} {g t : Nat} {b c : Bool} (ho : ops[i]? = some ⟨some d, op, ty, pos, af, some (g, b)⟩) (hg : (ops[g]?).bind (·.dst) = some t) (ht : look l t = some (.bool c))
    (hs : Region.noSelect ops = true) (hf : Region.free .any ops listed i = true) (hr : (Region.ready .any ops listed).contains i = true) (hQ : NoPanic Q) (hS : S w) (hd : Nat.blt d n = true)
    (hv : c = b → ∀ w, S w → Pv P n l ⟨some d, op, ty, pos, af, some (g, b)⟩ v w) (h1 : c = b → AW P n ops Q S fuel (listed.setIfInBounds i true) ((d, v) :: l) w) (h2 : c = !b → AW P n ops Q S fuel (listed.setIfInBounds i true) ((d, undef) :: l) w) : AW P n ops Q S (fuel + 1) listed l w := by
  rcases (show c = b ∨ c = !b by cases c <;> cases b <;> simp) with h | h
  · exact aw_take_on i ho hg ht h hs hf hr hQ hS hd (hv h) (h1 h)
  · exact aw_not i ho hg ht h hs hf hr hQ hS hd (h2 h)
/-- one that acts, behind a guard -/
theorem aw_act_g (i : Nat) {d : Option Nat} {op : Op} {ty : TypeId} {pos : String} {af : Array Edge} {g t : Nat} {b c : Bool} (hr : Region.ready .any ops listed = [i]) (ho : ops[i]? = some ⟨d, op, ty, pos, af, some (g, b)⟩) (hg : (ops[g]?).bind (·.dst) = some t) (ht : look l t = some (.bool c)) (hc : c = b) (hd : inD d n = true)
    (h : Act1 P n l ⟨d, op, ty, pos, af, some (g, b)⟩ w fun v w' => S w' ∧ (S w' → AW P n ops Q S fuel (listed.setIfInBounds i true) (putD d v l) w')) : AW P n ops Q S (fuel + 1) listed l w :=
  aw_act i hr ho (by simp only [guardOn, hg, ht, hc]; simp) hd h
end
end Go.Proofs.YtkehmbgcglbffaaDoor
