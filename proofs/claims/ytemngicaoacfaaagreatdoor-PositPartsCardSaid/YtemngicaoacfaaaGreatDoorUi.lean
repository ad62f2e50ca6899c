/-
  copy between lists of elements of k cells, as a step; a block whose cells are known; slices.overlaps at two blocks. Conditions: what each law names.
  A region that draws its order, one operation of which (f) writes what others have read: it waits for them, through others too; what comes behind it. Conditions: what each law names.
  Contracts of money's Cap and Mul, and of bits.Mul64 at small numbers. Conditions: those that each theorem names.
  An element put into a list of one's own (slices.Insert), laws of its steps: cap, append of zeros, copy, overlaps. Conditions: what each law names.
-/
import Derived.Test.YtemngicaoacfaaaGreatDoorDl
import Derived.Laws.CopyOwn
import Derived.Lib.Overlaps
import Derived.Test.YtemngicaoacfaaaGreatDoorFw
import Derived.Test.YtemngicaoacfaaaGreatDoorUe
import Derived.Lib.AppendZerosOnto
namespace Go.Proofs.YtemngicaoacfaaaGreatDoor
open Go.RowKit Go.PlainAid

theorem run_copy_k (P : Program) (w : World) (dT sT ty elem : TypeId) {k : Nat} (g o dLen dCap : Nat) (a : Addr) (sLen sCap : Nat) (cur : Array Value) (t : TypeId) (cs : List Value)
    (hu : P.underlying dT = some (.slice elem)) (hs : (P.info? elem).map (·.size) = some k)
    (hg : w.heap[g]? = some (.cells cur t (0, 0))) (hn : cs.length = Nat.min sLen dLen * k)
    (hsrc : ∀ j v, cs[j]? = some v → w.cell? (a.add j) = some v) (hfit : o + cs.length ≤ cur.size) (h1 : ∀ v ∈ cs, v.oneCell' = true) :
    (Builtin.copy_ #[dT, sT] ty #[.slice (some ⟨g, o, none⟩) dLen dCap, .slice (some a) sLen sCap]).run P w =
      .ok (goInt (Nat.min sLen dLen)) (w.setRow g (cur.toList.take o ++ cs ++ cur.toList.drop (o + cs.length)).toArray) := by
  have hl := run_loadCells_list (P := P) w a cs hsrc
  have hst := run_storeCells_at P g o t cs 0 cur w hg (by simpa using hfit) h1
  cases hq : P.info? elem with
  | none => simp [hq] at hs
  | some i =>
    have hi : i.size = k := by simpa [hq] using hs
    simp [Builtin.copy_, run_underlying hu, Builtin.lenOf, Builtin.firstCells, sizeOf, typeInfo, hq, hi, ← hn, hl, hst]
theorem run_copy_zero (P : Program) (w : World) (dT sT ty elem : TypeId) {k : Nat} (d a : Option Addr) (dLen dCap sLen sCap : Nat) (hu : P.underlying dT = some (.slice elem)) (hs : (P.info? elem).map (·.size) = some k) (hn : Nat.min sLen dLen = 0) :
    (Builtin.copy_ #[dT, sT] ty #[.slice d dLen dCap, .slice a sLen sCap]).run P w = .ok (goInt 0) w := by
  cases hq : P.info? elem with
  | none => simp [hq] at hs
  | some i =>
    have hl0 : ∀ ad : Addr, (loadCells ad 0).run P w = .ok #[] w := fun ad => run_loadCells_list (P := P) w ad [] (by simp)
    cases a with
    | none => cases d <;> simp [Builtin.copy_, run_underlying hu, Builtin.lenOf, Builtin.firstCells, sizeOf, typeInfo, hq, hn, storeCells]
    | some a => cases d <;> simp [Builtin.copy_, run_underlying hu, Builtin.lenOf, Builtin.firstCells, sizeOf, typeInfo, hq, hn, storeCells, hl0]
theorem copy_some {P : Program} {w : World} {dT sT ty elem : TypeId} {k : Nat} (hu : P.underlying dT = some (.slice elem)) (hs : (P.info? elem).map (·.size) = some k) (_hk : 0 < k) {dp sp : Option Addr} {dLen dCap sLen sCap g off : Nat} {cur cs : List Value} {t : TypeId} (hg : w.heap[g]? = some (.cells cur.toArray t (0, 0))) (hn : cs.length = Nat.min sLen dLen * k)
    (hpos : 0 < Nat.min sLen dLen → dp = some ⟨g, off, none⟩ ∧ ∃ ad, sp = some ad ∧ ∀ j v, cs[j]? = some v → w.cell? (ad.add j) = some v) (hfit : off + cs.length ≤ cur.length) (h1 : ∀ v ∈ cs, v.oneCell' = true) :
    ∃ v w', (Builtin.copy_ #[dT, sT] ty #[.slice dp dLen dCap, .slice sp sLen sCap]).run P w = .ok v w' ∧ w'.heap[g]? = some (.cells (splice cur off cs).toArray t (0, 0)) ∧ w.grownBy w' (some g) := by
  by_cases h0 : Nat.min sLen dLen = 0
  · have hc : cs = [] := List.eq_nil_of_length_eq_zero (by rw [hn, h0, Nat.zero_mul])
    subst hc
    exact ⟨_, w, run_copy_zero P w dT sT ty elem dp sp dLen dCap sLen sCap hu hs h0, by simpa [splice] using hg, ⟨rfl, rfl, rfl, Nat.le_refl _, fun _ _ _ => rfl⟩⟩
  · obtain ⟨rfl, ad, rfl, hsrc⟩ := hpos (by omega)
    refine ⟨_, _, run_copy_k P w dT sT ty elem g off dLen dCap ad sLen sCap cur.toArray t cs hu hs hg hn hsrc (by simpa using hfit) h1, ?_, ⟨rfl, rfl, rfl, by simp, fun q hq hne => setRow_other w g q _ (fun e => hne (by rw [e]))⟩⟩
    simpa [splice] using setRow_heap w g _ _ t _ hg
/-- closed: f waits for i, through at most so many others -/
def waitsT (ops : Array Oper) : Nat → Nat → Nat → Bool
  | 0, _, _ => false
  | m + 1, f, i => match ops[f]? with
    | some o => o.after.toList.any fun e => Region.binds .any e && (Nat.beq e.on i || waitsT ops m e.on i)
    | none => false
/-- what has come up has come behind what it waits for -/
def ClosedL (ops : Array Oper) (listed : Array Bool) : Prop := ∀ (j : Nat) (o : Oper), ops[j]? = some o → listed.getD j false = true → ∀ e ∈ o.after, Region.binds .any e = true → listed.getD e.on false = true
def closedB (ops : Array Oper) (listed : Array Bool) : Bool := (List.range ops.size).all fun j => match ops[j]? with
  | some o => !listed.getD j false || o.after.toList.all fun e => !Region.binds .any e || listed.getD e.on false
  | none => true
theorem closed_of {ops : Array Oper} {listed : Array Bool} (h : closedB ops listed = true) : ClosedL ops listed := fun j o ho hl e he hb => by
  have hj : j < ops.size := (Array.getElem?_eq_some_iff.1 ho).1
  have h1 := List.all_eq_true.1 h j (List.mem_range.2 hj)
  rw [ho] at h1
  dsimp only at h1
  rw [hl] at h1
  simp only [Bool.not_true, Bool.false_or] at h1
  have h2 := List.all_eq_true.1 h1 e (by simpa using he)
  rw [hb] at h2
  simpa using h2
theorem ClosedL.step {ops : Array Oper} {listed : Array Bool} (h : ClosedL ops listed) {i : Nat} (hi : i ∈ Region.ready .any ops listed) : ClosedL ops (listed.setIfInBounds i true) := fun j o ho hl e he hb => by
  by_cases hij : i = j
  · subst hij
    obtain ⟨_, o', ho', hall⟩ := mem_ready.1 hi
    rw [ho] at ho'; injection ho' with ho'; subst ho'
    exact getD_set_true (hall e he hb)
  · rw [getD_set_ne false hij] at hl
    exact getD_set_true (h j o ho hl e he hb)
theorem waitsT_listed {ops : Array Oper} {listed : Array Bool} (hc : ClosedL ops listed) : ∀ {m f i : Nat}, waitsT ops m f i = true → (∀ o, ops[f]? = some o → ∀ e ∈ o.after, Region.binds .any e = true → listed.getD e.on false = true) → listed.getD i false = true
  | 0, _, _, h, _ => by cases h
  | m + 1, f, i, h, hf => by
    unfold waitsT at h
    cases ho : ops[f]? with
    | none => rw [ho] at h; cases h
    | some o =>
      rw [ho] at h
      rw [List.any_eq_true] at h
      obtain ⟨e, he, h2⟩ := h
      rw [Bool.and_eq_true] at h2
      have hl := hf o ho e (by simpa using he) h2.1
      rcases (Bool.or_eq_true _ _).mp h2.2 with h3 | h3
      · rw [← Nat.eq_of_beq_eq_true h3]; exact hl
      · exact waitsT_listed hc h3 fun o' ho' e' he' hb' => hc e.on o' ho' hl e' he' hb'
section
variable {P : Program} {ops : Array Oper} {Q : Exit → Act → World → Prop} {U : World → Prop} {f : Nat}
theorem wpAnyF_firstT {i : Nat} {oi : Oper} {v : Value} {m : Nat} (hif : i ≠ f) (hwait : waitsT ops m f i = true) (hi : ops[i]? = some oi) (hsel : ∀ (j : Nat) (o : Oper) cs b, ops[j]? = some o → o.op ≠ .select cs b)
    (hQ : ∀ c a w, Q (.panic c) (a.put oi.dst v) w → Q (.panic c) a w) :
    ∀ (fuel : Nat) (listed : Array Bool) (a : Act) (w : World), ClosedL ops listed →
      (∀ j oj, ops[j]? = some oj → j ≠ i → listed.getD j true = false → (∀ e ∈ oj.after, Region.binds .any e = true → e.on ≠ i) → oi.apart ops oj = true) →
      i ∈ Region.ready .any ops listed → listed.getD f true = false → YieldsIf P ops U oi v a → U w →
      wpAnyF P .any ops Q f U fuel (listed.setIfInBounds i true) (a.put oi.dst v) w → wpAnyF P .any ops Q f U (fuel + 1) listed a w := by
  intro fuel
  induction fuel with
  | zero =>
    intro listed a w _ _ hr _ hy hS H
    refine ⟨fun h => (by rw [h] at hr; cases hr), fun j hj => ?_⟩
    by_cases hji : j = i
    · subst hji; exact hy.wpOp hi hS ⟨fun _ => hS, H⟩
    · have := ready_mono hj hji
      rw [H.1] at this
      cases this
  | succ fuel ih =>
    intro listed a w hcl hfree hr hf hy hS H
    refine ⟨fun h => (by rw [h] at hr; cases hr), fun j hj => ?_⟩
    by_cases hji : j = i
    · subst hji; exact hy.wpOp hi hS ⟨fun _ => hS, H⟩
    · have h1 := H.2 j (ready_mono hj hji)
      obtain ⟨hjun, oj, hoj, hall⟩ := mem_ready.1 hj
      have h0 := (mem_ready.1 hr).1
      have hlt : i < listed.size := by
        rcases Nat.lt_or_ge i listed.size with h' | h'
        · exact h'
        · simp [Array.getElem?_eq_none h'] at h0
      have h00 : listed.getD i false = false := by simpa [hlt] using h0
      have hun : ∀ e ∈ oj.after, Region.binds .any e = true → e.on ≠ i := fun e he hb heq => by
        have h1 := hall e he hb
        rw [heq, h00] at h1; cases h1
      have hjf : j ≠ f := fun e => by
        subst e
        have := waitsT_listed hcl hwait fun o' ho' e' he' hb' => by
          rw [hoj] at ho'; injection ho' with ho'; subst ho'
          exact hall e' he' hb'
        rw [h00] at this; cases this
      have h2 := wpOp_putIf hoj (hfree j oj hoj hji hjun hun) (fun cs b => hsel i oi cs b hi) (fun cs b => hsel j oj cs b hoj) hQ hy h1
      have hfree' : ∀ k ok, ops[k]? = some ok → k ≠ i → (listed.setIfInBounds j true).getD k true = false →
          (∀ e ∈ ok.after, Region.binds .any e = true → e.on ≠ i) → oi.apart ops ok = true := fun k ok hk hki hun hno => by
        refine hfree k ok hk hki ?_ hno
        by_cases hjk : j = k
        · subst hjk; exact hjun
        · rw [getD_set_ne true hjk] at hun; exact hun
      refine wpOp_mono (fun a' w' h3 => ?_) h2
      have hU' : U w' := h3.2.1 (by rw [getD_set_ne true hjf, getD_set_ne true hif]; exact hf)
      refine ⟨fun _ => hU', ih (listed.setIfInBounds j true) a' w' (hcl.step hj) hfree' (ready_mono hr (Ne.symm hji)) (by rw [getD_set_ne true hjf]; exact hf) h3.1 hU' ?_⟩
      rw [Array.setIfInBounds_comm _ _ hji]
      exact h3.2.2
end
section
variable {n : Nat} {l : Fr} {P : Program} {w : World} {Q : Exit → Act → World → Prop} {ops : Array Oper} {U : World → Prop} {fuel : Nat} {listed : Array Bool} {f : Nat}
theorem fw_takeT (i m : Nat) {d : Nat} {op : Op} {ty : TypeId} {pos : String} {af : Array Edge} {v : Value} (ho : ops[i]? = some ⟨some d, op, ty, pos, af, none⟩) (hwt : waitsT ops m f i = true) (hcl : closedB ops listed = true) (hif : Nat.beq i f = false) (hfl : listed.getD f true = false)
    (hs : Region.noSelect ops = true) (hf : Region.free .any ops listed i = true) (hr : (Region.ready .any ops listed).contains i = true) (hQ : NoPanic Q) (hU : U w) (hd : Nat.blt d n = true)
    (hv : ∀ w, U w → Pv P n l ⟨some d, op, ty, pos, af, none⟩ v w) (h : FW P n ops Q f U fuel (listed.setIfInBounds i true) ((d, v) :: l) w) : FW P n ops Q f U (fuel + 1) listed l w := ⟨fun a ha =>
  wpAnyF_firstT (fun e => by subst e; simp at hif) hwt ho (Region.noSelect_spec hs) (fun c a w => hQ c _ v a w) fuel listed a w (closed_of hcl) (Region.free_spec ho hf) (by simpa using hr) hfl (Or.inl ⟨rfl, fun w hw => (hv w hw).out a ha⟩) hU (h.out _ (ha.put hd v))⟩
/-- f itself, or what comes behind it: alone -/
theorem fw_one (i : Nat) {o : Oper} (hr : Region.ready .any ops listed = [i]) (ho : ops[i]? = some o) (hg : guardOn ops l o.guard = true) (hd : inD o.dst n = true) (hfs : (listed.setIfInBounds i true).getD f true = true)
    (h : Act1 P n l o w fun v w' => FW P n ops Q f U fuel (listed.setIfInBounds i true) (putD o.dst v l) w') : FW P n ops Q f U (fuel + 1) listed l w := ⟨fun a ha => by
  refine ⟨fun h0 => (by rw [hr] at h0; cases h0), fun j hj => ?_⟩
  rw [hr, List.mem_singleton] at hj; subst hj
  unfold wpOp; rw [ho]
  dsimp only
  rw [if_pos (wanted_of ha hg)]
  exact Or.inl (h.out a ha _ _ fun v w' hZ => ⟨fun hf => (by rw [hfs] at hf; cases hf), hZ.out _ (ha.putD hd v)⟩)⟩
theorem fw_done (hr : Region.ready .any ops listed = []) (h : QW n Q .normal l w) : FW P n ops Q f U fuel listed l w := ⟨fun a ha => by
  cases fuel with
  | zero => exact ⟨hr, h.out a ha⟩
  | succ m => exact ⟨fun _ => h.out a ha, by rw [hr]; simp⟩⟩
end
section
variable {P : Program} {n : Nat} {l : Fr} {w : World} {d : Option Nat} {t t' ty : TypeId} {x y : Operand} {pos : String} {af : Array Edge} {g : Option (Nat × Bool)} {a b : Int}
theorem u64_in (a : Int) (h : 0 ≤ a ∧ a ≤ 18446744073709551615) : IntKind.u64.wrap a = a := by
  rw [IntKind.wrap_u64]; omega
theorem pv_addu (hx : ev l x = some (.int .u64 a)) (hy : ev l y = some (.int .u64 b)) (h : 0 ≤ a + b ∧ a + b ≤ 18446744073709551615) : Pv P n l ⟨d, .binOp .add t x y t', ty, pos, af, g⟩ (.int .u64 (a + b)) w := by
  have := pv_add_w (P := P) (n := n) (w := w) (d := d) (ty := ty) (pos := pos) (af := af) (g := g) (t := t) (t' := t') hx hy
  rwa [u64_in _ h] at this
theorem pv_mulu (hx : ev l x = some (.int .u64 a)) (hy : ev l y = some (.int .u64 b)) (h : 0 ≤ a * b ∧ a * b ≤ 18446744073709551615) : Pv P n l ⟨d, .binOp .mul t x y t', ty, pos, af, g⟩ (.int .u64 (a * b)) w := by
  have := pv_mul_w (P := P) (n := n) (w := w) (d := d) (ty := ty) (pos := pos) (af := af) (g := g) (t := t) (t' := t') hx hy
  rwa [u64_in _ h] at this
theorem pv_convu (ht : cvB P t t' .u64 = true) {k : IntKind} (hx : ev l x = some (.int k a)) (h : 0 ≤ a ∧ a ≤ 18446744073709551615) : Pv P n l ⟨d, .convert t t' x, ty, pos, af, g⟩ (.int .u64 a) w := by
  have := pv_conv_w (P := P) (n := n) (w := w) (d := d) (ty := ty) (pos := pos) (af := af) (g := g) ht hx
  rwa [u64_in _ h] at this
theorem u64_and32 (n : Int) : bits .and .u64 n 4294967295 = n % 4294967296 := by
  have h127 : (BitVec.ofInt 64 4294967295).toNat = 2 ^ 32 - 1 := by decide
  have key : (BitVec.ofInt 64 n &&& BitVec.ofInt 64 4294967295).toNat = (n % ((2 ^ 64 : Nat) : Int)).toNat % 2 ^ 32 := by
    rw [BitVec.toNat_and, BitVec.toNat_ofInt, h127, Nat.and_two_pow_sub_one_eq_mod]
  show IntKind.u64.wrap ((BitVec.ofInt 64 n &&& BitVec.ofInt 64 4294967295).toNat : Nat) = n % 4294967296
  rw [key, IntKind.wrap_u64]
  omega
theorem pv_and32u (hx : ev l x = some (.int .u64 a)) (hy : ev l y = some (.int .u64 4294967295)) : Pv P n l ⟨d, .binOp .and t x y t', ty, pos, af, g⟩ (.int .u64 (a % 4294967296)) w := ⟨fun A hA => by
  have h : (Op.intBits .and .u64 a 4294967295 : Sem Value) = pure (.int .u64 (a % 4294967296)) := by rw [← u64_and32 a]; rfl
  simp [execOp, hA.ev hx, hA.ev hy, eqGuard, binOp, h]⟩
theorem pv_shr32u {k' : IntKind} (hx : ev l x = some (.int .u64 a)) (hy : ev l y = some (.int k' 32)) : Pv P n l ⟨d, .binOp .shr t x y t', ty, pos, af, g⟩ (.int .u64 (a / 4294967296)) w := by
  have h := pv_shr (P := P) (n := n) (w := w) (d := d) (ty := ty) (pos := pos) (af := af) (g := g) (t := t) (t' := t') hx hy (by omega)
  have e : a.fdiv (2 ^ (min (32 : Int).toNat IntKind.u64.bits)) = a / 4294967296 := by
    rw [show ((2 : Int) ^ (min (32 : Int).toNat IntKind.u64.bits)) = 4294967296 by decide, Int.fdiv_eq_ediv_of_nonneg _ (by omega)]
  rwa [e] at h
/-- half of a sum -/
theorem pv_half {k k' : IntKind} {m q : Nat} (hx : ev l x = some (.int k a)) (hy : ev l y = some (.int k' 1)) (ha : a = (m : Int)) (hq : m / 2 = q) (hk : 1 ≤ k.bits) : Pv P n l ⟨d, .binOp .shr t x y t', ty, pos, af, g⟩ (.int k (q : Nat)) w := by
  have h := pv_shr (P := P) (n := n) (w := w) (d := d) (ty := ty) (pos := pos) (af := af) (g := g) (t := t) (t' := t') hx hy (by omega)
  have e : a.fdiv (2 ^ (min (1 : Int).toNat k.bits)) = (q : Nat) := by
    rw [show min (1 : Int).toNat k.bits = 1 by have : (1 : Int).toNat = 1 := rfl; omega, Int.fdiv_eq_ediv_of_nonneg _ (by decide), ha, ← hq]
    omega
  rwa [e] at h
end
set_option maxRecDepth 20000 in
theorem within_c {n : Int} (h : NumS n) (w : World) : Calls Tryz.prog 119 #[.int .i64 n] w fun e w' => e = .returned (.int .i64 n) ∧ w = w' := by
  unfold NumS farS at h
  refine fn_enter 6 Tryz.func119 rfl rfl rfl ?_
  repeat' (first | (refine lw_pure rfl (pv_move rfl) ?_) | (refine lw_pure rfl (pv_assign rfl) ?_) | (refine is_cw ?_; first | (refine cw_seq ?_) | (refine cw_region ?_) | (refine cw_ret ?_)) | (refine is_qw ?_; first | (with_reducible refine qw_then ?_)) | (refine lw_nil ?_) | ((refine is_bi ?_; first | (refine lw_pure rfl (pv_min rfl rfl) ?_) | (refine lw_pure rfl (pv_max rfl rfl) ?_))))
  exact qw_ret1 rfl rfl ⟨ret_int (by (repeat' split) <;> omega), rfl⟩
set_option maxRecDepth 20000 in
theorem cap_c {a b : Int} (ha : NumS a) (hb : NumS b) (w : World) : Calls Tryz.prog 99 #[.int .i64 a, .int .i64 b] w fun e w' => e = .returned (.int .i64 (moreS a b)) ∧ w = w' := by
  have ga := ha
  have gb := hb
  unfold NumS farS at ga gb
  refine fn_enter 16 Tryz.func99 rfl rfl rfl ?_
  repeat' (first | (refine lw_pure rfl (pv_move rfl) ?_) | (refine lw_pure rfl (pv_assign rfl) ?_) | (refine is_cw ?_; first | (refine cw_seq ?_) | (refine cw_region ?_)) | (refine is_qw ?_; first | (with_reducible refine qw_then ?_)) | (refine lw_nil ?_))
  refine lw_call (f := 119) (by kernel_rfl) rfl rfl (within_c ha _) ?_; rintro e w1 ⟨rfl, rfl⟩; refine ⟨_, rfl, ?_⟩
  repeat' (first | (refine lw_pure rfl (pv_move rfl) ?_))
  refine lw_call (f := 119) (by kernel_rfl) rfl rfl (within_c hb _) ?_; rintro e w1 ⟨rfl, rfl⟩; refine ⟨_, rfl, ?_⟩
  repeat' (first | (refine lw_pure rfl (pv_move rfl) ?_) | (refine lw_pure rfl (pv_assign rfl) ?_) | (refine is_cw ?_; first | (refine cw_seq ?_) | (refine cw_region ?_) | (refine cw_skip ?_) | (refine cw_ret ?_)) | (refine is_qw ?_; first | (with_reducible refine qw_then ?_) | (with_reducible refine qw_then_ret ?_)) | (refine lw_nil ?_) | ((refine is_bin ?_; first | (refine lw_pure rfl (pv_gtr rfl rfl) ?_) | (refine lw_pure rfl (pv_add rfl rfl (by omega)) ?_) | (refine lw_pure rfl (pv_sub rfl rfl (by omega)) ?_))) | (refine is_cw ?_; refine cw_split rfl (fun hc => ?_) (fun hc => ?_) <;> (first | replace hc := of_decide_eq_true hc | replace hc := of_decide_eq_false hc | replace hc := dec_nT hc | replace hc := dec_nF hc | skip) <;> (try (exfalso; omega))))
  all_goals (refine qw_ret1 rfl rfl ⟨ret_int ?_, rfl⟩; unfold moreS farS; (repeat' split) <;> omega)
set_option maxRecDepth 20000 in
theorem mul64_c {x y : Int} (hx : 0 ≤ x ∧ x ≤ 1073741824) (hy : 0 ≤ y ∧ y ≤ 1048576) (hxy : 0 ≤ x * y ∧ x * y ≤ 1125899906842624) (w : World) : Calls Tryz.prog 68 #[.int .u64 x, .int .u64 y] w fun e w' => e = .returned (.tuple #[.int .u64 0, .int .u64 (x * y)]) ∧ w = w' := by
  have hx0 : x % 4294967296 = x := by omega
  have hx1 : x / 4294967296 = 0 := by omega
  have hy0 : y % 4294967296 = y := by omega
  have hy1 : y / 4294967296 = 0 := by omega
  generalize hp : x * y = p at hxy ⊢
  refine fn_enter 51 Tryz.func68 rfl rfl rfl ?_
  repeat' (first | (refine lw_pure rfl (pv_move rfl) ?_) | (refine lw_pure rfl (pv_assign rfl) ?_) | (refine lw_pure rfl (pv_and32u rfl rfl) ?_; (try rw [hx0]); (try rw [hy0])) | (refine lw_pure rfl (pv_shr32u rfl rfl) ?_; (try rw [hx1]); (try rw [hy1])) | (refine lw_pure rfl (pv_mulu rfl rfl (by first | (rw [hp]; omega) | omega)) ?_; (try rw [hp])) | (refine lw_pure rfl (pv_addu rfl rfl (by omega)) ?_) | (refine is_cw ?_; first | (refine cw_seq ?_) | (refine cw_region ?_) | (refine cw_ret ?_)) | (refine is_qw ?_; first | (with_reducible refine qw_then ?_)) | (refine lw_nil ?_))
  exact qw_ret2 rfl rfl rfl ⟨by congr 1; simp; omega, rfl⟩
set_option maxRecDepth 20000 in
theorem mul_c {x y : Int} (hx : 0 ≤ x ∧ x ≤ 1073741824) (hy : 0 ≤ y ∧ y ≤ 1048576) (hxy : 0 ≤ x * y ∧ x * y ≤ 1125899906842624) (w : World) : Calls Tryz.prog 46 #[.int .i64 x, .int .i64 y] w fun e w' => e = .returned (.tuple #[.int .i64 (x * y), .int .i64 0]) ∧ w = w' := by
  have hm := mul64_c hx hy hxy w
  generalize x * y = p at hm hxy
  refine fn_enter 30 Tryz.func46 rfl rfl rfl ?_
  repeat' (first | (refine lw_pure rfl (pv_move rfl) ?_) | (refine lw_pure rfl (pv_assign rfl) ?_) | (refine lw_pure rfl (pv_convu (tCv rfl rfl) rfl (by omega)) ?_) | (refine is_cw ?_; first | (refine cw_seq ?_) | (refine cw_region ?_) | (refine cw_false rfl (by first | assumption | exact decide_eq_false (by omega) | exact dec_notF (by omega)) ?_) | (refine cw_skip ?_)) | (refine is_qw ?_; first | (with_reducible refine qw_then ?_)) | (refine lw_nil ?_) | (refine is_guarded ?_; first | (refine lw_on rfl rfl (by first | assumption | exact decide_eq_true (by omega) | exact decide_eq_false (by omega) | exact dec_notT (by omega) | exact dec_notF (by omega)) ?_)) | ((refine is_bin ?_; first | (refine lw_pure rfl (pv_lss rfl rfl) ?_))) | (refine lw_pure rfl (pv_pick_f rfl (by first | assumption | exact decide_eq_false (by omega) | exact dec_notF (by omega)) rfl) ?_))
  refine lw_call (f := 68) (by kernel_rfl) rfl rfl (hm) ?_; rintro e w1 ⟨rfl, rfl⟩; refine ⟨_, rfl, ?_⟩
  repeat' (first | (refine lw_pure rfl (pv_move rfl) ?_) | (refine lw_pure rfl (pv_assign rfl) ?_) | (refine is_cw ?_; first | (refine cw_seq ?_) | (refine cw_region ?_) | (refine cw_false rfl (by first | assumption | exact decide_eq_false (by omega) | exact dec_notF (by omega)) ?_) | (refine cw_skip ?_) | (refine cw_ret ?_)) | (refine is_qw ?_; first | (with_reducible refine qw_then ?_)) | (refine lw_nil ?_) | (refine is_guarded ?_; first | (refine lw_on rfl rfl rfl ?_)) | ((refine is_bin ?_; first | (refine lw_pure rfl (pv_neq rfl rfl) ?_) | (refine lw_pure rfl (pv_gtr rfl rfl) ?_))) | (refine lw_pure rfl (pv_pick_f rfl rfl rfl) ?_) | (refine lw_pure rfl (pv_extract rfl rfl) ?_) | (refine lw_pure rfl (pv_conv (tCv rfl rfl) rfl (by omega)) ?_))
  exact qw_ret2 rfl rfl rfl ⟨rfl, rfl⟩
section
variable {P : Program} {n : Nat} {l : Fr} {w : World} {d : Option Nat} {t t' ty : TypeId} {x y : Operand} {pos : String} {af : Array Edge} {g : Option (Nat × Bool)} {a b : Int}
theorem pv_capl {ad : Option Addr} {m c e : Nat} (ht : slB P t e = true) (hx : ev l x = some (.slice ad m c)) : Pv P n l ⟨d, .call ⟨.builtin .cap, #[x], #[t]⟩, ty, pos, af, g⟩ (.int .i64 c) w := ⟨fun A hA => by
  obtain ⟨u, hu, _⟩ := slB_of ht
  simp [execOp, resolve, hA.ev hx, invoke, builtin, Builtin.cap_, run_underlying hu, goInt]⟩
end
theorem splice_take {α : Type} {L cs : List α} {off : Nat} (h : off ≤ L.length) : (splice L off cs).take (off + cs.length) = L.take off ++ cs := by
  unfold splice
  rw [← List.append_assoc]
  exact List.take_left' (by rw [List.length_append, List.length_take]; omega)
theorem splice_low {α : Type} {L cs : List α} {off a : Nat} (h : off ≤ L.length) (ha : a ≤ off) : (splice L off cs).take a = L.take a := by
  unfold splice
  rw [List.take_append_of_le_length (by rw [List.length_take]; omega), List.take_take, Nat.min_eq_left ha]
theorem splice_drop {α : Type} {L cs : List α} {off : Nat} (h : off ≤ L.length) : (splice L off cs).drop off = cs ++ L.drop (off + cs.length) := by
  unfold splice
  exact List.drop_left' (by rw [List.length_take]; omega)
/-- one put there, then the rest behind it -/
theorem splice_up {α : Type} {L A B : List α} {a : Nat} (h : a + A.length ≤ L.length) : (splice (splice L a A) (a + A.length) B).take (a + A.length + B.length) = L.take a ++ (A ++ B) := by
  rw [splice_take (by rw [length_splice _ _ _ h]; omega), splice_take (by omega), List.append_assoc]
/-- the rest moved up, then one put there -/
theorem splice_dn {α : Type} {L A B : List α} {a : Nat} (h : a + A.length ≤ L.length) : (splice (splice L (a + A.length) B) a A).take (a + A.length + B.length) = L.take a ++ (A ++ B) := by
  have e : splice (splice L (a + A.length) B) a A = (L.take a ++ (A ++ B)) ++ L.drop (a + A.length + B.length) := by
    rw [splice, splice_low h (by omega), splice_drop h]; simp
  rw [e]
  exact List.take_left' (by rw [List.length_append, List.length_append, List.length_take]; omega)
section
variable {α : Type} {enc : α → List Value} {k nb : Nat} {P : Program} {n : Nat} {l : Fr} {w : World} {Q : Exit → Act → World → Prop} {ops : Array Oper} {os : List Oper} {d : Nat} {ty : TypeId} {pos : String} {af : Array Edge} {x y : Operand} {S T : TypeId} {base g cap : Nat} {xs : List α}
theorem own_of {cur : List Value} (hk : ∀ x, (enc x).length = k) (hb : base ≤ g) (hg : w.heap[g]? = some (.cells cur.toArray T (0, 0))) (hle : xs.length ≤ cap) (hmax : cap ≤ maxLen) (hsz : cur.length = cap * k) (htk : cur.take (xs.length * k) = xs.flatMap enc) : Own enc k T base w (.slice (some ⟨g, 0, none⟩) xs.length cap) xs :=
  ⟨by rw [flat_len enc k hk], Or.inr ⟨g, cap, cur.toArray, rfl, hb, hg, hle, hmax, by simpa using hsz, by simpa using htk⟩⟩
theorem lw_appz (E : ElemT P S T k nb) {tn : TypeId} (htn : P.underlying tn = some (.int .i64)) (hk : ∀ x, (enc x).length = k) {i q : Nat} {b : Int} (hd : Nat.blt d n = true) (hx : ev l x = some (.slice (some ⟨g, 0, none⟩) i cap)) (hy : ev l y = some (.int .i64 b)) (hb : b = (q : Int)) (hs : SlR enc k w (some ⟨g, 0, none⟩) cap xs) (hi : xs.length = i) (hq : 0 < q) (hgr : cap < i + q) (hsz : (i + q) * nb ≤ 140737488355328) (hmx : i + q ≤ maxLen)
    (h : ∀ (N G : Nat) (row : List Value) (w' : World), w.heap.size ≤ N → row.length = G * k → row.take (i * k) = xs.flatMap enc → w'.heap[N]? = some (.cells row.toArray T (0, 0)) → i + q ≤ G → G ≤ maxLen → Below w.heap.size w w' → LW P n ops Q os ((d, .slice (some ⟨N, 0, none⟩) (i + q) G) :: l) w') :
    LW P n ops Q (⟨some d, .call ⟨.builtin .append, #[x, y], #[S, tn]⟩, ty, pos, af, none⟩ :: os) l w := by
  subst hb hi
  obtain ⟨inf, z, hif, hz, hisz, hby, hzs⟩ := E.info
  have hk0 := E.pos
  have hold : (Builtin.firstCells inf.size xs.length (.slice (some ⟨g, 0, none⟩) xs.length cap)).run P w.drew = .ok (xs.flatMap enc).toArray w.drew := by
    rw [hisz]
    exact run_firstCells_some w.drew k xs.length ⟨g, 0, none⟩ xs.length cap (xs.flatMap enc) (flat_len enc k hk xs) (fun j v hj => SlR.flat hk hs j v hj)
  have hmm : maxLen ≤ 9223372036854775807 := by unfold maxLen; omega
  have hrun := Lib.run_append_grow_zeros w S tn ty T inf z .i64 .i64 E.sl htn hif hz (some ⟨g, 0, none⟩) xs.length cap (xs.flatMap enc) hold q hq (by omega) hgr (by omega) (by rw [hby]; have := Nat.mul_le_mul_right nb (show q ≤ xs.length + q by omega); omega) (by rw [hby]; exact growslice_fits hgr hsz)
  obtain ⟨G, hG⟩ : ∃ G, G = grownCap w (xs.length + q) cap T := ⟨_, rfl⟩
  rw [← hG] at hrun
  have hG1 : xs.length + q ≤ G := by rw [hG]; exact grownCap_ge w _ _ _
  have hG2 : G ≤ maxLen := by rw [hG]; exact grownCap_le_maxLen w _ _ _ hmx
  obtain ⟨row, hrow⟩ : ∃ row : List Value, row.toArray = (xs.flatMap enc).toArray ++ Builtin.zeroCells z.cells q ++ Builtin.zeroCells z.cells (G - (xs.length + q)) := ⟨_, Array.toArray_toList⟩
  rw [← hrow] at hrun
  have hrow2 : row = xs.flatMap enc ++ ((Builtin.zeroCells z.cells q).toList ++ (Builtin.zeroCells z.cells (G - (xs.length + q))).toList) := by
    have := congrArg Array.toList hrow; simpa using this
  have hzl : ∀ m, (Builtin.zeroCells z.cells m).toList.length = m * k := fun m => by simp [Builtin.zeroCells, hzs]
  refine lw_eff hd (w' := w.drew.alloc (.cells row.toArray T)) ⟨fun A hA => ?_⟩ (h w.heap.size G row _ (Nat.le_refl _) ?_ ?_ (heap_alloc_new w.drew _) hG1 hG2 (grow_trans (below_drew w) (below_alloc _ _)))
  · simp [execOp, resolve, hA.ev hx, hA.ev hy, invoke, builtin, hrun]
  · rw [hrow2, List.length_append, List.length_append, hzl, hzl, flat_len enc k hk, ← Nat.add_mul, ← Nat.add_mul]; congr 1; omega
  · rw [hrow2]; exact List.take_left' (flat_len enc k hk xs)
theorem copy_min {sLen dLen m : Nat} (h : (sLen ≤ dLen ∧ sLen = m) ∨ (dLen ≤ sLen ∧ dLen = m)) : Nat.min sLen dLen = m := by
  rcases h with ⟨h1, h2⟩ | ⟨h1, h2⟩
  · exact (Nat.min_eq_left h1).trans h2
  · exact (Nat.min_eq_right h1).trans h2
/-- copy, its sizes and places by equations -/
theorem lw_copyd {dT sT elem t : TypeId} {off m : Nat} {dp sp : Option Addr} {dLen dCap sLen sCap : Nat} {cur cs : List Value} {ad : Addr} (hu : P.underlying dT = some (.slice elem)) (hs : (P.info? elem).map (·.size) = some k) (hk : 0 < k) (hd : Nat.blt d n = true) (hx : ev l x = some (.slice dp dLen dCap)) (hy : ev l y = some (.slice sp sLen sCap)) (hg : w.heap[g]? = some (.cells cur.toArray t (0, 0)))
    (hdp : dp = some ⟨g, off, none⟩) (hsp : sp = some ad) (hmin : (sLen ≤ dLen ∧ sLen = m) ∨ (dLen ≤ sLen ∧ dLen = m)) (hn : cs.length = m * k) (hc : ∀ j v, cs[j]? = some v → w.cell? (ad.add j) = some v) (hfit : off + cs.length ≤ cur.length) (h1 : ∀ v ∈ cs, v.oneCell' = true)
    (h : ∀ v w', w'.heap[g]? = some (.cells (splice cur off cs).toArray t (0, 0)) → w.grownBy w' (some g) → LW P n ops Q os ((d, v) :: l) w') : LW P n ops Q (⟨some d, .call ⟨.builtin .copy, #[x, y], #[dT, sT]⟩, ty, pos, af, none⟩ :: os) l w := by
  obtain ⟨v, w', h2, h3, h4⟩ := copy_some (ty := ty) (sT := sT) (dCap := dCap) (sCap := sCap) hu hs hk hg (show cs.length = Nat.min sLen dLen * k by rw [copy_min hmin]; exact hn) (fun _ => ⟨hdp, ad, hsp, hc⟩) hfit h1
  refine lw_some (Φ := fun v u => u = w') hd (fun A hA => ⟨v, w', ?_, rfl⟩) (fun v u hu => hu ▸ h v w' h3 h4)
  simp [execOp, resolve, hA.ev hx, hA.ev hy, invoke, builtin, h2]
end
section
variable {P : Program} {n : Nat} {l : Fr} {w : World} {ty : TypeId} {pos : String} {af : Array Edge} {gd : Option (Nat × Bool)} {x y : Operand} {k g : Nat} {d : Option Nat} {Z : Value → World → Prop}
theorem act_copyd {dT sT elem t : TypeId} {off m : Nat} {dp sp : Option Addr} {dLen dCap sLen sCap : Nat} {cur cs : List Value} {ad : Addr} (hu : P.underlying dT = some (.slice elem)) (hs : (P.info? elem).map (·.size) = some k) (hk : 0 < k) (hx : ev l x = some (.slice dp dLen dCap)) (hy : ev l y = some (.slice sp sLen sCap)) (hg : w.heap[g]? = some (.cells cur.toArray t (0, 0)))
    (hdp : dp = some ⟨g, off, none⟩) (hsp : sp = some ad) (hmin : (sLen ≤ dLen ∧ sLen = m) ∨ (dLen ≤ sLen ∧ dLen = m)) (hn : cs.length = m * k) (hc : ∀ j v, cs[j]? = some v → w.cell? (ad.add j) = some v) (hfit : off + cs.length ≤ cur.length) (h1 : ∀ v ∈ cs, v.oneCell' = true)
    (h : ∀ v w', w'.heap[g]? = some (.cells (splice cur off cs).toArray t (0, 0)) → w.grownBy w' (some g) → Z v w') : Act1 P n l ⟨d, .call ⟨.builtin .copy, #[x, y], #[dT, sT]⟩, ty, pos, af, gd⟩ w Z := by
  obtain ⟨v, w', h2, h3, h4⟩ := copy_some (ty := ty) (sT := sT) (dCap := dCap) (sCap := sCap) hu hs hk hg (show cs.length = Nat.min sLen dLen * k by rw [copy_min hmin]; exact hn) (fun _ => ⟨hdp, ad, hsp, hc⟩) hfit h1
  exact act_ev (v := v) (w' := w') ⟨fun A hA => by simp [execOp, resolve, hA.ev hx, hA.ev hy, invoke, builtin, h2]⟩ (h _ _ h3 h4)
end
theorem heap_shape {w : World} {N : Nat} {cs : Array Value} {T : TypeId} (h : w.heap[N]? = some (.cells cs T (0, 0))) : w.shape? N = some (T, cs.size) ∧ ∀ o, w.frozen? ⟨N, o, none⟩ = false := by
  refine ⟨by unfold World.shape?; rw [h], fun o => ?_⟩
  unfold World.frozen?
  simp [h]
theorem overlap_S {n : Nat} {l : Fr} {w : World} {d : Option Nat} {ty : TypeId} {pos : String} {af : Array Edge} {g : Option (Nat × Bool)} {x y : Operand} {ts : Array TypeId} {M B : Nat} {cs : List Value} {cur : Array Value} {sp : Option Addr} {o lb cb : Nat} (hx : ev l x = some (.slice (some ⟨M, 0, none⟩) 1 1)) (hy : ev l y = some (.slice sp lb cb)) (hsp : sp = some ⟨B, o, none⟩) (hM : PT w M 39 cs) (hB : w.heap[B]? = some (.cells cur 39 (0, 0))) (hne : M ≠ B) (h0 : cur.size ≠ 0) :
    Pv Tryz.prog n l ⟨d, .call ⟨.value (.func 117), #[x, y], ts⟩, ty, pos, af, g⟩ (.bool false) w := by
  subst hsp
  obtain ⟨s1, f1⟩ := heap_shape hM
  obtain ⟨s2, f2⟩ := heap_shape hB
  refine pv_ext (args := [x, y]) (vs := [.slice (some ⟨M, 0, none⟩) 1 1, .slice (some ⟨B, o, none⟩) lb cb]) (by simp [evs, hx, hy]) ?_
  have hz : ∀ w, (sizeOf 39).run Tryz.prog w = .ok 6 w := fun w => sizeB_run (tZ rfl) w
  rw [run_callFunc_extern (fn := Tryz.f117) (by kernel_rfl) (by kernel_rfl) (by kernel_rfl) (by kernel_rfl) (e := Extern.SlicesOverlaps.overlaps #[22, 22] #[4]) (by kernel_rfl),
    Lib.run_overlaps_apart w 22 4 39 Tryz.underlying22 6 hz ⟨M, 0, none⟩ ⟨B, o, none⟩ 1 1 lb cb hne _ _ _ _ s1 s2 h0 (f1 _) (f1 _)]
  rfl
set_option maxRecDepth 20000 in
set_option maxHeartbeats 4000000 in
theorem insert_S {xs : List Pos} {v : Value} {w : World} (base : Nat) (i : Nat) (y : Pos) {M : Nat} (hi : i ≤ xs.length) (hl : xs.length ≤ 65536) (hbw : base ≤ w.heap.size) (hO : Own encS 6 39 base w v xs) (HY : PT w M 39 (encS y)) (hM : v.ownBlock ≠ some M) : Calls Tryz.prog 98 #[v, .int .i64 (i : Nat), .slice (some ⟨M, 0, none⟩) 1 1] w fun e w' => (∃ v', e = .returned v' ∧ Own encS 6 39 base w' v' (xs.take i ++ y :: xs.drop i)) ∧ Below base w w' := by
  have hb0 := Below.refl base w
  have hOb : ∀ q, v.ownBlock = some q → base ≤ q := fun q hq => (hO.lt q hq).1
  have hMw := HY.lt
  have HY1 : SlR encS 6 w (some ⟨M, 0, none⟩) 1 [y] := PT.slR (xs := [y]) encS_len (by simpa using HY) rfl (by omega)
  obtain ⟨ad, cap, rfl, HS, hbase⟩ := Own.slR encS_len hO
  have hla := HS.le
  have hma := HS.max
  have hw := Below.refl w.heap.size w
  by_cases hin : i = xs.length
  · subst hin
    refine fn_enter 95 Tryz.func98 rfl rfl rfl ?_
    repeat' (first | (refine lw_pure rfl (pv_move rfl) ?_) | (refine lw_pure rfl (pv_assign rfl) ?_) | (refine lw_app (xs := xs) (ys := [y]) elemS encS_len encS_one rfl rfl rfl hO HY1 rfl hbw (by simp; omega) (by simp [maxLen]; omega) ?_; intro v2 w2 hO2 hg2 hb2) | (refine is_cw ?_; first | (refine cw_seq ?_) | (refine cw_region ?_) | (refine cw_false rfl rfl ?_) | (refine cw_true rfl (by first | assumption | exact decide_eq_true (by omega) | exact dec_notT (by omega)) ?_) | (refine cw_skip ?_) | (refine cw_ret ?_)) | (refine is_qw ?_; first | (with_reducible refine qw_then ?_) | (with_reducible refine qw_then_ret ?_)) | (refine lw_nil ?_) | ((refine is_bin ?_; first | (refine lw_pure rfl (pv_eql rfl rfl) ?_))) | ((refine is_bi ?_; first | (refine lw_pure rfl (pv_lenl (tS rfl) rfl) ?_))) | (refine lw_pure rfl (pv_slice_l (tS rfl) rfl rfl (by omega)) ?_))
    refine qw_ret1 rfl rfl ⟨⟨_, rfl, ?_⟩, hb2⟩
    rw [List.take_length, List.drop_length]; exact hO2
  · obtain ⟨g, rfl⟩ : ∃ g, ad = some ⟨g, 0, none⟩ := by
      cases ad with
      | none => have := (HS.ofNone rfl).1; subst this; simp at hin hi; omega
      | some a =>
        obtain ⟨b, o, sp⟩ := a
        obtain ⟨h1, _⟩ := HS.ofSome _ rfl (by omega)
        have h2 := (hbase _ rfl).2
        simp only at h1 h2
        exact ⟨b, by rw [h1, h2]⟩
    have hgb : base ≤ g := (hbase _ rfl).1
    have hgM : g ≠ M := fun e => hM (by rw [← e]; rfl)
    obtain ⟨cur, -, hg, -, hmx, hsz, htk⟩ := Own.heap' hO
    have hgw : g < w.heap.size := (Array.getElem?_eq_some_iff.1 hg).1
    have hti : (xs.take i).length = i := by rw [List.length_take]; omega
    have hdl : ((xs.drop i).flatMap encS).length = (xs.length - i) * 6 := by rw [flat_len encS 6 encS_len, List.length_drop]
    have hyl : (encS y).length = 6 := encS_len y
    have hrl : (xs.take i ++ y :: xs.drop i).length = xs.length + 1 := by simp; omega
    have hrf : (xs.take i ++ y :: xs.drop i).flatMap encS = (xs.take i).flatMap encS ++ (encS y ++ (xs.drop i).flatMap encS) := by rw [List.flatMap_append, List.flatMap_cons]
    have e9 : ((i : Int) + 1).toNat = i + 1 := by omega
    have e8 : ((xs.length : Int) + 1).toNat = xs.length + 1 := by omega
    -- the rest, read at its place
    have hrd : ∀ W : World, SlR encS 6 W (some ⟨g, 0, none⟩) cap xs → ∀ j v, ((xs.drop i).flatMap encS)[j]? = some v → W.cell? ((⟨g, i * 6, none⟩ : Addr).add j) = some v := fun W h j v hj => by
      rw [← flat_drop encS 6 encS_len, List.getElem?_drop] at hj
      have := SlR.flat encS_len h (i * 6 + j) v hj
      rw [Addr.add_lit] at this ⊢
      rw [← this]; congr 2; omega
    by_cases hcap : cap < xs.length + 1
    · refine fn_enter 95 Tryz.func98 rfl rfl rfl ?_
      repeat' (first | (refine lw_pure rfl (pv_move rfl) ?_) | (refine lw_pure rfl (pv_assign rfl) ?_) | (refine lw_pure rfl (pv_capl (tS rfl) rfl) ?_) | (refine is_cw ?_; first | (refine cw_seq ?_) | (refine cw_region ?_) | (refine cw_false rfl rfl ?_) | (refine cw_true rfl (by first | assumption | exact decide_eq_true (by omega) | exact dec_notT (by omega)) ?_) | (refine cw_false rfl (by first | assumption | exact decide_eq_false (by omega) | exact dec_notF (by omega)) ?_) | (refine cw_skip ?_)) | (refine is_qw ?_; first | (with_reducible refine qw_then ?_)) | (refine lw_nil ?_) | ((refine is_bin ?_; first | (refine lw_pure rfl (pv_eql rfl rfl) ?_) | (refine lw_pure rfl (pv_gtr rfl rfl) ?_) | (refine lw_pure rfl (pv_inc rfl rfl (by omega)) ?_) | (refine lw_pure rfl (pv_sub rfl rfl (by omega)) ?_))) | ((refine is_bi ?_; first | (refine lw_pure rfl (pv_lenl (tS rfl) rfl) ?_))) | (refine lw_pure rfl (pv_slice_l (tS rfl) rfl rfl (by omega)) ?_) | (refine lw_pure rfl (pv_slice_h (tS rfl) rfl rfl (by omega)) ?_))
      refine lw_appz (xs := xs.take i) (i := i) (q := xs.length + 1 - i) (cap := cap) elemS Tryz.underlying3 encS_len rfl rfl rfl (by omega) ⟨by rw [hti]; omega, hma, (fun h => by cases h), fun ad had hc => by
        obtain ⟨h1, h2, h3⟩ := HS.ofSome ad had hc
        exact ⟨h1, h2, fun j x hx => h3 j x (by rw [List.getElem?_take] at hx; split at hx <;> first | exact hx | cases hx)⟩⟩ hti (by omega) (by omega) (by omega) (by simp [maxLen]; omega) ?_
      intro N G row w1 hN hrowl hrowt hN1 hG1 hG2 hb
      have hiq : i + (xs.length + 1 - i) = xs.length + 1 := by omega
      rw [hiq] at hG1 ⊢
      have hB1 : Below base w w1 := hb0.trans (hb.mono hbw)
      replace HY := HY.mono hb
      have HS1 := HS.mono hb
      have hgN : g ≠ N := by omega
      have hMN : M ≠ N := by omega
      have hNw : N < w1.heap.size := (Array.getElem?_eq_some_iff.1 hN1).1
      clear hb hw
      have hw := Below.refl w1.heap.size w1
      repeat' (first | (refine lw_pure rfl (pv_move rfl) ?_) | (refine lw_pure rfl (pv_assign rfl) ?_) | (refine is_cw ?_; first | (refine cw_seq ?_) | (refine cw_region ?_)) | (refine is_qw ?_; first | (with_reducible refine qw_then ?_)) | (refine lw_nil ?_) | (refine lw_pure rfl (pv_slice_l (tS rfl) rfl rfl (by omega)) ?_))
      refine lw_copyd (k := 6) (g := N) (off := i * 6) (m := 1) (cur := row) (cs := encS y) (ad := ⟨M, 0, none⟩) Tryz.underlying22 (by kernel_rfl) (by omega) rfl rfl rfl hN1 (by rw [if_neg (by omega)]; simp [Addr.add_lit]) rfl (by omega) (by rw [hyl]) (fun j v hj => by rw [Addr.add_lit]; exact HY.ld0 hj) (by rw [hyl, hrowl]; omega) (fun v hv => encS_one y v hv) ?_
      intro vc w2 hN2 hg2
      have hB2 : Below base w w2 := hB1.grown hg2 (Nat.le_trans hbw hB1.size) (by intro q hq; injection hq with hq; omega)
      have HS2 := HS1.grown hg2 (fun ad had e => by cases had; injection e with e; exact hgN e)
      have hrow2 : (splice row (i * 6) (encS y)).length = G * 6 := by rw [length_splice _ _ _ (by rw [hyl, hrowl]; omega), hrowl]
      have hB2s := hB2.size
      clear hw
      have hw := Below.refl w2.heap.size w2
      repeat' (first | (refine is_cw ?_; first | (refine cw_seq ?_)) | (refine is_qw ?_; first | (with_reducible refine qw_then ?_)) | (refine lw_nil ?_))
      refine cw_drawn (fun w' => w2.grownBy w' (some N)) (by kernel_rfl) (by repeat (first | exact NoPanic.body | with_reducible refine NoPanic.then ?_ | with_reducible refine NoPanic.inBlock ?_)) (fun hNP => ?_)
      have hS := gb_of (below_drew w2) (some N)
      (refine aw_take 0 rfl (by kernel_rfl) (by kernel_rfl) (by kernel_rfl) hNP hS rfl (fun w' hq => pv_move rfl) ?_)
      (refine aw_take 1 rfl (by kernel_rfl) (by kernel_rfl) (by kernel_rfl) hNP hS rfl (fun w' hq => pv_move rfl) ?_)
      (refine aw_take 2 rfl (by kernel_rfl) (by kernel_rfl) (by kernel_rfl) hNP hS rfl (fun w' hq => pv_move rfl) ?_)
      (refine aw_take 3 rfl (by kernel_rfl) (by kernel_rfl) (by kernel_rfl) hNP hS rfl (fun w' hq => pv_inc rfl rfl (by omega)) ?_)
      (refine aw_take 4 rfl (by kernel_rfl) (by kernel_rfl) (by kernel_rfl) hNP hS rfl (fun w' hq => pv_slice_l (tS rfl) rfl rfl (by omega)) ?_)
      (refine aw_take 5 rfl (by kernel_rfl) (by kernel_rfl) (by kernel_rfl) hNP hS rfl (fun w' hq => pv_move rfl) ?_)
      (refine aw_take 6 rfl (by kernel_rfl) (by kernel_rfl) (by kernel_rfl) hNP hS rfl (fun w' hq => pv_move rfl) ?_)
      (refine aw_take 7 rfl (by kernel_rfl) (by kernel_rfl) (by kernel_rfl) hNP hS rfl (fun w' hq => pv_slice_l (tS rfl) rfl rfl (by omega)) ?_)
      refine aw_act 8 (by kernel_rfl) rfl rfl rfl ?_
      refine act_copyd (k := 6) (g := N) (off := i * 6 + (encS y).length) (m := xs.length - i) (cur := splice row (i * 6) (encS y)) (cs := (xs.drop i).flatMap encS) (ad := ⟨g, i * 6, none⟩) Tryz.underlying22 (by kernel_rfl) (by omega) rfl rfl hN2 (by (try simp only [Int.toNat_natCast]); (try rw [e9]); rw [if_neg (by omega)]; simp [Addr.add_lit, hyl] <;> omega) (by rw [if_neg (by omega)]; simp [Addr.add_lit]) (by omega) hdl (fun j v hj => hrd w2 HS2 j v hj) (by rw [hdl, hrow2, hyl]; omega) (flat_one encS_one _) ?_; intro vd w3 hN3 hg3; refine ⟨gb_trans hS hg3, fun hS => ?_⟩
      refine aw_done (by kernel_rfl) ?_
      replace hb1 := hS; clear hS hNP
      have hw := Below.refl w3.heap.size w3
      have hB3 : Below base w w3 := hB2.grown hb1 (Nat.le_trans hbw hB2s) (by intro q hq; injection hq with hq; omega)
      repeat' (first | (refine lw_pure rfl (pv_move rfl) ?_) | (refine lw_pure rfl (pv_assign rfl) ?_) | (refine is_cw ?_; first | (refine cw_seq ?_) | (refine cw_region ?_) | (refine cw_ret ?_)) | (refine is_qw ?_; first | (with_reducible refine qw_then ?_) | (with_reducible refine qw_then_ret ?_)) | (refine lw_nil ?_))
      refine qw_ret1 rfl rfl ⟨⟨_, rfl, ?_⟩, hB3⟩
      rw [← hrl]
      refine own_of encS_len (by omega) hN3 (by omega) hG2 (by rw [length_splice _ _ _ (by rw [hdl, hrow2, hyl]; omega), hrow2]) ?_
      rw [hrl, hrf, show (xs.length + 1) * 6 = i * 6 + (encS y).length + ((xs.drop i).flatMap encS).length by rw [hyl, hdl]; omega, splice_up (by rw [hyl, hrowl]; omega), hrowt]
    · have hcur : cur.toList.length = cap * 6 := by simpa using hsz
      have hg' : w.heap[g]? = some (.cells cur.toList.toArray 39 (0, 0)) := by simpa using hg
      refine fn_enter 95 Tryz.func98 rfl rfl rfl ?_
      repeat' (first | (refine lw_pure rfl (pv_move rfl) ?_) | (refine lw_pure rfl (pv_assign rfl) ?_) | (refine lw_pure rfl (pv_capl (tS rfl) rfl) ?_) | (refine lw_pure rfl (overlap_S (o := (i + 1) * 6) rfl rfl (by (try simp only [Int.toNat_natCast]); (try rw [e9]); rw [if_neg (by omega)]; simp [Addr.add_lit]) HY hg (fun e => hgM e.symm) (by omega)) ?_) | (refine is_cw ?_; first | (refine cw_seq ?_) | (refine cw_region ?_) | (refine cw_true rfl rfl ?_) | (refine cw_false rfl rfl ?_) | (refine cw_false rfl (by first | assumption | exact decide_eq_false (by omega) | exact dec_notF (by omega)) ?_) | (refine cw_skip ?_)) | (refine is_qw ?_; first | (with_reducible refine qw_then ?_)) | (refine lw_nil ?_) | ((refine is_bin ?_; first | (refine lw_pure rfl (pv_eql rfl rfl) ?_) | (refine lw_pure rfl (pv_gtr rfl rfl) ?_) | (refine lw_pure rfl (pv_inc rfl rfl (by omega)) ?_))) | ((refine is_un ?_; first | (refine lw_pure rfl (pv_not rfl) ?_))) | ((refine is_bi ?_; first | (refine lw_pure rfl (pv_lenl (tS rfl) rfl) ?_))) | (refine lw_pure rfl (pv_slice_l (tS rfl) rfl rfl (by omega)) ?_) | (refine lw_pure rfl (pv_slice_h (tS rfl) rfl rfl (by omega)) ?_))
      refine cw_drawn (fun w' => w.grownBy w' (some g)) (by kernel_rfl) (by repeat (first | exact NoPanic.body | with_reducible refine NoPanic.then ?_ | with_reducible refine NoPanic.inBlock ?_)) (fun hNP => ?_)
      have hS := gb_of (below_drew w) (some g)
      (refine aw_take 0 rfl (by kernel_rfl) (by kernel_rfl) (by kernel_rfl) hNP hS rfl (fun w' hq => pv_move rfl) ?_)
      (refine aw_take 1 rfl (by kernel_rfl) (by kernel_rfl) (by kernel_rfl) hNP hS rfl (fun w' hq => pv_move rfl) ?_)
      (refine aw_take 2 rfl (by kernel_rfl) (by kernel_rfl) (by kernel_rfl) hNP hS rfl (fun w' hq => pv_move rfl) ?_)
      (refine aw_take 3 rfl (by kernel_rfl) (by kernel_rfl) (by kernel_rfl) hNP hS rfl (fun w' hq => pv_inc rfl rfl (by omega)) ?_)
      (refine aw_take 4 rfl (by kernel_rfl) (by kernel_rfl) (by kernel_rfl) hNP hS rfl (fun w' hq => pv_slice_l (tS rfl) rfl rfl (by omega)) ?_)
      (refine aw_take 5 rfl (by kernel_rfl) (by kernel_rfl) (by kernel_rfl) hNP hS rfl (fun w' hq => pv_move rfl) ?_)
      (refine aw_take 6 rfl (by kernel_rfl) (by kernel_rfl) (by kernel_rfl) hNP hS rfl (fun w' hq => pv_move rfl) ?_)
      (refine aw_take 7 rfl (by kernel_rfl) (by kernel_rfl) (by kernel_rfl) hNP hS rfl (fun w' hq => pv_slice_l (tS rfl) rfl rfl (by omega)) ?_)
      refine aw_act 8 (by kernel_rfl) rfl rfl rfl ?_
      refine act_copyd (k := 6) (g := g) (off := i * 6 + (encS y).length) (m := xs.length - i) (cur := cur.toList) (cs := (xs.drop i).flatMap encS) (ad := ⟨g, i * 6, none⟩) Tryz.underlying22 (by kernel_rfl) (by omega) rfl rfl hg' (by (try simp only [Int.toNat_natCast]); (try rw [e9]); rw [if_neg (by omega)]; simp [Addr.add_lit, hyl] <;> omega) (by rw [if_neg (by omega)]; simp [Addr.add_lit]) (by omega) hdl (fun j v hj => hrd w HS j v hj) (by rw [hdl, hcur, hyl]; omega) (flat_one encS_one _) ?_; intro vd w2 hN2 hg2; refine ⟨gb_trans hS hg2, fun hS => ?_⟩
      refine aw_done (by kernel_rfl) ?_
      replace hb1 := hS; clear hS hNP
      have hrow2 : (splice cur.toList (i * 6 + (encS y).length) ((xs.drop i).flatMap encS)).length = cap * 6 := by rw [length_splice _ _ _ (by rw [hdl, hcur, hyl]; omega), hcur]
      have HY2 := HY.grown hb1 (by intro h; injection h with h; exact hgM h)
      have hB2 : Below base w w2 := hb0.grown hb1 hbw (by intro q hq; injection hq with hq; omega)
      have hB2s := hB2.size
      have hw := Below.refl w2.heap.size w2
      repeat' (first | (refine lw_pure rfl (pv_move rfl) ?_) | (refine is_cw ?_; first | (refine cw_seq ?_) | (refine cw_region ?_)) | (refine is_qw ?_; first | (with_reducible refine qw_then ?_)) | (refine lw_pure rfl (pv_slice_l (tS rfl) rfl rfl (by omega)) ?_))
      refine lw_copyd (k := 6) (g := g) (off := i * 6) (m := 1) (cur := splice cur.toList (i * 6 + (encS y).length) ((xs.drop i).flatMap encS)) (cs := encS y) (ad := ⟨M, 0, none⟩) Tryz.underlying22 (by kernel_rfl) (by omega) rfl rfl rfl hN2 (by rw [if_neg (by omega)]; simp [Addr.add_lit]) rfl (by omega) (by rw [hyl]) (fun j v hj => by rw [Addr.add_lit]; exact HY2.ld0 hj) (by rw [hrow2, hyl]; omega) (fun v hv => encS_one y v hv) ?_
      intro vc w3 hN3 hg3
      have hB3 : Below base w w3 := hB2.grown hg3 (Nat.le_trans hbw hB2s) (by intro q hq; injection hq with hq; omega)
      clear hw
      have hw := Below.refl w3.heap.size w3
      repeat' (first | (refine lw_pure rfl (pv_move rfl) ?_) | (refine lw_pure rfl (pv_assign rfl) ?_) | (refine is_cw ?_; first | (refine cw_seq ?_) | (refine cw_region ?_) | (refine cw_ret ?_)) | (refine is_qw ?_; first | (with_reducible refine qw_then ?_) | (with_reducible refine qw_then_ret ?_)) | (refine lw_nil ?_))
      refine qw_ret1 rfl rfl ⟨⟨_, rfl, ?_⟩, hB3⟩
      (try simp only [Int.toNat_natCast])
      (try rw [e8])
      rw [← hrl]
      refine own_of encS_len (by omega) hN3 (by omega) hmx (by rw [length_splice _ _ _ (by rw [hrow2, hyl]; omega), hrow2]) ?_
      rw [hrl, hrf, show (xs.length + 1) * 6 = i * 6 + (encS y).length + ((xs.drop i).flatMap encS).length by rw [hyl, hdl]; omega, splice_dn (by rw [hyl, hcur]; omega), ← flat_take encS 6 encS_len, ← htk, List.take_take, Nat.min_eq_left (by omega)]

end Go.Proofs.YtemngicaoacfaaaGreatDoor
