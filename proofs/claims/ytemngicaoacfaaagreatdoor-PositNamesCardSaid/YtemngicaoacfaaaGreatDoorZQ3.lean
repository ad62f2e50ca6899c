/-
  Part 3 of the texts of: PositNames: its row and its card: whatever the input: true; the input reads as it did. Conditions: what the row prints (the table of functions reads as the program's text lays it).
-/
import Derived.Test.YtemngicaoacfaaaGreatDoorZQ2
import Derived.Laws.CopyOwn
import Derived.Lib.Overlaps
import Derived.Lib.AppendZerosOnto
namespace Go.Proofs.YtemngicaoacfaaaGreatDoor
open Go.RowKit Go.PlainAid

theorem run_copy_k (P : Program) (w : World) (dT sT ty elem : TypeId) {k : Nat} (g o dLen dCap : Nat) (a : Addr) (sLen sCap : Nat) (cur : Array Value) (t : TypeId) (cs : List Value)
    (hu : P.underlying dT = some (.slice elem)) (hs : (P.info? elem).map (·.size) = some k)
    (hg : w.heap[g]? = some (.cells cur t (0, 0))) (hn : cs.length = Nat.min sLen dLen * k)
    (hsrc : ∀ j v, cs[j]? = some v → w.cell? (a.add j) = some v) (hfit : o + cs.length ≤ cur.size) (h1 : ∀ v ∈ cs, v.oneCell' = true) :
    (Builtin.copy_ #[dT, sT] ty #[.slice (some ⟨g, o, none⟩) dLen dCap, .slice (some a) sLen sCap]).run P w =
      .ok (goInt (Nat.min sLen dLen)) (w.setRow g (cur.toList.take o ++ cs ++ cur.toList.drop (o + cs.length)).toArray) := by
  have hl := run_loadCells_list (P := P) w a cs hsrc
  have hst := run_storeCells_at P g o t cs 0 cur w hg (by simpa using hfit) h1
  cases hq : P.info? elem with
  | none => simp [hq] at hs
  | some i =>
    have hi : i.size = k := by simpa [hq] using hs
    simp [Builtin.copy_, run_underlying hu, Builtin.lenOf, Builtin.firstCells, sizeOf, typeInfo, hq, hi, ← hn, hl, hst]
theorem run_copy_zero (P : Program) (w : World) (dT sT ty elem : TypeId) {k : Nat} (d a : Option Addr) (dLen dCap sLen sCap : Nat) (hu : P.underlying dT = some (.slice elem)) (hs : (P.info? elem).map (·.size) = some k) (hn : Nat.min sLen dLen = 0) :
    (Builtin.copy_ #[dT, sT] ty #[.slice d dLen dCap, .slice a sLen sCap]).run P w = .ok (goInt 0) w := by
  cases hq : P.info? elem with
  | none => simp [hq] at hs
  | some i =>
    have hl0 : ∀ ad : Addr, (loadCells ad 0).run P w = .ok #[] w := fun ad => run_loadCells_list (P := P) w ad [] (by simp)
    cases a with
    | none => cases d <;> simp [Builtin.copy_, run_underlying hu, Builtin.lenOf, Builtin.firstCells, sizeOf, typeInfo, hq, hn, storeCells]
    | some a => cases d <;> simp [Builtin.copy_, run_underlying hu, Builtin.lenOf, Builtin.firstCells, sizeOf, typeInfo, hq, hn, storeCells, hl0]
theorem copy_some {P : Program} {w : World} {dT sT ty elem : TypeId} {k : Nat} (hu : P.underlying dT = some (.slice elem)) (hs : (P.info? elem).map (·.size) = some k) (_hk : 0 < k) {dp sp : Option Addr} {dLen dCap sLen sCap g off : Nat} {cur cs : List Value} {t : TypeId} (hg : w.heap[g]? = some (.cells cur.toArray t (0, 0))) (hn : cs.length = Nat.min sLen dLen * k)
    (hpos : 0 < Nat.min sLen dLen → dp = some ⟨g, off, none⟩ ∧ ∃ ad, sp = some ad ∧ ∀ j v, cs[j]? = some v → w.cell? (ad.add j) = some v) (hfit : off + cs.length ≤ cur.length) (h1 : ∀ v ∈ cs, v.oneCell' = true) :
    ∃ v w', (Builtin.copy_ #[dT, sT] ty #[.slice dp dLen dCap, .slice sp sLen sCap]).run P w = .ok v w' ∧ w'.heap[g]? = some (.cells (splice cur off cs).toArray t (0, 0)) ∧ w.grownBy w' (some g) := by
  by_cases h0 : Nat.min sLen dLen = 0
  · have hc : cs = [] := List.eq_nil_of_length_eq_zero (by rw [hn, h0, Nat.zero_mul])
    subst hc
    exact ⟨_, w, run_copy_zero P w dT sT ty elem dp sp dLen dCap sLen sCap hu hs h0, by simpa [splice] using hg, ⟨rfl, rfl, rfl, Nat.le_refl _, fun _ _ _ => rfl⟩⟩
  · obtain ⟨rfl, ad, rfl, hsrc⟩ := hpos (by omega)
    refine ⟨_, _, run_copy_k P w dT sT ty elem g off dLen dCap ad sLen sCap cur.toArray t cs hu hs hg hn hsrc (by simpa using hfit) h1, ?_, ⟨rfl, rfl, rfl, by simp, fun q hq hne => setRow_other w g q _ (fun e => hne (by rw [e]))⟩⟩
    simpa [splice] using setRow_heap w g _ _ t _ hg
def waitsT (ops : Array Oper) : Nat → Nat → Nat → Bool
  | 0, _, _ => false
  | m + 1, f, i => match ops[f]? with
    | some o => o.after.toList.any fun e => Region.binds .any e && (Nat.beq e.on i || waitsT ops m e.on i)
    | none => false
def ClosedL (ops : Array Oper) (listed : Array Bool) : Prop := ∀ (j : Nat) (o : Oper), ops[j]? = some o → listed.getD j false = true → ∀ e ∈ o.after, Region.binds .any e = true → listed.getD e.on false = true
def closedB (ops : Array Oper) (listed : Array Bool) : Bool := (List.range ops.size).all fun j => match ops[j]? with
  | some o => !listed.getD j false || o.after.toList.all fun e => !Region.binds .any e || listed.getD e.on false
  | none => true
theorem closed_of {ops : Array Oper} {listed : Array Bool} (h : closedB ops listed = true) : ClosedL ops listed := fun j o ho hl e he hb => by
  have hj : j < ops.size := (Array.getElem?_eq_some_iff.1 ho).1
  have h1 := List.all_eq_true.1 h j (List.mem_range.2 hj)
  rw [ho] at h1
  dsimp only at h1
  rw [hl] at h1
  simp only [Bool.not_true, Bool.false_or] at h1
  have h2 := List.all_eq_true.1 h1 e (by simpa using he)
  rw [hb] at h2
  simpa using h2
theorem ClosedL.step {ops : Array Oper} {listed : Array Bool} (h : ClosedL ops listed) {i : Nat} (hi : i ∈ Region.ready .any ops listed) : ClosedL ops (listed.setIfInBounds i true) := fun j o ho hl e he hb => by
  by_cases hij : i = j
  · subst hij
    obtain ⟨_, o', ho', hall⟩ := mem_ready.1 hi
    rw [ho] at ho'; injection ho' with ho'; subst ho'
    exact getD_set_true (hall e he hb)
  · rw [getD_set_ne false hij] at hl
    exact getD_set_true (h j o ho hl e he hb)
theorem waitsT_listed {ops : Array Oper} {listed : Array Bool} (hc : ClosedL ops listed) : ∀ {m f i : Nat}, waitsT ops m f i = true → (∀ o, ops[f]? = some o → ∀ e ∈ o.after, Region.binds .any e = true → listed.getD e.on false = true) → listed.getD i false = true
  | 0, _, _, h, _ => by cases h
  | m + 1, f, i, h, hf => by
    unfold waitsT at h
    cases ho : ops[f]? with
    | none => rw [ho] at h; cases h
    | some o =>
      rw [ho] at h
      rw [List.any_eq_true] at h
      obtain ⟨e, he, h2⟩ := h
      rw [Bool.and_eq_true] at h2
      have hl := hf o ho e (by simpa using he) h2.1
      rcases (Bool.or_eq_true _ _).mp h2.2 with h3 | h3
      · rw [← Nat.eq_of_beq_eq_true h3]; exact hl
      · exact waitsT_listed hc h3 fun o' ho' e' he' hb' => hc e.on o' ho' hl e' he' hb'
section
variable {P : Program} {ops : Array Oper} {Q : Exit → Act → World → Prop} {U : World → Prop} {f : Nat}
theorem wpAnyF_firstT {i : Nat} {oi : Oper} {v : Value} {m : Nat} (hif : i ≠ f) (hwait : waitsT ops m f i = true) (hi : ops[i]? = some oi) (hsel : ∀ (j : Nat) (o : Oper) cs b, ops[j]? = some o → o.op ≠ .select cs b)
    (hQ : ∀ c a w, Q (.panic c) (a.put oi.dst v) w → Q (.panic c) a w) :
    ∀ (fuel : Nat) (listed : Array Bool) (a : Act) (w : World), ClosedL ops listed →
      (∀ j oj, ops[j]? = some oj → j ≠ i → listed.getD j true = false → (∀ e ∈ oj.after, Region.binds .any e = true → e.on ≠ i) → oi.apart ops oj = true) →
      i ∈ Region.ready .any ops listed → listed.getD f true = false → YieldsIf P ops U oi v a → U w →
      wpAnyF P .any ops Q f U fuel (listed.setIfInBounds i true) (a.put oi.dst v) w → wpAnyF P .any ops Q f U (fuel + 1) listed a w := by
  intro fuel
  induction fuel with
  | zero =>
    intro listed a w _ _ hr _ hy hS H
    refine ⟨fun h => (by rw [h] at hr; cases hr), fun j hj => ?_⟩
    by_cases hji : j = i
    · subst hji; exact hy.wpOp hi hS ⟨fun _ => hS, H⟩
    · have := ready_mono hj hji
      rw [H.1] at this
      cases this
  | succ fuel ih =>
    intro listed a w hcl hfree hr hf hy hS H
    refine ⟨fun h => (by rw [h] at hr; cases hr), fun j hj => ?_⟩
    by_cases hji : j = i
    · subst hji; exact hy.wpOp hi hS ⟨fun _ => hS, H⟩
    · have h1 := H.2 j (ready_mono hj hji)
      obtain ⟨hjun, oj, hoj, hall⟩ := mem_ready.1 hj
      have h0 := (mem_ready.1 hr).1
      have hlt : i < listed.size := by
        rcases Nat.lt_or_ge i listed.size with h' | h'
        · exact h'
        · simp [Array.getElem?_eq_none h'] at h0
      have h00 : listed.getD i false = false := by simpa [hlt] using h0
      have hun : ∀ e ∈ oj.after, Region.binds .any e = true → e.on ≠ i := fun e he hb heq => by
        have h1 := hall e he hb
        rw [heq, h00] at h1; cases h1
      have hjf : j ≠ f := fun e => by
        subst e
        have := waitsT_listed hcl hwait fun o' ho' e' he' hb' => by
          rw [hoj] at ho'; injection ho' with ho'; subst ho'
          exact hall e' he' hb'
        rw [h00] at this; cases this
      have h2 := wpOp_putIf hoj (hfree j oj hoj hji hjun hun) (fun cs b => hsel i oi cs b hi) (fun cs b => hsel j oj cs b hoj) hQ hy h1
      have hfree' : ∀ k ok, ops[k]? = some ok → k ≠ i → (listed.setIfInBounds j true).getD k true = false →
          (∀ e ∈ ok.after, Region.binds .any e = true → e.on ≠ i) → oi.apart ops ok = true := fun k ok hk hki hun hno => by
        refine hfree k ok hk hki ?_ hno
        by_cases hjk : j = k
        · subst hjk; exact hjun
        · rw [getD_set_ne true hjk] at hun; exact hun
      refine wpOp_mono (fun a' w' h3 => ?_) h2
      have hU' : U w' := h3.2.1 (by rw [getD_set_ne true hjf, getD_set_ne true hif]; exact hf)
      refine ⟨fun _ => hU', ih (listed.setIfInBounds j true) a' w' (hcl.step hj) hfree' (ready_mono hr (Ne.symm hji)) (by rw [getD_set_ne true hjf]; exact hf) h3.1 hU' ?_⟩
      rw [Array.setIfInBounds_comm _ _ hji]
      exact h3.2.2
end
section
variable {n : Nat} {l : Fr} {P : Program} {w : World} {Q : Exit → Act → World → Prop} {ops : Array Oper} {U : World → Prop} {fuel : Nat} {listed : Array Bool} {f : Nat}
theorem fw_takeT (i m : Nat) {d : Nat} {op : Op} {ty : TypeId} {pos : String} {af : Array Edge} {v : Value} (ho : ops[i]? = some ⟨some d, op, ty, pos, af, none⟩) (hwt : waitsT ops m f i = true) (hcl : closedB ops listed = true) (hif : Nat.beq i f = false) (hfl : listed.getD f true = false)
    (hs : Region.noSelect ops = true) (hf : Region.free .any ops listed i = true) (hr : (Region.ready .any ops listed).contains i = true) (hQ : NoPanic Q) (hU : U w) (hd : Nat.blt d n = true)
    (hv : ∀ w, U w → Pv P n l ⟨some d, op, ty, pos, af, none⟩ v w) (h : FW P n ops Q f U fuel (listed.setIfInBounds i true) ((d, v) :: l) w) : FW P n ops Q f U (fuel + 1) listed l w := ⟨fun a ha =>
  wpAnyF_firstT (fun e => by subst e; simp at hif) hwt ho (Region.noSelect_spec hs) (fun c a w => hQ c _ v a w) fuel listed a w (closed_of hcl) (Region.free_spec ho hf) (by simpa using hr) hfl (Or.inl ⟨rfl, fun w hw => (hv w hw).out a ha⟩) hU (h.out _ (ha.put hd v))⟩
theorem fw_one (i : Nat) {o : Oper} (hr : Region.ready .any ops listed = [i]) (ho : ops[i]? = some o) (hg : guardOn ops l o.guard = true) (hd : inD o.dst n = true) (hfs : (listed.setIfInBounds i true).getD f true = true)
    (h : Act1 P n l o w fun v w' => FW P n ops Q f U fuel (listed.setIfInBounds i true) (putD o.dst v l) w') : FW P n ops Q f U (fuel + 1) listed l w := ⟨fun a ha => by
  refine ⟨fun h0 => (by rw [hr] at h0; cases h0), fun j hj => ?_⟩
  rw [hr, List.mem_singleton] at hj; subst hj
  unfold wpOp; rw [ho]
  dsimp only
  rw [if_pos (wanted_of ha hg)]
  exact Or.inl (h.out a ha _ _ fun v w' hZ => ⟨fun hf => (by rw [hfs] at hf; cases hf), hZ.out _ (ha.putD hd v)⟩)⟩
theorem fw_done (hr : Region.ready .any ops listed = []) (h : QW n Q .normal l w) : FW P n ops Q f U fuel listed l w := ⟨fun a ha => by
  cases fuel with
  | zero => exact ⟨hr, h.out a ha⟩
  | succ m => exact ⟨fun _ => h.out a ha, by rw [hr]; simp⟩⟩
end
section
variable {P : Program} {n : Nat} {l : Fr} {w : World} {d : Option Nat} {t t' ty : TypeId} {x y : Operand} {pos : String} {af : Array Edge} {g : Option (Nat × Bool)} {a b : Int}
theorem u64_in (a : Int) (h : 0 ≤ a ∧ a ≤ 18446744073709551615) : IntKind.u64.wrap a = a := by
  rw [IntKind.wrap_u64]; omega
theorem pv_addu (hx : ev l x = some (.int .u64 a)) (hy : ev l y = some (.int .u64 b)) (h : 0 ≤ a + b ∧ a + b ≤ 18446744073709551615) : Pv P n l ⟨d, .binOp .add t x y t', ty, pos, af, g⟩ (.int .u64 (a + b)) w := by
  have := pv_add_w (P := P) (n := n) (w := w) (d := d) (ty := ty) (pos := pos) (af := af) (g := g) (t := t) (t' := t') hx hy
  rwa [u64_in _ h] at this
theorem pv_mulu (hx : ev l x = some (.int .u64 a)) (hy : ev l y = some (.int .u64 b)) (h : 0 ≤ a * b ∧ a * b ≤ 18446744073709551615) : Pv P n l ⟨d, .binOp .mul t x y t', ty, pos, af, g⟩ (.int .u64 (a * b)) w := by
  have := pv_mul_w (P := P) (n := n) (w := w) (d := d) (ty := ty) (pos := pos) (af := af) (g := g) (t := t) (t' := t') hx hy
  rwa [u64_in _ h] at this
theorem pv_convu (ht : cvB P t t' .u64 = true) {k : IntKind} (hx : ev l x = some (.int k a)) (h : 0 ≤ a ∧ a ≤ 18446744073709551615) : Pv P n l ⟨d, .convert t t' x, ty, pos, af, g⟩ (.int .u64 a) w := by
  have := pv_conv_w (P := P) (n := n) (w := w) (d := d) (ty := ty) (pos := pos) (af := af) (g := g) ht hx
  rwa [u64_in _ h] at this
theorem u64_and32 (n : Int) : bits .and .u64 n 4294967295 = n % 4294967296 := by
  have h127 : (BitVec.ofInt 64 4294967295).toNat = 2 ^ 32 - 1 := by decide
  have key : (BitVec.ofInt 64 n &&& BitVec.ofInt 64 4294967295).toNat = (n % ((2 ^ 64 : Nat) : Int)).toNat % 2 ^ 32 := by
    rw [BitVec.toNat_and, BitVec.toNat_ofInt, h127, Nat.and_two_pow_sub_one_eq_mod]
  show IntKind.u64.wrap ((BitVec.ofInt 64 n &&& BitVec.ofInt 64 4294967295).toNat : Nat) = n % 4294967296
  rw [key, IntKind.wrap_u64]
  omega
theorem pv_and32u (hx : ev l x = some (.int .u64 a)) (hy : ev l y = some (.int .u64 4294967295)) : Pv P n l ⟨d, .binOp .and t x y t', ty, pos, af, g⟩ (.int .u64 (a % 4294967296)) w := ⟨fun A hA => by
  have h : (Op.intBits .and .u64 a 4294967295 : Sem Value) = pure (.int .u64 (a % 4294967296)) := by rw [← u64_and32 a]; rfl
  simp [execOp, hA.ev hx, hA.ev hy, eqGuard, binOp, h]⟩
theorem pv_shr32u {k' : IntKind} (hx : ev l x = some (.int .u64 a)) (hy : ev l y = some (.int k' 32)) : Pv P n l ⟨d, .binOp .shr t x y t', ty, pos, af, g⟩ (.int .u64 (a / 4294967296)) w := by
  have h := pv_shr (P := P) (n := n) (w := w) (d := d) (ty := ty) (pos := pos) (af := af) (g := g) (t := t) (t' := t') hx hy (by omega)
  have e : a.fdiv (2 ^ (min (32 : Int).toNat IntKind.u64.bits)) = a / 4294967296 := by
    rw [show ((2 : Int) ^ (min (32 : Int).toNat IntKind.u64.bits)) = 4294967296 by decide, Int.fdiv_eq_ediv_of_nonneg _ (by omega)]
  rwa [e] at h
theorem pv_half {k k' : IntKind} {m q : Nat} (hx : ev l x = some (.int k a)) (hy : ev l y = some (.int k' 1)) (ha : a = (m : Int)) (hq : m / 2 = q) (hk : 1 ≤ k.bits) : Pv P n l ⟨d, .binOp .shr t x y t', ty, pos, af, g⟩ (.int k (q : Nat)) w := by
  have h := pv_shr (P := P) (n := n) (w := w) (d := d) (ty := ty) (pos := pos) (af := af) (g := g) (t := t) (t' := t') hx hy (by omega)
  have e : a.fdiv (2 ^ (min (1 : Int).toNat k.bits)) = (q : Nat) := by
    rw [show min (1 : Int).toNat k.bits = 1 by have : (1 : Int).toNat = 1 := rfl; omega, Int.fdiv_eq_ediv_of_nonneg _ (by decide), ha, ← hq]
    omega
  rwa [e] at h
end
set_option maxRecDepth 20000 in
theorem within_c {n : Int} (h : NumS n) (w : World) : Calls Tryz.prog 119 #[.int .i64 n] w fun e w' => e = .returned (.int .i64 n) ∧ w = w' := by
  unfold NumS farS at h
  refine fn_enter 6 Tryz.func119 rfl rfl rfl ?_
  repeat' (first | (refine lw_pure rfl (pv_move rfl) ?_) | (refine lw_pure rfl (pv_assign rfl) ?_) | (refine is_cw ?_; first | (refine cw_seq ?_) | (refine cw_region ?_) | (refine cw_ret ?_)) | (refine is_qw ?_; first | (with_reducible refine qw_then ?_)) | (refine lw_nil ?_) | ((refine is_bi ?_; first | (refine lw_pure rfl (pv_min rfl rfl) ?_) | (refine lw_pure rfl (pv_max rfl rfl) ?_))))
  exact qw_ret1 rfl rfl ⟨ret_int (by (repeat' split) <;> omega), rfl⟩
set_option maxRecDepth 20000 in
theorem cap_c {a b : Int} (ha : NumS a) (hb : NumS b) (w : World) : Calls Tryz.prog 99 #[.int .i64 a, .int .i64 b] w fun e w' => e = .returned (.int .i64 (moreS a b)) ∧ w = w' := by
  have ga := ha
  have gb := hb
  unfold NumS farS at ga gb
  refine fn_enter 16 Tryz.func99 rfl rfl rfl ?_
  repeat' (first | (refine lw_pure rfl (pv_move rfl) ?_) | (refine lw_pure rfl (pv_assign rfl) ?_) | (refine is_cw ?_; first | (refine cw_seq ?_) | (refine cw_region ?_)) | (refine is_qw ?_; first | (with_reducible refine qw_then ?_)) | (refine lw_nil ?_))
  refine lw_call (f := 119) (by kernel_rfl) rfl rfl (within_c ha _) ?_; rintro e w1 ⟨rfl, rfl⟩; refine ⟨_, rfl, ?_⟩
  repeat' (first | (refine lw_pure rfl (pv_move rfl) ?_))
  refine lw_call (f := 119) (by kernel_rfl) rfl rfl (within_c hb _) ?_; rintro e w1 ⟨rfl, rfl⟩; refine ⟨_, rfl, ?_⟩
  repeat' (first | (refine lw_pure rfl (pv_move rfl) ?_) | (refine lw_pure rfl (pv_assign rfl) ?_) | (refine is_cw ?_; first | (refine cw_seq ?_) | (refine cw_region ?_) | (refine cw_skip ?_) | (refine cw_ret ?_)) | (refine is_qw ?_; first | (with_reducible refine qw_then ?_) | (with_reducible refine qw_then_ret ?_)) | (refine lw_nil ?_) | ((refine is_bin ?_; first | (refine lw_pure rfl (pv_gtr rfl rfl) ?_) | (refine lw_pure rfl (pv_add rfl rfl (by omega)) ?_) | (refine lw_pure rfl (pv_sub rfl rfl (by omega)) ?_))) | (refine is_cw ?_; refine cw_split rfl (fun hc => ?_) (fun hc => ?_) <;> (first | replace hc := of_decide_eq_true hc | replace hc := of_decide_eq_false hc | replace hc := dec_nT hc | replace hc := dec_nF hc | skip) <;> (try (exfalso; omega))))
  all_goals (refine qw_ret1 rfl rfl ⟨ret_int ?_, rfl⟩; unfold moreS farS; (repeat' split) <;> omega)
set_option maxRecDepth 20000 in
theorem mul64_c {x y : Int} (hx : 0 ≤ x ∧ x ≤ 1073741824) (hy : 0 ≤ y ∧ y ≤ 1048576) (hxy : 0 ≤ x * y ∧ x * y ≤ 1125899906842624) (w : World) : Calls Tryz.prog 68 #[.int .u64 x, .int .u64 y] w fun e w' => e = .returned (.tuple #[.int .u64 0, .int .u64 (x * y)]) ∧ w = w' := by
  have hx0 : x % 4294967296 = x := by omega
  have hx1 : x / 4294967296 = 0 := by omega
  have hy0 : y % 4294967296 = y := by omega
  have hy1 : y / 4294967296 = 0 := by omega
  generalize hp : x * y = p at hxy ⊢
  refine fn_enter 51 Tryz.func68 rfl rfl rfl ?_
  repeat' (first | (refine lw_pure rfl (pv_move rfl) ?_) | (refine lw_pure rfl (pv_assign rfl) ?_) | (refine lw_pure rfl (pv_and32u rfl rfl) ?_; (try rw [hx0]); (try rw [hy0])) | (refine lw_pure rfl (pv_shr32u rfl rfl) ?_; (try rw [hx1]); (try rw [hy1])) | (refine lw_pure rfl (pv_mulu rfl rfl (by first | (rw [hp]; omega) | omega)) ?_; (try rw [hp])) | (refine lw_pure rfl (pv_addu rfl rfl (by omega)) ?_) | (refine is_cw ?_; first | (refine cw_seq ?_) | (refine cw_region ?_) | (refine cw_ret ?_)) | (refine is_qw ?_; first | (with_reducible refine qw_then ?_)) | (refine lw_nil ?_))
  exact qw_ret2 rfl rfl rfl ⟨by congr 1; simp; omega, rfl⟩
set_option maxRecDepth 20000 in
theorem mul_c {x y : Int} (hx : 0 ≤ x ∧ x ≤ 1073741824) (hy : 0 ≤ y ∧ y ≤ 1048576) (hxy : 0 ≤ x * y ∧ x * y ≤ 1125899906842624) (w : World) : Calls Tryz.prog 46 #[.int .i64 x, .int .i64 y] w fun e w' => e = .returned (.tuple #[.int .i64 (x * y), .int .i64 0]) ∧ w = w' := by
  have hm := mul64_c hx hy hxy w
  generalize x * y = p at hm hxy
  refine fn_enter 30 Tryz.func46 rfl rfl rfl ?_
  repeat' (first | (refine lw_pure rfl (pv_move rfl) ?_) | (refine lw_pure rfl (pv_assign rfl) ?_) | (refine lw_pure rfl (pv_convu (tCv rfl rfl) rfl (by omega)) ?_) | (refine is_cw ?_; first | (refine cw_seq ?_) | (refine cw_region ?_) | (refine is_cd ?_; refine cw_false rfl (by first | assumption | exact decide_eq_false (by omega) | exact dec_notF (by omega)) ?_) | (refine cw_skip ?_)) | (refine is_qw ?_; first | (with_reducible refine qw_then ?_)) | (refine lw_nil ?_) | (refine is_guarded ?_; first | (refine lw_on rfl rfl (by first | assumption | exact decide_eq_true (by omega) | exact decide_eq_false (by omega) | exact dec_notT (by omega) | exact dec_notF (by omega)) ?_)) | ((refine is_bin ?_; first | (refine lw_pure rfl (pv_lss rfl rfl) ?_))) | (refine is_pk ?_; refine lw_pure rfl (pv_pick_f rfl (by first | assumption | exact decide_eq_false (by omega) | exact dec_notF (by omega)) rfl) ?_))
  refine lw_call (f := 68) (by kernel_rfl) rfl rfl (hm) ?_; rintro e w1 ⟨rfl, rfl⟩; refine ⟨_, rfl, ?_⟩
  repeat' (first | (refine lw_pure rfl (pv_move rfl) ?_) | (refine lw_pure rfl (pv_assign rfl) ?_) | (refine is_cw ?_; first | (refine cw_seq ?_) | (refine cw_region ?_) | (refine is_cd ?_; refine cw_false rfl (by first | assumption | exact decide_eq_false (by omega) | exact dec_notF (by omega)) ?_) | (refine cw_skip ?_) | (refine cw_ret ?_)) | (refine is_qw ?_; first | (with_reducible refine qw_then ?_)) | (refine lw_nil ?_) | (refine is_guarded ?_; first | (refine lw_on rfl rfl rfl ?_)) | ((refine is_bin ?_; first | (refine lw_pure rfl (pv_neq rfl rfl) ?_) | (refine lw_pure rfl (pv_gtr rfl rfl) ?_))) | (refine is_pk ?_; refine lw_pure rfl (pv_pick_f rfl rfl rfl) ?_) | (refine lw_pure rfl (pv_extract rfl rfl) ?_) | (refine is_cv ?_; refine lw_pure rfl (pv_conv (tCv rfl rfl) rfl (by omega)) ?_))
  exact qw_ret2 rfl rfl rfl ⟨rfl, rfl⟩
section
variable {P : Program} {n : Nat} {l : Fr} {w : World} {d : Option Nat} {t t' ty : TypeId} {x y : Operand} {pos : String} {af : Array Edge} {g : Option (Nat × Bool)} {a b : Int}
theorem pv_capl {ad : Option Addr} {m c e : Nat} (ht : slB P t e = true) (hx : ev l x = some (.slice ad m c)) : Pv P n l ⟨d, .call ⟨.builtin .cap, #[x], #[t]⟩, ty, pos, af, g⟩ (.int .i64 c) w := ⟨fun A hA => by
  obtain ⟨u, hu, _⟩ := slB_of ht
  simp [execOp, resolve, hA.ev hx, invoke, builtin, Builtin.cap_, run_underlying hu, goInt]⟩
end
theorem splice_take {α : Type} {L cs : List α} {off : Nat} (h : off ≤ L.length) : (splice L off cs).take (off + cs.length) = L.take off ++ cs := by
  unfold splice
  rw [← List.append_assoc]
  exact List.take_left' (by rw [List.length_append, List.length_take]; omega)
theorem splice_low {α : Type} {L cs : List α} {off a : Nat} (h : off ≤ L.length) (ha : a ≤ off) : (splice L off cs).take a = L.take a := by
  unfold splice
  rw [List.take_append_of_le_length (by rw [List.length_take]; omega), List.take_take, Nat.min_eq_left ha]
theorem splice_drop {α : Type} {L cs : List α} {off : Nat} (h : off ≤ L.length) : (splice L off cs).drop off = cs ++ L.drop (off + cs.length) := by
  unfold splice
  exact List.drop_left' (by rw [List.length_take]; omega)
theorem splice_up {α : Type} {L A B : List α} {a : Nat} (h : a + A.length ≤ L.length) : (splice (splice L a A) (a + A.length) B).take (a + A.length + B.length) = L.take a ++ (A ++ B) := by
  rw [splice_take (by rw [length_splice _ _ _ h]; omega), splice_take (by omega), List.append_assoc]
theorem splice_dn {α : Type} {L A B : List α} {a : Nat} (h : a + A.length ≤ L.length) : (splice (splice L (a + A.length) B) a A).take (a + A.length + B.length) = L.take a ++ (A ++ B) := by
  have e : splice (splice L (a + A.length) B) a A = (L.take a ++ (A ++ B)) ++ L.drop (a + A.length + B.length) := by
    rw [splice, splice_low h (by omega), splice_drop h]; simp
  rw [e]
  exact List.take_left' (by rw [List.length_append, List.length_append, List.length_take]; omega)
section
variable {α : Type} {enc : α → List Value} {k nb : Nat} {P : Program} {n : Nat} {l : Fr} {w : World} {Q : Exit → Act → World → Prop} {ops : Array Oper} {os : List Oper} {d : Nat} {ty : TypeId} {pos : String} {af : Array Edge} {x y : Operand} {S T : TypeId} {base g cap : Nat} {xs : List α}
theorem own_of {cur : List Value} (hk : ∀ x, (enc x).length = k) (hb : base ≤ g) (hg : w.heap[g]? = some (.cells cur.toArray T (0, 0))) (hle : xs.length ≤ cap) (hmax : cap ≤ maxLen) (hsz : cur.length = cap * k) (htk : cur.take (xs.length * k) = xs.flatMap enc) : Own enc k T base w (.slice (some ⟨g, 0, none⟩) xs.length cap) xs :=
  ⟨by rw [flat_len enc k hk], Or.inr ⟨g, cap, cur.toArray, rfl, hb, hg, hle, hmax, by simpa using hsz, by simpa using htk⟩⟩
theorem lw_appz (E : ElemT P S T k nb) {tn : TypeId} (htn : P.underlying tn = some (.int .i64)) (hk : ∀ x, (enc x).length = k) {i q : Nat} {b : Int} (hd : Nat.blt d n = true) (hx : ev l x = some (.slice (some ⟨g, 0, none⟩) i cap)) (hy : ev l y = some (.int .i64 b)) (hb : b = (q : Int)) (hs : SlR enc k w (some ⟨g, 0, none⟩) cap xs) (hi : xs.length = i) (hq : 0 < q) (hgr : cap < i + q) (hsz : (i + q) * nb ≤ 140737488355328) (hmx : i + q ≤ maxLen)
    (h : ∀ (N G : Nat) (row : List Value) (w' : World), w.heap.size ≤ N → row.length = G * k → row.take (i * k) = xs.flatMap enc → w'.heap[N]? = some (.cells row.toArray T (0, 0)) → i + q ≤ G → G ≤ maxLen → Below w.heap.size w w' → LW P n ops Q os ((d, .slice (some ⟨N, 0, none⟩) (i + q) G) :: l) w') :
    LW P n ops Q (⟨some d, .call ⟨.builtin .append, #[x, y], #[S, tn]⟩, ty, pos, af, none⟩ :: os) l w := by
  subst hb hi
  obtain ⟨inf, z, hif, hz, hisz, hby, hzs⟩ := E.info
  have hk0 := E.pos
  have hold : (Builtin.firstCells inf.size xs.length (.slice (some ⟨g, 0, none⟩) xs.length cap)).run P w.drew = .ok (xs.flatMap enc).toArray w.drew := by
    rw [hisz]
    exact run_firstCells_some w.drew k xs.length ⟨g, 0, none⟩ xs.length cap (xs.flatMap enc) (flat_len enc k hk xs) (fun j v hj => SlR.flat hk hs j v hj)
  have hmm : maxLen ≤ 9223372036854775807 := by unfold maxLen; omega
  have hrun := Lib.run_append_grow_zeros w S tn ty T inf z .i64 .i64 E.sl htn hif hz (some ⟨g, 0, none⟩) xs.length cap (xs.flatMap enc) hold q hq (by omega) hgr (by omega) (by rw [hby]; have := Nat.mul_le_mul_right nb (show q ≤ xs.length + q by omega); omega) (by rw [hby]; exact growslice_fits hgr hsz)
  obtain ⟨G, hG⟩ : ∃ G, G = grownCap w (xs.length + q) cap T := ⟨_, rfl⟩
  rw [← hG] at hrun
  have hG1 : xs.length + q ≤ G := by rw [hG]; exact grownCap_ge w _ _ _
  have hG2 : G ≤ maxLen := by rw [hG]; exact grownCap_le_maxLen w _ _ _ hmx
  obtain ⟨row, hrow⟩ : ∃ row : List Value, row.toArray = (xs.flatMap enc).toArray ++ Builtin.zeroCells z.cells q ++ Builtin.zeroCells z.cells (G - (xs.length + q)) := ⟨_, Array.toArray_toList⟩
  rw [← hrow] at hrun
  have hrow2 : row = xs.flatMap enc ++ ((Builtin.zeroCells z.cells q).toList ++ (Builtin.zeroCells z.cells (G - (xs.length + q))).toList) := by
    have := congrArg Array.toList hrow; simpa using this
  have hzl : ∀ m, (Builtin.zeroCells z.cells m).toList.length = m * k := fun m => by simp [Builtin.zeroCells, hzs]
  refine lw_eff hd (w' := w.drew.alloc (.cells row.toArray T)) ⟨fun A hA => ?_⟩ (h w.heap.size G row _ (Nat.le_refl _) ?_ ?_ (heap_alloc_new w.drew _) hG1 hG2 (grow_trans (below_drew w) (below_alloc _ _)))
  · simp [execOp, resolve, hA.ev hx, hA.ev hy, invoke, builtin, hrun]
  · rw [hrow2, List.length_append, List.length_append, hzl, hzl, flat_len enc k hk, ← Nat.add_mul, ← Nat.add_mul]; congr 1; omega
  · rw [hrow2]; exact List.take_left' (flat_len enc k hk xs)
theorem copy_min {sLen dLen m : Nat} (h : (sLen ≤ dLen ∧ sLen = m) ∨ (dLen ≤ sLen ∧ dLen = m)) : Nat.min sLen dLen = m := by
  rcases h with ⟨h1, h2⟩ | ⟨h1, h2⟩
  · exact (Nat.min_eq_left h1).trans h2
  · exact (Nat.min_eq_right h1).trans h2
theorem lw_copyd {dT sT elem t : TypeId} {off m : Nat} {dp sp : Option Addr} {dLen dCap sLen sCap : Nat} {cur cs : List Value} {ad : Addr} (hu : P.underlying dT = some (.slice elem)) (hs : (P.info? elem).map (·.size) = some k) (hk : 0 < k) (hd : Nat.blt d n = true) (hx : ev l x = some (.slice dp dLen dCap)) (hy : ev l y = some (.slice sp sLen sCap)) (hg : w.heap[g]? = some (.cells cur.toArray t (0, 0)))
    (hdp : dp = some ⟨g, off, none⟩) (hsp : sp = some ad) (hmin : (sLen ≤ dLen ∧ sLen = m) ∨ (dLen ≤ sLen ∧ dLen = m)) (hn : cs.length = m * k) (hc : ∀ j v, cs[j]? = some v → w.cell? (ad.add j) = some v) (hfit : off + cs.length ≤ cur.length) (h1 : ∀ v ∈ cs, v.oneCell' = true)
    (h : ∀ v w', w'.heap[g]? = some (.cells (splice cur off cs).toArray t (0, 0)) → w.grownBy w' (some g) → LW P n ops Q os ((d, v) :: l) w') : LW P n ops Q (⟨some d, .call ⟨.builtin .copy, #[x, y], #[dT, sT]⟩, ty, pos, af, none⟩ :: os) l w := by
  obtain ⟨v, w', h2, h3, h4⟩ := copy_some (ty := ty) (sT := sT) (dCap := dCap) (sCap := sCap) hu hs hk hg (show cs.length = Nat.min sLen dLen * k by rw [copy_min hmin]; exact hn) (fun _ => ⟨hdp, ad, hsp, hc⟩) hfit h1
  refine lw_some (Φ := fun v u => u = w') hd (fun A hA => ⟨v, w', ?_, rfl⟩) (fun v u hu => hu ▸ h v w' h3 h4)
  simp [execOp, resolve, hA.ev hx, hA.ev hy, invoke, builtin, h2]
end
section
variable {P : Program} {n : Nat} {l : Fr} {w : World} {ty : TypeId} {pos : String} {af : Array Edge} {gd : Option (Nat × Bool)} {x y : Operand} {k g : Nat} {d : Option Nat} {Z : Value → World → Prop}
theorem act_copyd {dT sT elem t : TypeId} {off m : Nat} {dp sp : Option Addr} {dLen dCap sLen sCap : Nat} {cur cs : List Value} {ad : Addr} (hu : P.underlying dT = some (.slice elem)) (hs : (P.info? elem).map (·.size) = some k) (hk : 0 < k) (hx : ev l x = some (.slice dp dLen dCap)) (hy : ev l y = some (.slice sp sLen sCap)) (hg : w.heap[g]? = some (.cells cur.toArray t (0, 0)))
    (hdp : dp = some ⟨g, off, none⟩) (hsp : sp = some ad) (hmin : (sLen ≤ dLen ∧ sLen = m) ∨ (dLen ≤ sLen ∧ dLen = m)) (hn : cs.length = m * k) (hc : ∀ j v, cs[j]? = some v → w.cell? (ad.add j) = some v) (hfit : off + cs.length ≤ cur.length) (h1 : ∀ v ∈ cs, v.oneCell' = true)
    (h : ∀ v w', w'.heap[g]? = some (.cells (splice cur off cs).toArray t (0, 0)) → w.grownBy w' (some g) → Z v w') : Act1 P n l ⟨d, .call ⟨.builtin .copy, #[x, y], #[dT, sT]⟩, ty, pos, af, gd⟩ w Z := by
  obtain ⟨v, w', h2, h3, h4⟩ := copy_some (ty := ty) (sT := sT) (dCap := dCap) (sCap := sCap) hu hs hk hg (show cs.length = Nat.min sLen dLen * k by rw [copy_min hmin]; exact hn) (fun _ => ⟨hdp, ad, hsp, hc⟩) hfit h1
  exact act_ev (v := v) (w' := w') ⟨fun A hA => by simp [execOp, resolve, hA.ev hx, hA.ev hy, invoke, builtin, h2]⟩ (h _ _ h3 h4)
end
theorem heap_shape {w : World} {N : Nat} {cs : Array Value} {T : TypeId} (h : w.heap[N]? = some (.cells cs T (0, 0))) : w.shape? N = some (T, cs.size) ∧ ∀ o, w.frozen? ⟨N, o, none⟩ = false := by
  refine ⟨by unfold World.shape?; rw [h], fun o => ?_⟩
  unfold World.frozen?
  simp [h]
theorem overlap_S {n : Nat} {l : Fr} {w : World} {d : Option Nat} {ty : TypeId} {pos : String} {af : Array Edge} {g : Option (Nat × Bool)} {x y : Operand} {ts : Array TypeId} {M B : Nat} {cs : List Value} {cur : Array Value} {sp : Option Addr} {o lb cb : Nat} (hx : ev l x = some (.slice (some ⟨M, 0, none⟩) 1 1)) (hy : ev l y = some (.slice sp lb cb)) (hsp : sp = some ⟨B, o, none⟩) (hM : PT w M 39 cs) (hB : w.heap[B]? = some (.cells cur 39 (0, 0))) (hne : M ≠ B) (h0 : cur.size ≠ 0) :
    Pv Tryz.prog n l ⟨d, .call ⟨.value (.func 117), #[x, y], ts⟩, ty, pos, af, g⟩ (.bool false) w := by
  subst hsp
  obtain ⟨s1, f1⟩ := heap_shape hM
  obtain ⟨s2, f2⟩ := heap_shape hB
  refine pv_ext (args := [x, y]) (vs := [.slice (some ⟨M, 0, none⟩) 1 1, .slice (some ⟨B, o, none⟩) lb cb]) (by simp [evs, hx, hy]) ?_
  have hz : ∀ w, (sizeOf 39).run Tryz.prog w = .ok 6 w := fun w => sizeB_run (tZ rfl) w
  rw [run_callFunc_extern (fn := Tryz.f117) (by kernel_rfl) (by kernel_rfl) (by kernel_rfl) (by kernel_rfl) (e := Extern.SlicesOverlaps.overlaps #[22, 22] #[4]) (by kernel_rfl),
    Lib.run_overlaps_apart w 22 4 39 Tryz.underlying22 6 hz ⟨M, 0, none⟩ ⟨B, o, none⟩ 1 1 lb cb hne _ _ _ _ s1 s2 h0 (f1 _) (f1 _)]
  rfl
set_option maxRecDepth 20000 in
set_option maxHeartbeats 4000000 in
theorem insert_S {xs : List Pos} {v : Value} {w : World} (base : Nat) (i : Nat) (y : Pos) {M : Nat} (hi : i ≤ xs.length) (hl : xs.length ≤ 65536) (hbw : base ≤ w.heap.size) (hO : Own encS 6 39 base w v xs) (HY : PT w M 39 (encS y)) (hM : v.ownBlock ≠ some M) : Calls Tryz.prog 98 #[v, .int .i64 (i : Nat), .slice (some ⟨M, 0, none⟩) 1 1] w fun e w' => (∃ v', e = .returned v' ∧ Own encS 6 39 base w' v' (xs.take i ++ y :: xs.drop i)) ∧ Below base w w' := by
  have hb0 := Below.refl base w
  have hOb : ∀ q, v.ownBlock = some q → base ≤ q := fun q hq => (hO.lt q hq).1
  have hMw := HY.lt
  have HY1 : SlR encS 6 w (some ⟨M, 0, none⟩) 1 [y] := PT.slR (xs := [y]) encS_len (by simpa using HY) rfl (by omega)
  obtain ⟨ad, cap, rfl, HS, hbase⟩ := Own.slR encS_len hO
  have hla := HS.le
  have hma := HS.max
  have hw := Below.refl w.heap.size w
  by_cases hin : i = xs.length
  · subst hin
    refine fn_enter 95 Tryz.func98 rfl rfl rfl ?_
    repeat' (first | (refine lw_pure rfl (pv_move rfl) ?_) | (refine lw_pure rfl (pv_assign rfl) ?_) | (refine lw_app (xs := xs) (ys := [y]) elemS encS_len encS_one rfl rfl rfl hO HY1 rfl hbw (by simp; omega) (by simp [maxLen]; omega) ?_; intro v2 w2 hO2 hg2 hb2) | (refine is_cw ?_; first | (refine cw_seq ?_) | (refine cw_region ?_) | (refine cw_false rfl rfl ?_) | (refine is_cd ?_; refine cw_true rfl (by first | assumption | exact decide_eq_true (by omega) | exact dec_notT (by omega)) ?_) | (refine cw_skip ?_) | (refine cw_ret ?_)) | (refine is_qw ?_; first | (with_reducible refine qw_then ?_) | (with_reducible refine qw_then_ret ?_)) | (refine lw_nil ?_) | ((refine is_bin ?_; first | (refine lw_pure rfl (pv_eql rfl rfl) ?_))) | ((refine is_bi ?_; first | (refine lw_pure rfl (pv_lenl (tS rfl) rfl) ?_))) | (refine is_sl ?_; refine lw_pure rfl (pv_slice_l (tS rfl) rfl rfl (by omega)) ?_))
    refine qw_ret1 rfl rfl ⟨⟨_, rfl, ?_⟩, hb2⟩
    rw [List.take_length, List.drop_length]; exact hO2
  · obtain ⟨g, rfl⟩ : ∃ g, ad = some ⟨g, 0, none⟩ := by
      cases ad with
      | none => have := (HS.ofNone rfl).1; subst this; simp at hin hi; omega
      | some a =>
        obtain ⟨b, o, sp⟩ := a
        obtain ⟨h1, _⟩ := HS.ofSome _ rfl (by omega)
        have h2 := (hbase _ rfl).2
        simp only at h1 h2
        exact ⟨b, by rw [h1, h2]⟩
    have hgb : base ≤ g := (hbase _ rfl).1
    have hgM : g ≠ M := fun e => hM (by rw [← e]; rfl)
    obtain ⟨cur, -, hg, -, hmx, hsz, htk⟩ := Own.heap' hO
    have hgw : g < w.heap.size := (Array.getElem?_eq_some_iff.1 hg).1
    have hti : (xs.take i).length = i := by rw [List.length_take]; omega
    have hdl : ((xs.drop i).flatMap encS).length = (xs.length - i) * 6 := by rw [flat_len encS 6 encS_len, List.length_drop]
    have hyl : (encS y).length = 6 := encS_len y
    have hrl : (xs.take i ++ y :: xs.drop i).length = xs.length + 1 := by simp; omega
    have hrf : (xs.take i ++ y :: xs.drop i).flatMap encS = (xs.take i).flatMap encS ++ (encS y ++ (xs.drop i).flatMap encS) := by rw [List.flatMap_append, List.flatMap_cons]
    have e9 : ((i : Int) + 1).toNat = i + 1 := by omega
    have e8 : ((xs.length : Int) + 1).toNat = xs.length + 1 := by omega
    -- the rest, read at its place
    have hrd : ∀ W : World, SlR encS 6 W (some ⟨g, 0, none⟩) cap xs → ∀ j v, ((xs.drop i).flatMap encS)[j]? = some v → W.cell? ((⟨g, i * 6, none⟩ : Addr).add j) = some v := fun W h j v hj => by
      rw [← flat_drop encS 6 encS_len, List.getElem?_drop] at hj
      have := SlR.flat encS_len h (i * 6 + j) v hj
      rw [Addr.add_lit] at this ⊢
      rw [← this]; congr 2; omega
    by_cases hcap : cap < xs.length + 1
    · refine fn_enter 95 Tryz.func98 rfl rfl rfl ?_
      repeat' (first | (refine lw_pure rfl (pv_move rfl) ?_) | (refine lw_pure rfl (pv_assign rfl) ?_) | (refine lw_pure rfl (pv_capl (tS rfl) rfl) ?_) | (refine is_cw ?_; first | (refine cw_seq ?_) | (refine cw_region ?_) | (refine cw_false rfl rfl ?_) | (refine is_cd ?_; refine cw_true rfl (by first | assumption | exact decide_eq_true (by omega) | exact dec_notT (by omega)) ?_) | (refine is_cd ?_; refine cw_false rfl (by first | assumption | exact decide_eq_false (by omega) | exact dec_notF (by omega)) ?_) | (refine cw_skip ?_)) | (refine is_qw ?_; first | (with_reducible refine qw_then ?_)) | (refine lw_nil ?_) | ((refine is_bin ?_; first | (refine lw_pure rfl (pv_eql rfl rfl) ?_) | (refine lw_pure rfl (pv_gtr rfl rfl) ?_) | (refine lw_pure rfl (pv_inc rfl rfl (by omega)) ?_) | (refine lw_pure rfl (pv_sub rfl rfl (by omega)) ?_))) | ((refine is_bi ?_; first | (refine lw_pure rfl (pv_lenl (tS rfl) rfl) ?_))) | (refine is_sl ?_; refine lw_pure rfl (pv_slice_l (tS rfl) rfl rfl (by omega)) ?_) | (refine is_sl ?_; refine lw_pure rfl (pv_slice_h (tS rfl) rfl rfl (by omega)) ?_))
      refine lw_appz (xs := xs.take i) (i := i) (q := xs.length + 1 - i) (cap := cap) elemS Tryz.underlying3 encS_len rfl rfl rfl (by omega) ⟨by rw [hti]; omega, hma, (fun h => by cases h), fun ad had hc => by
        obtain ⟨h1, h2, h3⟩ := HS.ofSome ad had hc
        exact ⟨h1, h2, fun j x hx => h3 j x (by rw [List.getElem?_take] at hx; split at hx <;> first | exact hx | cases hx)⟩⟩ hti (by omega) (by omega) (by omega) (by simp [maxLen]; omega) ?_
      intro N G row w1 hN hrowl hrowt hN1 hG1 hG2 hb
      have hiq : i + (xs.length + 1 - i) = xs.length + 1 := by omega
      rw [hiq] at hG1 ⊢
      have hB1 : Below base w w1 := hb0.trans (hb.mono hbw)
      replace HY := HY.mono hb
      have HS1 := HS.mono hb
      have hgN : g ≠ N := by omega
      have hMN : M ≠ N := by omega
      have hNw : N < w1.heap.size := (Array.getElem?_eq_some_iff.1 hN1).1
      clear hb hw
      have hw := Below.refl w1.heap.size w1
      repeat' (first | (refine lw_pure rfl (pv_move rfl) ?_) | (refine lw_pure rfl (pv_assign rfl) ?_) | (refine is_cw ?_; first | (refine cw_seq ?_) | (refine cw_region ?_)) | (refine is_qw ?_; first | (with_reducible refine qw_then ?_)) | (refine lw_nil ?_) | (refine is_sl ?_; refine lw_pure rfl (pv_slice_l (tS rfl) rfl rfl (by omega)) ?_))
      refine lw_copyd (k := 6) (g := N) (off := i * 6) (m := 1) (cur := row) (cs := encS y) (ad := ⟨M, 0, none⟩) Tryz.underlying22 (by kernel_rfl) (by omega) rfl rfl rfl hN1 (by rw [if_neg (by omega)]; simp [Addr.add_lit]) rfl (by omega) (by rw [hyl]) (fun j v hj => by rw [Addr.add_lit]; exact HY.ld0 hj) (by rw [hyl, hrowl]; omega) (fun v hv => encS_one y v hv) ?_
      intro vc w2 hN2 hg2
      have hB2 : Below base w w2 := hB1.grown hg2 (Nat.le_trans hbw hB1.size) (by intro q hq; injection hq with hq; omega)
      have HS2 := HS1.grown hg2 (fun ad had e => by cases had; injection e with e; exact hgN e)
      have hrow2 : (splice row (i * 6) (encS y)).length = G * 6 := by rw [length_splice _ _ _ (by rw [hyl, hrowl]; omega), hrowl]
      have hB2s := hB2.size
      clear hw
      have hw := Below.refl w2.heap.size w2
      repeat' (first | (refine is_cw ?_; first | (refine cw_seq ?_)) | (refine is_qw ?_; first | (with_reducible refine qw_then ?_)) | (refine lw_nil ?_))
      refine cw_drawn (fun w' => w2.grownBy w' (some N)) (by kernel_rfl) (by repeat (first | exact NoPanic.body | with_reducible refine NoPanic.then ?_ | with_reducible refine NoPanic.inBlock ?_)) (fun hNP => ?_)
      have hS := gb_of (below_drew w2) (some N)
      (refine at0 0 rfl (fun w' hq => pv_move rfl) ?_)
      (refine at0 1 rfl (fun w' hq => pv_move rfl) ?_)
      (refine at0 2 rfl (fun w' hq => pv_move rfl) ?_)
      (refine at0 3 rfl (fun w' hq => pv_inc rfl rfl (by omega)) ?_)
      (refine at0 4 rfl (fun w' hq => pv_slice_l (tS rfl) rfl rfl (by omega)) ?_)
      (refine at0 5 rfl (fun w' hq => pv_move rfl) ?_)
      (refine at0 6 rfl (fun w' hq => pv_move rfl) ?_)
      (refine at0 7 rfl (fun w' hq => pv_slice_l (tS rfl) rfl rfl (by omega)) ?_)
      refine aw_act 8 (by kernel_rfl) rfl rfl rfl ?_
      refine act_copyd (k := 6) (g := N) (off := i * 6 + (encS y).length) (m := xs.length - i) (cur := splice row (i * 6) (encS y)) (cs := (xs.drop i).flatMap encS) (ad := ⟨g, i * 6, none⟩) Tryz.underlying22 (by kernel_rfl) (by omega) rfl rfl hN2 (by (try simp only [Int.toNat_natCast]); (try rw [e9]); rw [if_neg (by omega)]; simp [Addr.add_lit, hyl] <;> omega) (by rw [if_neg (by omega)]; simp [Addr.add_lit]) (by omega) hdl (fun j v hj => hrd w2 HS2 j v hj) (by rw [hdl, hrow2, hyl]; omega) (flat_one encS_one _) ?_; intro vd w3 hN3 hg3; refine ⟨gb_trans hS hg3, fun hS => ?_⟩
      refine aw_done (by kernel_rfl) ?_
      replace hb1 := hS; clear hS hNP
      have hw := Below.refl w3.heap.size w3
      have hB3 : Below base w w3 := hB2.grown hb1 (Nat.le_trans hbw hB2s) (by intro q hq; injection hq with hq; omega)
      repeat' (first | (refine lw_pure rfl (pv_move rfl) ?_) | (refine lw_pure rfl (pv_assign rfl) ?_) | (refine is_cw ?_; first | (refine cw_seq ?_) | (refine cw_region ?_) | (refine cw_ret ?_)) | (refine is_qw ?_; first | (with_reducible refine qw_then ?_) | (with_reducible refine qw_then_ret ?_)) | (refine lw_nil ?_))
      refine qw_ret1 rfl rfl ⟨⟨_, rfl, ?_⟩, hB3⟩
      rw [← hrl]
      refine own_of encS_len (by omega) hN3 (by omega) hG2 (by rw [length_splice _ _ _ (by rw [hdl, hrow2, hyl]; omega), hrow2]) ?_
      rw [hrl, hrf, show (xs.length + 1) * 6 = i * 6 + (encS y).length + ((xs.drop i).flatMap encS).length by rw [hyl, hdl]; omega, splice_up (by rw [hyl, hrowl]; omega), hrowt]
    · have hcur : cur.toList.length = cap * 6 := by simpa using hsz
      have hg' : w.heap[g]? = some (.cells cur.toList.toArray 39 (0, 0)) := by simpa using hg
      refine fn_enter 95 Tryz.func98 rfl rfl rfl ?_
      repeat' (first | (refine lw_pure rfl (pv_move rfl) ?_) | (refine lw_pure rfl (pv_assign rfl) ?_) | (refine lw_pure rfl (pv_capl (tS rfl) rfl) ?_) | (refine lw_pure rfl (overlap_S (o := (i + 1) * 6) rfl rfl (by (try simp only [Int.toNat_natCast]); (try rw [e9]); rw [if_neg (by omega)]; simp [Addr.add_lit]) HY hg (fun e => hgM e.symm) (by omega)) ?_) | (refine is_cw ?_; first | (refine cw_seq ?_) | (refine cw_region ?_) | (refine cw_true rfl rfl ?_) | (refine cw_false rfl rfl ?_) | (refine is_cd ?_; refine cw_false rfl (by first | assumption | exact decide_eq_false (by omega) | exact dec_notF (by omega)) ?_) | (refine cw_skip ?_)) | (refine is_qw ?_; first | (with_reducible refine qw_then ?_)) | (refine lw_nil ?_) | ((refine is_bin ?_; first | (refine lw_pure rfl (pv_eql rfl rfl) ?_) | (refine lw_pure rfl (pv_gtr rfl rfl) ?_) | (refine lw_pure rfl (pv_inc rfl rfl (by omega)) ?_))) | ((refine is_un ?_; first | (refine lw_pure rfl (pv_not rfl) ?_))) | ((refine is_bi ?_; first | (refine lw_pure rfl (pv_lenl (tS rfl) rfl) ?_))) | (refine is_sl ?_; refine lw_pure rfl (pv_slice_l (tS rfl) rfl rfl (by omega)) ?_) | (refine is_sl ?_; refine lw_pure rfl (pv_slice_h (tS rfl) rfl rfl (by omega)) ?_))
      refine cw_drawn (fun w' => w.grownBy w' (some g)) (by kernel_rfl) (by repeat (first | exact NoPanic.body | with_reducible refine NoPanic.then ?_ | with_reducible refine NoPanic.inBlock ?_)) (fun hNP => ?_)
      have hS := gb_of (below_drew w) (some g)
      (refine at0 0 rfl (fun w' hq => pv_move rfl) ?_)
      (refine at0 1 rfl (fun w' hq => pv_move rfl) ?_)
      (refine at0 2 rfl (fun w' hq => pv_move rfl) ?_)
      (refine at0 3 rfl (fun w' hq => pv_inc rfl rfl (by omega)) ?_)
      (refine at0 4 rfl (fun w' hq => pv_slice_l (tS rfl) rfl rfl (by omega)) ?_)
      (refine at0 5 rfl (fun w' hq => pv_move rfl) ?_)
      (refine at0 6 rfl (fun w' hq => pv_move rfl) ?_)
      (refine at0 7 rfl (fun w' hq => pv_slice_l (tS rfl) rfl rfl (by omega)) ?_)
      refine aw_act 8 (by kernel_rfl) rfl rfl rfl ?_
      refine act_copyd (k := 6) (g := g) (off := i * 6 + (encS y).length) (m := xs.length - i) (cur := cur.toList) (cs := (xs.drop i).flatMap encS) (ad := ⟨g, i * 6, none⟩) Tryz.underlying22 (by kernel_rfl) (by omega) rfl rfl hg' (by (try simp only [Int.toNat_natCast]); (try rw [e9]); rw [if_neg (by omega)]; simp [Addr.add_lit, hyl] <;> omega) (by rw [if_neg (by omega)]; simp [Addr.add_lit]) (by omega) hdl (fun j v hj => hrd w HS j v hj) (by rw [hdl, hcur, hyl]; omega) (flat_one encS_one _) ?_; intro vd w2 hN2 hg2; refine ⟨gb_trans hS hg2, fun hS => ?_⟩
      refine aw_done (by kernel_rfl) ?_
      replace hb1 := hS; clear hS hNP
      have hrow2 : (splice cur.toList (i * 6 + (encS y).length) ((xs.drop i).flatMap encS)).length = cap * 6 := by rw [length_splice _ _ _ (by rw [hdl, hcur, hyl]; omega), hcur]
      have HY2 := HY.grown hb1 (by intro h; injection h with h; exact hgM h)
      have hB2 : Below base w w2 := hb0.grown hb1 hbw (by intro q hq; injection hq with hq; omega)
      have hB2s := hB2.size
      have hw := Below.refl w2.heap.size w2
      repeat' (first | (refine lw_pure rfl (pv_move rfl) ?_) | (refine is_cw ?_; first | (refine cw_seq ?_) | (refine cw_region ?_)) | (refine is_qw ?_; first | (with_reducible refine qw_then ?_)) | (refine is_sl ?_; refine lw_pure rfl (pv_slice_l (tS rfl) rfl rfl (by omega)) ?_))
      refine lw_copyd (k := 6) (g := g) (off := i * 6) (m := 1) (cur := splice cur.toList (i * 6 + (encS y).length) ((xs.drop i).flatMap encS)) (cs := encS y) (ad := ⟨M, 0, none⟩) Tryz.underlying22 (by kernel_rfl) (by omega) rfl rfl rfl hN2 (by rw [if_neg (by omega)]; simp [Addr.add_lit]) rfl (by omega) (by rw [hyl]) (fun j v hj => by rw [Addr.add_lit]; exact HY2.ld0 hj) (by rw [hrow2, hyl]; omega) (fun v hv => encS_one y v hv) ?_
      intro vc w3 hN3 hg3
      have hB3 : Below base w w3 := hB2.grown hg3 (Nat.le_trans hbw hB2s) (by intro q hq; injection hq with hq; omega)
      clear hw
      have hw := Below.refl w3.heap.size w3
      repeat' (first | (refine lw_pure rfl (pv_move rfl) ?_) | (refine lw_pure rfl (pv_assign rfl) ?_) | (refine is_cw ?_; first | (refine cw_seq ?_) | (refine cw_region ?_) | (refine cw_ret ?_)) | (refine is_qw ?_; first | (with_reducible refine qw_then ?_) | (with_reducible refine qw_then_ret ?_)) | (refine lw_nil ?_))
      refine qw_ret1 rfl rfl ⟨⟨_, rfl, ?_⟩, hB3⟩
      (try simp only [Int.toNat_natCast])
      (try rw [e8])
      rw [← hrl]
      refine own_of encS_len (by omega) hN3 (by omega) hmx (by rw [length_splice _ _ _ (by rw [hrow2, hyl]; omega), hrow2]) ?_
      rw [hrl, hrf, show (xs.length + 1) * 6 = i * 6 + (encS y).length + ((xs.drop i).flatMap encS).length by rw [hyl, hdl]; omega, splice_dn (by rw [hyl, hcur]; omega), ← flat_take encS 6 encS_len, ← htk, List.take_take, Nat.min_eq_left (by omega)]


set_option maxRecDepth 20000 in
set_option maxHeartbeats 4000000 in
theorem search_S {l : List Pos} {m : Nat} {a : Option Addr} {ca : Nat} {w : World} (p : Pos) (hm : l.length = m) (hl : l.length ≤ 65536) (hpw : l.Pairwise keyS) (HS : SlR encS 6 w a ca l) : Calls Tryz.prog 97 #[.slice a m ca, .agg (encS p).toArray, .func (.func 58) #[] #[]] w fun e w' => (∃ (i : Nat) (b : Bool), e = .returned (.tuple #[.int .i64 (i : Nat), .bool b]) ∧ PlaceS l p i ∧ (b = true → ∃ x, l[i]? = some x ∧ sameK x p) ∧ (b = false → ∀ x, l[i]? = some x → ¬ sameK x p)) ∧ Below w.heap.size w w' := by
  subst hm
  have hE := Ext.refl w
  have hw := Below.refl w.heap.size w
  have hca := HS.le
  have hcm := HS.max
  refine fn_enter 49 Tryz.func97 rfl rfl rfl ?_
  repeat' (first | (refine is_cw ?_; first | (refine cw_seq ?_) | (refine cw_region ?_)))
  refine lw_boxN rfl rfl (cs := encS p) rfl ?_; intro N w1 hN HB hb
  replace hw := grow_trans hw hb
  clear hb
  replace hE := hE.mono hw; replace HS := HS.mono hw; clear hw; have hw := Below.refl w1.heap.size w1
  repeat' (first | (refine lw_pure rfl (pv_move rfl) ?_) | (refine lw_pure rfl (pv_assign rfl) ?_) | (refine is_cw ?_; first | (refine cw_seq ?_) | (refine cw_region ?_) | (refine cw_block ?_)) | (refine is_qw ?_; first | (with_reducible refine qw_then ?_)) | (refine lw_nil ?_) | ((refine is_bi ?_; first | (refine lw_pure rfl (pv_lenl (tS rfl) rfl) ?_))))
  refine cw_loop (σ := Nat × Nat) (fun s => [(0, .slice a l.length ca), (2, .func (.func 58) #[] #[]), (4, .pointer (some ⟨N, 0, none⟩)), (8, .int .i64 (l.length : Nat)), (9, .int .i64 (s.1 : Nat)), (10, .int .i64 (s.2 : Nat))]) (fun s wr => (s.1 ≤ s.2 ∧ s.2 ≤ l.length) ∧ Below w1.heap.size w1 wr ∧ (∀ j x, j < s.1 → l[j]? = some x → keyS x p) ∧ (∀ j x, s.2 ≤ j → l[j]? = some x → ¬ keyS x p)) (fun s => s.2 - s.1) (0, l.length) (by repeat' (first | exact trivial | refine ⟨rfl, ?_⟩)) ⟨⟨Nat.zero_le _, Nat.le_refl _⟩, hw, (fun j x hj => absurd hj (Nat.not_lt_zero _)), (fun j x hj hx => by have h1 := (List.getElem?_eq_some_iff.1 hx).1; have h2 : l.length ≤ j := hj; omega)⟩ ?_
  clear hw
  rintro ⟨lo, hi⟩ wr ⟨⟨h1, h2⟩, hw, hlo, hhi⟩
  dsimp only at h1 h2 hlo hhi
  change CW _ _ _ _ [(0, .slice a l.length ca), (2, .func (.func 58) #[] #[]), (4, .pointer (some ⟨N, 0, none⟩)), (8, .int .i64 (l.length : Nat)), (9, .int .i64 (lo : Nat)), (10, .int .i64 (hi : Nat))] wr
  by_cases hlt : lo < hi
  · obtain ⟨q, hq⟩ : ∃ q, (lo + hi) / 2 = q := ⟨_, rfl⟩
    have hq1 : lo ≤ q ∧ q < hi := by omega
    have hlt1 : q < l.length := by omega
    have hxq : l[q]? = some l[q] := List.getElem?_eq_getElem hlt1
    obtain ⟨ab, ao, rfl, -, -⟩ := HS.at (by intro h; rw [h] at hlt1; simp at hlt1)
    generalize l[q] = y at hxq
    repeat' (first | (refine lw_pure rfl (pv_move rfl) ?_) | (refine lw_pure rfl (pv_assign rfl) ?_) | (refine lw_pure rfl (pv_half (m := lo + hi) rfl rfl (by omega) hq (by decide)) ?_) | (refine lw_pure rfl (pv_convu (tCv rfl rfl) rfl (by omega)) ?_) | (refine is_cw ?_; first | (refine cw_seq ?_) | (refine cw_region ?_) | (refine is_cd ?_; refine cw_true rfl (by first | assumption | exact decide_eq_true (by omega) | exact dec_notT (by omega)) ?_) | (refine cw_skip ?_) | (refine cw_block ?_)) | (refine is_qw ?_; first | (with_reducible refine qw_then ?_)) | (refine lw_nil ?_) | ((refine is_bin ?_; first | (refine lw_pure rfl (pv_lss rfl rfl) ?_) | (refine lw_pure rfl (pv_add rfl rfl (by omega)) ?_))) | (refine is_cv ?_; refine lw_pure rfl (pv_conv (tCv rfl rfl) rfl (by omega)) ?_))
    refine cw_drawn (fun w' => Below w1.heap.size w1 w') (by kernel_rfl) (by repeat (first | exact NoPanic.body | with_reducible refine NoPanic.then ?_ | with_reducible refine NoPanic.inBlock ?_)) (fun hNP => ?_)
    have hS := hw.drew
    (refine at0 0 rfl (fun w' hq => pv_move rfl) ?_)
    (refine at0 1 rfl (fun w' hq => pv_move rfl) ?_)
    (refine at0 2 rfl (fun w' hq => pv_move rfl) ?_)
    (refine at0 3 rfl (fun w' hq => pv_ian (tS rfl) rfl rfl (by omega)) ?_)
    (refine at0 4 rfl (fun w' hq => pv_loada (tA rfl) rfl (by first | exact SlR.lda (HS.mono hq) hxq | exact PT.lda (HB.mono hq)) (by rfl)) ?_)
    (refine at0 5 rfl (fun w' hq => pv_loada (tA rfl) rfl (by first | exact SlR.lda (HS.mono hq) hxq | exact PT.lda (HB.mono hq)) (by rfl)) ?_)
    refine aw_act 6 (by kernel_rfl) rfl rfl rfl ?_
    refine act_callv (f := 58) rfl (by kernel_rfl) rfl (comp_c y p _) ?_; rintro e w2 ⟨rfl, hb⟩; refine ⟨_, rfl, grow_trans hS hb, fun hS => ?_⟩
    (refine at0 7 rfl (fun w' hq => pv_lss rfl rfl) ?_)
    refine aw_done (by kernel_rfl) ?_
    replace hw := hS; clear hS hNP
    by_cases hy : rowS y p < 0
    · have hyk := rowS_lt.1 hy
      repeat' (first | (refine lw_pure rfl (pv_move rfl) ?_) | (refine lw_pure rfl (pv_assign rfl) ?_) | (refine is_cw ?_; first | (refine cw_region ?_) | (refine is_cd ?_; refine cw_true rfl (by first | assumption | exact decide_eq_true (by omega) | exact dec_notT (by omega)) ?_)) | (refine is_qw ?_; first | (with_reducible refine qw_then ?_) | (with_reducible refine qw_in ?_)) | (refine lw_nil ?_) | ((refine is_bin ?_; first | (refine lw_pure rfl (pv_inc rfl rfl (by omega)) ?_))))
      refine qw_round (q + 1, hi) (by repeat' (first | exact trivial | refine ⟨rfl, ?_⟩)) ⟨⟨by show q + 1 ≤ hi; omega, h2⟩, hw, ?_, hhi⟩ (by show hi - (q + 1) < hi - lo; omega)
      intro j x hj hx
      replace hj : j < q + 1 := hj
      by_cases hjq : j = q
      · subst hjq; rw [hxq] at hx; injection hx with hx; subst hx; exact hyk
      · exact keyS_trans (pwg_get hpw (by omega) hx hxq) hyk
    · have hyk : ¬ keyS y p := fun h => hy (rowS_lt.2 h)
      repeat' (first | (refine lw_pure rfl (pv_move rfl) ?_) | (refine lw_pure rfl (pv_assign rfl) ?_) | (refine is_cw ?_; first | (refine cw_region ?_) | (refine is_cd ?_; refine cw_false rfl (by first | assumption | exact decide_eq_false (by omega) | exact dec_notF (by omega)) ?_)) | (refine is_qw ?_; first | (with_reducible refine qw_then ?_) | (with_reducible refine qw_in ?_)) | (refine lw_nil ?_))
      refine qw_round (lo, q) (by repeat' (first | exact trivial | refine ⟨rfl, ?_⟩)) ⟨⟨hq1.1, by show q ≤ l.length; omega⟩, hw, hlo, ?_⟩ (by show q - lo < hi - lo; omega)
      intro j x hj hx hk
      replace hj : q ≤ j := hj
      by_cases hjq : j = q
      · subst hjq; rw [hxq] at hx; injection hx with hx; subst hx; exact hyk hk
      · exact hyk (keyS_trans (pwg_get hpw (by omega) hxq hx) hk)
  · obtain rfl : hi = lo := by omega
    have hP : PlaceS l p hi := ⟨h2, hlo, fun j x hj => hhi j x hj⟩
    repeat' (first | (refine lw_pure rfl (pv_move rfl) ?_) | (refine is_cw ?_; first | (refine cw_seq ?_) | (refine cw_region ?_) | (refine is_cd ?_; refine cw_false rfl (by first | assumption | exact decide_eq_false (by omega) | exact dec_notF (by omega)) ?_) | (refine cw_exit ?_)) | (refine is_qw ?_; first | (with_reducible refine qw_then ?_) | (with_reducible refine qw_in_hit ?_) | (with_reducible refine qw_then_exit ?_)) | (refine lw_nil ?_) | ((refine is_bin ?_; first | (refine lw_pure rfl (pv_lss rfl rfl) ?_))))
    by_cases hn : hi < l.length
    · have hxq : l[hi]? = some l[hi] := List.getElem?_eq_getElem hn
      obtain ⟨ab, ao, rfl, -, -⟩ := HS.at (by intro h; rw [h] at hn; simp at hn)
      generalize l[hi] = y at hxq
      refine cw_drawn (fun w' => Below w1.heap.size w1 w') (by kernel_rfl) (by repeat (first | exact NoPanic.body | with_reducible refine NoPanic.then ?_ | with_reducible refine NoPanic.inBlock ?_)) (fun hNP => ?_)
      have hS := hw.drew
      all_goals (refine at0 0 rfl (fun w' hq => pv_move rfl) ?_)
      all_goals (refine at0 1 rfl (fun w' hq => pv_move rfl) ?_)
      all_goals (refine at0 2 rfl (fun w' hq => pv_move rfl) ?_)
      all_goals (refine at0 3 rfl (fun w' hq => pv_lss rfl rfl) ?_)
      all_goals (refine at0 4 rfl (fun w' hq => pv_move rfl) ?_)
      all_goals (refine at2 5 rfl rfl rfl (fun w' hq => pv_move rfl) ?_)
      all_goals (refine at2 6 rfl rfl rfl (fun w' hq => pv_move rfl) ?_)
      all_goals (refine at2 7 rfl rfl rfl (fun w' hq => pv_move rfl) ?_)
      all_goals (refine at2 8 rfl rfl rfl (fun w' hq => pv_ian (tS rfl) rfl rfl (by omega)) ?_)
      all_goals (refine at2 9 rfl rfl rfl (fun w' hq => pv_loada (tA rfl) rfl (by first | exact SlR.lda (HS.mono hq) hxq | exact PT.lda (HB.mono hq)) (by rfl)) ?_)
      all_goals (refine at2 10 rfl rfl rfl (fun w' hq => pv_loada (tA rfl) rfl (by first | exact SlR.lda (HS.mono hq) hxq | exact PT.lda (HB.mono hq)) (by rfl)) ?_)
      all_goals first | (refine an3 11 rfl rfl rfl ?_) | (refine an0 11 rfl rfl rfl ?_) | (refine aw_act_g 11 (by kernel_rfl) rfl rfl rfl (by first | rfl | assumption | exact decide_eq_true (by omega) | exact decide_eq_false (by omega) | exact dec_notT (by omega) | exact dec_notF (by omega)) rfl ?_; refine act_callv (f := 58) rfl (by kernel_rfl) rfl (comp_c y p _) ?_; rintro e w2 ⟨rfl, hb⟩; refine ⟨_, rfl, grow_trans hS hb, fun hS => ?_⟩)
      all_goals (refine at2 12 rfl rfl rfl (fun w' hq => pv_eql rfl rfl) ?_)
      all_goals (refine at0 13 rfl (fun w' hq => pv_pick_t rfl (by first | assumption | exact decide_eq_true (by omega) | exact dec_notT (by omega)) rfl) ?_)
      all_goals (refine at0 14 rfl (fun w' hq => pv_assign rfl) ?_)
      all_goals (refine at0 15 rfl (fun w' hq => pv_assign rfl) ?_)
      all_goals (refine aw_done (by kernel_rfl) ?_; replace hw := hS; clear hS hNP)
      repeat' (first | (refine is_cw ?_; first | (refine cw_ret ?_)) | (refine is_qw ?_; first | (with_reducible refine qw_then ?_)))
      refine qw_ret2 rfl rfl rfl ⟨⟨hi, decide (rowS y p = 0), rfl, hP, fun h => ⟨y, hxq, rowS_eq.1 (of_decide_eq_true h)⟩, fun h x hx hs => ?_⟩, (hE.mono hw).b⟩
      rw [hxq] at hx; injection hx with hx; subst hx
      exact (of_decide_eq_false h) (rowS_eq.2 hs)
    · skip
      refine cw_drawn (fun w' => Below w1.heap.size w1 w') (by kernel_rfl) (by repeat (first | exact NoPanic.body | with_reducible refine NoPanic.then ?_ | with_reducible refine NoPanic.inBlock ?_)) (fun hNP => ?_)
      have hS := hw.drew
      all_goals (refine at0 0 rfl (fun w' hq => pv_move rfl) ?_)
      all_goals (refine at0 1 rfl (fun w' hq => pv_move rfl) ?_)
      all_goals (refine at0 2 rfl (fun w' hq => pv_move rfl) ?_)
      all_goals (refine at0 3 rfl (fun w' hq => pv_lss rfl rfl) ?_)
      all_goals (refine at0 4 rfl (fun w' hq => pv_move rfl) ?_)
      all_goals (refine an2 5 rfl rfl rfl ?_)
      all_goals (refine an2 6 rfl rfl rfl ?_)
      all_goals (refine an2 7 rfl rfl rfl ?_)
      all_goals (refine an2 8 rfl rfl rfl ?_)
      all_goals (refine an2 9 rfl rfl rfl ?_)
      all_goals (refine an2 10 rfl rfl rfl ?_)
      all_goals first | (refine an3 11 rfl rfl rfl ?_) | (refine an0 11 rfl rfl rfl ?_) | (refine aw_act_g 11 (by kernel_rfl) rfl rfl rfl (by first | rfl | assumption | exact decide_eq_true (by omega) | exact decide_eq_false (by omega) | exact dec_notT (by omega) | exact dec_notF (by omega)) rfl ?_; skip)
      all_goals (refine an2 12 rfl rfl rfl ?_)
      all_goals (refine at0 13 rfl (fun w' hq => pv_pick_f rfl (by first | assumption | exact decide_eq_false (by omega) | exact dec_notF (by omega)) rfl) ?_)
      all_goals (refine at0 14 rfl (fun w' hq => pv_assign rfl) ?_)
      all_goals (refine at0 15 rfl (fun w' hq => pv_assign rfl) ?_)
      all_goals (refine aw_done (by kernel_rfl) ?_; replace hw := hS; clear hS hNP)
      repeat' (first | (refine is_cw ?_; first | (refine cw_ret ?_)) | (refine is_qw ?_; first | (with_reducible refine qw_then ?_)))
      exact qw_ret2 rfl rfl rfl ⟨⟨hi, false, rfl, hP, (fun h => by cases h), fun _ x hx _ => absurd (List.getElem?_eq_some_iff.1 hx).1 hn⟩, (hE.mono hw).b⟩
set_option maxRecDepth 20000 in
set_option maxHeartbeats 2000000 in
theorem bought_c {q n : Int} {x : Pos} (a i : Int) (hq : NumS q) (hn : NumS n) (hx : NumS x.bought ∧ NumS x.sold ∧ NumS x.spent ∧ NumS x.got) (w : World) : Calls Tryz.prog 66 #[.agg #[.int .i64 q, .int .i64 n], .agg (encS x).toArray] w fun e w' => e = .returned (.agg (encS (joinS x ⟨a, i, q, 0, n, 0⟩)).toArray) ∧ Below w.heap.size w w' := by
  have hE := Ext.refl w
  have hw := Below.refl w.heap.size w
  have hJ : (((encS x).set 2 (.int .i64 (moreS x.bought q))).set 4 (.int .i64 (moreS x.spent n))) = encS (joinS x ⟨a, i, q, 0, n, 0⟩) := by
    unfold joinS encS
    simp only [more_zero hx.2.1, more_zero hx.2.2.2]
    rfl
  refine fn_enter 18 Tryz.func66 rfl rfl rfl ?_
  repeat' (first | (refine is_cw ?_; first | (refine cw_seq ?_) | (refine cw_region ?_)))
  refine lw_boxN rfl rfl (cs := [.int .i64 q, .int .i64 n]) rfl ?_; intro N2 w2 hN2 HC hb
  replace hw := grow_trans hw hb
  clear hb
  refine lw_boxN rfl rfl (cs := encS x) rfl ?_; intro N3 w3 hN3 HX hb
  replace hN3 : w.heap.size ≤ N3 := Nat.le_trans hw.size hN3
  replace HC := HC.mono hb
  replace hw := grow_trans hw hb
  clear hb
  refine lw_allocN rfl (by first | exact tyv_27 | exact tyv_28 | exact tyv_38 | exact tyv_39 | exact tyv_48 | exact tyv_49 | exact tyv_52 | exact tyv_53 | exact tyv_68 | exact tyv_69 | exact tyv_79 | exact tyv_80 | exact tyv_94 | exact tyv_95 | exact tyv_131 | exact tyv_132) rfl ?_; intro N4 w4 hN4 HZ hb
  have h34 : N3 ≠ N4 := by have := HX.lt; omega
  replace hN4 : w.heap.size ≤ N4 := Nat.le_trans hw.size hN4
  replace HC := HC.mono hb
  replace HX := HX.mono hb
  replace hw := grow_trans hw hb
  clear hb
  replace hE := hE.mono hw; clear hw; have hw := Below.refl w4.heap.size w4
  repeat' (first | (refine is_cw ?_; first | (refine cw_seq ?_)) | (refine is_qw ?_; first | (with_reducible refine qw_then ?_)) | (refine lw_nil ?_))
  refine cw_drawnF 11 (fun w' => Below w4.heap.size w4 w' ∧ PT w' N3 39 (encS x)) (by kernel_rfl) (by repeat (first | exact NoPanic.body | with_reducible refine NoPanic.then ?_ | with_reducible refine NoPanic.inBlock ?_)) (fun hNP => ?_)
  have hU := And.intro hw.drew (HX.mono (below_drew _))
  first | (refine fw_takeT 0 9 rfl (by kernel_rfl) (by kernel_rfl) rfl rfl (by kernel_rfl) (by kernel_rfl) (by kernel_rfl) hNP hU rfl (fun w' hq => pv_fa (tF rfl) rfl) ?_)
  first | (refine fw_takeT 1 9 rfl (by kernel_rfl) (by kernel_rfl) rfl rfl (by kernel_rfl) (by kernel_rfl) (by kernel_rfl) hNP hU rfl (fun w' hq => pv_load (t1 rfl) rfl (by first | exact PT.ld0 hq.2 rfl | exact PT.ld hq.2 rfl)) ?_)
  first | (refine fw_takeT 2 9 rfl (by kernel_rfl) (by kernel_rfl) rfl rfl (by kernel_rfl) (by kernel_rfl) (by kernel_rfl) hNP hU rfl (fun w' hq => pv_fa (tF rfl) rfl) ?_)
  first | (refine fw_takeT 3 9 rfl (by kernel_rfl) (by kernel_rfl) rfl rfl (by kernel_rfl) (by kernel_rfl) (by kernel_rfl) hNP hU rfl (fun w' hq => pv_load (t1 rfl) rfl (by first | exact PT.ld0 (HC.mono hq.1) rfl | exact PT.ld (HC.mono hq.1) rfl)) ?_)
  first | (refine fw_takeT 5 9 rfl (by kernel_rfl) (by kernel_rfl) rfl rfl (by kernel_rfl) (by kernel_rfl) (by kernel_rfl) hNP hU rfl (fun w' hq => pv_fa (tF rfl) rfl) ?_)
  first | (refine fw_takeT 6 9 rfl (by kernel_rfl) (by kernel_rfl) rfl rfl (by kernel_rfl) (by kernel_rfl) (by kernel_rfl) hNP hU rfl (fun w' hq => pv_load (t1 rfl) rfl (by first | exact PT.ld0 hq.2 rfl | exact PT.ld hq.2 rfl)) ?_)
  first | (refine fw_takeT 7 9 rfl (by kernel_rfl) (by kernel_rfl) rfl rfl (by kernel_rfl) (by kernel_rfl) (by kernel_rfl) hNP hU rfl (fun w' hq => pv_fa (tF rfl) rfl) ?_)
  first | (refine fw_takeT 8 9 rfl (by kernel_rfl) (by kernel_rfl) rfl rfl (by kernel_rfl) (by kernel_rfl) (by kernel_rfl) hNP hU rfl (fun w' hq => pv_load (t1 rfl) rfl (by first | exact PT.ld0 (HC.mono hq.1) rfl | exact PT.ld (HC.mono hq.1) rfl)) ?_)
  refine fw_act 4 (by kernel_rfl) rfl rfl rfl ?_
  refine act_call (f := 99) (by kernel_rfl) rfl (cap_c hx.1 hq _) ?_; rintro e w5 ⟨rfl, rfl⟩; refine ⟨_, rfl, hU, fun hU => ?_⟩
  first | (refine fw_takeT 10 9 rfl (by kernel_rfl) (by kernel_rfl) rfl rfl (by kernel_rfl) (by kernel_rfl) (by kernel_rfl) hNP hU rfl (fun w' hq => pv_fa (tF rfl) rfl) ?_)
  refine fw_act 9 (by kernel_rfl) rfl rfl rfl ?_
  refine act_call (f := 99) (by kernel_rfl) rfl (cap_c hx.2.2.1 hn _) ?_; rintro e w5 ⟨rfl, rfl⟩; refine ⟨_, rfl, hU, fun hU => ?_⟩
  obtain ⟨hw, HX⟩ := hU; clear hNP
  refine fw_one 11 (by kernel_rfl) rfl rfl rfl (by kernel_rfl) ?_
  refine act_store HX (tZ rfl) rfl rfl rfl (by simp [encS]) ?_; intro w6 HX2 hg hz
  first | (refine fw_one 12 (by kernel_rfl) rfl rfl rfl (by kernel_rfl) ?_; refine act_pv (pv_fa (tF rfl) rfl) ?_)
  refine fw_one 13 (by kernel_rfl) rfl rfl rfl (by kernel_rfl) ?_
  refine act_store HX2 (tZ rfl) rfl rfl rfl (by simp [encS]) ?_; intro w7 HX3 hg2 hz2
  refine fw_done (by kernel_rfl) ?_
  rw [hJ] at HX3
  replace hE := ((hE.mono hw).grown hg (by intro q hq; injection hq with hq; omega)).grown hg2 (by intro q hq; injection hq with hq; omega)
  replace HZ := ((HZ.mono hw).grown hg (by intro h; injection h with h; exact h34 h)).grown hg2 (by intro h; injection h with h; exact h34 h)
  clear hw
  have hw := Below.refl w7.heap.size w7
  repeat' (first | (refine is_cw ?_; first | (refine cw_seq ?_) | (refine cw_region ?_)) | (refine is_qw ?_; first | (with_reducible refine qw_then ?_)) | ((refine is_load ?_; first | (refine lw_pure rfl (pv_loada (tA rfl) rfl (by first | exact PT.lda (HX3.mono hw)) (by rfl)) ?_))))
  refine lw_storea (vs := encS (joinS x ⟨a, i, q, 0, n, 0⟩)) HZ (tZ rfl) rfl rfl rfl rfl (encS_one _) ?_; intro w8 H8 hg3 hz3
  replace hE := hE.grown hg3 (by intro q hq; injection hq with hq; omega)
  have hw := Below.refl w8.heap.size w8
  repeat' (first | (refine is_cw ?_; first | (refine cw_ret ?_)) | (refine is_qw ?_; first | (with_reducible refine qw_then ?_)) | (refine lw_nil ?_))
  exact qw_retc rfl rfl (agg_ld (tA rfl) rfl (fun i u hu => H8.ld0 hu)) ⟨rfl, hE.b⟩

set_option maxRecDepth 20000 in
set_option maxHeartbeats 2000000 in
theorem sold_c {q n : Int} {x : Pos} (a i : Int) (hq : NumS q) (hn : NumS n) (hx : NumS x.bought ∧ NumS x.sold ∧ NumS x.spent ∧ NumS x.got) (w : World) : Calls Tryz.prog 67 #[.agg #[.int .i64 q, .int .i64 n], .agg (encS x).toArray] w fun e w' => e = .returned (.agg (encS (joinS x ⟨a, i, 0, q, 0, n⟩)).toArray) ∧ Below w.heap.size w w' := by
  have hE := Ext.refl w
  have hw := Below.refl w.heap.size w
  have hJ : (((encS x).set 3 (.int .i64 (moreS x.sold q))).set 5 (.int .i64 (moreS x.got n))) = encS (joinS x ⟨a, i, 0, q, 0, n⟩) := by
    unfold joinS encS
    simp only [more_zero hx.1, more_zero hx.2.2.1]
    rfl
  refine fn_enter 18 Tryz.func67 rfl rfl rfl ?_
  repeat' (first | (refine is_cw ?_; first | (refine cw_seq ?_) | (refine cw_region ?_)))
  refine lw_boxN rfl rfl (cs := [.int .i64 q, .int .i64 n]) rfl ?_; intro N2 w2 hN2 HC hb
  replace hw := grow_trans hw hb
  clear hb
  refine lw_boxN rfl rfl (cs := encS x) rfl ?_; intro N3 w3 hN3 HX hb
  replace hN3 : w.heap.size ≤ N3 := Nat.le_trans hw.size hN3
  replace HC := HC.mono hb
  replace hw := grow_trans hw hb
  clear hb
  refine lw_allocN rfl (by first | exact tyv_27 | exact tyv_28 | exact tyv_38 | exact tyv_39 | exact tyv_48 | exact tyv_49 | exact tyv_52 | exact tyv_53 | exact tyv_68 | exact tyv_69 | exact tyv_79 | exact tyv_80 | exact tyv_94 | exact tyv_95 | exact tyv_131 | exact tyv_132) rfl ?_; intro N4 w4 hN4 HZ hb
  have h34 : N3 ≠ N4 := by have := HX.lt; omega
  replace hN4 : w.heap.size ≤ N4 := Nat.le_trans hw.size hN4
  replace HC := HC.mono hb
  replace HX := HX.mono hb
  replace hw := grow_trans hw hb
  clear hb
  replace hE := hE.mono hw; clear hw; have hw := Below.refl w4.heap.size w4
  repeat' (first | (refine is_cw ?_; first | (refine cw_seq ?_)) | (refine is_qw ?_; first | (with_reducible refine qw_then ?_)) | (refine lw_nil ?_))
  refine cw_drawnF 11 (fun w' => Below w4.heap.size w4 w' ∧ PT w' N3 39 (encS x)) (by kernel_rfl) (by repeat (first | exact NoPanic.body | with_reducible refine NoPanic.then ?_ | with_reducible refine NoPanic.inBlock ?_)) (fun hNP => ?_)
  have hU := And.intro hw.drew (HX.mono (below_drew _))
  first | (refine fw_takeT 0 9 rfl (by kernel_rfl) (by kernel_rfl) rfl rfl (by kernel_rfl) (by kernel_rfl) (by kernel_rfl) hNP hU rfl (fun w' hq => pv_fa (tF rfl) rfl) ?_)
  first | (refine fw_takeT 1 9 rfl (by kernel_rfl) (by kernel_rfl) rfl rfl (by kernel_rfl) (by kernel_rfl) (by kernel_rfl) hNP hU rfl (fun w' hq => pv_load (t1 rfl) rfl (by first | exact PT.ld0 hq.2 rfl | exact PT.ld hq.2 rfl)) ?_)
  first | (refine fw_takeT 2 9 rfl (by kernel_rfl) (by kernel_rfl) rfl rfl (by kernel_rfl) (by kernel_rfl) (by kernel_rfl) hNP hU rfl (fun w' hq => pv_fa (tF rfl) rfl) ?_)
  first | (refine fw_takeT 3 9 rfl (by kernel_rfl) (by kernel_rfl) rfl rfl (by kernel_rfl) (by kernel_rfl) (by kernel_rfl) hNP hU rfl (fun w' hq => pv_load (t1 rfl) rfl (by first | exact PT.ld0 (HC.mono hq.1) rfl | exact PT.ld (HC.mono hq.1) rfl)) ?_)
  first | (refine fw_takeT 5 9 rfl (by kernel_rfl) (by kernel_rfl) rfl rfl (by kernel_rfl) (by kernel_rfl) (by kernel_rfl) hNP hU rfl (fun w' hq => pv_fa (tF rfl) rfl) ?_)
  first | (refine fw_takeT 6 9 rfl (by kernel_rfl) (by kernel_rfl) rfl rfl (by kernel_rfl) (by kernel_rfl) (by kernel_rfl) hNP hU rfl (fun w' hq => pv_load (t1 rfl) rfl (by first | exact PT.ld0 hq.2 rfl | exact PT.ld hq.2 rfl)) ?_)
  first | (refine fw_takeT 7 9 rfl (by kernel_rfl) (by kernel_rfl) rfl rfl (by kernel_rfl) (by kernel_rfl) (by kernel_rfl) hNP hU rfl (fun w' hq => pv_fa (tF rfl) rfl) ?_)
  first | (refine fw_takeT 8 9 rfl (by kernel_rfl) (by kernel_rfl) rfl rfl (by kernel_rfl) (by kernel_rfl) (by kernel_rfl) hNP hU rfl (fun w' hq => pv_load (t1 rfl) rfl (by first | exact PT.ld0 (HC.mono hq.1) rfl | exact PT.ld (HC.mono hq.1) rfl)) ?_)
  refine fw_act 4 (by kernel_rfl) rfl rfl rfl ?_
  refine act_call (f := 99) (by kernel_rfl) rfl (cap_c hx.2.1 hq _) ?_; rintro e w5 ⟨rfl, rfl⟩; refine ⟨_, rfl, hU, fun hU => ?_⟩
  first | (refine fw_takeT 10 9 rfl (by kernel_rfl) (by kernel_rfl) rfl rfl (by kernel_rfl) (by kernel_rfl) (by kernel_rfl) hNP hU rfl (fun w' hq => pv_fa (tF rfl) rfl) ?_)
  refine fw_act 9 (by kernel_rfl) rfl rfl rfl ?_
  refine act_call (f := 99) (by kernel_rfl) rfl (cap_c hx.2.2.2 hn _) ?_; rintro e w5 ⟨rfl, rfl⟩; refine ⟨_, rfl, hU, fun hU => ?_⟩
  obtain ⟨hw, HX⟩ := hU; clear hNP
  refine fw_one 11 (by kernel_rfl) rfl rfl rfl (by kernel_rfl) ?_
  refine act_store HX (tZ rfl) rfl rfl rfl (by simp [encS]) ?_; intro w6 HX2 hg hz
  first | (refine fw_one 12 (by kernel_rfl) rfl rfl rfl (by kernel_rfl) ?_; refine act_pv (pv_fa (tF rfl) rfl) ?_)
  refine fw_one 13 (by kernel_rfl) rfl rfl rfl (by kernel_rfl) ?_
  refine act_store HX2 (tZ rfl) rfl rfl rfl (by simp [encS]) ?_; intro w7 HX3 hg2 hz2
  refine fw_done (by kernel_rfl) ?_
  rw [hJ] at HX3
  replace hE := ((hE.mono hw).grown hg (by intro q hq; injection hq with hq; omega)).grown hg2 (by intro q hq; injection hq with hq; omega)
  replace HZ := ((HZ.mono hw).grown hg (by intro h; injection h with h; exact h34 h)).grown hg2 (by intro h; injection h with h; exact h34 h)
  clear hw
  have hw := Below.refl w7.heap.size w7
  repeat' (first | (refine is_cw ?_; first | (refine cw_seq ?_) | (refine cw_region ?_)) | (refine is_qw ?_; first | (with_reducible refine qw_then ?_)) | ((refine is_load ?_; first | (refine lw_pure rfl (pv_loada (tA rfl) rfl (by first | exact PT.lda (HX3.mono hw)) (by rfl)) ?_))))
  refine lw_storea (vs := encS (joinS x ⟨a, i, 0, q, 0, n⟩)) HZ (tZ rfl) rfl rfl rfl rfl (encS_one _) ?_; intro w8 H8 hg3 hz3
  replace hE := hE.grown hg3 (by intro q hq; injection hq with hq; omega)
  have hw := Below.refl w8.heap.size w8
  repeat' (first | (refine is_cw ?_; first | (refine cw_ret ?_)) | (refine is_qw ?_; first | (with_reducible refine qw_then ?_)) | (refine lw_nil ?_))
  exact qw_retc rfl rfl (agg_ld (tA rfl) rfl (fun i u hu => H8.ld0 hu)) ⟨rfl, hE.b⟩

theorem act_callw {P : Program} {n : Nat} {l : Fr} {w : World} {d : Option Nat} {f : FuncId} {x : Operand} {first cap : Array Value} {args : List Operand} {ts : Array TypeId} {ty : TypeId} {pos : String} {af : Array Edge} {g : Option (Nat × Bool)} {vs : List Value} {R : Ending → World → Prop} {Z : Value → World → Prop} (hx : ev l x = some (.func (.func f) first cap)) (he : entersB P f = true) (hvs : evs l args = some vs)
    (hc : Calls P f (first ++ vs.toArray ++ cap) w R) (h : ∀ e w', R e w' → ∃ v, e = .returned v ∧ Z v w') : Act1 P n l ⟨d, .call ⟨.value x, args.toArray, ts⟩, ty, pos, af, g⟩ w Z := ⟨fun a ha K Q hK => by
  have hr := run_call (P := P) (w := w) (ts := ts) (d := d) (ty := ty) (pos := pos) (af := af) (g := g) he ha hx hvs
  unfold Oper.wp; rw [hr]
  refine Calls.mono hc fun e w' hr => ?_
  obtain ⟨v, rfl, hl⟩ := h e w' hr
  exact hK v w' hl⟩
set_option maxRecDepth 20000 in
set_option maxHeartbeats 4000000 in
theorem putS_c {l : List Pos} {m : Nat} {a : Option Addr} {ca : Nat} {w : World} (F : FuncId) (first : Array Value) (p : Pos) (he : entersB Tryz.prog F = true) (hm : l.length = m) (hl : l.length ≤ 65535) (hpw : l.Pairwise keyS) (HS : SlR encS 6 w a ca l)
    (hF : ∀ x : Pos, (x ∈ l ∨ x = zS p.acct p.inst) → ∀ w', Calls Tryz.prog F (first ++ [Value.agg (encS x).toArray].toArray ++ #[]) w' fun e w'' => e = .returned (.agg (encS (joinS x p)).toArray) ∧ Below w'.heap.size w' w'') (hz : joinS (zS p.acct p.inst) p = p) :
    Calls Tryz.prog 65 #[.slice a m ca, .int .i64 p.acct, .int .i64 p.inst, .func (.func F) first #[]] w fun e w' => (∃ v, e = .returned v ∧ Own encS 6 39 w.heap.size w' v (addS l p)) ∧ Below w.heap.size w w' := by
  subst hm
  have hE := Ext.refl w
  have hw := Below.refl w.heap.size w
  have hca := HS.le
  have hcm := HS.max
  have hF0 : ∀ w', Calls Tryz.prog F (first ++ [Value.agg (encS (zS p.acct p.inst)).toArray].toArray ++ #[]) w' fun e w'' => e = .returned (.agg (encS p).toArray) ∧ Below w'.heap.size w' w'' := fun w' => by have h := hF _ (Or.inr rfl) w'; rwa [hz] at h
  refine fn_enter 44 Tryz.func65 rfl rfl rfl ?_
  repeat' (first | (refine lw_pure rfl (pv_move rfl) ?_) | (refine lw_pure rfl (pv_assign rfl) ?_) | (refine is_cw ?_; first | (refine cw_seq ?_) | (refine cw_region ?_)) | (refine is_qw ?_; first | (with_reducible refine qw_then ?_)) | (refine lw_nil ?_) | ((refine is_bd ?_; first | (refine lw_pure rfl (tyB_39 rfl rfl rfl) ?_))))
  refine lw_varN rfl (by first | exact tyv_27 | exact tyv_28 | exact tyv_38 | exact tyv_39 | exact tyv_48 | exact tyv_49 | exact tyv_52 | exact tyv_53 | exact tyv_68 | exact tyv_69 | exact tyv_79 | exact tyv_80 | exact tyv_94 | exact tyv_95 | exact tyv_131 | exact tyv_132) rfl (tZ rfl) (fun _ => rfl) rfl rfl ?_; intro N9 wn hN9 HB hb; replace hN9 := Nat.le_trans hw.size hN9; replace hw := grow_trans hw hb; clear hb
  replace HB : PT wn N9 39 (encS (zS p.acct p.inst)) := HB
  replace hE := hE.mono hw; replace HS := HS.mono hw; clear hw; have hw := Below.refl wn.heap.size wn
  repeat' (first | (refine lw_pure rfl (pv_move rfl) ?_) | (refine is_cw ?_; first | (refine cw_seq ?_) | (refine cw_region ?_)) | (refine is_qw ?_; first | (with_reducible refine qw_then ?_)) | (refine lw_nil ?_) | ((refine is_load ?_; first | (refine lw_pure rfl (pv_loada (tA rfl) rfl (by first | exact PT.lda (HB.mono hw)) (by rfl)) ?_))))
  refine lw_call (f := 97) (by kernel_rfl) rfl rfl (search_S (zS p.acct p.inst) rfl (by omega) hpw HS) ?_; rintro e w1 ⟨⟨i, b, rfl, hP, hb1, hb2⟩, hb⟩; refine ⟨_, rfl, ?_⟩
  replace hE := hE.mono (grow_trans hw hb)
  replace HS := HS.mono (grow_trans hw hb)
  replace HB := HB.mono (grow_trans hw hb)
  clear hb hw
  have hw := Below.refl w1.heap.size w1
  have hP' : PlaceS l p i := ⟨hP.le, hP.lo, hP.hi⟩
  have hle := hP.le
  have hE0 := hE.le
  cases b with
  | false =>
    have hadd := hP'.new hpw (fun x hx => hb2 rfl x hx)
    repeat' (first | (refine lw_pure rfl (pv_move rfl) ?_) | (refine lw_pure rfl (pv_assign rfl) ?_) | (refine is_cw ?_; first | (refine cw_seq ?_) | (refine cw_region ?_) | (refine cw_true rfl rfl ?_)) | (refine is_qw ?_; first | (with_reducible refine qw_then ?_)) | (refine lw_nil ?_) | ((refine is_un ?_; first | (refine lw_pure rfl (pv_not rfl) ?_))) | (refine lw_pure rfl (pv_extract rfl rfl) ?_))
    refine cw_drawn (fun w' => Below w1.heap.size w1 w') (by kernel_rfl) (by repeat (first | exact NoPanic.body | with_reducible refine NoPanic.then ?_ | with_reducible refine NoPanic.inBlock ?_)) (fun hNP => ?_)
    have hS := hw.drew
    (refine at0 0 rfl (fun w' hq => pv_move rfl) ?_)
    (refine at0 2 rfl (fun w' hq => pv_move rfl) ?_)
    (refine at0 3 rfl (fun w' hq => pv_move rfl) ?_)
    (refine at0 4 rfl (fun w' hq => pv_loada (tA rfl) rfl (by first | exact PT.lda (HB.mono hq)) (by rfl)) ?_)
    refine aw_act 1 (by kernel_rfl) rfl rfl rfl ?_
    refine act_call (f := 44) (by kernel_rfl) rfl (clone_S rfl (HS.mono hS) (by omega)) ?_; rintro e w2 ⟨⟨v2, rfl, hO⟩, hb⟩; refine ⟨_, rfl, grow_trans hS hb, fun hS => ?_⟩
    refine aw_act 5 (by kernel_rfl) rfl rfl rfl ?_
    refine act_callw (f := F) rfl he rfl (hF0 _) ?_; rintro e w3 ⟨rfl, hb⟩; replace hO := hO.mono hb; refine ⟨_, rfl, grow_trans hS hb, fun hS => ?_⟩
    refine aw_act 6 (by kernel_rfl) rfl rfl rfl ?_
    refine act_bs (vs := [.agg (encS p).toArray]) (cs := encS p) elemS rfl rfl (by omega) (by omega) (by simp [Value.cells]) (by simp [Value.cells, encS]) ?_; intro wb HX hb; have hne : v2.ownBlock ≠ some w3.heap.size := fun h => absurd (hO.lt _ h).2 (Nat.lt_irrefl _); replace hO := hO.mono hb; refine ⟨grow_trans hS hb, fun hS => ?_⟩
    refine aw_act 7 (by kernel_rfl) rfl rfl rfl ?_
    refine act_call (f := 98) (by kernel_rfl) rfl (insert_S w1.heap.size i p hle (by omega) hS.size hO HX hne) ?_; rintro e w4 ⟨⟨v4, rfl, hO4⟩, hb⟩; refine ⟨_, rfl, hS.trans hb, fun hS => ?_⟩
    (refine at0 8 rfl (fun w' hq => pv_assign rfl) ?_)
    refine aw_done (by kernel_rfl) ?_
    replace hw := hS; clear hS hNP
    repeat' (first | (refine is_cw ?_; first | (refine cw_ret ?_)) | (refine is_qw ?_; first | (with_reducible refine qw_then ?_) | (with_reducible refine qw_then_ret ?_)))
    refine qw_ret1 rfl rfl ⟨⟨_, rfl, ?_⟩, (hE.mono hw).b⟩
    rw [hadd]; exact hO4.weaken hE.le
  | true =>
    obtain ⟨x, hx, hsk⟩ := hb1 rfl
    have hadd := hP'.old hx hsk
    have hil : i < l.length := (List.getElem?_eq_some_iff.1 hx).1
    have hmem : x ∈ l := List.mem_of_getElem? hx
    repeat' (first | (refine lw_pure rfl (pv_move rfl) ?_) | (refine lw_pure rfl (pv_assign rfl) ?_) | (refine is_cw ?_; first | (refine cw_seq ?_) | (refine cw_region ?_) | (refine cw_false rfl rfl ?_) | (refine cw_skip ?_)) | (refine is_qw ?_; first | (with_reducible refine qw_then ?_)) | (refine lw_nil ?_) | ((refine is_un ?_; first | (refine lw_pure rfl (pv_not rfl) ?_))) | (refine lw_pure rfl (pv_extract rfl rfl) ?_))
    refine lw_call (f := 44) (by kernel_rfl) rfl rfl (clone_S rfl (HS.mono hw) (by omega)) ?_; rintro e w2 ⟨⟨v2, rfl, hO⟩, hb⟩; refine ⟨_, rfl, ?_⟩
    replace hE := hE.mono (grow_trans hw hb)
    have hsz : w1.heap.size ≤ w2.heap.size := (grow_trans hw hb).size
    clear hb hw
    have hw := Below.refl w2.heap.size w2
    obtain ⟨ad, cap, rfl, HO, hbase⟩ := Own.slR encS_len hO
    obtain ⟨g, rfl⟩ : ∃ g, ad = some ⟨g, 0, none⟩ := by
      cases ad with
      | none => have := (HO.ofNone rfl).1; subst this; simp at hil
      | some a =>
        obtain ⟨b, o, sp⟩ := a
        obtain ⟨h1, _⟩ := HO.ofSome _ rfl (by have := HO.le; omega)
        have h2 := (hbase _ rfl).2
        simp only at h1 h2
        exact ⟨b, by rw [h1, h2]⟩
    have hgb := (hbase _ rfl).1
    have hox := HO.le
    have hom := HO.max
    repeat' (first | (refine lw_pure rfl (pv_move rfl) ?_) | (refine lw_pure rfl (pv_assign rfl) ?_) | (refine is_cw ?_; first | (refine cw_seq ?_) | (refine cw_region ?_)) | (refine is_qw ?_; first | (with_reducible refine qw_then ?_)) | (refine lw_nil ?_) | ((refine is_load ?_; first | (refine lw_pure rfl (pv_loada (tA rfl) rfl (by first | exact SlR.lda (HO.mono hw) hx) (by rfl)) ?_))) | ((refine is_ia ?_; first | (refine lw_pure rfl (pv_ian (tS rfl) rfl rfl (by omega)) ?_))))
    refine lw_callv (f := F) rfl he rfl rfl (hF x (Or.inl hmem) _) ?_; rintro e w3 ⟨rfl, hb⟩; refine ⟨_, rfl, ?_⟩
    replace hO := hO.mono (grow_trans hw hb)
    replace hE := hE.mono (grow_trans hw hb)
    clear hb hw
    have hw := Below.refl w3.heap.size w3
    repeat' (first | ((refine is_ia ?_; first | (refine lw_pure rfl (pv_ian (tS rfl) rfl rfl (by omega)) ?_))))
    refine lw_storeO (u := joinS x p) (i := i) (tZ rfl) encS_len encS_one rfl (by omega) rfl rfl hO hil ?_; intro w4 hO4 hg hz4
    have hgw : w.heap.size ≤ g := Nat.le_trans hE0 hgb
    replace hE := hE.grown hg (by intro q hq; injection hq with hq; omega)
    clear hw
    have hw := Below.refl w4.heap.size w4
    repeat' (first | (refine lw_pure rfl (pv_move rfl) ?_) | (refine lw_pure rfl (pv_assign rfl) ?_) | (refine is_cw ?_; first | (refine cw_seq ?_) | (refine cw_region ?_) | (refine cw_ret ?_)) | (refine is_qw ?_; first | (with_reducible refine qw_then ?_)) | (refine lw_nil ?_))
    refine qw_ret1 rfl rfl ⟨⟨_, rfl, ?_⟩, hE.b⟩
    rw [hadd]
    exact hO4.weaken hE0

set_option maxRecDepth 20000 in
set_option maxHeartbeats 16000000 in
theorem may_S {l : List Pos} {m : Nat} {a : Option Addr} {ca : Nat} {w : World} (hm : l.length = m) (HS : SlR encS 6 w a ca l) : Calls Tryz.prog 23 #[.slice a m ca] w fun e w' => e = .returned (.bool (mayPs l)) ∧ Below w.heap.size w w' := by
  subst hm
  have hw := Below.refl w.heap.size w
  have hca := HS.le
  have hcm := HS.max
  refine fn_enter 82 Tryz.func23 rfl rfl rfl ?_
  repeat' (first | (refine lw_pure rfl (pv_move rfl) ?_) | (refine lw_pure rfl (pv_assign rfl) ?_) | (refine is_cw ?_; first | (refine cw_seq ?_) | (refine cw_region ?_) | (refine cw_block ?_)) | (refine is_qw ?_; first | (with_reducible refine qw_then ?_)) | (refine lw_nil ?_) | ((refine is_bi ?_; first | (refine lw_pure rfl (pv_lenl (tS rfl) rfl) ?_))))
  refine cw_loop (σ := Nat) (fun k => [(0, .slice a l.length ca), (6, .slice a l.length ca), (7, .int .i64 (l.length : Nat)), (8, .int .i64 (k : Nat))]) (fun k wr => k ≤ l.length ∧ Below w.heap.size w wr ∧ MayPs (l.take k)) (fun k => l.length - k) 0 (by repeat' (first | exact trivial | refine ⟨rfl, ?_⟩)) ⟨Nat.zero_le _, hw, by simp [MayPs]⟩ ?_
  clear hw
  rintro k wr ⟨hk, hw, hn⟩
  by_cases hlt : k < l.length
  · have hxk : l[k]? = some l[k] := List.getElem?_eq_getElem hlt
    have hlt1 : k - 1 < l.length := by omega
    have hxj : l[k - 1]? = some l[k - 1] := List.getElem?_eq_getElem hlt1
    obtain ⟨ab, ao, rfl, -, -⟩ := HS.at (by intro h; rw [h] at hlt; simp at hlt)
    have hidx : 0 < k → ((k : Int) - 1) = ((k - 1 : Nat) : Int) := by omega
    have hmem := List.getElem_mem hlt
    generalize l[k] = x at hxk hmem
    generalize l[k - 1] = y at hxj
    have hno : ¬ MayS x → mayPs l = false := fun h => mayPs_no.2 fun hM => h (hM.2 _ hmem)
    have n0 : decide ((1 ≤ x.acct ∧ x.acct ≤ 64) ∧ (1 ≤ x.inst ∧ x.inst ≤ 16)) = false → mayPs l = false := fun h => hno fun hM => (decide_eq_false_iff_not.1 h) ⟨hM.1, hM.2.1⟩
    have n1 : decide (NumS x.bought) = false → mayPs l = false := fun h => hno fun hM => (decide_eq_false_iff_not.1 h) hM.2.2.1.1
    have n2 : decide (NumS x.sold) = false → mayPs l = false := fun h => hno fun hM => (decide_eq_false_iff_not.1 h) hM.2.2.1.2.1
    have n3 : decide (NumS x.spent) = false → mayPs l = false := fun h => hno fun hM => (decide_eq_false_iff_not.1 h) hM.2.2.1.2.2.1
    have n4 : decide (NumS x.got) = false → mayPs l = false := fun h => hno fun hM => (decide_eq_false_iff_not.1 h) hM.2.2.1.2.2.2
    have n5 : (x.bought = 0 ∧ x.sold = 0) → mayPs l = false := fun h => hno fun hM => hM.2.2.2 h
    have n6 : 0 < k → 0 ≤ rowS y x → mayPs l = false := fun h0 h => mayPs_no.2 fun hM => by
      have := rowS_lt.2 (pwg_get hM.1 (by omega) hxj hxk); omega
    have hok : decide ((1 ≤ x.acct ∧ x.acct ≤ 64) ∧ (1 ≤ x.inst ∧ x.inst ≤ 16)) = true → decide (NumS x.bought) = true → decide (NumS x.sold) = true → decide (NumS x.spent) = true → decide (NumS x.got) = true → ¬ (x.bought = 0 ∧ x.sold = 0) → (k = 0 ∨ rowS y x < 0) → MayPs (l.take (k + 1)) := fun a0 a1 a2 a3 a4 a5 a6 => by
      have a0 := of_decide_eq_true a0
      refine ⟨pwg_snoc (R := keyS) (fun _ _ _ h g => keyS_trans h g) hn.1 hxk (a6.imp id fun h => ⟨y, hxj, rowS_lt.1 h⟩), fun z hz => ?_⟩
      rw [List.take_add_one, hxk] at hz
      rcases List.mem_append.1 hz with hz | hz
      · exact hn.2 z hz
      · simp at hz; subst hz
        exact ⟨a0.1, a0.2, ⟨of_decide_eq_true a1, of_decide_eq_true a2, of_decide_eq_true a3, of_decide_eq_true a4⟩, a5⟩
    repeat' (first | (refine lw_pure rfl (pv_move rfl) ?_) | (refine is_cw ?_; first | (refine cw_seq ?_) | (refine cw_region ?_) | (refine is_cd ?_; refine cw_true rfl (by first | assumption | exact decide_eq_true (by omega) | exact dec_notT (by omega)) ?_) | (refine cw_skip ?_) | (refine cw_block ?_)) | (refine is_qw ?_; first | (with_reducible refine qw_then ?_)) | (refine lw_nil ?_) | ((refine is_bin ?_; first | (refine lw_pure rfl (pv_lss rfl rfl) ?_))) | ((refine is_load ?_; first | (refine lw_pure rfl (pv_loada (tA rfl) rfl (by first | exact SlR.lda (HS.mono hw) hxk) (by rfl)) ?_))) | ((refine is_ia ?_; first | (refine lw_pure rfl (pv_ian (tS rfl) rfl rfl (by omega)) ?_))))
    refine lw_allocN rfl (by first | exact tyv_27 | exact tyv_28 | exact tyv_38 | exact tyv_39 | exact tyv_48 | exact tyv_49 | exact tyv_52 | exact tyv_53 | exact tyv_68 | exact tyv_69 | exact tyv_79 | exact tyv_80 | exact tyv_94 | exact tyv_95 | exact tyv_131 | exact tyv_132) rfl ?_; intro N4 wn hN4 H0 hb
    replace hN4 : w.heap.size ≤ N4 := Nat.le_trans hw.size hN4
    replace hw := grow_trans hw hb
    clear hb
    refine lw_pure rfl (pv_assign rfl) ?_
    refine lw_storea (vs := encS x) H0 (tZ rfl) rfl rfl rfl rfl (encS_one _) ?_; intro w2 HX hg hz
    replace hw := st_hw hw hg hN4
    clear hg hz H0
    have hE := Ext.mk hw
    replace HS := HS.mono hw
    clear hw
    have hw := Below.refl w2.heap.size w2
    refine lw_nil ?_; (with_reducible refine qw_then ?_)
    refine cw_cut (σ := Bool) (fun b => ([(0, .slice (some ⟨ab, ao, none⟩) l.length ca), (3, .int .i64 (k : Nat)), (4, .pointer (some ⟨N4, 0, none⟩)), (5, .bool b), (6, .slice (some ⟨ab, ao, none⟩) l.length ca), (7, .int .i64 (l.length : Nat)), (8, .int .i64 (k : Nat))])) (fun b w' => Below w2.heap.size w2 w' ∧ b = decide ((1 ≤ x.acct ∧ x.acct ≤ 64) ∧ (1 ≤ x.inst ∧ x.inst ≤ 16))) ?_ ?_
    · repeat' (first | (refine lw_pure rfl (pv_move rfl) ?_) | (refine lw_pure rfl (pv_assign rfl) ?_) | (refine is_cw ?_; first | (refine cw_region ?_)) | (refine lw_nil ?_) | (refine is_guarded ?_; first | (refine lw_not rfl rfl rfl rfl ?_) | (refine lw_on rfl rfl (by first | assumption | exact decide_eq_true (by omega) | exact decide_eq_false (by omega) | exact dec_notT (by omega) | exact dec_notF (by omega)) ?_) | (refine lw_not rfl rfl rfl (by first | assumption | exact decide_eq_true (by omega) | exact decide_eq_false (by omega) | exact dec_notT (by omega) | exact dec_notF (by omega)) ?_) | (refine lw_gs_t rfl rfl rfl (fun hc => ?_) (fun hc => ?_) <;> (first | replace hc := of_decide_eq_true hc | replace hc := of_decide_eq_false hc | replace hc := dec_nT hc | replace hc := dec_nF hc | skip) <;> (try (exfalso; omega)))) | ((refine is_bin ?_; first | (refine lw_pure rfl (pv_leq rfl rfl) ?_) | (refine lw_pure rfl (pv_geq rfl rfl) ?_))) | ((refine is_load ?_; first | (refine lw_pure rfl (pv_load (t1 rfl) rfl (by first | exact PT.ld0 (HX.mono hw) rfl | exact PT.ld (HX.mono hw) rfl)) ?_))) | ((refine is_fa ?_; first | (refine lw_pure rfl (pv_fa (tF rfl) rfl) ?_))) | (refine is_pk ?_; refine lw_pure rfl (pv_pick_f rfl rfl rfl) ?_) | (refine is_pk ?_; refine lw_pure rfl (pv_pick_t rfl (by first | assumption | exact decide_eq_true (by omega) | exact dec_notT (by omega)) rfl) ?_) | (refine is_pk ?_; refine lw_pure rfl (pv_pick_f rfl (by first | assumption | exact decide_eq_false (by omega) | exact dec_notF (by omega)) rfl) ?_))
      all_goals (refine qw_join _ (by repeat' (first | exact trivial | refine ⟨rfl, ?_⟩)) ⟨hw, ?_⟩; first | (symm; rw [decide_eq_true_eq]; omega) | (symm; rw [decide_eq_false_iff_not]; omega) | (rw [decide_eq_decide]; omega) | (rw [← decide_not, decide_eq_decide]; omega) | (simp [*]; done))
    rintro T w3 ⟨hw, hT⟩
    replace hE := hE.mono hw; replace HS := HS.mono hw; replace HX := HX.mono hw; clear hw; have hw := Below.refl w3.heap.size w3
    rw [← hT] at n0 hok
    clear hT
    generalize h1 : decide (NumS x.bought) = b1 at n1 hok
    generalize h2 : decide (NumS x.sold) = b2 at n2 hok
    generalize h3 : decide (NumS x.spent) = b3 at n3 hok
    generalize h4 : decide (NumS x.got) = b4 at n4 hok
    have hways : T = false ∨ (T = true ∧ b1 = false) ∨ (T = true ∧ b1 = true ∧ b2 = false) ∨ (T = true ∧ b1 = true ∧ b2 = true ∧ b3 = false) ∨ (T = true ∧ b1 = true ∧ b2 = true ∧ b3 = true ∧ b4 = false) ∨ (T = true ∧ b1 = true ∧ b2 = true ∧ b3 = true ∧ b4 = true ∧ ((x.bought = 0 ∧ x.sold = 0) ∨ (x.bought ≠ 0 ∧ k = 0) ∨ (x.bought ≠ 0 ∧ 0 < k ∧ 0 ≤ rowS y x) ∨ (x.bought ≠ 0 ∧ 0 < k ∧ rowS y x < 0) ∨ (x.bought = 0 ∧ x.sold ≠ 0 ∧ k = 0) ∨ (x.bought = 0 ∧ x.sold ≠ 0 ∧ 0 < k ∧ 0 ≤ rowS y x) ∨ (x.bought = 0 ∧ x.sold ≠ 0 ∧ 0 < k ∧ rowS y x < 0))) := by
      cases T <;> cases b1 <;> cases b2 <;> cases b3 <;> cases b4 <;> simp <;> omega
    refine cw_seq ?_
    refine cw_drawn (fun w' => Below w3.heap.size w3 w') (by kernel_rfl) (by repeat (first | exact NoPanic.body | with_reducible refine NoPanic.then ?_ | with_reducible refine NoPanic.inBlock ?_)) (fun hNP => ?_)
    have hS := hw.drew
    rcases hways with rfl | ⟨rfl, rfl⟩ | ⟨rfl, rfl, rfl⟩ | ⟨rfl, rfl, rfl, rfl⟩ | ⟨rfl, rfl, rfl, rfl, rfl⟩ | ⟨rfl, rfl, rfl, rfl, rfl, ⟨hz1, hz2⟩ | ⟨hz1, hz2⟩ | ⟨hz1, hz2, hz3⟩ | ⟨hz1, hz2, hz3⟩ | ⟨hz1, hz2, hz3⟩ | ⟨hz1, hz2, hz3, hz4⟩ | ⟨hz1, hz2, hz3, hz4⟩⟩
    all_goals (refine at0 0 rfl (fun w' hq => pv_move rfl) ?_)
    all_goals (refine at0 1 rfl (fun w' hq => pv_not rfl) ?_)
    all_goals (refine at0 2 rfl (fun w' hq => pv_move rfl) ?_)
    all_goals first | (refine an1 3 rfl rfl rfl rfl ?_) | (refine at1 3 rfl rfl rfl rfl (fun w' hq => pv_fa (tF rfl) rfl) ?_)
    all_goals first | (refine an1 4 rfl rfl rfl rfl ?_) | (refine at1 4 rfl rfl rfl rfl (fun w' hq => pv_load (t1 rfl) rfl (by first | exact PT.ld0 (HX.mono hq) rfl | exact PT.ld (HX.mono hq) rfl | exact SlR.ld (HS.mono hq) hxj rfl | exact SlR.ld1 (HS.mono hq) hxj rfl)) ?_)
    all_goals first | (refine an3 5 rfl rfl rfl ?_) | (refine an0 5 rfl rfl rfl ?_) | (refine aw_act_g 5 (by kernel_rfl) rfl rfl rfl (by first | rfl | assumption | exact decide_eq_true (by omega) | exact decide_eq_false (by omega) | exact dec_notT (by omega) | exact dec_notF (by omega)) rfl ?_; refine act_call (f := 57) (by kernel_rfl) rfl (total_e h1 _) ?_; rintro e w4 ⟨rfl, rfl⟩; refine ⟨_, rfl, hS, fun hS => ?_⟩)
    all_goals first | (refine an1 6 rfl rfl rfl rfl ?_) | (refine at1 6 rfl rfl rfl rfl (fun w' hq => pv_not rfl) ?_)
    all_goals first | (refine at0 7 rfl (fun w' hq => pv_pick_t rfl rfl rfl) ?_) | (refine at0 7 rfl (fun w' hq => pv_pick_f rfl rfl rfl) ?_)
    all_goals (refine at0 8 rfl (fun w' hq => pv_move rfl) ?_)
    all_goals first | (refine an1 9 rfl rfl rfl rfl ?_) | (refine at1 9 rfl rfl rfl rfl (fun w' hq => pv_fa (tF rfl) rfl) ?_)
    all_goals first | (refine an1 10 rfl rfl rfl rfl ?_) | (refine at1 10 rfl rfl rfl rfl (fun w' hq => pv_load (t1 rfl) rfl (by first | exact PT.ld0 (HX.mono hq) rfl | exact PT.ld (HX.mono hq) rfl | exact SlR.ld (HS.mono hq) hxj rfl | exact SlR.ld1 (HS.mono hq) hxj rfl)) ?_)
    all_goals first | (refine an3 11 rfl rfl rfl ?_) | (refine an0 11 rfl rfl rfl ?_) | (refine aw_act_g 11 (by kernel_rfl) rfl rfl rfl (by first | rfl | assumption | exact decide_eq_true (by omega) | exact decide_eq_false (by omega) | exact dec_notT (by omega) | exact dec_notF (by omega)) rfl ?_; refine act_call (f := 57) (by kernel_rfl) rfl (total_e h2 _) ?_; rintro e w4 ⟨rfl, rfl⟩; refine ⟨_, rfl, hS, fun hS => ?_⟩)
    all_goals first | (refine an1 12 rfl rfl rfl rfl ?_) | (refine at1 12 rfl rfl rfl rfl (fun w' hq => pv_not rfl) ?_)
    all_goals first | (refine at0 13 rfl (fun w' hq => pv_pick_t rfl rfl rfl) ?_) | (refine at0 13 rfl (fun w' hq => pv_pick_f rfl rfl rfl) ?_)
    all_goals (refine at0 14 rfl (fun w' hq => pv_move rfl) ?_)
    all_goals first | (refine an1 15 rfl rfl rfl rfl ?_) | (refine at1 15 rfl rfl rfl rfl (fun w' hq => pv_fa (tF rfl) rfl) ?_)
    all_goals first | (refine an1 16 rfl rfl rfl rfl ?_) | (refine at1 16 rfl rfl rfl rfl (fun w' hq => pv_load (t1 rfl) rfl (by first | exact PT.ld0 (HX.mono hq) rfl | exact PT.ld (HX.mono hq) rfl | exact SlR.ld (HS.mono hq) hxj rfl | exact SlR.ld1 (HS.mono hq) hxj rfl)) ?_)
    all_goals first | (refine an3 17 rfl rfl rfl ?_) | (refine an0 17 rfl rfl rfl ?_) | (refine aw_act_g 17 (by kernel_rfl) rfl rfl rfl (by first | rfl | assumption | exact decide_eq_true (by omega) | exact decide_eq_false (by omega) | exact dec_notT (by omega) | exact dec_notF (by omega)) rfl ?_; refine act_call (f := 57) (by kernel_rfl) rfl (total_e h3 _) ?_; rintro e w4 ⟨rfl, rfl⟩; refine ⟨_, rfl, hS, fun hS => ?_⟩)
    all_goals first | (refine an1 18 rfl rfl rfl rfl ?_) | (refine at1 18 rfl rfl rfl rfl (fun w' hq => pv_not rfl) ?_)
    all_goals first | (refine at0 19 rfl (fun w' hq => pv_pick_t rfl rfl rfl) ?_) | (refine at0 19 rfl (fun w' hq => pv_pick_f rfl rfl rfl) ?_)
    all_goals (refine at0 20 rfl (fun w' hq => pv_move rfl) ?_)
    all_goals first | (refine an1 21 rfl rfl rfl rfl ?_) | (refine at1 21 rfl rfl rfl rfl (fun w' hq => pv_fa (tF rfl) rfl) ?_)
    all_goals first | (refine an1 22 rfl rfl rfl rfl ?_) | (refine at1 22 rfl rfl rfl rfl (fun w' hq => pv_load (t1 rfl) rfl (by first | exact PT.ld0 (HX.mono hq) rfl | exact PT.ld (HX.mono hq) rfl | exact SlR.ld (HS.mono hq) hxj rfl | exact SlR.ld1 (HS.mono hq) hxj rfl)) ?_)
    all_goals first | (refine an3 23 rfl rfl rfl ?_) | (refine an0 23 rfl rfl rfl ?_) | (refine aw_act_g 23 (by kernel_rfl) rfl rfl rfl (by first | rfl | assumption | exact decide_eq_true (by omega) | exact decide_eq_false (by omega) | exact dec_notT (by omega) | exact dec_notF (by omega)) rfl ?_; refine act_call (f := 57) (by kernel_rfl) rfl (total_e h4 _) ?_; rintro e w4 ⟨rfl, rfl⟩; refine ⟨_, rfl, hS, fun hS => ?_⟩)
    all_goals first | (refine an1 24 rfl rfl rfl rfl ?_) | (refine at1 24 rfl rfl rfl rfl (fun w' hq => pv_not rfl) ?_)
    all_goals first | (refine at0 25 rfl (fun w' hq => pv_pick_t rfl rfl rfl) ?_) | (refine at0 25 rfl (fun w' hq => pv_pick_f rfl rfl rfl) ?_)
    all_goals (refine at0 26 rfl (fun w' hq => pv_move rfl) ?_)
    all_goals first | (refine an1 27 rfl rfl rfl rfl ?_) | (refine at1 27 rfl rfl rfl rfl (fun w' hq => pv_fa (tF rfl) rfl) ?_)
    all_goals first | (refine an1 28 rfl rfl rfl rfl ?_) | (refine at1 28 rfl rfl rfl rfl (fun w' hq => pv_load (t1 rfl) rfl (by first | exact PT.ld0 (HX.mono hq) rfl | exact PT.ld (HX.mono hq) rfl | exact SlR.ld (HS.mono hq) hxj rfl | exact SlR.ld1 (HS.mono hq) hxj rfl)) ?_)
    all_goals first | (refine an1 29 rfl rfl rfl rfl ?_) | (refine at1 29 rfl rfl rfl rfl (fun w' hq => pv_eql rfl rfl) ?_)
    all_goals first | (refine an1 30 rfl rfl rfl rfl ?_) | (refine at1 30 rfl rfl rfl rfl (fun w' hq => pv_move rfl) ?_)
    all_goals first | (refine an0 31 rfl rfl rfl ?_) | (refine an2 31 rfl rfl rfl ?_) | (refine at2 31 rfl rfl rfl (fun w' hq => pv_fa (tF rfl) rfl) ?_)
    all_goals first | (refine an0 32 rfl rfl rfl ?_) | (refine an2 32 rfl rfl rfl ?_) | (refine at2 32 rfl rfl rfl (fun w' hq => pv_load (t1 rfl) rfl (by first | exact PT.ld0 (HX.mono hq) rfl | exact PT.ld (HX.mono hq) rfl | exact SlR.ld (HS.mono hq) hxj rfl | exact SlR.ld1 (HS.mono hq) hxj rfl)) ?_)
    all_goals first | (refine an0 33 rfl rfl rfl ?_) | (refine an2 33 rfl rfl rfl ?_) | (refine at2 33 rfl rfl rfl (fun w' hq => pv_eql rfl rfl) ?_)
    all_goals first | (refine an1 34 rfl rfl rfl rfl ?_) | (refine at1 34 rfl rfl rfl rfl (fun w' hq => pv_pick_t rfl (by first | assumption | exact decide_eq_true (by omega) | exact dec_notT (by omega)) rfl) ?_) | (refine at1 34 rfl rfl rfl rfl (fun w' hq => pv_pick_f rfl (by first | assumption | exact decide_eq_false (by omega) | exact dec_notF (by omega)) rfl) ?_)
    all_goals first | (refine at0 35 rfl (fun w' hq => pv_pick_t rfl rfl rfl) ?_) | (refine at0 35 rfl (fun w' hq => pv_pick_f rfl rfl rfl) ?_)
    all_goals (refine at0 36 rfl (fun w' hq => pv_move rfl) ?_)
    all_goals first | (refine an1 37 rfl rfl rfl rfl ?_) | (refine at1 37 rfl rfl rfl rfl (fun w' hq => pv_move rfl) ?_) | (refine an2 37 rfl rfl rfl ?_) | (refine at2 37 rfl rfl rfl (fun w' hq => pv_move rfl) ?_)
    all_goals first | (refine an1 38 rfl rfl rfl rfl ?_) | (refine at1 38 rfl rfl rfl rfl (fun w' hq => pv_gtr rfl rfl) ?_) | (refine an2 38 rfl rfl rfl ?_) | (refine at2 38 rfl rfl rfl (fun w' hq => pv_gtr rfl rfl) ?_)
    all_goals first | (refine an1 39 rfl rfl rfl rfl ?_) | (refine at1 39 rfl rfl rfl rfl (fun w' hq => pv_move rfl) ?_) | (refine an2 39 rfl rfl rfl ?_) | (refine at2 39 rfl rfl rfl (fun w' hq => pv_move rfl) ?_)
    all_goals first | (refine an0 40 rfl rfl rfl ?_) | (refine an2 40 rfl rfl rfl ?_) | (refine at2 40 rfl rfl rfl (fun w' hq => pv_move rfl) ?_)
    all_goals first | (refine an0 41 rfl rfl rfl ?_) | (refine an2 41 rfl rfl rfl ?_) | (refine at2 41 rfl rfl rfl (fun w' hq => pv_move rfl) ?_)
    all_goals first | (refine an0 42 rfl rfl rfl ?_) | (refine an2 42 rfl rfl rfl ?_) | (refine at2 42 rfl rfl rfl (fun w' hq => pv_sub rfl rfl (by omega)) ?_)
    all_goals first | (refine an0 43 rfl rfl rfl ?_) | (refine an2 43 rfl rfl rfl ?_) | (refine at2 43 rfl rfl rfl (fun w' hq => pv_iap (hidx (by omega)) (tS rfl) rfl rfl hlt1) ?_)
    all_goals first | (refine an0 44 rfl rfl rfl ?_) | (refine an2 44 rfl rfl rfl ?_) | (refine at2 44 rfl rfl rfl (fun w' hq => pv_loada (tA rfl) rfl (by first | exact PT.lda (HX.mono hq) | exact SlR.lda (HS.mono hq) hxj) (by rfl)) ?_)
    all_goals first | (refine an0 45 rfl rfl rfl ?_) | (refine an2 45 rfl rfl rfl ?_) | (refine at2 45 rfl rfl rfl (fun w' hq => pv_loada (tA rfl) rfl (by first | exact PT.lda (HX.mono hq) | exact SlR.lda (HS.mono hq) hxj) (by rfl)) ?_)
    all_goals first | (refine an3 46 rfl rfl rfl ?_) | (refine an0 46 rfl rfl rfl ?_) | (refine aw_act_g 46 (by kernel_rfl) rfl rfl rfl (by first | rfl | assumption | exact decide_eq_true (by omega) | exact decide_eq_false (by omega) | exact dec_notT (by omega) | exact dec_notF (by omega)) rfl ?_; refine act_call (f := 58) (by kernel_rfl) rfl (comp_c y x _) ?_; rintro e w4 ⟨rfl, hb⟩; refine ⟨_, rfl, grow_trans hS hb, fun hS => ?_⟩)
    all_goals first | (refine an0 47 rfl rfl rfl ?_) | (refine an2 47 rfl rfl rfl ?_) | (refine at2 47 rfl rfl rfl (fun w' hq => pv_geq rfl rfl) ?_)
    all_goals first | (refine an1 48 rfl rfl rfl rfl ?_) | (refine at1 48 rfl rfl rfl rfl (fun w' hq => pv_pick_t rfl (by first | assumption | exact decide_eq_true (by omega) | exact dec_notT (by omega)) rfl) ?_) | (refine at1 48 rfl rfl rfl rfl (fun w' hq => pv_pick_f rfl (by first | assumption | exact decide_eq_false (by omega) | exact dec_notF (by omega)) rfl) ?_) | (refine an2 48 rfl rfl rfl ?_) | (refine at2 48 rfl rfl rfl (fun w' hq => pv_pick_t rfl (by first | assumption | exact decide_eq_true (by omega) | exact dec_notT (by omega)) rfl) ?_) | (refine at2 48 rfl rfl rfl (fun w' hq => pv_pick_f rfl (by first | assumption | exact decide_eq_false (by omega) | exact dec_notF (by omega)) rfl) ?_)
    all_goals first | (refine at0 49 rfl (fun w' hq => pv_pick_t rfl rfl rfl) ?_) | (refine at0 49 rfl (fun w' hq => pv_pick_f rfl rfl rfl) ?_) | (refine at0 49 rfl (fun w' hq => pv_pick_t rfl (by first | assumption | exact decide_eq_true (by omega) | exact dec_notT (by omega)) rfl) ?_) | (refine at0 49 rfl (fun w' hq => pv_pick_f rfl (by first | assumption | exact decide_eq_false (by omega) | exact dec_notF (by omega)) rfl) ?_)
    all_goals (refine aw_done (by kernel_rfl) ?_; replace hw := hS; clear hS hNP)
    all_goals repeat' (first | (refine lw_pure rfl (pv_move rfl) ?_) | (refine lw_pure rfl (pv_assign rfl) ?_) | (refine is_cw ?_; first | (refine cw_seq ?_) | (refine cw_region ?_) | (refine cw_true rfl rfl ?_) | (refine cw_false rfl rfl ?_) | (refine is_cd ?_; refine cw_true rfl (by first | assumption | exact decide_eq_true (by omega) | exact dec_notT (by omega)) ?_) | (refine is_cd ?_; refine cw_false rfl (by first | assumption | exact decide_eq_false (by omega) | exact dec_notF (by omega)) ?_) | (refine cw_skip ?_) | (refine cw_ret ?_)) | (refine is_qw ?_; first | (with_reducible refine qw_then ?_) | (with_reducible refine qw_in ?_) | (with_reducible refine qw_then_ret ?_) | (with_reducible refine qw_in_ret ?_)) | (refine lw_nil ?_) | ((refine is_bin ?_; first | (refine lw_pure rfl (pv_inc rfl rfl (by omega)) ?_))))
    all_goals first | (exact qw_ret1 rfl rfl ⟨ret_bool (by first | exact (n0 rfl).symm | exact (n1 rfl).symm | exact (n2 rfl).symm | exact (n3 rfl).symm | exact (n4 rfl).symm | exact (n5 ⟨by omega, by omega⟩).symm | exact (n6 (by omega) (by omega)).symm), (hE.mono hw).b⟩) | (exact qw_round (k + 1) (by repeat' (first | exact trivial | refine ⟨rfl, ?_⟩)) ⟨by omega, (hE.mono hw).b, hok rfl rfl rfl rfl rfl (by omega) (by omega)⟩ (by omega))
  · have hkl : l.take k = l := List.take_of_length_le (by omega)
    rw [hkl] at hn
    repeat' (first | (refine lw_pure rfl (pv_assign rfl) ?_) | (refine is_cw ?_; first | (refine cw_seq ?_) | (refine cw_region ?_) | (refine is_cd ?_; refine cw_false rfl (by first | assumption | exact decide_eq_false (by omega) | exact dec_notF (by omega)) ?_) | (refine cw_exit ?_) | (refine cw_ret ?_)) | (refine is_qw ?_; first | (with_reducible refine qw_then ?_) | (with_reducible refine qw_in_hit ?_) | (with_reducible refine qw_then_exit ?_)) | (refine lw_nil ?_) | ((refine is_bin ?_; first | (refine lw_pure rfl (pv_lss rfl rfl) ?_))))
    exact qw_ret1 rfl rfl ⟨ret_bool (mayPs_iff.2 hn).symm, hw⟩

theorem zS_num (a i : Int) : NumS (zS a i).bought ∧ NumS (zS a i).sold ∧ NumS (zS a i).spent ∧ NumS (zS a i).got := by unfold zS NumS farS; simp
theorem mem_num {l : List Pos} (hM : MayPs l) {x : Pos} {a i : Int} (h : x ∈ l ∨ x = zS a i) : NumS x.bought ∧ NumS x.sold ∧ NumS x.spent ∧ NumS x.got := by
  rcases h with h | rfl
  · exact (hM.2 x h).2.2.1
  · exact zS_num a i
set_option maxRecDepth 20000 in
set_option maxHeartbeats 4000000 in
theorem deal_c {l : List Pos} {m : Nat} {a : Option Addr} {ca : Nat} {b s inst qty paid fee : Int} {w : World} (hm : l.length = m) (hl : l.length ≤ 65534) (hM : MayPs l) (HS : SlR encS 6 w a ca l) (h1 : 1 ≤ b ∧ b ≤ 64) (h2 : 1 ≤ s ∧ s ≤ 64) (h3 : 1 ≤ inst ∧ inst ≤ 16) (h4 : 1 ≤ qty ∧ qty ≤ 1048576) (h5 : 0 ≤ paid ∧ paid ≤ 1125899906842624) (h6 : 0 ≤ fee) :
    Calls Tryz.prog 45 #[.agg #[.int .i64 b, .int .i64 s, .int .i64 inst, .int .i64 qty, .int .i64 paid, .int .i64 fee], .slice a m ca] w fun e w' => (∃ vo, e = .returned (.tuple #[vo, .int .i64 (dealS l b s inst qty paid fee).2]) ∧ Own encS 6 39 w.heap.size w' vo (dealS l b s inst qty paid fee).1) ∧ Below w.heap.size w w' := by
  subst hm
  have hE := Ext.refl w
  have hw := Below.refl w.heap.size w
  have hca := HS.le
  have hcm := HS.max
  have hq : NumS qty := by unfold NumS farS; omega
  have hp : NumS paid := by unfold NumS farS; omega
  refine fn_enter 45 Tryz.func45 rfl rfl rfl ?_
  repeat' (first | (refine is_cw ?_; first | (refine cw_seq ?_) | (refine cw_region ?_)))
  refine lw_boxN rfl rfl (cs := [.int .i64 b, .int .i64 s, .int .i64 inst, .int .i64 qty, .int .i64 paid, .int .i64 fee]) rfl ?_; intro N2 w2 hN2 HD hb
  replace hw := grow_trans hw hb
  clear hb
  replace hE := hE.mono hw; replace HS := HS.mono hw; clear hw; have hw := Below.refl w2.heap.size w2
  by_cases hbad : b = s ∨ paid < fee
  · have hd : dealS l b s inst qty paid fee = ([], 1) := by unfold dealS; rw [if_pos hbad]
    rw [hd]
    repeat' (first | (refine lw_pure rfl (pv_move rfl) ?_) | (refine lw_pure rfl (pv_assign rfl) ?_) | (refine is_cw ?_; first | (refine cw_seq ?_) | (refine cw_region ?_) | (refine cw_true rfl rfl ?_) | (refine is_cd ?_; refine cw_true rfl (by first | assumption | exact decide_eq_true (by omega) | exact dec_notT (by omega)) ?_) | (refine cw_ret ?_)) | (refine is_qw ?_; first | (with_reducible refine qw_then ?_) | (with_reducible refine qw_then_ret ?_)) | (refine lw_nil ?_) | (refine is_guarded ?_; first | (refine lw_on rfl rfl (by first | assumption | exact decide_eq_true (by omega) | exact decide_eq_false (by omega) | exact dec_notT (by omega) | exact dec_notF (by omega)) ?_) | (refine lw_not rfl rfl rfl (by first | assumption | exact decide_eq_true (by omega) | exact decide_eq_false (by omega) | exact dec_notT (by omega) | exact dec_notF (by omega)) ?_) | (refine lw_gs_f rfl rfl rfl (fun hc => ?_) (fun hc => ?_) <;> (first | replace hc := of_decide_eq_true hc | replace hc := of_decide_eq_false hc | replace hc := dec_nT hc | replace hc := dec_nF hc | skip) <;> (try (exfalso; omega)))) | ((refine is_bin ?_; first | (refine lw_pure rfl (pv_eql rfl rfl) ?_) | (refine lw_pure rfl (pv_gtr rfl rfl) ?_))) | ((refine is_load ?_; first | (refine lw_pure rfl (pv_load (t1 rfl) rfl (by first | exact PT.ld0 (HD.mono hw) rfl | exact PT.ld (HD.mono hw) rfl)) ?_))) | ((refine is_fa ?_; first | (refine lw_pure rfl (pv_fa (tF rfl) rfl) ?_))) | (refine is_pk ?_; refine lw_pure rfl (pv_pick_t rfl (by first | assumption | exact decide_eq_true (by omega) | exact dec_notT (by omega)) rfl) ?_) | (refine is_pk ?_; refine lw_pure rfl (pv_pick_f rfl (by first | assumption | exact decide_eq_false (by omega) | exact dec_notF (by omega)) rfl) ?_))
    all_goals exact qw_ret2 rfl rfl rfl ⟨⟨_, rfl, Own.nil _⟩, (hE.mono hw).b⟩
  · have hd : dealS l b s inst qty paid fee = (addS (addS l ⟨b, inst, qty, 0, paid, 0⟩) ⟨s, inst, 0, qty, 0, paid - fee⟩, 0) := by unfold dealS; rw [if_neg hbad]
    rw [hd]
    have hg : NumS (paid - fee) := by unfold NumS farS; omega
    have o1 := okb_mk h1 h3 h4 h5
    have o2 := oks_mk (p := paid - fee) h2 h3 h4 (by omega)
    have hM1 := addS_may hM o1
    have hl1 := addS_len ⟨b, inst, qty, 0, paid, 0⟩ l
    repeat' (first | (refine lw_pure rfl (pv_move rfl) ?_) | (refine lw_pure rfl (pv_assign rfl) ?_) | (refine is_cw ?_; first | (refine cw_seq ?_) | (refine cw_region ?_) | (refine is_cd ?_; refine cw_false rfl (by first | assumption | exact decide_eq_false (by omega) | exact dec_notF (by omega)) ?_) | (refine cw_skip ?_)) | (refine is_qw ?_; first | (with_reducible refine qw_then ?_)) | (refine lw_nil ?_) | (refine is_guarded ?_; first | (refine lw_on rfl rfl (by first | assumption | exact decide_eq_true (by omega) | exact decide_eq_false (by omega) | exact dec_notT (by omega) | exact dec_notF (by omega)) ?_)) | ((refine is_bin ?_; first | (refine lw_pure rfl (pv_eql rfl rfl) ?_) | (refine lw_pure rfl (pv_gtr rfl rfl) ?_))) | ((refine is_load ?_; first | (refine lw_pure rfl (pv_load (t1 rfl) rfl (by first | exact PT.ld0 (HD.mono hw) rfl | exact PT.ld (HD.mono hw) rfl)) ?_))) | ((refine is_fa ?_; first | (refine lw_pure rfl (pv_fa (tF rfl) rfl) ?_))) | ((refine is_bd ?_; first | (refine lw_pure rfl (tyB_95 rfl rfl rfl) ?_))) | (refine is_pk ?_; refine lw_pure rfl (pv_pick_f rfl (by first | assumption | exact decide_eq_false (by omega) | exact dec_notF (by omega)) rfl) ?_) | (refine lw_pure rfl (pv_makeFunc rfl rfl) ?_))
    refine lw_call (f := 65) (by kernel_rfl) rfl rfl (putS_c (p := ⟨b, inst, qty, 0, paid, 0⟩) 66 #[.agg #[.int .i64 qty, .int .i64 paid]] (by kernel_rfl) rfl (by omega) hM.1 (HS.mono hw) (fun x hx w' => bought_c b inst hq hp (mem_num hM hx) w') (join_zero o1)) ?_; rintro e w3 ⟨⟨v1, rfl, hO1⟩, hb⟩; refine ⟨_, rfl, ?_⟩
    replace hE := hE.mono (grow_trans hw hb)
    replace HD := HD.mono (grow_trans hw hb)
    obtain ⟨a1, c1, rfl, HS1, -⟩ := Own.slR encS_len hO1
    clear hb hw hO1
    have hw := Below.refl w3.heap.size w3
    repeat' (first | (refine lw_pure rfl (pv_move rfl) ?_) | (refine lw_pure rfl (pv_assign rfl) ?_) | (refine is_cw ?_; first | (refine cw_seq ?_) | (refine cw_region ?_)) | (refine is_qw ?_; first | (with_reducible refine qw_then ?_)) | (refine lw_nil ?_) | ((refine is_bin ?_; first | (refine lw_pure rfl (pv_sub rfl rfl (by omega)) ?_))) | ((refine is_load ?_; first | (refine lw_pure rfl (pv_load (t1 rfl) rfl (by first | exact PT.ld0 (HD.mono hw) rfl | exact PT.ld (HD.mono hw) rfl)) ?_))) | ((refine is_fa ?_; first | (refine lw_pure rfl (pv_fa (tF rfl) rfl) ?_))) | ((refine is_bd ?_; first | (refine lw_pure rfl (tyB_95 rfl rfl rfl) ?_))) | (refine lw_pure rfl (pv_makeFunc rfl rfl) ?_))
    refine lw_call (f := 65) (by kernel_rfl) rfl rfl (putS_c (p := ⟨s, inst, 0, qty, 0, paid - fee⟩) 67 #[.agg #[.int .i64 qty, .int .i64 (paid - fee)]] (by kernel_rfl) rfl (by omega) hM1.1 (HS1.mono hw) (fun x hx w' => sold_c s inst hq hg (mem_num hM1 hx) w') (join_zero o2)) ?_; rintro e w4 ⟨⟨v2, rfl, hO2⟩, hb⟩; refine ⟨_, rfl, ?_⟩
    replace hO2 := hO2.weaken (Nat.le_trans hE.le hw.size)
    replace hE := hE.mono (grow_trans hw hb)
    clear hb hw
    have hw := Below.refl w4.heap.size w4
    repeat' (first | (refine lw_pure rfl (pv_assign rfl) ?_) | (refine is_cw ?_; first | (refine cw_ret ?_)) | (refine is_qw ?_; first | (with_reducible refine qw_then ?_)) | (refine lw_nil ?_))
    exact qw_ret2 rfl rfl rfl ⟨⟨_, rfl, hO2⟩, hE.b⟩
theorem mayS_e {l : List Pos} {m : Nat} {a : Option Addr} {ca : Nat} {w : World} {r : Bool} (h : mayPs l = r) (hm : l.length = m) (HS : SlR encS 6 w a ca l) : Calls Tryz.prog 23 #[.slice a m ca] w fun e w' => e = .returned (.bool r) ∧ Below w.heap.size w w' := by subst h; exact may_S hm HS
theorem deal_e {l : List Pos} {m : Nat} {a : Option Addr} {ca : Nat} {b s inst qty paid fee : Int} {w : World} {R : List Pos × Int} (hR : dealS l b s inst qty paid fee = R) (hm : l.length = m) (hl : l.length ≤ 65534) (hM : MayPs l) (HS : SlR encS 6 w a ca l) (h1 : 1 ≤ b ∧ b ≤ 64) (h2 : 1 ≤ s ∧ s ≤ 64) (h3 : 1 ≤ inst ∧ inst ≤ 16) (h4 : 1 ≤ qty ∧ qty ≤ 1048576) (h5 : 0 ≤ paid ∧ paid ≤ 1125899906842624) (h6 : 0 ≤ fee) :
    Calls Tryz.prog 45 #[.agg #[.int .i64 b, .int .i64 s, .int .i64 inst, .int .i64 qty, .int .i64 paid, .int .i64 fee], .slice a m ca] w fun e w' => (∃ vo, e = .returned (.tuple #[vo, .int .i64 R.2]) ∧ Own encS 6 39 w.heap.size w' vo R.1) ∧ Below w.heap.size w w' := by subst hR; exact deal_c hm hl hM HS h1 h2 h3 h4 h5 h6
theorem find_e {p : List Opn} {m : Nat} {a : Option Addr} {ca : Nat} {w : World} {id : Int} {o : Opn} (h : findP p id = some o) (hm : p.length = m) (HP : SlR encP 6 w a ca p) : Calls Tryz.prog 21 #[.slice a m ca, .int .i64 id] w fun e w' => e = .returned (.tuple #[.agg (encP o).toArray, .bool true]) ∧ Below w.heap.size w w' := by
  have h1 := find_c id hm HP
  rw [h] at h1; exact h1
theorem lot_e {p : List Lt} {m : Nat} {a : Option Addr} {ca : Nat} {w : World} {id : Int} {o : Lt} (h : findT p id = some o) (hm : p.length = m) (HP : SlR encL 4 w a ca p) : Calls Tryz.prog 22 #[.slice a m ca, .int .i64 id] w fun e w' => e = .returned (.tuple #[.agg (encL o).toArray, .bool true]) ∧ Below w.heap.size w w' := by
  have h1 := lotx_c id hm HP
  rw [h] at h1; exact h1
set_option maxRecDepth 20000 in
set_option maxHeartbeats 8000000 in
theorem pev_c {l : List Pos} {p : List Opn} {t : List Lt} {e : Evt} {ml mp mt mn mx : Nat} {al ap at_ an ax : Option Addr} {cl cp ct cn cx : Nat} {w : World} (h8 : 0 ≤ e.kind ∧ e.kind ≤ 255) (hml : l.length = ml) (hl : l.length ≤ 65534) (hmp : p.length = mp) (hmt : t.length = mt) (hmn : e.nums.length = mn) (hmx : e.texts.length = mx) (HS : SlR encS 6 w al cl l) (HP : SlR encP 6 w ap cp p) (HL : SlR encL 4 w at_ ct t) (HN : SlR encI 1 w an cn e.nums) (HX : SlR encT 1 w ax cx e.texts) (hT : TxtIn e.texts) (hK : KnW w) :
    Calls Tryz.prog 13 #[.slice al ml cl, .slice ap mp cp, .slice at_ mt ct, .agg #[.int .u8 e.v, .int .u8 e.kind, .slice an mn cn, .slice ax mx cx]] w fun e1 w' => (∃ vo, e1 = .returned (.tuple #[vo, .int .i64 (posR l p t e).2]) ∧ Own encS 6 39 w.heap.size w' vo (posR l p t e).1) ∧ Below w.heap.size w w' := by
  have hE := Ext.refl w
  have hw := Below.refl w.heap.size w
  have hcl := HS.le
  have hclm := HS.max
  refine fn_enter 147 Tryz.func13 rfl rfl rfl ?_
  repeat' (first | (refine is_cw ?_; first | (refine cw_seq ?_) | (refine cw_region ?_)))
  refine lw_boxN rfl rfl (cs := [.int .u8 e.v, .int .u8 e.kind, .slice an mn cn, .slice ax mx cx]) rfl ?_; intro N7 w7 hN7 HV hb
  replace hw := grow_trans hw hb
  clear hb
  replace hE := hE.mono hw; replace HS := HS.mono hw; replace HP := HP.mono hw; replace HL := HL.mono hw; replace HN := HN.mono hw; replace HX := HX.mono hw; replace hK := hK.mono hw; clear hw; have hw := Below.refl w7.heap.size w7
  repeat' (first | (refine lw_pure rfl (pv_move rfl) ?_) | (refine lw_pure rfl (pv_assign rfl) ?_) | (refine is_cw ?_; first | (refine cw_seq ?_) | (refine cw_region ?_)) | (refine is_qw ?_; first | (with_reducible refine qw_then ?_)) | (refine lw_nil ?_) | ((refine is_load ?_; first | (refine lw_pure rfl (pv_loada (tA rfl) rfl (by first | exact PT.lda (HV.mono hw)) (by rfl)) ?_))))
  refine lw_call (f := 20) (by kernel_rfl) rfl rfl (ev_c h8 hmp hmt hmn hmx HP HL HN HX hT hK) ?_; rintro e1 w1 ⟨⟨vo, vt, rfl, -, -⟩, hb⟩; refine ⟨_, rfl, ?_⟩
  replace hw := grow_trans hw hb
  clear hb
  replace hE := hE.mono hw; replace HS := HS.mono hw; replace HP := HP.mono hw; replace HL := HL.mono hw; replace HN := HN.mono hw; replace HV := HV.mono hw; clear hw; have hw := Below.refl w1.heap.size w1
  clear HX hK
  by_cases h4 : (eventR p t e).2.2 = 4
  · rw [posR_form (Or.inl h4)]
    repeat' (first | (refine lw_pure rfl (pv_move rfl) ?_) | (refine lw_pure rfl (pv_assign rfl) ?_) | (refine is_cw ?_; first | (refine cw_seq ?_) | (refine cw_region ?_) | (refine cw_true rfl rfl ?_) | (refine cw_ret ?_)) | (refine is_qw ?_; first | (with_reducible refine qw_then ?_) | (with_reducible refine qw_then_ret ?_)) | (refine lw_nil ?_) | (refine is_guarded ?_; first | (refine lw_not rfl rfl rfl (by first | assumption | exact decide_eq_true (by omega) | exact decide_eq_false (by omega) | exact dec_notT (by omega) | exact dec_notF (by omega)) ?_)) | ((refine is_bin ?_; first | (refine lw_pure rfl (pv_eql rfl rfl) ?_))) | (refine is_pk ?_; refine lw_pure rfl (pv_pick_t rfl (by first | assumption | exact decide_eq_true (by omega) | exact dec_notT (by omega)) rfl) ?_) | (refine lw_pure rfl (pv_extract rfl rfl) ?_))
    all_goals exact qw_ret2 rfl rfl rfl ⟨⟨_, rfl, Own.nil _⟩, (hE.mono hw).b⟩
  cases hmy : mayPs l with
  | false =>
    rw [posR_form (Or.inr hmy)]
    repeat' (first | (refine lw_pure rfl (pv_move rfl) ?_) | (refine lw_pure rfl (pv_assign rfl) ?_) | (refine lw_call (f := 23) (by kernel_rfl) rfl rfl (mayS_e hmy hml (HS.mono hw)) ?_; rintro e1 w2 ⟨rfl, hb⟩; refine ⟨_, rfl, ?_⟩; replace hw := grow_trans hw hb; clear hb) | (refine is_cw ?_; first | (refine cw_seq ?_) | (refine cw_region ?_) | (refine cw_true rfl rfl ?_) | (refine cw_ret ?_)) | (refine is_qw ?_; first | (with_reducible refine qw_then ?_) | (with_reducible refine qw_then_ret ?_)) | (refine lw_nil ?_) | (refine is_guarded ?_; first | (refine lw_on rfl rfl (by first | assumption | exact decide_eq_true (by omega) | exact decide_eq_false (by omega) | exact dec_notT (by omega) | exact dec_notF (by omega)) ?_)) | ((refine is_bin ?_; first | (refine lw_pure rfl (pv_eql rfl rfl) ?_))) | ((refine is_un ?_; first | (refine lw_pure rfl (pv_not rfl) ?_))) | (refine is_pk ?_; refine lw_pure rfl (pv_pick_f rfl (by first | assumption | exact decide_eq_false (by omega) | exact dec_notF (by omega)) rfl) ?_) | (refine lw_pure rfl (pv_extract rfl rfl) ?_))
    all_goals exact qw_ret2 rfl rfl rfl ⟨⟨_, rfl, Own.nil _⟩, (hE.mono hw).b⟩
  | true =>
    have hM := mayPs_iff.1 hmy
    have hgo : ¬ ((eventR p t e).2.2 = 4 ∨ mayPs l = false) := by rw [hmy]; simp [h4]
    repeat' ((fail_if_success (refine is_seqb ?_)); (fail_if_success (refine is_blk ?_)); first | (refine lw_pure rfl (pv_move rfl) ?_) | (refine lw_pure rfl (pv_assign rfl) ?_) | (refine lw_call (f := 23) (by kernel_rfl) rfl rfl (mayS_e hmy hml (HS.mono hw)) ?_; rintro e1 w2 ⟨rfl, hb⟩; refine ⟨_, rfl, ?_⟩; replace hw := grow_trans hw hb; clear hb) | (refine is_cw ?_; first | (refine cw_seq ?_) | (refine cw_region ?_) | (refine cw_false rfl rfl ?_) | (refine cw_skip ?_)) | (refine is_qw ?_; first | (with_reducible refine qw_then ?_)) | (refine lw_nil ?_) | (refine is_guarded ?_; first | (refine lw_on rfl rfl (by first | assumption | exact decide_eq_true (by omega) | exact decide_eq_false (by omega) | exact dec_notT (by omega) | exact dec_notF (by omega)) ?_)) | ((refine is_bin ?_; first | (refine lw_pure rfl (pv_eql rfl rfl) ?_))) | ((refine is_fa ?_; first | (refine lw_pure rfl (pv_fa (tF rfl) rfl) ?_))) | ((refine is_un ?_; first | (refine lw_pure rfl (pv_not rfl) ?_))) | (refine is_pk ?_; refine lw_pure rfl (pv_pick_f rfl (by first | assumption | exact decide_eq_false (by omega) | exact dec_notF (by omega)) rfl) ?_) | (refine lw_pure rfl (pv_extract rfl rfl) ?_))
    by_cases k1 : e.kind = 13
    · by_cases hf : (eventR p t e).2.2 = 0
      · obtain ⟨n0, n1, n2, n3, n4, oa, ob, hT⟩ := trade_at hf k1
        rw [posR_trade hgo hf k1 hT]
        have hns := hT.nums
        have hfa := hT.fa
        have hfb := hT.fb
        have hma := hT.ma
        have hmb := hT.mb
        have hg2 := hT.g2
        have hg3 := hT.g3
        have hg4 := hT.g4
        have hpd := hT.paid
        have x0 : e.nums[0]? = some n0 := by rw [hns]; rfl
        have x1 : e.nums[1]? = some n1 := by rw [hns]; rfl
        have x2 : e.nums[2]? = some n2 := by rw [hns]; rfl
        have x3 : e.nums[3]? = some n3 := by rw [hns]; rfl
        have x4 : e.nums[4]? = some n4 := by rw [hns]; rfl
        have hm5 : mn = 5 := by rw [← hmn, hns]; rfl
        clear hT
        obtain ⟨nb, no, rfl, -, -⟩ := HN.at (by rw [hns]; simp)
        clear hns
        repeat' (first | (refine lw_pure rfl (pv_move rfl) ?_) | (refine lw_pure rfl (pv_assign rfl) ?_) | (refine is_cw ?_; first | (refine cw_seq ?_) | (refine cw_region ?_) | (refine cw_false rfl rfl ?_) | (refine is_cd ?_; refine cw_false rfl (by first | assumption | exact decide_eq_false (by omega) | exact dec_notF (by omega)) ?_) | (refine cw_skip ?_) | (refine cw_block ?_)) | (refine is_qw ?_; first | (with_reducible refine qw_then ?_) | (with_reducible refine qw_in ?_)) | (refine lw_nil ?_) | (refine is_guarded ?_; first | (refine lw_not rfl rfl rfl (by first | assumption | exact decide_eq_true (by omega) | exact decide_eq_false (by omega) | exact dec_notT (by omega) | exact dec_notF (by omega)) ?_)) | ((refine is_bin ?_; first | (refine lw_pure rfl (pv_eql rfl rfl) ?_) | (refine lw_pure rfl (pv_neq rfl rfl) ?_))) | ((refine is_load ?_; first | (refine lw_pure rfl (pv_load (t1 rfl) rfl (by first | exact PT.ld0 (HV.mono hw) rfl | exact PT.ld (HV.mono hw) rfl | exact SlR.ld (HN.mono hw) x0 rfl | exact SlR.ld1 (HN.mono hw) x0 rfl)) ?_))) | ((refine is_fa ?_; first | (refine lw_pure rfl (pv_fa (tF rfl) rfl) ?_))) | ((refine is_ia ?_; first | (refine lw_pure rfl (pv_ia (tS rfl) rfl rfl (by omega)) ?_))) | (refine is_pk ?_; refine lw_pure rfl (pv_pick_f rfl (by first | assumption | exact decide_eq_false (by omega) | exact dec_notF (by omega)) rfl) ?_))
        refine lw_call (f := 21) (by kernel_rfl) rfl rfl (find_e hfa hmp (HP.mono hw)) ?_; rintro e1 w2 ⟨rfl, hb⟩; refine ⟨_, rfl, ?_⟩; replace hw := grow_trans hw hb; clear hb
        repeat' (first | (refine lw_pure rfl (pv_move rfl) ?_) | (refine lw_pure rfl (pv_extract rfl rfl) ?_))
        refine lw_varN rfl (by first | exact tyv_27 | exact tyv_28 | exact tyv_38 | exact tyv_39 | exact tyv_48 | exact tyv_49 | exact tyv_52 | exact tyv_53 | exact tyv_68 | exact tyv_69 | exact tyv_79 | exact tyv_80 | exact tyv_94 | exact tyv_95 | exact tyv_131 | exact tyv_132) rfl (tZ rfl) (fun _ => rfl) rfl rfl ?_; intro N16 wn hN16 HA hb; replace hN16 := Nat.le_trans hw.size hN16; replace hw := grow_trans hw hb; clear hb
        replace HA : PT wn N16 49 (encP oa) := HA
        repeat' (first | (refine lw_pure rfl (pv_move rfl) ?_) | (refine lw_pure rfl (pv_assign rfl) ?_) | (refine is_cw ?_; first | (refine cw_seq ?_) | (refine cw_region ?_)) | (refine is_qw ?_; first | (with_reducible refine qw_then ?_)) | (refine lw_nil ?_) | ((refine is_load ?_; first | (refine lw_pure rfl (pv_load (t1 rfl) rfl (by first | exact SlR.ld (HN.mono hw) x1 rfl | exact SlR.ld1 (HN.mono hw) x1 rfl)) ?_))) | ((refine is_ia ?_; first | (refine lw_pure rfl (pv_ia (tS rfl) rfl rfl (by omega)) ?_))))
        refine lw_call (f := 21) (by kernel_rfl) rfl rfl (find_e hfb hmp (HP.mono hw)) ?_; rintro e1 w3 ⟨rfl, hb⟩; refine ⟨_, rfl, ?_⟩; replace HA := HA.mono hb; replace hw := grow_trans hw hb; clear hb
        repeat' (first | (refine lw_pure rfl (pv_move rfl) ?_) | (refine lw_pure rfl (pv_extract rfl rfl) ?_))
        refine lw_varN rfl (by first | exact tyv_27 | exact tyv_28 | exact tyv_38 | exact tyv_39 | exact tyv_48 | exact tyv_49 | exact tyv_52 | exact tyv_53 | exact tyv_68 | exact tyv_69 | exact tyv_79 | exact tyv_80 | exact tyv_94 | exact tyv_95 | exact tyv_131 | exact tyv_132) rfl (tZ rfl) (fun _ => rfl) rfl rfl ?_; intro N18 w4 hN18 HB hb
        have hne : N16 ≠ N18 := by have := HA.lt; omega
        replace HA := HA.mono hb
        replace hN18 := Nat.le_trans hw.size hN18
        replace hw := grow_trans hw hb
        clear hb
        replace HB : PT w4 N18 49 (encP ob) := HB
        by_cases hbad : oa.side = ob.side ∨ oa.inst ≠ ob.inst
        · have htr : tradeS l oa ob n2 n3 n4 = ([], 1) := by unfold tradeS; rw [if_pos hbad]
          rw [htr]
          repeat' (first | (refine lw_pure rfl (pv_move rfl) ?_) | (refine lw_pure rfl (pv_assign rfl) ?_) | (refine is_cw ?_; first | (refine cw_seq ?_) | (refine cw_region ?_) | (refine cw_true rfl rfl ?_) | (refine is_cd ?_; refine cw_true rfl (by first | assumption | exact decide_eq_true (by omega) | exact dec_notT (by omega)) ?_) | (refine cw_ret ?_)) | (refine is_qw ?_; first | (with_reducible refine qw_then ?_) | (with_reducible refine qw_then_ret ?_)) | (refine lw_nil ?_) | (refine is_guarded ?_; first | (refine lw_on rfl rfl (by first | assumption | exact decide_eq_true (by omega) | exact decide_eq_false (by omega) | exact dec_notT (by omega) | exact dec_notF (by omega)) ?_) | (refine lw_not rfl rfl rfl (by first | assumption | exact decide_eq_true (by omega) | exact decide_eq_false (by omega) | exact dec_notT (by omega) | exact dec_notF (by omega)) ?_) | (refine lw_gs_f rfl rfl rfl (fun hc => ?_) (fun hc => ?_) <;> (first | replace hc := of_decide_eq_true hc | replace hc := of_decide_eq_false hc | replace hc := dec_nT hc | replace hc := dec_nF hc | skip) <;> (try (exfalso; omega)))) | ((refine is_bin ?_; first | (refine lw_pure rfl (pv_eql rfl rfl) ?_) | (refine lw_pure rfl (pv_neq rfl rfl) ?_))) | ((refine is_load ?_; first | (refine lw_pure rfl (pv_load (t1 rfl) rfl (by first | exact PT.ld0 HA rfl | exact PT.ld HA rfl | exact PT.ld0 HB rfl | exact PT.ld HB rfl)) ?_))) | ((refine is_fa ?_; first | (refine lw_pure rfl (pv_fa (tF rfl) rfl) ?_))) | (refine is_pk ?_; refine lw_pure rfl (pv_pick_t rfl (by first | assumption | exact decide_eq_true (by omega) | exact dec_notT (by omega)) rfl) ?_) | (refine is_pk ?_; refine lw_pure rfl (pv_pick_f rfl (by first | assumption | exact decide_eq_false (by omega) | exact dec_notF (by omega)) rfl) ?_))
          all_goals exact qw_ret2 rfl rfl rfl ⟨⟨_, rfl, Own.nil _⟩, (hE.mono hw).b⟩
        · by_cases hs2 : oa.side = 2
          · have htr : tradeS l oa ob n2 n3 n4 = dealS l ob.acct oa.acct ob.inst n3 (n2 * n3) n4 := by
              unfold tradeS; rw [if_neg hbad, if_pos hs2, show ob.inst = oa.inst by omega]
            rw [htr]
            clear htr
            obtain ⟨R, hdl⟩ : ∃ R, dealS l ob.acct oa.acct ob.inst n3 (n2 * n3) n4 = R := ⟨_, rfl⟩
            rw [hdl]
            repeat' (first | (refine lw_pure rfl (pv_move rfl) ?_) | (refine lw_pure rfl (pv_assign rfl) ?_) | (refine is_cw ?_; first | (refine cw_seq ?_) | (refine cw_region ?_) | (refine is_cd ?_; refine cw_true rfl (by first | assumption | exact decide_eq_true (by omega) | exact dec_notT (by omega)) ?_) | (refine is_cd ?_; refine cw_false rfl (by first | assumption | exact decide_eq_false (by omega) | exact dec_notF (by omega)) ?_) | (refine cw_skip ?_)) | (refine is_qw ?_; first | (with_reducible refine qw_then ?_)) | (refine lw_nil ?_) | (refine is_guarded ?_; first | (refine lw_on rfl rfl (by first | assumption | exact decide_eq_true (by omega) | exact decide_eq_false (by omega) | exact dec_notT (by omega) | exact dec_notF (by omega)) ?_)) | ((refine is_bin ?_; first | (refine lw_pure rfl (pv_eql rfl rfl) ?_) | (refine lw_pure rfl (pv_neq rfl rfl) ?_))) | ((refine is_load ?_; first | (refine lw_pure rfl (pv_load (t1 rfl) rfl (by first | exact PT.ld0 HA rfl | exact PT.ld HA rfl | exact PT.ld0 HB rfl | exact PT.ld HB rfl)) ?_) | (refine lw_pure rfl (pv_loada (tA rfl) rfl (by first | exact PT.lda HA | exact PT.lda HB) (by rfl)) ?_))) | ((refine is_fa ?_; first | (refine lw_pure rfl (pv_fa (tF rfl) rfl) ?_))) | (refine is_pk ?_; refine lw_pure rfl (pv_pick_f rfl (by first | assumption | exact decide_eq_false (by omega) | exact dec_notF (by omega)) rfl) ?_))
            refine lw_storea (vs := encP ob) HA (tZ rfl) rfl rfl rfl rfl (encP_one _) ?_; intro w5 HA2 hg5 hz5
            replace HB := HB.grown hg5 (by intro h; injection h with h; exact hne h)
            replace hw := st_hw hw hg5 hN16
            refine lw_storea (vs := encP oa) HB (tZ rfl) rfl rfl rfl rfl (encP_one _) ?_; intro w6 HB2 hg6 hz6
            replace HA2 := HA2.grown hg6 (by intro h; injection h with h; exact hne h.symm)
            replace hw := st_hw hw hg6 hN18
            clear HA HB hg5 hg6 hz5 hz6
            have HA := HA2
            have HB := HB2
            clear HA2 HB2
            replace hE := hE.mono hw; replace HS := HS.mono hw; replace HN := HN.mono hw; clear hw; have hw := Below.refl w6.heap.size w6
            repeat' (first | (refine is_cw ?_; first | (refine cw_seq ?_)) | (refine is_qw ?_; first | (with_reducible refine qw_then ?_)) | (refine lw_nil ?_))
            refine cw_drawn (fun w' => Below w6.heap.size w6 w') (by kernel_rfl) (by repeat (first | exact NoPanic.body | with_reducible refine NoPanic.then ?_ | with_reducible refine NoPanic.inBlock ?_)) (fun hNP => ?_)
            have hS := hw.drew
            (refine at0 0 rfl (fun w' hq => pv_move rfl) ?_)
            (refine at0 1 rfl (fun w' hq => pv_ia (tS rfl) rfl rfl (by omega)) ?_)
            (refine at0 2 rfl (fun w' hq => pv_load (t1 rfl) rfl (by first | exact SlR.ld (HN.mono hq) x2 rfl | exact SlR.ld1 (HN.mono hq) x2 rfl | exact SlR.ld (HN.mono hq) x3 rfl | exact SlR.ld1 (HN.mono hq) x3 rfl)) ?_)
            (refine at0 3 rfl (fun w' hq => pv_move rfl) ?_)
            (refine at0 4 rfl (fun w' hq => pv_ia (tS rfl) rfl rfl (by omega)) ?_)
            (refine at0 5 rfl (fun w' hq => pv_load (t1 rfl) rfl (by first | exact SlR.ld (HN.mono hq) x2 rfl | exact SlR.ld1 (HN.mono hq) x2 rfl | exact SlR.ld (HN.mono hq) x3 rfl | exact SlR.ld1 (HN.mono hq) x3 rfl)) ?_)
            refine aw_act 6 (by kernel_rfl) rfl rfl rfl ?_
            refine act_call (f := 46) (by kernel_rfl) rfl (mul_c (by omega) (by omega) (by omega) _) ?_; rintro e1 w5 ⟨rfl, rfl⟩; refine ⟨_, rfl, hS, fun hS => ?_⟩
            (refine at0 7 rfl (fun w' hq => pv_move rfl) ?_)
            (refine at0 8 rfl (fun w' hq => pv_extract rfl rfl) ?_)
            (refine at0 9 rfl (fun w' hq => pv_extract rfl rfl) ?_)
            (refine at0 10 rfl (fun w' hq => pv_assign rfl) ?_)
            (refine at0 11 rfl (fun w' hq => pv_assign rfl) ?_)
            refine aw_done (by kernel_rfl) ?_
            replace hw := hS; clear hS hNP
            repeat' (first | (refine is_cw ?_; first | (refine cw_seq ?_)) | (refine is_qw ?_; first | (with_reducible refine qw_then ?_)))
            refine cw_drawn (fun w' => Below w6.heap.size w6 w') (by kernel_rfl) (by repeat (first | exact NoPanic.body | with_reducible refine NoPanic.then ?_ | with_reducible refine NoPanic.inBlock ?_)) (fun hNP => ?_)
            have hS := hw.drew
            (refine at0 0 rfl (fun w' hq => pv_fa (tF rfl) rfl) ?_)
            (refine at0 1 rfl (fun w' hq => pv_load (t1 rfl) rfl (by first | exact SlR.ld (HN.mono hq) x3 rfl | exact SlR.ld1 (HN.mono hq) x3 rfl | exact SlR.ld (HN.mono hq) x4 rfl | exact SlR.ld1 (HN.mono hq) x4 rfl | exact PT.ld0 (HA.mono hq) rfl | exact PT.ld (HA.mono hq) rfl | exact PT.ld0 (HB.mono hq) rfl | exact PT.ld (HB.mono hq) rfl)) ?_)
            (refine at0 2 rfl (fun w' hq => pv_fa (tF rfl) rfl) ?_)
            (refine at0 3 rfl (fun w' hq => pv_load (t1 rfl) rfl (by first | exact SlR.ld (HN.mono hq) x3 rfl | exact SlR.ld1 (HN.mono hq) x3 rfl | exact SlR.ld (HN.mono hq) x4 rfl | exact SlR.ld1 (HN.mono hq) x4 rfl | exact PT.ld0 (HA.mono hq) rfl | exact PT.ld (HA.mono hq) rfl | exact PT.ld0 (HB.mono hq) rfl | exact PT.ld (HB.mono hq) rfl)) ?_)
            (refine at0 4 rfl (fun w' hq => pv_fa (tF rfl) rfl) ?_)
            (refine at0 5 rfl (fun w' hq => pv_load (t1 rfl) rfl (by first | exact SlR.ld (HN.mono hq) x3 rfl | exact SlR.ld1 (HN.mono hq) x3 rfl | exact SlR.ld (HN.mono hq) x4 rfl | exact SlR.ld1 (HN.mono hq) x4 rfl | exact PT.ld0 (HA.mono hq) rfl | exact PT.ld (HA.mono hq) rfl | exact PT.ld0 (HB.mono hq) rfl | exact PT.ld (HB.mono hq) rfl)) ?_)
            (refine at0 6 rfl (fun w' hq => pv_move rfl) ?_)
            (refine at0 7 rfl (fun w' hq => pv_ia (tS rfl) rfl rfl (by omega)) ?_)
            (refine at0 8 rfl (fun w' hq => pv_load (t1 rfl) rfl (by first | exact SlR.ld (HN.mono hq) x3 rfl | exact SlR.ld1 (HN.mono hq) x3 rfl | exact SlR.ld (HN.mono hq) x4 rfl | exact SlR.ld1 (HN.mono hq) x4 rfl | exact PT.ld0 (HA.mono hq) rfl | exact PT.ld (HA.mono hq) rfl | exact PT.ld0 (HB.mono hq) rfl | exact PT.ld (HB.mono hq) rfl)) ?_)
            (refine at0 9 rfl (fun w' hq => pv_move rfl) ?_)
            (refine at0 10 rfl (fun w' hq => pv_move rfl) ?_)
            (refine at0 11 rfl (fun w' hq => pv_ia (tS rfl) rfl rfl (by omega)) ?_)
            (refine at0 12 rfl (fun w' hq => pv_load (t1 rfl) rfl (by first | exact SlR.ld (HN.mono hq) x3 rfl | exact SlR.ld1 (HN.mono hq) x3 rfl | exact SlR.ld (HN.mono hq) x4 rfl | exact SlR.ld1 (HN.mono hq) x4 rfl | exact PT.ld0 (HA.mono hq) rfl | exact PT.ld (HA.mono hq) rfl | exact PT.ld0 (HB.mono hq) rfl | exact PT.ld (HB.mono hq) rfl)) ?_)
            (refine at0 13 rfl (fun w' hq => tyB_69 rfl rfl rfl) ?_)
            (refine at0 14 rfl (fun w' hq => pv_move rfl) ?_)
            refine aw_act 15 (by kernel_rfl) rfl rfl rfl ?_
            refine act_call (f := 45) (by kernel_rfl) rfl (deal_e hdl hml hl hM (HS.mono hS) hmb.1 hma.1 (by omega) (by omega) (by omega) (by omega)) ?_; rintro e1 w8 ⟨⟨vo2, rfl, hO⟩, hb⟩; replace hO := hO.weaken (Nat.le_trans hE.le hS.size); refine ⟨_, rfl, grow_trans hS hb, fun hS => ?_⟩
            (refine at0 16 rfl (fun w' hq => pv_extract rfl rfl) ?_)
            (refine at0 17 rfl (fun w' hq => pv_extract rfl rfl) ?_)
            (refine at0 18 rfl (fun w' hq => pv_assign rfl) ?_)
            (refine at0 19 rfl (fun w' hq => pv_assign rfl) ?_)
            refine aw_done (by kernel_rfl) ?_
            replace hw := hS; clear hS hNP
            repeat' (first | (refine is_cw ?_; first | (refine cw_ret ?_)) | (refine is_qw ?_; first | (with_reducible refine qw_then ?_)))
            exact qw_ret2 rfl rfl rfl ⟨⟨_, rfl, hO⟩, (hE.mono hw).b⟩
          · have htr : tradeS l oa ob n2 n3 n4 = dealS l oa.acct ob.acct oa.inst n3 (n2 * n3) n4 := by
              unfold tradeS; rw [if_neg hbad, if_neg hs2]
            rw [htr]
            clear htr
            obtain ⟨R, hdl⟩ : ∃ R, dealS l oa.acct ob.acct oa.inst n3 (n2 * n3) n4 = R := ⟨_, rfl⟩
            rw [hdl]
            repeat' (first | (refine lw_pure rfl (pv_move rfl) ?_) | (refine lw_pure rfl (pv_assign rfl) ?_) | (refine is_cw ?_; first | (refine cw_seq ?_) | (refine cw_region ?_) | (refine is_cd ?_; refine cw_false rfl (by first | assumption | exact decide_eq_false (by omega) | exact dec_notF (by omega)) ?_) | (refine cw_skip ?_)) | (refine is_qw ?_; first | (with_reducible refine qw_then ?_)) | (refine lw_nil ?_) | (refine is_guarded ?_; first | (refine lw_on rfl rfl (by first | assumption | exact decide_eq_true (by omega) | exact decide_eq_false (by omega) | exact dec_notT (by omega) | exact dec_notF (by omega)) ?_)) | ((refine is_bin ?_; first | (refine lw_pure rfl (pv_eql rfl rfl) ?_) | (refine lw_pure rfl (pv_neq rfl rfl) ?_))) | ((refine is_load ?_; first | (refine lw_pure rfl (pv_load (t1 rfl) rfl (by first | exact PT.ld0 HA rfl | exact PT.ld HA rfl | exact PT.ld0 HB rfl | exact PT.ld HB rfl)) ?_))) | ((refine is_fa ?_; first | (refine lw_pure rfl (pv_fa (tF rfl) rfl) ?_))) | (refine is_pk ?_; refine lw_pure rfl (pv_pick_f rfl (by first | assumption | exact decide_eq_false (by omega) | exact dec_notF (by omega)) rfl) ?_))
            replace hE := hE.mono hw; replace HS := HS.mono hw; replace HN := HN.mono hw; clear hw; have hw := Below.refl w4.heap.size w4
            skip
            refine cw_drawn (fun w' => Below w4.heap.size w4 w') (by kernel_rfl) (by repeat (first | exact NoPanic.body | with_reducible refine NoPanic.then ?_ | with_reducible refine NoPanic.inBlock ?_)) (fun hNP => ?_)
            have hS := hw.drew
            (refine at0 0 rfl (fun w' hq => pv_move rfl) ?_)
            (refine at0 1 rfl (fun w' hq => pv_ia (tS rfl) rfl rfl (by omega)) ?_)
            (refine at0 2 rfl (fun w' hq => pv_load (t1 rfl) rfl (by first | exact SlR.ld (HN.mono hq) x2 rfl | exact SlR.ld1 (HN.mono hq) x2 rfl | exact SlR.ld (HN.mono hq) x3 rfl | exact SlR.ld1 (HN.mono hq) x3 rfl)) ?_)
            (refine at0 3 rfl (fun w' hq => pv_move rfl) ?_)
            (refine at0 4 rfl (fun w' hq => pv_ia (tS rfl) rfl rfl (by omega)) ?_)
            (refine at0 5 rfl (fun w' hq => pv_load (t1 rfl) rfl (by first | exact SlR.ld (HN.mono hq) x2 rfl | exact SlR.ld1 (HN.mono hq) x2 rfl | exact SlR.ld (HN.mono hq) x3 rfl | exact SlR.ld1 (HN.mono hq) x3 rfl)) ?_)
            refine aw_act 6 (by kernel_rfl) rfl rfl rfl ?_
            refine act_call (f := 46) (by kernel_rfl) rfl (mul_c (by omega) (by omega) (by omega) _) ?_; rintro e1 w5 ⟨rfl, rfl⟩; refine ⟨_, rfl, hS, fun hS => ?_⟩
            (refine at0 7 rfl (fun w' hq => pv_move rfl) ?_)
            (refine at0 8 rfl (fun w' hq => pv_extract rfl rfl) ?_)
            (refine at0 9 rfl (fun w' hq => pv_extract rfl rfl) ?_)
            (refine at0 10 rfl (fun w' hq => pv_assign rfl) ?_)
            (refine at0 11 rfl (fun w' hq => pv_assign rfl) ?_)
            refine aw_done (by kernel_rfl) ?_
            replace hw := hS; clear hS hNP
            repeat' (first | (refine is_cw ?_; first | (refine cw_seq ?_)) | (refine is_qw ?_; first | (with_reducible refine qw_then ?_)))
            refine cw_drawn (fun w' => Below w4.heap.size w4 w') (by kernel_rfl) (by repeat (first | exact NoPanic.body | with_reducible refine NoPanic.then ?_ | with_reducible refine NoPanic.inBlock ?_)) (fun hNP => ?_)
            have hS := hw.drew
            (refine at0 0 rfl (fun w' hq => pv_fa (tF rfl) rfl) ?_)
            (refine at0 1 rfl (fun w' hq => pv_load (t1 rfl) rfl (by first | exact SlR.ld (HN.mono hq) x3 rfl | exact SlR.ld1 (HN.mono hq) x3 rfl | exact SlR.ld (HN.mono hq) x4 rfl | exact SlR.ld1 (HN.mono hq) x4 rfl | exact PT.ld0 (HA.mono hq) rfl | exact PT.ld (HA.mono hq) rfl | exact PT.ld0 (HB.mono hq) rfl | exact PT.ld (HB.mono hq) rfl)) ?_)
            (refine at0 2 rfl (fun w' hq => pv_fa (tF rfl) rfl) ?_)
            (refine at0 3 rfl (fun w' hq => pv_load (t1 rfl) rfl (by first | exact SlR.ld (HN.mono hq) x3 rfl | exact SlR.ld1 (HN.mono hq) x3 rfl | exact SlR.ld (HN.mono hq) x4 rfl | exact SlR.ld1 (HN.mono hq) x4 rfl | exact PT.ld0 (HA.mono hq) rfl | exact PT.ld (HA.mono hq) rfl | exact PT.ld0 (HB.mono hq) rfl | exact PT.ld (HB.mono hq) rfl)) ?_)
            (refine at0 4 rfl (fun w' hq => pv_fa (tF rfl) rfl) ?_)
            (refine at0 5 rfl (fun w' hq => pv_load (t1 rfl) rfl (by first | exact SlR.ld (HN.mono hq) x3 rfl | exact SlR.ld1 (HN.mono hq) x3 rfl | exact SlR.ld (HN.mono hq) x4 rfl | exact SlR.ld1 (HN.mono hq) x4 rfl | exact PT.ld0 (HA.mono hq) rfl | exact PT.ld (HA.mono hq) rfl | exact PT.ld0 (HB.mono hq) rfl | exact PT.ld (HB.mono hq) rfl)) ?_)
            (refine at0 6 rfl (fun w' hq => pv_move rfl) ?_)
            (refine at0 7 rfl (fun w' hq => pv_ia (tS rfl) rfl rfl (by omega)) ?_)
            (refine at0 8 rfl (fun w' hq => pv_load (t1 rfl) rfl (by first | exact SlR.ld (HN.mono hq) x3 rfl | exact SlR.ld1 (HN.mono hq) x3 rfl | exact SlR.ld (HN.mono hq) x4 rfl | exact SlR.ld1 (HN.mono hq) x4 rfl | exact PT.ld0 (HA.mono hq) rfl | exact PT.ld (HA.mono hq) rfl | exact PT.ld0 (HB.mono hq) rfl | exact PT.ld (HB.mono hq) rfl)) ?_)
            (refine at0 9 rfl (fun w' hq => pv_move rfl) ?_)
            (refine at0 10 rfl (fun w' hq => pv_move rfl) ?_)
            (refine at0 11 rfl (fun w' hq => pv_ia (tS rfl) rfl rfl (by omega)) ?_)
            (refine at0 12 rfl (fun w' hq => pv_load (t1 rfl) rfl (by first | exact SlR.ld (HN.mono hq) x3 rfl | exact SlR.ld1 (HN.mono hq) x3 rfl | exact SlR.ld (HN.mono hq) x4 rfl | exact SlR.ld1 (HN.mono hq) x4 rfl | exact PT.ld0 (HA.mono hq) rfl | exact PT.ld (HA.mono hq) rfl | exact PT.ld0 (HB.mono hq) rfl | exact PT.ld (HB.mono hq) rfl)) ?_)
            (refine at0 13 rfl (fun w' hq => tyB_69 rfl rfl rfl) ?_)
            (refine at0 14 rfl (fun w' hq => pv_move rfl) ?_)
            refine aw_act 15 (by kernel_rfl) rfl rfl rfl ?_
            refine act_call (f := 45) (by kernel_rfl) rfl (deal_e hdl hml hl hM (HS.mono hS) hma.1 hmb.1 (by omega) (by omega) (by omega) (by omega)) ?_; rintro e1 w8 ⟨⟨vo2, rfl, hO⟩, hb⟩; replace hO := hO.weaken (Nat.le_trans hE.le hS.size); refine ⟨_, rfl, grow_trans hS hb, fun hS => ?_⟩
            (refine at0 16 rfl (fun w' hq => pv_extract rfl rfl) ?_)
            (refine at0 17 rfl (fun w' hq => pv_extract rfl rfl) ?_)
            (refine at0 18 rfl (fun w' hq => pv_assign rfl) ?_)
            (refine at0 19 rfl (fun w' hq => pv_assign rfl) ?_)
            refine aw_done (by kernel_rfl) ?_
            replace hw := hS; clear hS hNP
            repeat' (first | (refine is_cw ?_; first | (refine cw_ret ?_)) | (refine is_qw ?_; first | (with_reducible refine qw_then ?_)))
            exact qw_ret2 rfl rfl rfl ⟨⟨_, rfl, hO⟩, (hE.mono hw).b⟩
      · rw [posR_err hgo (Or.inl k1) hf]
        repeat' (first | (refine lw_pure rfl (pv_move rfl) ?_) | (refine lw_pure rfl (pv_assign rfl) ?_) | (refine is_cw ?_; first | (refine cw_seq ?_) | (refine cw_region ?_) | (refine cw_false rfl rfl ?_) | (refine is_cd ?_; refine cw_true rfl (by first | assumption | exact decide_eq_true (by omega) | exact dec_notT (by omega)) ?_) | (refine cw_block ?_) | (refine cw_ret ?_)) | (refine is_qw ?_; first | (with_reducible refine qw_then ?_) | (with_reducible refine qw_then_ret ?_) | (with_reducible refine qw_in_ret ?_)) | (refine lw_nil ?_) | (refine is_guarded ?_; first | (refine lw_not rfl rfl rfl (by first | assumption | exact decide_eq_true (by omega) | exact decide_eq_false (by omega) | exact dec_notT (by omega) | exact dec_notF (by omega)) ?_)) | ((refine is_bin ?_; first | (refine lw_pure rfl (pv_neq rfl rfl) ?_))) | ((refine is_load ?_; first | (refine lw_pure rfl (pv_load (t1 rfl) rfl (by first | exact PT.ld0 (HV.mono hw) rfl | exact PT.ld (HV.mono hw) rfl)) ?_))) | ((refine is_fa ?_; first | (refine lw_pure rfl (pv_fa (tF rfl) rfl) ?_))) | (refine is_pk ?_; refine lw_pure rfl (pv_pick_f rfl (by first | assumption | exact decide_eq_false (by omega) | exact dec_notF (by omega)) rfl) ?_))
        all_goals exact qw_ret2 rfl rfl rfl ⟨⟨_, rfl, Own.nil _⟩, (hE.mono hw).b⟩
    · by_cases k2 : e.kind = 18
      · by_cases hf : (eventR p t e).2.2 = 0
        · obtain ⟨n0, n1, n2, n3, ol, hT⟩ := sold_at hf k2
          rw [posR_sold hgo hf k2 hT]
          have hns := hT.nums
          have hfx := hT.fx
          have hmx2 := hT.mx
          have hg1 := hT.g1
          have hg2 := hT.g2
          have hg3 := hT.g3
          have x0 : e.nums[0]? = some n0 := by rw [hns]; rfl
          have x1 : e.nums[1]? = some n1 := by rw [hns]; rfl
          have x2 : e.nums[2]? = some n2 := by rw [hns]; rfl
          have x3 : e.nums[3]? = some n3 := by rw [hns]; rfl
          have hm4 : mn = 4 := by rw [← hmn, hns]; rfl
          clear hT
          obtain ⟨nb, no, rfl, -, -⟩ := HN.at (by rw [hns]; simp)
          clear hns
          obtain ⟨R, hdl⟩ : ∃ R, dealS l n1 ol.seller ol.inst ol.qty n2 n3 = R := ⟨_, rfl⟩
          rw [hdl]
          repeat' (first | (refine lw_pure rfl (pv_move rfl) ?_) | (refine lw_pure rfl (pv_assign rfl) ?_) | (refine is_cw ?_; first | (refine cw_seq ?_) | (refine cw_region ?_) | (refine is_cd ?_; refine cw_true rfl (by first | assumption | exact decide_eq_true (by omega) | exact dec_notT (by omega)) ?_) | (refine is_cd ?_; refine cw_false rfl (by first | assumption | exact decide_eq_false (by omega) | exact dec_notF (by omega)) ?_) | (refine cw_block ?_)) | (refine is_qw ?_; first | (with_reducible refine qw_then ?_)) | (refine lw_nil ?_) | (refine is_guarded ?_; first | (refine lw_on rfl rfl (by first | assumption | exact decide_eq_true (by omega) | exact decide_eq_false (by omega) | exact dec_notT (by omega) | exact dec_notF (by omega)) ?_)) | ((refine is_bin ?_; first | (refine lw_pure rfl (pv_eql rfl rfl) ?_) | (refine lw_pure rfl (pv_neq rfl rfl) ?_))) | ((refine is_load ?_; first | (refine lw_pure rfl (pv_load (t1 rfl) rfl (by first | exact PT.ld0 (HV.mono hw) rfl | exact PT.ld (HV.mono hw) rfl | exact SlR.ld (HN.mono hw) x0 rfl | exact SlR.ld1 (HN.mono hw) x0 rfl)) ?_))) | ((refine is_fa ?_; first | (refine lw_pure rfl (pv_fa (tF rfl) rfl) ?_))) | ((refine is_ia ?_; first | (refine lw_pure rfl (pv_ia (tS rfl) rfl rfl (by omega)) ?_))) | (refine is_pk ?_; refine lw_pure rfl (pv_pick_t rfl (by first | assumption | exact decide_eq_true (by omega) | exact dec_notT (by omega)) rfl) ?_))
          refine lw_call (f := 22) (by kernel_rfl) rfl rfl (lot_e hfx hmt (HL.mono hw)) ?_; rintro e1 w2 ⟨rfl, hb⟩; refine ⟨_, rfl, ?_⟩; replace hw := grow_trans hw hb; clear hb
          repeat' (first | (refine lw_pure rfl (pv_move rfl) ?_) | (refine lw_pure rfl (pv_extract rfl rfl) ?_))
          refine lw_varN rfl (by first | exact tyv_27 | exact tyv_28 | exact tyv_38 | exact tyv_39 | exact tyv_48 | exact tyv_49 | exact tyv_52 | exact tyv_53 | exact tyv_68 | exact tyv_69 | exact tyv_79 | exact tyv_80 | exact tyv_94 | exact tyv_95 | exact tyv_131 | exact tyv_132) rfl (tZ rfl) (fun _ => rfl) rfl rfl ?_; intro N14 wn hN14 HA hb; replace hN14 := Nat.le_trans hw.size hN14; replace hw := grow_trans hw hb; clear hb
          replace HA : PT wn N14 53 (encL ol) := HA
          replace hE := hE.mono hw; replace HS := HS.mono hw; replace HN := HN.mono hw; clear hw; have hw := Below.refl wn.heap.size wn
          repeat' (first | (refine lw_pure rfl (pv_assign rfl) ?_) | (refine is_cw ?_; first | (refine cw_seq ?_)) | (refine is_qw ?_; first | (with_reducible refine qw_then ?_)) | (refine lw_nil ?_))
          refine cw_drawn (fun w' => Below wn.heap.size wn w') (by kernel_rfl) (by repeat (first | exact NoPanic.body | with_reducible refine NoPanic.then ?_ | with_reducible refine NoPanic.inBlock ?_)) (fun hNP => ?_)
          have hS := hw.drew
          (refine at0 0 rfl (fun w' hq => pv_move rfl) ?_)
          (refine at0 1 rfl (fun w' hq => pv_ia (tS rfl) rfl rfl (by omega)) ?_)
          (refine at0 2 rfl (fun w' hq => pv_load (t1 rfl) rfl (by first | exact SlR.ld (HN.mono hq) x1 rfl | exact SlR.ld1 (HN.mono hq) x1 rfl | exact SlR.ld (HN.mono hq) x2 rfl | exact SlR.ld1 (HN.mono hq) x2 rfl | exact SlR.ld (HN.mono hq) x3 rfl | exact SlR.ld1 (HN.mono hq) x3 rfl | exact PT.ld0 (HA.mono hq) rfl | exact PT.ld (HA.mono hq) rfl)) ?_)
          (refine at0 3 rfl (fun w' hq => pv_fa (tF rfl) rfl) ?_)
          (refine at0 4 rfl (fun w' hq => pv_load (t1 rfl) rfl (by first | exact SlR.ld (HN.mono hq) x1 rfl | exact SlR.ld1 (HN.mono hq) x1 rfl | exact SlR.ld (HN.mono hq) x2 rfl | exact SlR.ld1 (HN.mono hq) x2 rfl | exact SlR.ld (HN.mono hq) x3 rfl | exact SlR.ld1 (HN.mono hq) x3 rfl | exact PT.ld0 (HA.mono hq) rfl | exact PT.ld (HA.mono hq) rfl)) ?_)
          (refine at0 5 rfl (fun w' hq => pv_fa (tF rfl) rfl) ?_)
          (refine at0 6 rfl (fun w' hq => pv_load (t1 rfl) rfl (by first | exact SlR.ld (HN.mono hq) x1 rfl | exact SlR.ld1 (HN.mono hq) x1 rfl | exact SlR.ld (HN.mono hq) x2 rfl | exact SlR.ld1 (HN.mono hq) x2 rfl | exact SlR.ld (HN.mono hq) x3 rfl | exact SlR.ld1 (HN.mono hq) x3 rfl | exact PT.ld0 (HA.mono hq) rfl | exact PT.ld (HA.mono hq) rfl)) ?_)
          (refine at0 7 rfl (fun w' hq => pv_fa (tF rfl) rfl) ?_)
          (refine at0 8 rfl (fun w' hq => pv_load (t1 rfl) rfl (by first | exact SlR.ld (HN.mono hq) x1 rfl | exact SlR.ld1 (HN.mono hq) x1 rfl | exact SlR.ld (HN.mono hq) x2 rfl | exact SlR.ld1 (HN.mono hq) x2 rfl | exact SlR.ld (HN.mono hq) x3 rfl | exact SlR.ld1 (HN.mono hq) x3 rfl | exact PT.ld0 (HA.mono hq) rfl | exact PT.ld (HA.mono hq) rfl)) ?_)
          (refine at0 9 rfl (fun w' hq => pv_move rfl) ?_)
          (refine at0 10 rfl (fun w' hq => pv_ia (tS rfl) rfl rfl (by omega)) ?_)
          (refine at0 11 rfl (fun w' hq => pv_load (t1 rfl) rfl (by first | exact SlR.ld (HN.mono hq) x1 rfl | exact SlR.ld1 (HN.mono hq) x1 rfl | exact SlR.ld (HN.mono hq) x2 rfl | exact SlR.ld1 (HN.mono hq) x2 rfl | exact SlR.ld (HN.mono hq) x3 rfl | exact SlR.ld1 (HN.mono hq) x3 rfl | exact PT.ld0 (HA.mono hq) rfl | exact PT.ld (HA.mono hq) rfl)) ?_)
          (refine at0 12 rfl (fun w' hq => pv_move rfl) ?_)
          (refine at0 13 rfl (fun w' hq => pv_ia (tS rfl) rfl rfl (by omega)) ?_)
          (refine at0 14 rfl (fun w' hq => pv_load (t1 rfl) rfl (by first | exact SlR.ld (HN.mono hq) x1 rfl | exact SlR.ld1 (HN.mono hq) x1 rfl | exact SlR.ld (HN.mono hq) x2 rfl | exact SlR.ld1 (HN.mono hq) x2 rfl | exact SlR.ld (HN.mono hq) x3 rfl | exact SlR.ld1 (HN.mono hq) x3 rfl | exact PT.ld0 (HA.mono hq) rfl | exact PT.ld (HA.mono hq) rfl)) ?_)
          (refine at0 15 rfl (fun w' hq => tyB_69 rfl rfl rfl) ?_)
          (refine at0 16 rfl (fun w' hq => pv_move rfl) ?_)
          refine aw_act 17 (by kernel_rfl) rfl rfl rfl ?_
          refine act_call (f := 45) (by kernel_rfl) rfl (deal_e hdl hml hl hM (HS.mono hS) hg1 hmx2.1 hmx2.2.1 hmx2.2.2 hg2 hg3) ?_; rintro e1 w8 ⟨⟨vo2, rfl, hO⟩, hb⟩; replace hO := hO.weaken (Nat.le_trans hE.le hS.size); refine ⟨_, rfl, grow_trans hS hb, fun hS => ?_⟩
          (refine at0 18 rfl (fun w' hq => pv_extract rfl rfl) ?_)
          (refine at0 19 rfl (fun w' hq => pv_extract rfl rfl) ?_)
          (refine at0 20 rfl (fun w' hq => pv_assign rfl) ?_)
          (refine at0 21 rfl (fun w' hq => pv_assign rfl) ?_)
          refine aw_done (by kernel_rfl) ?_
          replace hw := hS; clear hS hNP
          repeat' (first | (refine is_cw ?_; first | (refine cw_ret ?_)) | (refine is_qw ?_; first | (with_reducible refine qw_then ?_) | (with_reducible refine qw_then_ret ?_) | (with_reducible refine qw_in_ret ?_)))
          exact qw_ret2 rfl rfl rfl ⟨⟨_, rfl, hO⟩, (hE.mono hw).b⟩
        · rw [posR_err hgo (Or.inr k2) hf]
          repeat' (first | (refine lw_pure rfl (pv_move rfl) ?_) | (refine lw_pure rfl (pv_assign rfl) ?_) | (refine is_cw ?_; first | (refine cw_seq ?_) | (refine cw_region ?_) | (refine is_cd ?_; refine cw_true rfl (by first | assumption | exact decide_eq_true (by omega) | exact dec_notT (by omega)) ?_) | (refine is_cd ?_; refine cw_false rfl (by first | assumption | exact decide_eq_false (by omega) | exact dec_notF (by omega)) ?_) | (refine cw_block ?_) | (refine cw_ret ?_)) | (refine is_qw ?_; first | (with_reducible refine qw_then ?_) | (with_reducible refine qw_then_ret ?_) | (with_reducible refine qw_in_ret ?_)) | (refine lw_nil ?_) | (refine is_guarded ?_; first | (refine lw_on rfl rfl (by first | assumption | exact decide_eq_true (by omega) | exact decide_eq_false (by omega) | exact dec_notT (by omega) | exact dec_notF (by omega)) ?_)) | ((refine is_bin ?_; first | (refine lw_pure rfl (pv_neq rfl rfl) ?_))) | ((refine is_load ?_; first | (refine lw_pure rfl (pv_load (t1 rfl) rfl (by first | exact PT.ld0 (HV.mono hw) rfl | exact PT.ld (HV.mono hw) rfl)) ?_))) | ((refine is_fa ?_; first | (refine lw_pure rfl (pv_fa (tF rfl) rfl) ?_))) | (refine is_pk ?_; refine lw_pure rfl (pv_pick_t rfl (by first | assumption | exact decide_eq_true (by omega) | exact dec_notT (by omega)) rfl) ?_))
          all_goals exact qw_ret2 rfl rfl rfl ⟨⟨_, rfl, Own.nil _⟩, (hE.mono hw).b⟩
      · rw [posR_keep hgo k1 k2]
        repeat' (first | (refine lw_pure rfl (pv_move rfl) ?_) | (refine lw_pure rfl (pv_assign rfl) ?_) | (refine is_cw ?_; first | (refine cw_seq ?_) | (refine cw_region ?_) | (refine is_cd ?_; refine cw_true rfl (by first | assumption | exact decide_eq_true (by omega) | exact dec_notT (by omega)) ?_) | (refine cw_block ?_)) | (refine is_qw ?_; first | (with_reducible refine qw_then ?_)) | (refine lw_nil ?_) | (refine is_guarded ?_; first | (refine lw_on rfl rfl (by first | assumption | exact decide_eq_true (by omega) | exact decide_eq_false (by omega) | exact dec_notT (by omega) | exact dec_notF (by omega)) ?_)) | ((refine is_bin ?_; first | (refine lw_pure rfl (pv_neq rfl rfl) ?_))) | ((refine is_load ?_; first | (refine lw_pure rfl (pv_load (t1 rfl) rfl (by first | exact PT.ld0 (HV.mono hw) rfl | exact PT.ld (HV.mono hw) rfl)) ?_))) | ((refine is_fa ?_; first | (refine lw_pure rfl (pv_fa (tF rfl) rfl) ?_))) | (refine is_pk ?_; refine lw_pure rfl (pv_pick_t rfl (by first | assumption | exact decide_eq_true (by omega) | exact dec_notT (by omega)) rfl) ?_))
        refine lw_call (f := 44) (by kernel_rfl) rfl rfl (clone_S hml (HS.mono hw) (by omega)) ?_; rintro e1 w2 ⟨⟨vo2, rfl, hO⟩, hb⟩; refine ⟨_, rfl, ?_⟩; replace hO := hO.weaken (Nat.le_trans hE.le hw.size); replace hw := grow_trans hw hb; clear hb
        repeat' (first | (refine lw_pure rfl (pv_assign rfl) ?_) | (refine is_cw ?_; first | (refine cw_ret ?_)) | (refine is_qw ?_; first | (with_reducible refine qw_then ?_) | (with_reducible refine qw_then_ret ?_) | (with_reducible refine qw_in_ret ?_)) | (refine lw_nil ?_))
        exact qw_ret2 rfl rfl rfl ⟨⟨_, rfl, hO⟩, (hE.mono hw).b⟩

set_option maxRecDepth 20000 in
set_option maxHeartbeats 4000000 in
theorem evnew_p (k : Int) (a : Option Addr) (m c : Nat) (w : World) :
    Calls Tryz.prog 35 #[.int .u8 k, .slice a m c] w fun e w' => e = .returned (.agg #[.int .u8 3, .int .u8 k, .slice a m c, .slice none 0 0]) ∧ Below w.heap.size w w' := by
  have hE := Ext.refl w
  have hw := Below.refl w.heap.size w
  refine fn_enter 8 Tryz.func35 rfl rfl rfl ?_
  repeat' (first | (refine is_cw ?_; first | (refine cw_seq ?_) | (refine cw_region ?_)))
  refine lw_allocN rfl (by first | exact tyv_27 | exact tyv_28 | exact tyv_38 | exact tyv_39 | exact tyv_48 | exact tyv_49 | exact tyv_52 | exact tyv_53 | exact tyv_68 | exact tyv_69 | exact tyv_79 | exact tyv_80 | exact tyv_94 | exact tyv_95 | exact tyv_131 | exact tyv_132) rfl ?_; intro N w1 hN H hb
  replace hE := hE.mono hb
  clear hb hw
  have hw := Below.refl w1.heap.size w1
  repeat' (first | (refine lw_pure rfl (pv_move rfl) ?_) | (refine is_cw ?_; first | (refine cw_seq ?_) | (refine cw_region ?_)) | (refine is_qw ?_; first | (with_reducible refine qw_then ?_)) | (refine lw_nil ?_) | ((refine is_bd ?_; first | (refine lw_pure rfl (tyB_28 rfl rfl rfl) ?_))))
  refine lw_storea (vs := [.int .u8 3, .int .u8 k, .slice a m c, .slice none 0 0]) (H.mono hw) (tZ rfl) rfl rfl rfl rfl (by intro v hv; simp at hv; rcases hv with rfl | rfl | rfl | rfl <;> rfl) ?_; intro w3 H2 hg hz
  replace hE := (hE.mono hw).grown hg (by intro q hq; injection hq with hq; omega)
  clear hw
  have hw := Below.refl w3.heap.size w3
  repeat' (first | (refine is_cw ?_; first | (refine cw_ret ?_)) | (refine is_qw ?_; first | (with_reducible refine qw_then ?_)) | (refine lw_nil ?_))
  exact qw_retc rfl rfl (agg_ld (tA rfl) rfl (fun i u hu => H2.ld0 hu)) ⟨rfl, hE.b⟩
set_option maxRecDepth 20000 in
set_option maxHeartbeats 4000000 in
theorem long_c {e : Evt} {v k : Int} {al ap at_ an ax : Option Addr} {ml cl mp cp mt ct mn cn mx cx : Nat} {w : World} (hmx : e.texts.length = mx) (HX : SlR encT 1 w ax cx e.texts) :
    Calls Tryz.prog 9 #[.slice al ml cl, .slice ap mp cp, .slice at_ mt ct, .agg #[.int .u8 v, .int .u8 k, .slice an mn cn, .slice ax mx cx]] w fun e1 w' => (∃ r, e1 = .returned (.bool r) ∧ (r = false → ml ≤ 1200 ∧ mp ≤ 200 ∧ mt ≤ 100 ∧ mn ≤ 100 ∧ mx ≤ 100)) ∧ Below w.heap.size w w' := by
  subst hmx
  have hE := Ext.refl w
  have hw := Below.refl w.heap.size w
  have hxm := HX.max
  have hxl := HX.le
  refine fn_enter 49 Tryz.func9 rfl rfl rfl ?_
  repeat' (first | (refine is_cw ?_; first | (refine cw_seq ?_) | (refine cw_region ?_)))
  refine lw_boxN rfl rfl (cs := [.int .u8 v, .int .u8 k, .slice an mn cn, .slice ax e.texts.length cx]) rfl ?_; intro N7 w7 hN7 HV hb
  replace hw := grow_trans hw hb
  clear hb
  replace hE := hE.mono hw; replace HX := HX.mono hw; clear hw; have hw := Below.refl w7.heap.size w7
  by_cases hbig : 1200 < ml ∨ 200 < mp ∨ 100 < mt ∨ 100 < mn ∨ 100 < e.texts.length
  · repeat' (first | (refine lw_pure rfl (pv_move rfl) ?_) | (refine lw_pure rfl (pv_assign rfl) ?_) | (refine is_cw ?_; first | (refine cw_seq ?_) | (refine cw_region ?_) | (refine cw_true rfl rfl ?_) | (refine is_cd ?_; refine cw_true rfl (by first | assumption | exact decide_eq_true (by omega) | exact dec_notT (by omega)) ?_) | (refine cw_ret ?_)) | (refine is_qw ?_; first | (with_reducible refine qw_then ?_) | (with_reducible refine qw_then_ret ?_)) | (refine lw_nil ?_) | (refine is_guarded ?_; first | (refine lw_not rfl rfl rfl rfl ?_) | (refine lw_on rfl rfl (by first | assumption | exact decide_eq_true (by omega) | exact decide_eq_false (by omega) | exact dec_notT (by omega) | exact dec_notF (by omega)) ?_) | (refine lw_not rfl rfl rfl (by first | assumption | exact decide_eq_true (by omega) | exact decide_eq_false (by omega) | exact dec_notT (by omega) | exact dec_notF (by omega)) ?_) | (refine lw_gs_f rfl rfl rfl (fun hc => ?_) (fun hc => ?_) <;> (first | replace hc := of_decide_eq_true hc | replace hc := of_decide_eq_false hc | replace hc := dec_nT hc | replace hc := dec_nF hc | skip) <;> (try (exfalso; omega)))) | ((refine is_bin ?_; first | (refine lw_pure rfl (pv_gtr rfl rfl) ?_))) | ((refine is_load ?_; first | (refine lw_pure rfl (pv_load (t1 rfl) rfl (by first | exact PT.ld0 (HV.mono hw) rfl | exact PT.ld (HV.mono hw) rfl)) ?_))) | ((refine is_fa ?_; first | (refine lw_pure rfl (pv_fa (tF rfl) rfl) ?_))) | ((refine is_bi ?_; first | (refine lw_pure rfl (pv_lenl (tS rfl) rfl) ?_))) | (refine is_pk ?_; refine lw_pure rfl (pv_pick_t rfl rfl rfl) ?_) | (refine is_pk ?_; refine lw_pure rfl (pv_pick_t rfl (by first | assumption | exact decide_eq_true (by omega) | exact dec_notT (by omega)) rfl) ?_) | (refine is_pk ?_; refine lw_pure rfl (pv_pick_f rfl (by first | assumption | exact decide_eq_false (by omega) | exact dec_notF (by omega)) rfl) ?_))
    all_goals exact qw_ret1 rfl rfl ⟨⟨_, rfl, fun h => by simp at h⟩, (hE.mono hw).b⟩
  · repeat' ((fail_if_success (refine is_seqb ?_)); (fail_if_success (refine is_blk ?_)); first | (refine lw_pure rfl (pv_move rfl) ?_) | (refine lw_pure rfl (pv_assign rfl) ?_) | (refine is_cw ?_; first | (refine cw_seq ?_) | (refine cw_region ?_) | (refine is_cd ?_; refine cw_false rfl (by first | assumption | exact decide_eq_false (by omega) | exact dec_notF (by omega)) ?_) | (refine cw_skip ?_)) | (refine is_qw ?_; first | (with_reducible refine qw_then ?_)) | (refine lw_nil ?_) | (refine is_guarded ?_; first | (refine lw_on rfl rfl (by first | assumption | exact decide_eq_true (by omega) | exact decide_eq_false (by omega) | exact dec_notT (by omega) | exact dec_notF (by omega)) ?_)) | ((refine is_bin ?_; first | (refine lw_pure rfl (pv_gtr rfl rfl) ?_))) | ((refine is_load ?_; first | (refine lw_pure rfl (pv_load (t1 rfl) rfl (by first | exact PT.ld0 (HV.mono hw) rfl | exact PT.ld (HV.mono hw) rfl)) ?_))) | ((refine is_fa ?_; first | (refine lw_pure rfl (pv_fa (tF rfl) rfl) ?_))) | ((refine is_bi ?_; first | (refine lw_pure rfl (pv_lenl (tS rfl) rfl) ?_))) | (refine is_pk ?_; refine lw_pure rfl (pv_pick_f rfl (by first | assumption | exact decide_eq_false (by omega) | exact dec_notF (by omega)) rfl) ?_))
    repeat' (first | (refine is_cw ?_; first | (refine cw_block ?_)))
    refine cw_loop (σ := Nat) (fun k => [(7, .pointer (some ⟨N7, 0, none⟩)), (9, .int .i64 (k : Nat))]) (fun k wr => k ≤ e.texts.length ∧ Below w7.heap.size w7 wr) (fun k => e.texts.length - k) 0 (by repeat' (first | exact trivial | refine ⟨rfl, ?_⟩)) ⟨Nat.zero_le _, hw⟩ ?_
    clear hw
    rintro k wr ⟨hk, hw⟩
    by_cases hlt : k < e.texts.length
    · have hxk : e.texts[k]? = some e.texts[k] := List.getElem?_eq_getElem hlt
      obtain ⟨ab, ao, rfl, -, -⟩ := HX.at (by intro h; rw [h] at hlt; simp at hlt)
      generalize e.texts[k] = s at hxk
      by_cases hs : 300 < s.size
      · repeat' (first | (refine lw_pure rfl (pv_move rfl) ?_) | (refine lw_pure rfl (pv_assign rfl) ?_) | (refine is_cw ?_; first | (refine cw_seq ?_) | (refine cw_region ?_) | (refine is_cd ?_; refine cw_true rfl (by first | assumption | exact decide_eq_true (by omega) | exact dec_notT (by omega)) ?_) | (refine cw_skip ?_) | (refine cw_block ?_) | (refine cw_ret ?_)) | (refine is_qw ?_; first | (with_reducible refine qw_then ?_) | (with_reducible refine qw_then_ret ?_) | (with_reducible refine qw_in_ret ?_)) | (refine lw_nil ?_) | ((refine is_bin ?_; first | (refine lw_pure rfl (pv_lss rfl rfl) ?_) | (refine lw_pure rfl (pv_gtr rfl rfl) ?_))) | ((refine is_load ?_; first | (refine lw_pure rfl (pv_load (t1 rfl) rfl (by first | exact PT.ld0 (HV.mono hw) rfl | exact PT.ld (HV.mono hw) rfl | exact SlR.ld (HX.mono hw) hxk rfl | exact SlR.ld1 (HX.mono hw) hxk rfl)) ?_))) | ((refine is_fa ?_; first | (refine lw_pure rfl (pv_fa (tF rfl) rfl) ?_))) | ((refine is_ia ?_; first | (refine lw_pure rfl (pv_ian (tS rfl) rfl rfl (by omega)) ?_))) | ((refine is_bi ?_; first | (refine lw_pure rfl (pv_lenl (tS rfl) rfl) ?_) | (refine lw_pure rfl (pv_lens (tStr rfl) rfl) ?_))))
        exact qw_ret1 rfl rfl ⟨⟨_, rfl, fun h => by simp at h⟩, (hE.mono hw).b⟩
      · repeat' (first | (refine lw_pure rfl (pv_move rfl) ?_) | (refine lw_pure rfl (pv_assign rfl) ?_) | (refine is_cw ?_; first | (refine cw_seq ?_) | (refine cw_region ?_) | (refine is_cd ?_; refine cw_true rfl (by first | assumption | exact decide_eq_true (by omega) | exact dec_notT (by omega)) ?_) | (refine is_cd ?_; refine cw_false rfl (by first | assumption | exact decide_eq_false (by omega) | exact dec_notF (by omega)) ?_) | (refine cw_skip ?_) | (refine cw_block ?_)) | (refine is_qw ?_; first | (with_reducible refine qw_then ?_) | (with_reducible refine qw_in ?_)) | (refine lw_nil ?_) | ((refine is_bin ?_; first | (refine lw_pure rfl (pv_lss rfl rfl) ?_) | (refine lw_pure rfl (pv_gtr rfl rfl) ?_) | (refine lw_pure rfl (pv_inc rfl rfl (by omega)) ?_))) | ((refine is_load ?_; first | (refine lw_pure rfl (pv_load (t1 rfl) rfl (by first | exact PT.ld0 (HV.mono hw) rfl | exact PT.ld (HV.mono hw) rfl | exact SlR.ld (HX.mono hw) hxk rfl | exact SlR.ld1 (HX.mono hw) hxk rfl)) ?_))) | ((refine is_fa ?_; first | (refine lw_pure rfl (pv_fa (tF rfl) rfl) ?_))) | ((refine is_ia ?_; first | (refine lw_pure rfl (pv_ian (tS rfl) rfl rfl (by omega)) ?_))) | ((refine is_bi ?_; first | (refine lw_pure rfl (pv_lenl (tS rfl) rfl) ?_) | (refine lw_pure rfl (pv_lens (tStr rfl) rfl) ?_))))
        exact qw_round (k + 1) (by repeat' (first | exact trivial | refine ⟨rfl, ?_⟩)) ⟨by omega, hw⟩ (by omega)
    · repeat' (first | (refine lw_pure rfl (pv_move rfl) ?_) | (refine lw_pure rfl (pv_assign rfl) ?_) | (refine is_cw ?_; first | (refine cw_seq ?_) | (refine cw_region ?_) | (refine is_cd ?_; refine cw_false rfl (by first | assumption | exact decide_eq_false (by omega) | exact dec_notF (by omega)) ?_) | (refine cw_exit ?_) | (refine cw_ret ?_)) | (refine is_qw ?_; first | (with_reducible refine qw_then ?_) | (with_reducible refine qw_in_hit ?_) | (with_reducible refine qw_then_exit ?_)) | (refine lw_nil ?_) | ((refine is_bin ?_; first | (refine lw_pure rfl (pv_lss rfl rfl) ?_))) | ((refine is_load ?_; first | (refine lw_pure rfl (pv_load (t1 rfl) rfl (by first | exact PT.ld0 (HV.mono hw) rfl | exact PT.ld (HV.mono hw) rfl)) ?_))) | ((refine is_fa ?_; first | (refine lw_pure rfl (pv_fa (tF rfl) rfl) ?_))) | ((refine is_bi ?_; first | (refine lw_pure rfl (pv_lenl (tS rfl) rfl) ?_))))
      exact qw_ret1 rfl rfl ⟨⟨_, rfl, fun _ => by omega⟩, (hE.mono hw).b⟩
def openL : List Opn := [⟨1, 2, 1, 2, 10, 3⟩, ⟨1, 3, 1, 1, 9, 3⟩, ⟨2, 1, 1, 1, 12, 5⟩, ⟨2, 4, 2, 2, 12, 5⟩, ⟨2, 5, 1, 2, 12, 5⟩]
def lotsL : List Lt := [⟨7, 1, 2, 5⟩]
set_option maxRecDepth 20000 in
theorem open_c (w : World) : Calls Tryz.prog 36 #[] w fun e w' => (∃ a, e = .returned (.slice a 5 5) ∧ SlR encP 6 w' a 5 openL) ∧ Below w.heap.size w w' := by
  have hw := Below.refl w.heap.size w
  refine fn_enter 7 Tryz.func36 rfl rfl rfl ?_
  repeat' (first | (refine lw_pure rfl (pv_assign rfl) ?_) | (refine is_cw ?_; first | (refine cw_seq ?_) | (refine cw_region ?_)) | (refine is_qw ?_; first | (with_reducible refine qw_then ?_)) | (refine lw_nil ?_) | ((refine is_bd ?_; first | (refine lw_pure rfl (tyB_49 rfl rfl rfl) ?_))))
  refine lw_bsN (vs := openL.map fun o => .agg (encP o).toArray) (cs := openL.flatMap encP) elemP rfl rfl rfl (by omega) (by omega) rfl (by intro v hv; simp [openL] at hv; rcases hv with rfl | rfl | rfl | rfl | rfl <;> rfl) ?_; intro N w1 hN HX hb
  replace hw := grow_trans hw hb
  repeat' (first | (refine lw_pure rfl (pv_assign rfl) ?_) | (refine is_cw ?_; first | (refine cw_ret ?_)) | (refine is_qw ?_; first | (with_reducible refine qw_then ?_)) | (refine lw_nil ?_))
  exact qw_ret1 rfl rfl ⟨⟨_, rfl, HX.slR (xs := openL) encP_len rfl (by omega)⟩, hw⟩
set_option maxRecDepth 20000 in
theorem lots_c (w : World) : Calls Tryz.prog 37 #[] w fun e w' => (∃ a, e = .returned (.slice a 1 1) ∧ SlR encL 4 w' a 1 lotsL) ∧ Below w.heap.size w w' := by
  have hw := Below.refl w.heap.size w
  refine fn_enter 3 Tryz.func37 rfl rfl rfl ?_
  repeat' (first | (refine lw_pure rfl (pv_assign rfl) ?_) | (refine is_cw ?_; first | (refine cw_seq ?_) | (refine cw_region ?_)) | (refine is_qw ?_; first | (with_reducible refine qw_then ?_)) | (refine lw_nil ?_) | ((refine is_bd ?_; first | (refine lw_pure rfl (tyB_53 rfl rfl rfl) ?_))))
  refine lw_bsN (vs := lotsL.map fun o => .agg (encL o).toArray) (cs := lotsL.flatMap encL) elemL rfl rfl rfl (by omega) (by omega) rfl (by intro v hv; simp [lotsL] at hv; subst hv; rfl) ?_; intro N w1 hN HX hb
  replace hw := grow_trans hw hb
  repeat' (first | (refine lw_pure rfl (pv_assign rfl) ?_) | (refine is_cw ?_; first | (refine cw_ret ?_)) | (refine is_qw ?_; first | (with_reducible refine qw_then ?_)) | (refine lw_nil ?_))
  exact qw_ret1 rfl rfl ⟨⟨_, rfl, HX.slR (xs := lotsL) encL_len rfl (by omega)⟩, hw⟩
set_option maxRecDepth 20000 in
theorem full_c (x : Pos) (w : World) : Calls Tryz.prog 17 #[.agg (encS x).toArray] w fun e w' => e = .returned (.bool (fullS x)) ∧ Below w.heap.size w w' := by
  have hE := Ext.refl w
  have hw := Below.refl w.heap.size w
  refine fn_enter 21 Tryz.func17 rfl rfl rfl ?_
  repeat' (first | (refine is_cw ?_; first | (refine cw_seq ?_) | (refine cw_region ?_)))
  refine lw_boxN rfl rfl (cs := encS x) rfl ?_; intro N w1 hN H hb
  replace hw := grow_trans hw hb
  clear hb
  replace hE := hE.mono hw; clear hw; have hw := Below.refl w1.heap.size w1
  repeat' (first | (refine lw_pure rfl (pv_move rfl) ?_) | (refine lw_pure rfl (pv_assign rfl) ?_) | (refine is_cw ?_; first | (refine cw_seq ?_) | (refine cw_region ?_) | (refine cw_ret ?_)) | (refine is_qw ?_; first | (with_reducible refine qw_then ?_)) | (refine lw_nil ?_) | (refine is_guarded ?_; first | (refine lw_not rfl rfl rfl rfl ?_) | (refine lw_on rfl rfl (by first | assumption | exact decide_eq_true (by omega) | exact decide_eq_false (by omega) | exact dec_notT (by omega) | exact dec_notF (by omega)) ?_) | (refine lw_not rfl rfl rfl (by first | assumption | exact decide_eq_true (by omega) | exact decide_eq_false (by omega) | exact dec_notT (by omega) | exact dec_notF (by omega)) ?_) | (refine lw_gs_f rfl rfl rfl (fun hc => ?_) (fun hc => ?_) <;> (first | replace hc := of_decide_eq_true hc | replace hc := of_decide_eq_false hc | replace hc := dec_nT hc | replace hc := dec_nF hc | skip) <;> (try (exfalso; omega)))) | ((refine is_bin ?_; first | (refine lw_pure rfl (pv_eql rfl rfl) ?_))) | ((refine is_load ?_; first | (refine lw_pure rfl (pv_load (t1 rfl) rfl (by first | exact PT.ld0 (H.mono hw) rfl | exact PT.ld (H.mono hw) rfl)) ?_))) | ((refine is_fa ?_; first | (refine lw_pure rfl (pv_fa (tF rfl) rfl) ?_))) | (refine is_pk ?_; refine lw_pure rfl (pv_pick_t rfl rfl rfl) ?_) | (refine is_pk ?_; refine lw_pure rfl (pv_pick_t rfl (by first | assumption | exact decide_eq_true (by omega) | exact dec_notT (by omega)) rfl) ?_) | (refine is_pk ?_; refine lw_pure rfl (pv_pick_f rfl (by first | assumption | exact decide_eq_false (by omega) | exact dec_notF (by omega)) rfl) ?_))
  all_goals (refine qw_ret1 rfl rfl ⟨ret_bool ?_, (hE.mono hw).b⟩; unfold fullS farS; first | (rw [Bool.eq_iff_iff]; simp; omega) | (simp; omega) | (simp [*]; done))
abbrev aA0 : Pos := ⟨1, 1, 0, 3, 0, 35⟩
abbrev aA1 : Pos := ⟨2, 1, 3, 0, 36, 0⟩
abbrev aB0 : Pos := ⟨1, 2, 0, 5, 0, 99⟩
abbrev aB1 : Pos := ⟨3, 2, 5, 0, 100, 0⟩
abbrev evA : Evt := ⟨3, 13, [1, 2, 12, 3, 1], []⟩
abbrev evB : Evt := ⟨3, 18, [7, 3, 100, 1], []⟩
theorem awA : posR [] openL [] evA = ([aA0, aA1], 0) := by kernel_rfl
theorem awB : posR [] [] lotsL evB = ([aB0, aB1], 0) := by kernel_rfl
theorem pv_eqlSt {n : Nat} {l : Fr} {w : World} {d : Option Nat} {t' ty : TypeId} {x y : Operand} {pos : String} {af : Array Edge} {g : Option (Nat × Bool)} (a : Pos) (hx : ev l x = some (.agg (encS a).toArray)) (hy : ev l y = some (.agg (encS a).toArray)) : Pv Tryz.prog n l ⟨d, .binOp .eql 39 x y t', ty, pos, af, g⟩ (.bool true) w := by
  have h := pv_eqlS (n := n) (w := w) (d := d) (t' := t') (ty := ty) (pos := pos) (af := af) (g := g) a a hx hy
  simpa using h
theorem get_e {l : List Pos} {m : Nat} {a : Option Addr} {ca : Nat} {w : World} {ac i : Int} {r : Pos} (h : getS l ac i = r) (hm : l.length = m) (HP : SlR encS 6 w a ca l) : Calls Tryz.prog 18 #[.slice a m ca, .int .i64 ac, .int .i64 i] w fun e w' => e = .returned (.agg (encS r).toArray) ∧ Below w.heap.size w w' := by subst h; exact get_c ac i hm HP
theorem pev_e {L : List Pos} {k : Int} {nL : Nat} {l : List Pos} {p : List Opn} {t : List Lt} {e : Evt} {ml mp mt mn mx : Nat} {al ap at_ an ax : Option Addr} {cl cp ct cn cx : Nat} {w : World} (hR : posR l p t e = (L, k)) (hL : L.length = nL) (h8 : 0 ≤ e.kind ∧ e.kind ≤ 255) (hml : l.length = ml) (hl : l.length ≤ 65534) (hmp : p.length = mp) (hmt : t.length = mt) (hmn : e.nums.length = mn) (hmx : e.texts.length = mx) (HS : SlR encS 6 w al cl l) (HP : SlR encP 6 w ap cp p) (HL : SlR encL 4 w at_ ct t) (HN : SlR encI 1 w an cn e.nums) (HX : SlR encT 1 w ax cx e.texts) (hT : TxtIn e.texts) (hK : KnW w) :
    Calls Tryz.prog 13 #[.slice al ml cl, .slice ap mp cp, .slice at_ mt ct, .agg #[.int .u8 e.v, .int .u8 e.kind, .slice an mn cn, .slice ax mx cx]] w fun e1 w' => (∃ a c, e1 = .returned (.tuple #[.slice a nL c, .int .i64 k]) ∧ SlR encS 6 w' a c L) ∧ Below w.heap.size w w' := by
  subst hL
  have h1 := pev_c h8 hml hl hmp hmt hmn hmx HS HP HL HN HX hT hK
  rw [hR] at h1
  refine h1.mono ?_
  rintro e1 w' ⟨⟨vo, rfl, hO⟩, hb⟩
  obtain ⟨a, c, rfl, hS, -⟩ := Own.slR encS_len hO
  exact ⟨⟨a, c, rfl, hS⟩, hb⟩
set_option maxRecDepth 20000 in
set_option maxHeartbeats 8000000 in
theorem awake_c {w : World} (hK : KnW w) : Calls Tryz.prog 10 #[] w fun e w' => e = .returned (.bool true) ∧ Below w.heap.size w w' := by
  have hE := Ext.refl w
  have hw := Below.refl w.heap.size w
  refine fn_enter 75 Tryz.func10 rfl rfl rfl ?_
  repeat' (first | (refine lw_pure rfl (pv_assign rfl) ?_) | (refine is_cw ?_; first | (refine cw_seq ?_) | (refine cw_region ?_)) | (refine is_qw ?_; first | (with_reducible refine qw_then ?_)) | (refine lw_nil ?_))
  refine lw_call (f := 36) (by kernel_rfl) rfl rfl (open_c _) ?_; rintro e1 w1 ⟨⟨oa, rfl, HO⟩, hb⟩; refine ⟨_, rfl, ?_⟩; replace hw := grow_trans hw hb; clear hb
  replace hE := hE.mono hw; replace hK := hK.mono hw; clear hw; have hw := Below.refl w1.heap.size w1
  skip
  refine lw_bsN (vs := [.int .i64 1, .int .i64 2, .int .i64 12, .int .i64 3, .int .i64 1]) (cs := [.int .i64 1, .int .i64 2, .int .i64 12, .int .i64 3, .int .i64 1]) elemI rfl rfl rfl (by omega) (by omega) rfl (by simp [Value.cells]) ?_; intro BA wn _ HX hb
  have HN : SlR encI 1 wn (some ⟨BA, 0, none⟩) 5 evA.nums := HX.slR (xs := [1, 2, 12, 3, 1]) encI_len rfl (by omega)
  replace hw := grow_trans hw hb; clear hb HX
  replace hE := hE.mono hw; replace hK := hK.mono hw; replace HO := HO.mono hw; clear hw; have hw := Below.refl wn.heap.size wn
  repeat' (first | (refine lw_call (f := 35) (by kernel_rfl) rfl rfl (evnew_p 13 _ 5 5 _) ?_; rintro e w1 ⟨rfl, hb⟩; refine ⟨_, rfl, ?_⟩; replace hw := grow_trans hw hb; clear hb))
  refine lw_call (f := 13) (by kernel_rfl) rfl rfl (pev_e (nL := 2) (e := evA) awA rfl (by decide) rfl (by decide) rfl rfl rfl rfl (SlR.nil _) (HO.mono hw) (SlR.nil _) (HN.mono hw) (SlR.nil _) tx_nil (hK.mono hw)) ?_; rintro e1 w2 ⟨⟨ra, rc, rfl, HA⟩, hb⟩; refine ⟨_, rfl, ?_⟩; replace hw := grow_trans hw hb; clear hb
  replace hE := hE.mono hw; replace hK := hK.mono hw; clear hw; have hw := Below.refl w2.heap.size w2
  clear HO HN
  repeat' (first | (refine lw_pure rfl (pv_move rfl) ?_) | (refine lw_pure rfl (pv_assign rfl) ?_) | (refine is_cw ?_; first | (refine cw_seq ?_) | (refine cw_region ?_)) | (refine is_qw ?_; first | (with_reducible refine qw_then ?_)) | (refine lw_nil ?_) | (refine lw_pure rfl (pv_extract rfl rfl) ?_))
  refine lw_call (f := 37) (by kernel_rfl) rfl rfl (lots_c _) ?_; rintro e1 w3 ⟨⟨la, rfl, HL⟩, hb⟩; refine ⟨_, rfl, ?_⟩; replace hw := grow_trans hw hb; clear hb
  replace hE := hE.mono hw; replace hK := hK.mono hw; replace HA := HA.mono hw; clear hw; have hw := Below.refl w3.heap.size w3
  skip
  refine lw_bsN (vs := [.int .i64 7, .int .i64 3, .int .i64 100, .int .i64 1]) (cs := [.int .i64 7, .int .i64 3, .int .i64 100, .int .i64 1]) elemI rfl rfl rfl (by omega) (by omega) rfl (by simp [Value.cells]) ?_; intro BB wn _ HX hb
  have HN : SlR encI 1 wn (some ⟨BB, 0, none⟩) 4 evB.nums := HX.slR (xs := [7, 3, 100, 1]) encI_len rfl (by omega)
  replace hw := grow_trans hw hb; clear hb HX
  replace hE := hE.mono hw; replace hK := hK.mono hw; replace HA := HA.mono hw; replace HL := HL.mono hw; clear hw; have hw := Below.refl wn.heap.size wn
  repeat' (first | (refine lw_call (f := 35) (by kernel_rfl) rfl rfl (evnew_p 18 _ 4 4 _) ?_; rintro e w1 ⟨rfl, hb⟩; refine ⟨_, rfl, ?_⟩; replace hw := grow_trans hw hb; clear hb))
  refine lw_call (f := 13) (by kernel_rfl) rfl rfl (pev_e (nL := 2) (e := evB) awB rfl (by decide) rfl (by decide) rfl rfl rfl rfl (SlR.nil _) (SlR.nil _) (HL.mono hw) (HN.mono hw) (SlR.nil _) tx_nil (hK.mono hw)) ?_; rintro e1 w4 ⟨⟨sa, sc, rfl, HB⟩, hb⟩; refine ⟨_, rfl, ?_⟩; replace hw := grow_trans hw hb; clear hb
  replace hE := hE.mono hw; replace HA := HA.mono hw; clear hw; have hw := Below.refl w4.heap.size w4
  clear HL HN hK
  obtain ⟨ab, ao, rfl, -, -⟩ := HA.at (by simp)
  obtain ⟨bb, bo, rfl, -, -⟩ := HB.at (by simp)
  have hA0 : ([aA0, aA1] : List Pos)[0]? = some aA0 := rfl
  have hA1 : ([aA0, aA1] : List Pos)[1]? = some aA1 := rfl
  have hB0 : ([aB0, aB1] : List Pos)[0]? = some aB0 := rfl
  have hB1 : ([aB0, aB1] : List Pos)[1]? = some aB1 := rfl
  repeat' (first | (refine lw_pure rfl (pv_move rfl) ?_) | (refine lw_pure rfl (pv_assign rfl) ?_) | (refine is_cw ?_; first | (refine cw_seq ?_) | (refine cw_region ?_) | (refine cw_false rfl rfl ?_) | (refine cw_skip ?_)) | (refine is_qw ?_; first | (with_reducible refine qw_then ?_)) | (refine lw_nil ?_) | (refine is_guarded ?_; first | (refine lw_on rfl rfl rfl ?_)) | ((refine is_bin ?_; first | (refine lw_pure rfl (pv_neq rfl rfl) ?_))) | ((refine is_bi ?_; first | (refine lw_pure rfl (pv_lenl (tS rfl) rfl) ?_))) | (refine is_pk ?_; refine lw_pure rfl (pv_pick_f rfl rfl rfl) ?_) | (refine lw_pure rfl (pv_extract rfl rfl) ?_))
  refine cw_drawn (fun w' => Below w4.heap.size w4 w') (by kernel_rfl) (by repeat (first | exact NoPanic.body | with_reducible refine NoPanic.then ?_ | with_reducible refine NoPanic.inBlock ?_)) (fun hNP => ?_)
  have hS := hw.drew
  all_goals (refine at0 0 rfl (fun w' hq => pv_move rfl) ?_)
  all_goals (refine at0 1 rfl (fun w' hq => pv_ia (tS rfl) rfl rfl (by omega)) ?_)
  all_goals (refine at0 2 rfl (fun w' hq => pv_loada (tA rfl) rfl (by first | exact SlR.lda (HA.mono hq) hA0 | exact SlR.lda (HA.mono hq) hA1 | exact SlR.lda (HB.mono hq) hB0 | exact SlR.lda (HB.mono hq) hB1) (by rfl)) ?_)
  all_goals (refine at0 3 rfl (fun w' hq => tyB_39 rfl rfl rfl) ?_)
  all_goals (refine at0 4 rfl (fun w' hq => pv_eqlSt aA0 rfl rfl) ?_)
  all_goals (refine at0 5 rfl (fun w' hq => pv_move rfl) ?_)
  all_goals (refine at1 6 rfl rfl rfl rfl (fun w' hq => pv_move rfl) ?_)
  all_goals (refine at1 7 rfl rfl rfl rfl (fun w' hq => pv_ia (tS rfl) rfl rfl (by omega)) ?_)
  all_goals (refine at1 8 rfl rfl rfl rfl (fun w' hq => pv_loada (tA rfl) rfl (by first | exact SlR.lda (HA.mono hq) hA0 | exact SlR.lda (HA.mono hq) hA1 | exact SlR.lda (HB.mono hq) hB0 | exact SlR.lda (HB.mono hq) hB1) (by rfl)) ?_)
  all_goals (refine at1 9 rfl rfl rfl rfl (fun w' hq => tyB_39 rfl rfl rfl) ?_)
  all_goals (refine at1 10 rfl rfl rfl rfl (fun w' hq => pv_eqlSt aA1 rfl rfl) ?_)
  all_goals (refine at0 11 rfl (fun w' hq => pv_pick_t rfl rfl rfl) ?_)
  all_goals (refine at0 12 rfl (fun w' hq => pv_move rfl) ?_)
  all_goals (refine at1 13 rfl rfl rfl rfl (fun w' hq => pv_move rfl) ?_)
  all_goals (refine at1 14 rfl rfl rfl rfl (fun w' hq => pv_ia (tS rfl) rfl rfl (by omega)) ?_)
  all_goals (refine at1 15 rfl rfl rfl rfl (fun w' hq => pv_loada (tA rfl) rfl (by first | exact SlR.lda (HA.mono hq) hA0 | exact SlR.lda (HA.mono hq) hA1 | exact SlR.lda (HB.mono hq) hB0 | exact SlR.lda (HB.mono hq) hB1) (by rfl)) ?_)
  all_goals (refine at1 16 rfl rfl rfl rfl (fun w' hq => tyB_39 rfl rfl rfl) ?_)
  all_goals (refine at1 17 rfl rfl rfl rfl (fun w' hq => pv_eqlSt aB0 rfl rfl) ?_)
  all_goals (refine at0 18 rfl (fun w' hq => pv_pick_t rfl rfl rfl) ?_)
  all_goals (refine at0 19 rfl (fun w' hq => pv_move rfl) ?_)
  all_goals (refine at1 20 rfl rfl rfl rfl (fun w' hq => pv_move rfl) ?_)
  all_goals (refine at1 21 rfl rfl rfl rfl (fun w' hq => pv_ia (tS rfl) rfl rfl (by omega)) ?_)
  all_goals (refine at1 22 rfl rfl rfl rfl (fun w' hq => pv_loada (tA rfl) rfl (by first | exact SlR.lda (HA.mono hq) hA0 | exact SlR.lda (HA.mono hq) hA1 | exact SlR.lda (HB.mono hq) hB0 | exact SlR.lda (HB.mono hq) hB1) (by rfl)) ?_)
  all_goals (refine at1 23 rfl rfl rfl rfl (fun w' hq => tyB_39 rfl rfl rfl) ?_)
  all_goals (refine at1 24 rfl rfl rfl rfl (fun w' hq => pv_eqlSt aB1 rfl rfl) ?_)
  all_goals (refine at0 25 rfl (fun w' hq => pv_pick_t rfl rfl rfl) ?_)
  all_goals (refine at0 26 rfl (fun w' hq => pv_move rfl) ?_)
  all_goals (refine at1 27 rfl rfl rfl rfl (fun w' hq => pv_move rfl) ?_)
  all_goals (refine at1 29 rfl rfl rfl rfl (fun w' hq => pv_move rfl) ?_)
  all_goals (refine at1 30 rfl rfl rfl rfl (fun w' hq => pv_ia (tS rfl) rfl rfl (by omega)) ?_)
  all_goals (refine at1 31 rfl rfl rfl rfl (fun w' hq => pv_loada (tA rfl) rfl (by first | exact SlR.lda (HA.mono hq) hA0 | exact SlR.lda (HA.mono hq) hA1 | exact SlR.lda (HB.mono hq) hB0 | exact SlR.lda (HB.mono hq) hB1) (by rfl)) ?_)
  all_goals first | (refine an3 28 rfl rfl rfl ?_) | (refine an0 28 rfl rfl rfl ?_) | (refine aw_act_g 28 (by kernel_rfl) rfl rfl rfl (by first | rfl | assumption | exact decide_eq_true (by omega) | exact decide_eq_false (by omega) | exact dec_notT (by omega) | exact dec_notF (by omega)) rfl ?_; refine act_call (f := 18) (by kernel_rfl) rfl (get_e (r := aA1) rfl rfl (HA.mono hS)) ?_; rintro e1 w5 ⟨rfl, hb⟩; refine ⟨_, rfl, grow_trans hS hb, fun hS => ?_⟩)
  all_goals (refine at1 32 rfl rfl rfl rfl (fun w' hq => pv_eqlSt aA1 rfl rfl) ?_)
  all_goals (refine at0 33 rfl (fun w' hq => pv_pick_t rfl rfl rfl) ?_)
  all_goals (refine at0 34 rfl (fun w' hq => pv_move rfl) ?_)
  all_goals (refine at1 35 rfl rfl rfl rfl (fun w' hq => pv_move rfl) ?_)
  all_goals (refine at1 37 rfl rfl rfl rfl (fun w' hq => tyB_39 rfl rfl rfl) ?_)
  all_goals first | (refine an3 36 rfl rfl rfl ?_) | (refine an0 36 rfl rfl rfl ?_) | (refine aw_act_g 36 (by kernel_rfl) rfl rfl rfl (by first | rfl | assumption | exact decide_eq_true (by omega) | exact decide_eq_false (by omega) | exact dec_notT (by omega) | exact dec_notF (by omega)) rfl ?_; refine act_call (f := 18) (by kernel_rfl) rfl (get_e (r := ⟨9, 9, 0, 0, 0, 0⟩) rfl rfl (HA.mono hS)) ?_; rintro e1 w5 ⟨rfl, hb⟩; refine ⟨_, rfl, grow_trans hS hb, fun hS => ?_⟩)
  all_goals (refine at1 38 rfl rfl rfl rfl (fun w' hq => pv_eqlSt ⟨9,9,0,0,0,0⟩ rfl rfl) ?_)
  all_goals (refine at0 39 rfl (fun w' hq => pv_pick_t rfl rfl rfl) ?_)
  all_goals (refine at0 40 rfl (fun w' hq => pv_assign rfl) ?_)
  all_goals (refine aw_done (by kernel_rfl) ?_; replace hw := hS; clear hS hNP)
  repeat' (first | (refine is_cw ?_; first | (refine cw_ret ?_)) | (refine is_qw ?_; first | (with_reducible refine qw_then ?_)))
  exact qw_ret1 rfl rfl ⟨rfl, (hE.mono hw).b⟩
end Go.Proofs.YtemngicaoacfaaaGreatDoor
namespace Go.Proofs.YtemngicaoacfaaaGreatDoor
open Go.RowKit

def depsOf (o : Oper) : List Nat := (o.after.toList.filter fun e => Region.binds .any e).map (·.on)
def anyOk (n : Nat) (ks : List Nat) : List Oper → Nat → List Nat → Bool
  | [], _, _ => true
  | o :: r, i, ds => match o.guard, o.dst with
    | none, some d => Nat.blt d n && (!ds.contains d && (!ks.contains d && ((depsOf o).all (fun j => Nat.blt j i) && anyOk n ks r (i + 1) (d :: ds))))
    | _, _ => false
structure AnyOp (n : Nat) (ks : List Nat) (os : List Oper) (k : Nat) (ds : List Nat) (i : Nat) (o : Oper) (d : Nat) : Prop where
  guard : o.guard = none
  dst : o.dst = some d
  lt : d < n
  base : d ∉ ks
  old : d ∉ ds
  deps : ∀ j ∈ depsOf o, j < k + i
  one : ∀ j o', os[j]? = some o' → o'.dst = some d → j = i
theorem anyOk_at {n : Nat} {ks : List Nat} : ∀ {os : List Oper} {k : Nat} {ds : List Nat}, anyOk n ks os k ds = true → ∀ {i : Nat} {o : Oper}, os[i]? = some o → ∃ d, AnyOp n ks os k ds i o d
  | [], _, _, _, i, o, h => by simp at h
  | o1 :: r, k, ds, h, i, o, ho => by
    unfold anyOk at h
    cases hg : o1.guard with
    | some g => rw [hg] at h; cases h
    | none =>
      cases hd : o1.dst with
      | none => rw [hg, hd] at h; cases h
      | some d1 =>
        rw [hg, hd] at h
        simp only [Bool.and_eq_true, Bool.not_eq_true', List.all_eq_true, Nat.blt_eq] at h
        obtain ⟨h1, h2, h3, h4, h5⟩ := h
        have hds : d1 ∉ ds := by simpa using h2
        have hks : d1 ∉ ks := by simpa using h3
        cases i with
        | zero =>
          simp at ho; subst ho
          refine ⟨d1, hg, hd, h1, hks, hds, fun j hj => by simpa using h4 j hj, fun j o' hj hj2 => ?_⟩
          cases j with
          | zero => rfl
          | succ j =>
            obtain ⟨d2, h6⟩ := anyOk_at h5 (i := j) (o := o') (by simpa using hj)
            have := h6.dst
            rw [hj2] at this; injection this with this; subst this
            exact absurd (List.mem_cons_self ..) h6.old
        | succ i =>
          obtain ⟨d2, h6⟩ := anyOk_at h5 (i := i) (o := o) (by simpa using ho)
          refine ⟨d2, h6.guard, h6.dst, h6.lt, h6.base, fun hm => h6.old (List.mem_cons_of_mem _ hm), fun j hj => by have := h6.deps j hj; omega, fun j o' hj hj2 => ?_⟩
          cases j with
          | zero =>
            simp at hj; subst hj
            rw [hd] at hj2; injection hj2 with hj2
            exact absurd (by rw [← hj2]; exact List.mem_cons_self ..) h6.old
          | succ j => rw [h6.one j o' (by simpa using hj) hj2]
theorem look_mem : ∀ {l : Fr} {d : Nat} {v : Value}, look l d = some v → d ∈ l.map (·.1)
  | [], _, _, h => by simp [look] at h
  | (t, u) :: r, d, v, h => by
    simp only [look] at h
    by_cases hs : t = d
    · subst hs; simp
    · have : Nat.beq t d = false := by rw [Bool.eq_false_iff]; exact fun e => hs (Nat.eq_of_beq_eq_true e)
      rw [this, cond_false] at h
      exact List.mem_cons_of_mem _ (look_mem h)
section
variable {P : Program} {n : Nat} {ops : Array Oper} {Q : Exit → Act → World → Prop} {l : Fr} {Φ : Nat → Value → World → Prop} {W : World}
theorem Holds.keep {a : Act} (h : Holds n l a) {d : Nat} (hd : d ∉ l.map (·.1)) (v : Value) : Holds n l (a.put (some d) v) := by
  obtain ⟨h1, h2, h3⟩ := h
  refine ⟨by simpa [Act.put] using h1, h2, fun t u e => ?_⟩
  have hne : d ≠ t := fun e2 => hd (e2 ▸ look_mem e)
  simp only [Act.put]
  rw [Array.getElem?_setIfInBounds_ne hne]
  exact h3 t u e
theorem Holds.add {a : Act} (h : Holds n l a) {d : Nat} {v : Value} (hv : a.tmps[d]? = some v) : Holds n ((d, v) :: l) a := by
  obtain ⟨h1, h2, h3⟩ := h
  refine ⟨h1, h2, fun t u e => ?_⟩
  simp only [look] at e
  by_cases ht : d = t
  · subst ht
    simp only [Nat.beq_refl, cond_true, Option.some.injEq] at e
    subst e; exact hv
  · have : Nat.beq d t = false := by rw [Bool.eq_false_iff]; exact fun e => ht (Nat.eq_of_beq_eq_true e)
    rw [this, cond_false] at e
    exact h3 t u e
def DepStep (P : Program) (n : Nat) (ops : Array Oper) (Φ : Nat → Value → World → Prop) (o : Oper) (w : World) (Z : Value → World → Prop) : List Nat → Fr → Prop
  | [], m => Act1 P n m o w Z
  | j :: r, m => match (ops[j]?).bind (·.dst) with
    | some d => ∀ v, Φ j v w → DepStep P n ops Φ o w Z r ((d, v) :: m)
    | none => DepStep P n ops Φ o w Z r m
def StepsL (P : Program) (n : Nat) (ops : Array Oper) (l : Fr) (Φ : Nat → Value → World → Prop) (W : World) : List Oper → Nat → Prop
  | [], _ => True
  | o :: r, i => (∀ w, Below W.heap.size W w → DepStep P n ops Φ o w (fun v w' => Below w.heap.size w w' ∧ Φ i v w') (depsOf o) l) ∧ StepsL P n ops l Φ W r (i + 1)
def EndL (n : Nat) (Q : Exit → Act → World → Prop) (Φ : Nat → Value → World → Prop) (w : World) : List Oper → Nat → Fr → Prop
  | [], _, m => QW n Q .normal m w
  | o :: r, i, m => match o.dst with
    | some d => ∀ v, Φ i v w → EndL n Q Φ w r (i + 1) ((d, v) :: m)
    | none => EndL n Q Φ w r (i + 1) m
structure AnyI (n : Nat) (ops : Array Oper) (l : Fr) (Φ : Nat → Value → World → Prop) (listed : Array Bool) (a : Act) (w : World) : Prop where
  size : listed.size = ops.size
  base : Holds n l a
  vals : ∀ i o, ops[i]? = some o → listed[i]? = some true → ∃ d v, o.dst = some d ∧ a.tmps[d]? = some v ∧ Φ i v w
theorem steps_at : ∀ {os : List Oper} {k i : Nat} {o : Oper}, StepsL P n ops l Φ W os k → os[i]? = some o → ∀ w, Below W.heap.size W w → DepStep P n ops Φ o w (fun v w' => Below w.heap.size w w' ∧ Φ (k + i) v w') (depsOf o) l
  | [], _, _, _, _, h => by simp at h
  | o1 :: r, k, 0, o, h, ho => by simp at ho; subst ho; exact h.1
  | o1 :: r, k, i + 1, o, h, ho => by
    have := steps_at h.2 (i := i) (o := o) (by simpa using ho)
    rwa [show k + 1 + i = k + (i + 1) by omega] at this
theorem dep_run {o : Oper} {w : World} {a : Act} {Z : Value → World → Prop} : ∀ {js : List Nat} {m : Fr}, DepStep P n ops Φ o w Z js m → Holds n m a → (∀ j ∈ js, ∀ d, (ops[j]?).bind (·.dst) = some d → ∃ v, a.tmps[d]? = some v ∧ Φ j v w) → ∃ m', Holds n m' a ∧ Act1 P n m' o w Z
  | [], m, h, hm, _ => ⟨m, hm, h⟩
  | j :: r, m, h, hm, hv => by
    unfold DepStep at h
    cases hd : (ops[j]?).bind (·.dst) with
    | none => rw [hd] at h; exact dep_run h hm (fun k hk => hv k (List.mem_cons_of_mem _ hk))
    | some d =>
      rw [hd] at h
      obtain ⟨v, h1, h2⟩ := hv j (List.mem_cons_self ..) d hd
      exact dep_run (h v h2) (hm.add h1) (fun k hk => hv k (List.mem_cons_of_mem _ hk))
theorem end_run {w : World} {a : Act} : ∀ {os : List Oper} {k : Nat} {m : Fr}, EndL n Q Φ w os k m → Holds n m a → (∀ i o, os[i]? = some o → ∃ d v, o.dst = some d ∧ a.tmps[d]? = some v ∧ Φ (k + i) v w) → Q .normal a w
  | [], _, _, h, hm, _ => h.out a hm
  | o :: r, k, m, h, hm, hv => by
    obtain ⟨d, v, h1, h2, h3⟩ := hv 0 o rfl
    unfold EndL at h
    rw [h1] at h
    refine end_run (h v h3) (hm.add h2) fun i o' ho => ?_
    have := hv (i + 1) o' (by simpa using ho)
    rwa [show k + (i + 1) = k + 1 + i by omega] at this
theorem any_run (hok : anyOk n (l.map (·.1)) ops.toList 0 [] = true) (hmono : ∀ i v w w', Φ i v w → Below w.heap.size w w' → Φ i v w') (hst : StepsL P n ops l Φ W ops.toList 0) (hend : ∀ w, Below W.heap.size W w → EndL n Q Φ w ops.toList 0 l) :
    ∀ (fuel : Nat) (listed : Array Bool) (a : Act) (w : World), Below W.heap.size W w → AnyI n ops l Φ listed a w → listed.toList.count false ≤ fuel → wpAny P .any ops Q fuel listed a w := by
  have hat : ∀ {i : Nat} {o : Oper}, ops[i]? = some o → ∃ d, AnyOp n (l.map (·.1)) ops.toList 0 [] i o d := fun h => anyOk_at hok (by simpa using h)
  have hready : ∀ (listed : Array Bool), listed.size = ops.size → Region.ready .any ops listed = [] → ∀ i, i < ops.size → listed[i]? = some true := by
    intro listed hs hr i
    induction i using Nat.strongRecOn with
    | ind i ih =>
      intro hi
      have hls : i < listed.size := by omega
      cases hb : listed[i] with
      | true => rw [Array.getElem?_eq_getElem hls, hb]
      | false =>
        exfalso
        have ho : ops[i]? = some ops[i] := Array.getElem?_eq_getElem hi
        obtain ⟨d, hd⟩ := hat ho
        have hm : i ∈ Region.ready .any ops listed := mem_ready.2 ⟨by simp [Array.getElem?_eq_getElem hls, hb], ops[i], ho, fun e he hbd => by
          have hj : e.on ∈ depsOf ops[i] := List.mem_map.2 ⟨e, List.mem_filter.2 ⟨by simpa using he, hbd⟩, rfl⟩
          have hlt := hd.deps _ hj
          have := ih e.on (by omega) (by omega)
          simp [this]⟩
        rw [hr] at hm; cases hm
  have hfin : ∀ (listed : Array Bool) (a : Act) (w : World), Below W.heap.size W w → AnyI n ops l Φ listed a w → Region.ready .any ops listed = [] → Q .normal a w := fun listed a w hw hI hr =>
    end_run (hend w hw) hI.base fun i o ho => by
      have ho' : ops[i]? = some o := by simpa using ho
      have hi : i < ops.size := (Array.getElem?_eq_some_iff.1 ho').1
      rw [Nat.zero_add]
      exact hI.vals i o ho' (hready listed hI.size hr i hi)
  intro fuel
  induction fuel with
  | zero =>
    intro listed a w hw hI hc
    have hall : ∀ b ∈ listed.toList, b = true := fun b hb => by
      cases b with
      | true => rfl
      | false => have := List.count_pos_iff.2 hb; omega
    have hr : Region.ready .any ops listed = [] := by
      refine List.eq_nil_iff_forall_not_mem.2 fun i hi => ?_
      obtain ⟨h1, o, ho, _⟩ := mem_ready.1 hi
      have hlt : i < listed.size := by rw [hI.size]; exact (Array.getElem?_eq_some_iff.1 ho).1
      have h2 := hall listed[i] (by simp)
      simp [Array.getElem?_eq_getElem hlt, h2] at h1
    exact ⟨hr, hfin listed a w hw hI hr⟩
  | succ fuel ih =>
    intro listed a w hw hI hc
    refine ⟨fun hr => hfin listed a w hw hI hr, fun i hi => ?_⟩
    obtain ⟨h1, o, ho, hdep⟩ := mem_ready.1 hi
    have hlt : i < listed.size := by rw [hI.size]; exact (Array.getElem?_eq_some_iff.1 ho).1
    have hli : listed[i] = false := by simpa [Array.getElem?_eq_getElem hlt] using h1
    obtain ⟨d, hd⟩ := hat ho
    have hs := steps_at hst (i := i) (o := o) (by simpa using ho) w hw
    rw [Nat.zero_add] at hs
    obtain ⟨m, hm, hact⟩ := dep_run hs hI.base fun j hj d' hd' => by
      obtain ⟨e, he, rfl⟩ := List.mem_map.1 hj
      obtain ⟨he1, he2⟩ := List.mem_filter.1 he
      have hl := hdep e (by simpa using he1) he2
      have hlt2 : e.on < listed.size := by
        rcases Nat.lt_or_ge e.on listed.size with h | h
        · exact h
        · simp [Array.getElem?_eq_none h] at hl
      have hl2 : listed[e.on]? = some true := by
        rw [Array.getElem?_eq_getElem hlt2]; simpa [Array.getElem?_eq_getElem hlt2] using hl
      have hoe : ops[e.on]? = some (ops[e.on]'(by rw [← hI.size]; exact hlt2)) := Array.getElem?_eq_getElem _
      obtain ⟨d2, v, h3, h4, h5⟩ := hI.vals e.on _ hoe hl2
      rw [hoe, Option.bind_some, h3] at hd'
      injection hd' with hd'; subst hd'
      exact ⟨v, h4, h5⟩
    unfold wpOp
    rw [ho]
    dsimp only
    have hwant : Region.wanted o (yielded ops a.tmps) = true := by simp [Region.wanted, hd.guard]
    rw [if_pos hwant]
    refine Or.inl (hact.out a hm _ _ fun v w' hZ => ih _ _ w' (grow_trans hw hZ.1) ?_ ?_)
    · rw [hd.dst]
      have hdn : d < a.tmps.size := by rw [hI.base.1]; exact hd.lt
      refine ⟨by simpa using hI.size, hI.base.keep hd.base v, fun k o' hk hlk => ?_⟩
      by_cases hki : k = i
      · subst hki
        rw [ho] at hk; injection hk with hk; subst hk
        exact ⟨d, v, hd.dst, by simp [Act.put, hdn], hZ.2⟩
      · have hlk2 : listed[k]? = some true := by rwa [Array.getElem?_setIfInBounds_ne (fun e => hki e.symm)] at hlk
        obtain ⟨d2, v2, h3, h4, h5⟩ := hI.vals k o' hk hlk2
        refine ⟨d2, v2, h3, ?_, hmono k v2 w w' h5 hZ.1⟩
        have hne : d ≠ d2 := fun e => hki (hd.one k o' (by simpa using hk) (by rw [h3, e]))
        simp only [Act.put]
        rw [Array.getElem?_setIfInBounds_ne hne]; exact h4
    · have h2 : (listed.setIfInBounds i true).toList = listed.toList.set i true := by simp
      rw [h2, List.count_set (by simpa using hlt)]
      have hin : false ∈ listed.toList := by rw [← hli]; simp
      have h4 := List.count_pos_iff.2 hin
      have h3 : listed.toList[i]'(by simpa using hlt) = false := by simpa using hli
      rw [h3]
      rw [if_pos (by rfl), if_neg (by simp)]
      omega
theorem cw_any {i : Nat} {w : World} (Φ : Nat → Value → World → Prop) (hm : P.follows .mixedOrders = true) (hok : anyOk n (l.map (·.1)) ops.toList 0 [] = true) (hmono : ∀ i v w w', Φ i v w → Below w.heap.size w w' → Φ i v w') (hst : StepsL P n ops l Φ w ops.toList 0) (hend : ∀ w', Below w.heap.size w w' → EndL n Q Φ w' ops.toList 0 l) : CW P n (.region i ops true) Q l w := ⟨fun a ha =>
  wp_region_any hm (any_run (W := w) hok hmono hst hend _ _ a _ (below_drew w) ⟨by simp, ha, fun i o ho hl => by
    simp [Array.getElem?_replicate] at hl⟩ (by simp))⟩
end

section
variable {P : Program} {n : Nat} {ops : Array Oper} {Q : Exit → Act → World → Prop} {l : Fr} {Φ : Nat → Value → World → Prop} {W : World}
def EndA (P : Program) (n : Nat) (Q : Exit → Act → World → Prop) (Φ : Nat → Value → World → Prop) (w : World) (ol : Oper) : List Oper → Nat → Fr → Prop
  | [], _, m => Act1 P n m ol w fun v w' => QW n Q .normal (putD ol.dst v m) w'
  | o :: r, i, m => match o.dst with
    | some d => ∀ v, Φ i v w → EndA P n Q Φ w ol r (i + 1) ((d, v) :: m)
    | none => EndA P n Q Φ w ol r (i + 1) m
structure AnyJ (n : Nat) (ops : Array Oper) (init : List Oper) (l : Fr) (Φ : Nat → Value → World → Prop) (listed : Array Bool) (a : Act) (w : World) : Prop where
  size : listed.size = ops.size
  last : listed[init.length]? = some false
  base : Holds n l a
  vals : ∀ i o, init[i]? = some o → listed[i]? = some true → ∃ d v, o.dst = some d ∧ a.tmps[d]? = some v ∧ Φ i v w
theorem endA_run {w : World} {a : Act} {ol : Oper} : ∀ {os : List Oper} {k : Nat} {m : Fr}, EndA P n Q Φ w ol os k m → Holds n m a → (∀ i o, os[i]? = some o → ∃ d v, o.dst = some d ∧ a.tmps[d]? = some v ∧ Φ (k + i) v w) → ∃ m', Holds n m' a ∧ Act1 P n m' ol w fun v w' => QW n Q .normal (putD ol.dst v m') w'
  | [], _, m, h, hm, _ => ⟨m, hm, h⟩
  | o :: r, k, m, h, hm, hv => by
    obtain ⟨d, v, h1, h2, h3⟩ := hv 0 o rfl
    unfold EndA at h
    rw [h1] at h
    refine endA_run (h v h3) (hm.add h2) fun i o' ho => ?_
    have := hv (i + 1) o' (by simpa using ho)
    rwa [show k + (i + 1) = k + 1 + i by omega] at this
theorem ready_none {listed : Array Bool} (h : ∀ i, i < ops.size → listed[i]? = some true) : Region.ready .any ops listed = [] := by
  refine List.eq_nil_iff_forall_not_mem.2 fun i hi => ?_
  obtain ⟨h1, o, ho, _⟩ := mem_ready.1 hi
  have h2 := h i (Array.getElem?_eq_some_iff.1 ho).1
  simp [h2] at h1
theorem any_run1 {init : List Oper} {ol : Oper} (hsz : ops.toList = init ++ [ol]) (hok : anyOk n (l.map (·.1)) init 0 [] = true) (hwl : (List.range init.length).all (fun i => (depsOf ol).contains i) = true) (hdo : (depsOf ol).all (fun j => Nat.blt j init.length) = true) (hgl : ol.guard = none) (hdl : inD ol.dst n = true) (hmono : ∀ i v w w', Φ i v w → Below w.heap.size w w' → Φ i v w') (hst : StepsL P n ops l Φ W init 0) (hend : ∀ w, Below W.heap.size W w → EndA P n Q Φ w ol init 0 l) :
    ∀ (fuel : Nat) (listed : Array Bool) (a : Act) (w : World), Below W.heap.size W w → AnyJ n ops init l Φ listed a w → listed.toList.count false ≤ fuel → wpAny P .any ops Q fuel listed a w := by
  have hosz : ops.size = init.length + 1 := by rw [← Array.length_toList, hsz]; simp
  have hops : ∀ i o, init[i]? = some o → ops[i]? = some o := fun i o h => by
    rw [← Array.getElem?_toList, hsz, List.getElem?_append_left (List.getElem?_eq_some_iff.1 h).1]; exact h
  have hopl : ops[init.length]? = some ol := by
    rw [← Array.getElem?_toList, hsz, List.getElem?_append_right (Nat.le_refl _)]; simp
  intro fuel
  induction fuel with
  | zero =>
    intro listed a w hw hI hc
    exfalso
    have hlt : init.length < listed.size := by rw [hI.size]; omega
    have h1 : listed[init.length] = false := by have := hI.last; rw [Array.getElem?_eq_getElem hlt] at this; injection this
    have hin : false ∈ listed.toList := by rw [← h1]; simp
    have := List.count_pos_iff.2 hin
    omega
  | succ fuel ih =>
    intro listed a w hw hI hc
    have hlt0 : init.length < listed.size := by rw [hI.size]; omega
    have hlast0 : listed[init.length] = false := by have := hI.last; rw [Array.getElem?_eq_getElem hlt0] at this; injection this
    have hstuck : Region.ready .any ops listed ≠ [] := fun hr => by
      -- the first that is not listed may come up
      have key : ∀ i, i < init.length → listed[i]? = some true := by
        intro i
        induction i using Nat.strongRecOn with
        | ind i ih2 =>
          intro hi
          have hls : i < listed.size := by omega
          cases hb : listed[i] with
          | true => rw [Array.getElem?_eq_getElem hls, hb]
          | false =>
            exfalso
            have ho : init[i]? = some init[i] := List.getElem?_eq_getElem hi
            obtain ⟨d, hd⟩ := anyOk_at hok ho
            have hm : i ∈ Region.ready .any ops listed := mem_ready.2 ⟨by simp [Array.getElem?_eq_getElem hls, hb], init[i], hops _ _ ho, fun e he hbd => by
              have hj : e.on ∈ depsOf init[i] := List.mem_map.2 ⟨e, List.mem_filter.2 ⟨by simpa using he, hbd⟩, rfl⟩
              have hlt := hd.deps _ hj
              have := ih2 e.on (by omega) (by omega)
              simp [this]⟩
            rw [hr] at hm; cases hm
      have hm : init.length ∈ Region.ready .any ops listed := by
        refine mem_ready.2 ⟨by simp [Array.getElem?_eq_getElem hlt0, hlast0], ol, hopl, fun e he hbd => ?_⟩
        have hj : e.on ∈ depsOf ol := List.mem_map.2 ⟨e, List.mem_filter.2 ⟨by simpa using he, hbd⟩, rfl⟩
        have hlt := List.all_eq_true.1 hdo _ hj
        have := key e.on (by simpa [Nat.blt_eq] using hlt)
        simp [this]
      rw [hr] at hm; cases hm
    refine ⟨fun hr => absurd hr hstuck, fun i hi => ?_⟩
    obtain ⟨h1, o, ho, hdep⟩ := mem_ready.1 hi
    have hlt : i < listed.size := by rw [hI.size]; exact (Array.getElem?_eq_some_iff.1 ho).1
    have hli : listed[i] = false := by simpa [Array.getElem?_eq_getElem hlt] using h1
    have hlisted : ∀ (os : List Nat), (∀ j ∈ os, ∃ e ∈ o.after, Region.binds .any e = true ∧ e.on = j) → ∀ j ∈ os, listed[j]? = some true := fun os hos j hj => by
      obtain ⟨e, he1, he2, rfl⟩ := hos j hj
      have hl := hdep e he1 he2
      have hlt2 : e.on < listed.size := by
        rcases Nat.lt_or_ge e.on listed.size with h | h
        · exact h
        · simp [Array.getElem?_eq_none h] at hl
      rw [Array.getElem?_eq_getElem hlt2]; simpa [Array.getElem?_eq_getElem hlt2] using hl
    have hdeps : ∀ j ∈ depsOf o, listed[j]? = some true := hlisted (depsOf o) fun j hj => by
      obtain ⟨e, he, rfl⟩ := List.mem_map.1 hj
      obtain ⟨he1, he2⟩ := List.mem_filter.1 he
      exact ⟨e, by simpa using he1, he2, rfl⟩
    unfold wpOp
    rw [ho]
    dsimp only
    by_cases hil : i = init.length
    · subst hil
      rw [hopl] at ho; injection ho with ho; subst ho
      have hall : ∀ j, j < init.length → listed[j]? = some true := fun j hj => hdeps j (by
        have := List.all_eq_true.1 hwl j (List.mem_range.2 hj); simpa using this)
      obtain ⟨m, hm, hact⟩ := endA_run (hend w hw) hI.base fun j o' ho' => by
        rw [Nat.zero_add]
        exact hI.vals j o' ho' (hall j (List.getElem?_eq_some_iff.1 ho').1)
      have hwant : Region.wanted ol (yielded ops a.tmps) = true := by simp [Region.wanted, hgl]
      rw [if_pos hwant]
      refine Or.inl (hact.out a hm _ _ fun v w' hZ => ?_)
      have hq := hZ.out _ (hm.putD hdl v)
      have hr : Region.ready .any ops (listed.setIfInBounds init.length true) = [] := ready_none fun j hj => by
        by_cases hjl : j = init.length
        · subst hjl; simp [hlt0]
        · rw [Array.getElem?_setIfInBounds_ne (fun e => hjl e.symm)]; exact hall j (by omega)
      cases fuel with
      | zero => exact ⟨hr, hq⟩
      | succ f => exact ⟨fun _ => hq, by rw [hr]; simp⟩
    · have hii : i < init.length := by have := (Array.getElem?_eq_some_iff.1 ho).1; omega
      have hoi : init[i]? = some init[i] := List.getElem?_eq_getElem hii
      have := hops _ _ hoi
      rw [ho] at this; injection this with this
      rw [← this] at hoi
      obtain ⟨d, hd⟩ := anyOk_at hok hoi
      have hs := steps_at hst hoi w hw
      rw [Nat.zero_add] at hs
      obtain ⟨m, hm, hact⟩ := dep_run hs hI.base fun j hj d' hd' => by
        have hjl : j < init.length := by have := hd.deps _ hj; omega
        have hoe : init[j]? = some init[j] := List.getElem?_eq_getElem hjl
        obtain ⟨d2, v, h3, h4, h5⟩ := hI.vals j _ hoe (hdeps j hj)
        rw [hops _ _ hoe, Option.bind_some, h3] at hd'
        injection hd' with hd'; subst hd'
        exact ⟨v, h4, h5⟩
      have hwant : Region.wanted o (yielded ops a.tmps) = true := by simp [Region.wanted, hd.guard]
      rw [if_pos hwant]
      refine Or.inl (hact.out a hm _ _ fun v w' hZ => ih _ _ w' (grow_trans hw hZ.1) ?_ ?_)
      · rw [hd.dst]
        have hdn : d < a.tmps.size := by rw [hI.base.1]; exact hd.lt
        refine ⟨by simpa using hI.size, by rw [Array.getElem?_setIfInBounds_ne hil]; exact hI.last, hI.base.keep hd.base v, fun k o' hk hlk => ?_⟩
        by_cases hki : k = i
        · subst hki
          rw [hoi] at hk; injection hk with hk; subst hk
          exact ⟨d, v, hd.dst, by simp [Act.put, hdn], hZ.2⟩
        · have hlk2 : listed[k]? = some true := by rwa [Array.getElem?_setIfInBounds_ne (fun e => hki e.symm)] at hlk
          obtain ⟨d2, v2, h3, h4, h5⟩ := hI.vals k o' hk hlk2
          refine ⟨d2, v2, h3, ?_, hmono k v2 w w' h5 hZ.1⟩
          have hne : d ≠ d2 := fun e => hki (hd.one k o' hk (by rw [h3, e]))
          simp only [Act.put]
          rw [Array.getElem?_setIfInBounds_ne hne]; exact h4
      · have h2 : (listed.setIfInBounds i true).toList = listed.toList.set i true := by simp
        rw [h2, List.count_set (by simpa using hlt)]
        have hin : false ∈ listed.toList := by rw [← hli]; simp
        have h4 := List.count_pos_iff.2 hin
        have h3 : listed.toList[i]'(by simpa using hlt) = false := by simpa using hli
        rw [h3]
        rw [if_pos (by rfl), if_neg (by simp)]
        omega
theorem cw_any1 {i : Nat} {w : World} {init : List Oper} {ol : Oper} (Φ : Nat → Value → World → Prop) (hm : P.follows .mixedOrders = true) (hsz : ops.toList = init ++ [ol]) (hok : anyOk n (l.map (·.1)) init 0 [] = true) (hwl : (List.range init.length).all (fun i => (depsOf ol).contains i) = true) (hdo : (depsOf ol).all (fun j => Nat.blt j init.length) = true) (hgl : ol.guard = none) (hdl : inD ol.dst n = true) (hmono : ∀ i v w w', Φ i v w → Below w.heap.size w w' → Φ i v w') (hst : StepsL P n ops l Φ w init 0) (hend : ∀ w', Below w.heap.size w w' → EndA P n Q Φ w' ol init 0 l) : CW P n (.region i ops true) Q l w := ⟨fun a ha =>
  wp_region_any hm (any_run1 (W := w) hsz hok hwl hdo hgl hdl hmono hst hend _ _ a _ (below_drew w) ⟨by simp, by
    have hosz : ops.size = init.length + 1 := by rw [← Array.length_toList, hsz]; simp
    rw [Array.getElem?_replicate, if_pos (by omega)], ha, fun i o ho hl => by
    simp [Array.getElem?_replicate] at hl⟩ (by simp))⟩
end

def remOk (n : Nat) (ops : Array Oper) (ks : List Nat) (listed : Array Bool) : List (Nat × List Nat) → List Nat → List Nat → Bool
  | [], _, _ => true
  | (i, us) :: r, done, ds => match ops[i]? with
    | some o => match o.guard, o.dst with
      | none, some d => Nat.blt d n && (!ds.contains d && (!ks.contains d && (!listed.getD i true && ((depsOf o).all (fun j => listed.getD j false || done.contains j) && (us.all (fun j => done.contains j && (depsOf o).contains j) && remOk n ops ks listed r (i :: done) (d :: ds))))))
      | _, _ => false
    | none => false
structure RemOp (n : Nat) (ops : Array Oper) (ks : List Nat) (listed : Array Bool) (rem : List (Nat × List Nat)) (ds : List Nat) (i : Nat) (us : List Nat) (o : Oper) (d : Nat) : Prop where
  at_ : ops[i]? = some o
  guard : o.guard = none
  dst : o.dst = some d
  lt : d < n
  base : d ∉ ks
  old : d ∉ ds
  open_ : listed.getD i true = false
  uses : ∀ j ∈ us, j ∈ depsOf o
  one : ∀ j vs o', (j, vs) ∈ rem → ops[j]? = some o' → o'.dst = some d → j = i
theorem rem_at {n : Nat} {ops : Array Oper} {ks : List Nat} {listed : Array Bool} : ∀ {rem : List (Nat × List Nat)} {done ds : List Nat}, remOk n ops ks listed rem done ds = true → ∀ {i : Nat} {us : List Nat}, (i, us) ∈ rem → ∃ o d, RemOp n ops ks listed rem ds i us o d
  | [], _, _, _, i, us, h => by cases h
  | (i1, us1) :: r, done, ds, h, i, us, hm => by
    unfold remOk at h
    cases ho : ops[i1]? with
    | none => rw [ho] at h; cases h
    | some o1 =>
      cases hg : o1.guard with
      | some g => rw [ho] at h; dsimp only at h; rw [hg] at h; cases h
      | none =>
        cases hd : o1.dst with
        | none => rw [ho] at h; dsimp only at h; rw [hg, hd] at h; cases h
        | some d1 =>
          rw [ho] at h; dsimp only at h; rw [hg, hd] at h
          simp only [Bool.and_eq_true, Bool.not_eq_true', List.all_eq_true, Nat.blt_eq] at h
          obtain ⟨h1, h2, h3, h4, h5, h6, h7⟩ := h
          have hds : d1 ∉ ds := by simpa using h2
          have hks : d1 ∉ ks := by simpa using h3
          have honly : ∀ j vs o', (j, vs) ∈ r → ops[j]? = some o' → o'.dst ≠ some d1 := fun j vs o' hj ho' hd' => by
            obtain ⟨o2, d2, h8⟩ := rem_at h7 hj
            have := h8.at_; rw [ho'] at this; injection this with this; subst this
            have := h8.dst; rw [hd'] at this; injection this with this; subst this
            exact h8.old (List.mem_cons_self ..)
          rcases List.mem_cons.1 hm with hm | hm
          · injection hm with e1 e2; subst e1 e2
            refine ⟨o1, d1, ho, hg, hd, h1, hks, hds, h4, fun j hj => by simpa using (h6 j hj).2, fun j vs o' hj ho' hd' => ?_⟩
            rcases List.mem_cons.1 hj with hj | hj
            · injection hj
            · exact absurd hd' (honly j vs o' hj ho')
          · obtain ⟨o2, d2, h8⟩ := rem_at h7 hm
            refine ⟨o2, d2, h8.at_, h8.guard, h8.dst, h8.lt, h8.base, fun hx => h8.old (List.mem_cons_of_mem _ hx), h8.open_, h8.uses, fun j vs o' hj ho' hd' => ?_⟩
            rcases List.mem_cons.1 hj with hj | hj
            · injection hj with e1 e2; subst e1 e2
              rw [ho] at ho'; injection ho' with ho'; subst ho'
              rw [hd] at hd'; injection hd' with hd'; subst hd'
              exact absurd (List.mem_cons_self ..) h8.old
            · exact h8.one j vs o' hj ho' hd'
theorem rem_listed {n : Nat} {ops : Array Oper} {ks : List Nat} {listed cur : Array Bool} (hsz : cur.size = ops.size) (hmono : ∀ j, listed.getD j false = true → cur.getD j false = true) (hr : Region.ready .any ops cur = []) : ∀ {rem : List (Nat × List Nat)} {done ds : List Nat}, remOk n ops ks listed rem done ds = true → (∀ j ∈ done, cur.getD j false = true) → ∀ {i : Nat} {us : List Nat}, (i, us) ∈ rem → cur.getD i false = true
  | [], _, _, _, _, i, us, h => by cases h
  | (i1, us1) :: r, done, ds, h, hdn, i, us, hm => by
    obtain ⟨o, d, h8⟩ := rem_at h (List.mem_cons_self ..)
    have hi1 : cur.getD i1 false = true := by
      cases hc : cur.getD i1 false with
      | true => rfl
      | false =>
        exfalso
        have hlt : i1 < cur.size := by rw [hsz]; exact (Array.getElem?_eq_some_iff.1 h8.at_).1
        have hm1 : i1 ∈ Region.ready .any ops cur := mem_ready.2 ⟨by simpa [hlt] using hc, o, h8.at_, fun e he hb => by
          have hj : e.on ∈ depsOf o := List.mem_map.2 ⟨e, List.mem_filter.2 ⟨by simpa using he, hb⟩, rfl⟩
          unfold remOk at h
          rw [h8.at_] at h; dsimp only at h; rw [h8.guard, h8.dst] at h
          simp only [Bool.and_eq_true, List.all_eq_true, Bool.or_eq_true] at h
          rcases h.2.2.2.2.1 e.on hj with h9 | h9
          · exact hmono _ h9
          · exact hdn _ (by simpa using h9)⟩
        rw [hr] at hm1; cases hm1
    rcases List.mem_cons.1 hm with hm | hm
    · injection hm with e1 e2; subst e1; exact hi1
    · have h' := h
      unfold remOk at h'
      rw [h8.at_] at h'; dsimp only at h'; rw [h8.guard, h8.dst] at h'
      simp only [Bool.and_eq_true] at h'
      exact rem_listed hsz hmono hr h'.2.2.2.2.2.2 (fun j hj => by
        rcases List.mem_cons.1 hj with rfl | hj
        · exact hi1
        · exact hdn j hj) hm
section
variable {P : Program} {n : Nat} {ops : Array Oper} {Q : Exit → Act → World → Prop} {l : Fr} {Φ : Nat → Value → World → Prop} {S : World → Prop}
def StepsR (P : Program) (n : Nat) (ops : Array Oper) (l : Fr) (Φ : Nat → Value → World → Prop) (S : World → Prop) (rem : List (Nat × List Nat)) : Prop := ∀ i us o, (i, us) ∈ rem → ops[i]? = some o → ∀ w, S w → DepStep P n ops Φ o w (fun v w' => S w' ∧ Below w.heap.size w w' ∧ Φ i v w') us l
theorem stepsR_nil : StepsR P n ops l Φ S [] := fun _ _ _ h => by cases h
theorem stepsR_cons {i : Nat} {us : List Nat} {r : List (Nat × List Nat)} {o : Oper} (ho : ops[i]? = some o) (h1 : ∀ w, S w → DepStep P n ops Φ o w (fun v w' => S w' ∧ Below w.heap.size w w' ∧ Φ i v w') us l) (h2 : StepsR P n ops l Φ S r) : StepsR P n ops l Φ S ((i, us) :: r) := fun j vs o' hm ho' => by
  rcases List.mem_cons.1 hm with hm | hm
  · injection hm with e1 e2; subst e1 e2
    rw [ho] at ho'; injection ho' with ho'; subst ho'; exact h1
  · exact h2 j vs o' hm ho'
theorem depStep_nil {o : Oper} {w : World} {Z : Value → World → Prop} {m : Fr} (h : Act1 P n m o w Z) : DepStep P n ops Φ o w Z [] m := h
theorem depStep_cons {o : Oper} {w : World} {Z : Value → World → Prop} {j d : Nat} {r : List Nat} {m : Fr} (hd : (ops[j]?).bind (·.dst) = some d) (h : ∀ v, Φ j v w → DepStep P n ops Φ o w Z r ((d, v) :: m)) : DepStep P n ops Φ o w Z (j :: r) m := by
  unfold DepStep; rw [hd]; exact h
def EndR (P : Program) (n : Nat) (ops : Array Oper) (Q : Exit → Act → World → Prop) (S : World → Prop) (Φ : Nat → Value → World → Prop) (w : World) (ol : Oper) : List Nat → Fr → Prop
  | [], m => Act1 P n m ol w fun v w' => S w' ∧ QW n Q .normal (putD ol.dst v m) w'
  | i :: r, m => ∀ d v, (ops[i]?).bind (·.dst) = some d → Φ i v w → EndR P n ops Q S Φ w ol r ((d, v) :: m)
theorem endR_nil {w : World} {ol : Oper} {m : Fr} (h : Act1 P n m ol w fun v w' => S w' ∧ QW n Q .normal (putD ol.dst v m) w') : EndR P n ops Q S Φ w ol [] m := h
theorem endR_cons {w : World} {ol : Oper} {i d : Nat} {r : List Nat} {m : Fr} (hd : (ops[i]?).bind (·.dst) = some d) (h : ∀ v, Φ i v w → EndR P n ops Q S Φ w ol r ((d, v) :: m)) : EndR P n ops Q S Φ w ol (i :: r) m := fun d' v hd' hv => by
  rw [hd] at hd'; injection hd' with hd'; subst hd'; exact h v hv
theorem endR_run {w : World} {a : Act} {ol : Oper} : ∀ {js : List Nat} {m : Fr}, EndR P n ops Q S Φ w ol js m → Holds n m a → (∀ j ∈ js, ∃ d v, (ops[j]?).bind (·.dst) = some d ∧ a.tmps[d]? = some v ∧ Φ j v w) → ∃ m', Holds n m' a ∧ Act1 P n m' ol w fun v w' => S w' ∧ QW n Q .normal (putD ol.dst v m') w'
  | [], m, h, hm, _ => ⟨m, hm, h⟩
  | j :: r, m, h, hm, hv => by
    obtain ⟨d, v, h1, h2, h3⟩ := hv j (List.mem_cons_self ..)
    exact endR_run (h d v h1 h3) (hm.add h2) fun k hk => hv k (List.mem_cons_of_mem _ hk)
structure AnyK (n : Nat) (ops : Array Oper) (rem : List (Nat × List Nat)) (f : Nat) (listed : Array Bool) (l : Fr) (Φ : Nat → Value → World → Prop) (cur : Array Bool) (a : Act) (w : World) : Prop where
  size : cur.size = ops.size
  mono : ∀ j, listed.getD j false = true → cur.getD j false = true
  last : cur.getD f true = false
  base : Holds n l a
  vals : ∀ i us, (i, us) ∈ rem → cur.getD i false = true → ∃ d v, (ops[i]?).bind (·.dst) = some d ∧ a.tmps[d]? = some v ∧ Φ i v w
theorem mem_idx {rem : List (Nat × List Nat)} {j : Nat} (h : (rem.map (·.1)).contains j = true) : ∃ us, (j, us) ∈ rem := by
  have h1 : j ∈ rem.map (·.1) := by simpa using h
  obtain ⟨⟨i, us⟩, h2, h3⟩ := List.mem_map.1 h1
  exact ⟨us, by subst h3; exact h2⟩
theorem any_runR {rem : List (Nat × List Nat)} {f : Nat} {listed : Array Bool} {ol : Oper} {endL : List Nat} (hok : remOk n ops (l.map (·.1)) listed rem [] [] = true) (hf : ops[f]? = some ol) (hgl : ol.guard = none) (hdl : inD ol.dst n = true) (hoth : (List.range ops.size).all (fun j => listed.getD j false || (Nat.beq j f || (rem.map (·.1)).contains j)) = true) (hfd : (depsOf ol).all (fun j => listed.getD j false || (rem.map (·.1)).contains j) = true) (hfw : rem.all (fun p => (depsOf ol).contains p.1) = true) (hus : rem.all (fun p => p.2.all (fun j => (rem.map (·.1)).contains j)) = true) (hel : endL.all (fun j => (rem.map (·.1)).contains j) = true)
    (hmono : ∀ i v w w', Φ i v w → Below w.heap.size w w' → Φ i v w') (hst : StepsR P n ops l Φ S rem) (hend : ∀ w, S w → EndR P n ops Q S Φ w ol endL l) :
    ∀ (fuel : Nat) (cur : Array Bool) (a : Act) (w : World), S w → AnyK n ops rem f listed l Φ cur a w → cur.toList.count false ≤ fuel → wpAnyH P .any ops Q S fuel cur a w := by
  intro fuel
  induction fuel with
  | zero =>
    intro cur a w hS hI hc
    exfalso
    have hlt : f < cur.size := by rw [hI.size]; exact (Array.getElem?_eq_some_iff.1 hf).1
    have h1 : cur[f] = false := by have := hI.last; simpa [hlt] using this
    have hin : false ∈ cur.toList := by rw [← h1]; simp
    have := List.count_pos_iff.2 hin
    omega
  | succ fuel ih =>
    intro cur a w hS hI hc
    have hstuck : Region.ready .any ops cur ≠ [] := fun hr => by
      have hall := fun {i us} => rem_listed (i := i) (us := us) hI.size hI.mono hr hok (by intro j hj; cases hj)
      have hm : f ∈ Region.ready .any ops cur := mem_ready.2 ⟨hI.last, ol, hf, fun e he hb => by
        have hj : e.on ∈ depsOf ol := List.mem_map.2 ⟨e, List.mem_filter.2 ⟨by simpa using he, hb⟩, rfl⟩
        rcases (Bool.or_eq_true _ _).mp (List.all_eq_true.1 hfd _ hj) with h | h
        · exact hI.mono _ h
        · obtain ⟨us, hm⟩ := mem_idx h
          exact hall hm⟩
      rw [hr] at hm; cases hm
    refine ⟨fun hr => absurd hr hstuck, fun i hi => ?_⟩
    obtain ⟨h1, o, ho, hdep⟩ := mem_ready.1 hi
    have hosz : i < ops.size := (Array.getElem?_eq_some_iff.1 ho).1
    have hlt : i < cur.size := by rw [hI.size]; exact hosz
    have hli : cur[i] = false := by simpa [hlt] using h1
    have hdeps : ∀ j ∈ depsOf o, cur.getD j false = true := fun j hj => by
      obtain ⟨e, he, rfl⟩ := List.mem_map.1 hj
      obtain ⟨he1, he2⟩ := List.mem_filter.1 he
      exact hdep e (by simpa using he1) he2
    unfold wpOp
    rw [ho]
    dsimp only
    by_cases hif : i = f
    · subst hif
      rw [hf] at ho; injection ho with ho; subst ho
      have hrem : ∀ j us, (j, us) ∈ rem → cur.getD j false = true := fun j us hm => hdeps j (by
        have := List.all_eq_true.1 hfw _ hm; simpa using this)
      obtain ⟨m, hm, hact⟩ := endR_run (hend w hS) hI.base fun j hj => by
        obtain ⟨us, hm⟩ := mem_idx (List.all_eq_true.1 hel j hj)
        exact hI.vals j us hm (hrem j us hm)
      have hwant : Region.wanted ol (yielded ops a.tmps) = true := by simp [Region.wanted, hgl]
      rw [if_pos hwant]
      refine Or.inl (hact.out a hm _ _ fun v w' hZ => ⟨hZ.1, ?_⟩)
      have hq := hZ.2.out _ (hm.putD hdl v)
      refine wpAnyH_done (ready_none fun j hj => ?_) hq _
      by_cases hjl : j = i
      · subst hjl; simp [hlt]
      · rw [Array.getElem?_setIfInBounds_ne (fun e => hjl e.symm)]
        have hjc : j < cur.size := by rw [hI.size]; exact hj
        have h5 : cur.getD j false = true := by
          rcases (Bool.or_eq_true _ _).mp (List.all_eq_true.1 hoth j (List.mem_range.2 hj)) with h | h
          · exact hI.mono _ h
          · rcases (Bool.or_eq_true _ _).mp h with h | h
            · exact absurd (Nat.eq_of_beq_eq_true h) hjl
            · obtain ⟨us, hm⟩ := mem_idx h
              exact hrem j us hm
        rw [Array.getElem?_eq_getElem hjc]; simpa [hjc] using h5
    · obtain ⟨us, hmr⟩ : ∃ us, (i, us) ∈ rem := by
        rcases (Bool.or_eq_true _ _).mp (List.all_eq_true.1 hoth i (List.mem_range.2 hosz)) with h | h
        · have := hI.mono _ h
          simp [hlt, hli] at this
        · rcases (Bool.or_eq_true _ _).mp h with h | h
          · exact absurd (Nat.eq_of_beq_eq_true h) hif
          · exact mem_idx h
      obtain ⟨o', d, h8⟩ := rem_at hok hmr
      have := h8.at_; rw [ho] at this; injection this with this; subst this
      obtain ⟨m, hm, hact⟩ := dep_run (hst i us o hmr ho w hS) hI.base fun j hj d' hd' => by
        obtain ⟨vs, hjm⟩ := mem_idx (List.all_eq_true.1 (List.all_eq_true.1 hus _ hmr) j hj)
        obtain ⟨d2, v, h3, h4, h5⟩ := hI.vals j vs hjm (hdeps j (h8.uses j hj))
        rw [h3] at hd'; injection hd' with hd'; subst hd'
        exact ⟨v, h4, h5⟩
      have hwant : Region.wanted o (yielded ops a.tmps) = true := by simp [Region.wanted, h8.guard]
      rw [if_pos hwant]
      refine Or.inl (hact.out a hm _ _ fun v w' hZ => ⟨hZ.1, ih _ _ w' hZ.1 ?_ ?_⟩)
      · rw [h8.dst]
        have hdn : d < a.tmps.size := by rw [hI.base.1]; exact h8.lt
        refine ⟨by simpa using hI.size, fun j hj => getD_set_true (hI.mono j hj), by rw [getD_set_ne true hif]; exact hI.last, hI.base.keep h8.base v, fun k vs hk hlk => ?_⟩
        by_cases hki : k = i
        · subst hki
          exact ⟨d, v, by rw [ho]; exact h8.dst, by simp [Act.put, hdn], hZ.2.2⟩
        · rw [getD_set_ne false (fun e => hki e.symm)] at hlk
          obtain ⟨d2, v2, h3, h4, h5⟩ := hI.vals k vs hk hlk
          refine ⟨d2, v2, h3, ?_, hmono k v2 w w' h5 hZ.2.1⟩
          have hne : d ≠ d2 := fun e => by
            subst e
            cases hok2 : ops[k]? with
            | none => rw [hok2] at h3; cases h3
            | some ok => exact hki (h8.one k vs ok hk hok2 (by rw [hok2] at h3; exact h3))
          simp only [Act.put]
          rw [Array.getElem?_setIfInBounds_ne hne]; exact h4
      · have h2 : (cur.setIfInBounds i true).toList = cur.toList.set i true := by simp
        rw [h2, List.count_set (by simpa using hlt)]
        have hin : false ∈ cur.toList := by rw [← hli]; simp
        have h4 := List.count_pos_iff.2 hin
        have h3 : cur.toList[i]'(by simpa using hlt) = false := by simpa using hli
        rw [h3]
        rw [if_pos (by rfl), if_neg (by simp)]
        omega
theorem aw_any {w : World} {fuel : Nat} {listed : Array Bool} (rem : List (Nat × List Nat)) (f : Nat) (endL : List Nat) {ol : Oper} (Φ : Nat → Value → World → Prop) (hf : ops[f]? = some ol) (hok : remOk n ops (l.map (·.1)) listed rem [] [] = true) (hgl : ol.guard = none) (hdl : inD ol.dst n = true) (hoth : (List.range ops.size).all (fun j => listed.getD j false || (Nat.beq j f || (rem.map (·.1)).contains j)) = true) (hfd : (depsOf ol).all (fun j => listed.getD j false || (rem.map (·.1)).contains j) = true) (hfw : rem.all (fun p => (depsOf ol).contains p.1) = true) (hus : rem.all (fun p => p.2.all (fun j => (rem.map (·.1)).contains j)) = true) (hel : endL.all (fun j => (rem.map (·.1)).contains j) = true) (hls : Nat.beq listed.size ops.size = true) (hlf : listed.getD f true = false) (hlr : rem.all (fun p => !listed.getD p.1 false) = true) (hc : Nat.ble (listed.toList.count false) fuel = true) (hS : S w)
    (hmono : ∀ i v w w', Φ i v w → Below w.heap.size w w' → Φ i v w') (hst : StepsR P n ops l Φ S rem) (hend : ∀ w, S w → EndR P n ops Q S Φ w ol endL l) : AW P n ops Q S fuel listed l w := ⟨fun a ha =>
  any_runR hok hf hgl hdl hoth hfd hfw hus hel hmono hst hend fuel listed a w hS ⟨Nat.eq_of_beq_eq_true hls, fun _ h => h, hlf, ha, fun i us hm hl => by
    have := List.all_eq_true.1 hlr _ hm
    rw [Bool.not_eq_true'] at this
    rw [hl] at this; cases this⟩ (by simpa [Nat.ble_eq] using hc)⟩
end

def waitsZ (ops : Array Oper) : Nat → Nat → Nat → Bool
  | 0, _, _ => false
  | m + 1, f, i => match ops[f]? with
    | some o => o.after.toList.any fun e => Region.binds .any e && (Nat.beq e.on i || waitsZ ops m e.on i)
    | none => false
def ClosedZ (ops : Array Oper) (listed : Array Bool) : Prop := ∀ (j : Nat) (o : Oper), ops[j]? = some o → listed.getD j false = true → ∀ e ∈ o.after, Region.binds .any e = true → listed.getD e.on false = true
def closedZ (ops : Array Oper) (listed : Array Bool) : Bool := (List.range ops.size).all fun j => match ops[j]? with
  | some o => !listed.getD j false || o.after.toList.all fun e => !Region.binds .any e || listed.getD e.on false
  | none => true
theorem closedZ_of {ops : Array Oper} {listed : Array Bool} (h : closedZ ops listed = true) : ClosedZ ops listed := fun j o ho hl e he hb => by
  have hj : j < ops.size := (Array.getElem?_eq_some_iff.1 ho).1
  have h1 := List.all_eq_true.1 h j (List.mem_range.2 hj)
  rw [ho] at h1
  dsimp only at h1
  rw [hl] at h1
  simp only [Bool.not_true, Bool.false_or] at h1
  have h2 := List.all_eq_true.1 h1 e (by simpa using he)
  rw [hb] at h2
  simpa using h2
theorem ClosedZ.step {ops : Array Oper} {listed : Array Bool} (h : ClosedZ ops listed) {i : Nat} (hi : i ∈ Region.ready .any ops listed) : ClosedZ ops (listed.setIfInBounds i true) := fun j o ho hl e he hb => by
  by_cases hij : i = j
  · subst hij
    obtain ⟨_, o', ho', hall⟩ := mem_ready.1 hi
    rw [ho] at ho'; injection ho' with ho'; subst ho'
    exact getD_set_true (hall e he hb)
  · rw [getD_set_ne false hij] at hl
    exact getD_set_true (h j o ho hl e he hb)
theorem waitsZ_listed {ops : Array Oper} {listed : Array Bool} (hc : ClosedZ ops listed) : ∀ {m f i : Nat}, waitsZ ops m f i = true → (∀ o, ops[f]? = some o → ∀ e ∈ o.after, Region.binds .any e = true → listed.getD e.on false = true) → listed.getD i false = true
  | 0, _, _, h, _ => by cases h
  | m + 1, f, i, h, hf => by
    unfold waitsZ at h
    cases ho : ops[f]? with
    | none => rw [ho] at h; cases h
    | some o =>
      rw [ho] at h
      rw [List.any_eq_true] at h
      obtain ⟨e, he, h2⟩ := h
      rw [Bool.and_eq_true] at h2
      have hl := hf o ho e (by simpa using he) h2.1
      rcases (Bool.or_eq_true _ _).mp h2.2 with h3 | h3
      · rw [← Nat.eq_of_beq_eq_true h3]; exact hl
      · exact waitsZ_listed hc h3 fun o' ho' e' he' hb' => hc e.on o' ho' hl e' he' hb'
section
variable {P : Program} {n : Nat} {ops : Array Oper} {Q : Exit → Act → World → Prop} {l : Fr} {Φ : Nat → Value → World → Prop} {S : World → Prop}
theorem any_runZ {rem : List (Nat × List Nat)} {f : Nat} {listed : Array Bool} {ol : Oper} {endL : List Nat} (hok : remOk n ops (l.map (·.1)) listed rem [] [] = true) (hf : ops[f]? = some ol) (hgl : ol.guard = none) (hdl : inD ol.dst n = true) (hoth : (List.range ops.size).all (fun j => listed.getD j false || (Nat.beq j f || (rem.map (·.1)).contains j)) = true) (hfd : (depsOf ol).all (fun j => listed.getD j false || (rem.map (·.1)).contains j) = true) (hfw : rem.all (fun p => waitsZ ops 200 f p.1) = true) (hus : rem.all (fun p => p.2.all (fun j => (rem.map (·.1)).contains j)) = true) (hel : endL.all (fun j => (rem.map (·.1)).contains j) = true)
    (hmono : ∀ i v w w', Φ i v w → Below w.heap.size w w' → Φ i v w') (hst : StepsR P n ops l Φ S rem) (hend : ∀ w, S w → EndR P n ops Q S Φ w ol endL l) :
    ∀ (fuel : Nat) (cur : Array Bool) (a : Act) (w : World), S w → AnyK n ops rem f listed l Φ cur a w → ClosedZ ops cur → cur.toList.count false ≤ fuel → wpAnyH P .any ops Q S fuel cur a w := by
  intro fuel
  induction fuel with
  | zero =>
    intro cur a w hS hI _ hc
    exfalso
    have hlt : f < cur.size := by rw [hI.size]; exact (Array.getElem?_eq_some_iff.1 hf).1
    have h1 : cur[f] = false := by have := hI.last; simpa [hlt] using this
    have hin : false ∈ cur.toList := by rw [← h1]; simp
    have := List.count_pos_iff.2 hin
    omega
  | succ fuel ih =>
    intro cur a w hS hI hcl hc
    have hstuck : Region.ready .any ops cur ≠ [] := fun hr => by
      have hall := fun {i us} => rem_listed (i := i) (us := us) hI.size hI.mono hr hok (by intro j hj; cases hj)
      have hm : f ∈ Region.ready .any ops cur := mem_ready.2 ⟨hI.last, ol, hf, fun e he hb => by
        have hj : e.on ∈ depsOf ol := List.mem_map.2 ⟨e, List.mem_filter.2 ⟨by simpa using he, hb⟩, rfl⟩
        rcases (Bool.or_eq_true _ _).mp (List.all_eq_true.1 hfd _ hj) with h | h
        · exact hI.mono _ h
        · obtain ⟨us, hm⟩ := mem_idx h
          exact hall hm⟩
      rw [hr] at hm; cases hm
    refine ⟨fun hr => absurd hr hstuck, fun i hi => ?_⟩
    obtain ⟨h1, o, ho, hdep⟩ := mem_ready.1 hi
    have hosz : i < ops.size := (Array.getElem?_eq_some_iff.1 ho).1
    have hlt : i < cur.size := by rw [hI.size]; exact hosz
    have hli : cur[i] = false := by simpa [hlt] using h1
    have hdeps : ∀ j ∈ depsOf o, cur.getD j false = true := fun j hj => by
      obtain ⟨e, he, rfl⟩ := List.mem_map.1 hj
      obtain ⟨he1, he2⟩ := List.mem_filter.1 he
      exact hdep e (by simpa using he1) he2
    unfold wpOp
    rw [ho]
    dsimp only
    by_cases hif : i = f
    · subst hif
      rw [hf] at ho; injection ho with ho; subst ho
      have hrem : ∀ j us, (j, us) ∈ rem → cur.getD j false = true := fun j us hm => waitsZ_listed hcl (List.all_eq_true.1 hfw _ hm) fun o' ho' e he hb => by
        rw [hf] at ho'; injection ho' with ho'; subst ho'
        exact hdep e he hb
      obtain ⟨m, hm, hact⟩ := endR_run (hend w hS) hI.base fun j hj => by
        obtain ⟨us, hm⟩ := mem_idx (List.all_eq_true.1 hel j hj)
        exact hI.vals j us hm (hrem j us hm)
      have hwant : Region.wanted ol (yielded ops a.tmps) = true := by simp [Region.wanted, hgl]
      rw [if_pos hwant]
      refine Or.inl (hact.out a hm _ _ fun v w' hZ => ⟨hZ.1, ?_⟩)
      have hq := hZ.2.out _ (hm.putD hdl v)
      refine wpAnyH_done (ready_none fun j hj => ?_) hq _
      by_cases hjl : j = i
      · subst hjl; simp [hlt]
      · rw [Array.getElem?_setIfInBounds_ne (fun e => hjl e.symm)]
        have hjc : j < cur.size := by rw [hI.size]; exact hj
        have h5 : cur.getD j false = true := by
          rcases (Bool.or_eq_true _ _).mp (List.all_eq_true.1 hoth j (List.mem_range.2 hj)) with h | h
          · exact hI.mono _ h
          · rcases (Bool.or_eq_true _ _).mp h with h | h
            · exact absurd (Nat.eq_of_beq_eq_true h) hjl
            · obtain ⟨us, hm⟩ := mem_idx h
              exact hrem j us hm
        rw [Array.getElem?_eq_getElem hjc]; simpa [hjc] using h5
    · obtain ⟨us, hmr⟩ : ∃ us, (i, us) ∈ rem := by
        rcases (Bool.or_eq_true _ _).mp (List.all_eq_true.1 hoth i (List.mem_range.2 hosz)) with h | h
        · have := hI.mono _ h
          simp [hlt, hli] at this
        · rcases (Bool.or_eq_true _ _).mp h with h | h
          · exact absurd (Nat.eq_of_beq_eq_true h) hif
          · exact mem_idx h
      obtain ⟨o', d, h8⟩ := rem_at hok hmr
      have := h8.at_; rw [ho] at this; injection this with this; subst this
      obtain ⟨m, hm, hact⟩ := dep_run (hst i us o hmr ho w hS) hI.base fun j hj d' hd' => by
        obtain ⟨vs, hjm⟩ := mem_idx (List.all_eq_true.1 (List.all_eq_true.1 hus _ hmr) j hj)
        obtain ⟨d2, v, h3, h4, h5⟩ := hI.vals j vs hjm (hdeps j (h8.uses j hj))
        rw [h3] at hd'; injection hd' with hd'; subst hd'
        exact ⟨v, h4, h5⟩
      have hwant : Region.wanted o (yielded ops a.tmps) = true := by simp [Region.wanted, h8.guard]
      rw [if_pos hwant]
      refine Or.inl (hact.out a hm _ _ fun v w' hZ => ⟨hZ.1, ih _ _ w' hZ.1 ?_ (hcl.step hi) ?_⟩)
      · rw [h8.dst]
        have hdn : d < a.tmps.size := by rw [hI.base.1]; exact h8.lt
        refine ⟨by simpa using hI.size, fun j hj => getD_set_true (hI.mono j hj), by rw [getD_set_ne true hif]; exact hI.last, hI.base.keep h8.base v, fun k vs hk hlk => ?_⟩
        by_cases hki : k = i
        · subst hki
          exact ⟨d, v, by rw [ho]; exact h8.dst, by simp [Act.put, hdn], hZ.2.2⟩
        · rw [getD_set_ne false (fun e => hki e.symm)] at hlk
          obtain ⟨d2, v2, h3, h4, h5⟩ := hI.vals k vs hk hlk
          refine ⟨d2, v2, h3, ?_, hmono k v2 w w' h5 hZ.2.1⟩
          have hne : d ≠ d2 := fun e => by
            subst e
            cases hok2 : ops[k]? with
            | none => rw [hok2] at h3; cases h3
            | some ok => exact hki (h8.one k vs ok hk hok2 (by rw [hok2] at h3; exact h3))
          simp only [Act.put]
          rw [Array.getElem?_setIfInBounds_ne hne]; exact h4
      · have h2 : (cur.setIfInBounds i true).toList = cur.toList.set i true := by simp
        rw [h2, List.count_set (by simpa using hlt)]
        have hin : false ∈ cur.toList := by rw [← hli]; simp
        have h4 := List.count_pos_iff.2 hin
        have h3 : cur.toList[i]'(by simpa using hlt) = false := by simpa using hli
        rw [h3]
        rw [if_pos (by rfl), if_neg (by simp)]
        omega
theorem aw_anyZ {w : World} {fuel : Nat} {listed : Array Bool} (rem : List (Nat × List Nat)) (f : Nat) (endL : List Nat) {ol : Oper} (Φ : Nat → Value → World → Prop) (hf : ops[f]? = some ol) (hok : remOk n ops (l.map (·.1)) listed rem [] [] = true) (hgl : ol.guard = none) (hdl : inD ol.dst n = true) (hoth : (List.range ops.size).all (fun j => listed.getD j false || (Nat.beq j f || (rem.map (·.1)).contains j)) = true) (hfd : (depsOf ol).all (fun j => listed.getD j false || (rem.map (·.1)).contains j) = true) (hfw : rem.all (fun p => waitsZ ops 200 f p.1) = true) (hus : rem.all (fun p => p.2.all (fun j => (rem.map (·.1)).contains j)) = true) (hel : endL.all (fun j => (rem.map (·.1)).contains j) = true) (hcz : closedZ ops listed = true) (hls : Nat.beq listed.size ops.size = true) (hlf : listed.getD f true = false) (hlr : rem.all (fun p => !listed.getD p.1 false) = true) (hc : Nat.ble (listed.toList.count false) fuel = true) (hS : S w)
    (hmono : ∀ i v w w', Φ i v w → Below w.heap.size w w' → Φ i v w') (hst : StepsR P n ops l Φ S rem) (hend : ∀ w, S w → EndR P n ops Q S Φ w ol endL l) : AW P n ops Q S fuel listed l w := ⟨fun a ha =>
  any_runZ hok hf hgl hdl hoth hfd hfw hus hel hmono hst hend fuel listed a w hS ⟨Nat.eq_of_beq_eq_true hls, fun _ h => h, hlf, ha, fun i us hm hl => by
    have := List.all_eq_true.1 hlr _ hm
    rw [Bool.not_eq_true'] at this
    rw [hl] at this; cases this⟩ (closedZ_of hcz) (by simpa [Nat.ble_eq] using hc)⟩
end
end Go.Proofs.YtemngicaoacfaaaGreatDoor
namespace Go.Proofs.YtemngicaoacfaaaGreatDoor
open Go.RowKit Go.PlainAid

structure NmC where
  a : Option Addr
  m : Nat
  c : Nat
abbrev encNC (r : NmC) : List Value := [.slice r.a r.m r.c]
theorem encNC_len (r : NmC) : (encNC r).length = 1 := rfl
structure FitC (w : World) (r : NmC) (t : List Pos) : Prop where
  m : t.length = r.m
  s : SlR encS 6 w r.a r.c t
theorem FitC.mono {w w' : World} {r : NmC} {t : List Pos} (h : FitC w r t) (hb : Below w.heap.size w w') : FitC w' r t := ⟨h.m, h.s.mono hb⟩
def Fits (w : World) (rs : List NmC) (ts : List (List Pos)) : Prop := rs.length = ts.length ∧ ∀ (j : Nat) r t, rs[j]? = some r → ts[j]? = some t → FitC w r t
theorem Fits.nil {w : World} : Fits w [] [] := ⟨rfl, fun j r t h _ => by simp at h⟩
theorem Fits.mono {w w' : World} {rs : List NmC} {ts : List (List Pos)} (h : Fits w rs ts) (hb : Below w.heap.size w w') : Fits w' rs ts := ⟨h.1, fun j r t h1 h2 => (h.2 j r t h1 h2).mono hb⟩
theorem Fits.snoc {w : World} {rs : List NmC} {ts : List (List Pos)} (h : Fits w rs ts) {r : NmC} {t : List Pos} (hr : FitC w r t) : Fits w (rs ++ [r]) (ts ++ [t]) := ⟨by simp [h.1], fun j q u h1 h2 => by
  by_cases hj : j < rs.length
  · rw [List.getElem?_append_left hj] at h1
    rw [List.getElem?_append_left (by rw [← h.1]; exact hj)] at h2
    exact h.2 j q u h1 h2
  · rw [List.getElem?_append_right (by omega)] at h1
    rw [List.getElem?_append_right (by rw [← h.1]; omega), ← h.1] at h2
    cases hq : j - rs.length with
    | zero => rw [hq] at h1 h2; simp at h1 h2; subst h1 h2; exact hr
    | succ q => rw [hq] at h1; simp at h1⟩
theorem elemNC : ElemT Tryz.prog 61 22 1 24 := elem_of Tryz.underlying61 (by kernel_rfl) (by omega)
abbrev nmP : Pos := (⟨1, 1, 1, 0, 0, 0⟩ : Pos)
def tblP : List (List Pos) := [[(⟨0, 1, 1, 0, 0, 0⟩ : Pos)], [(⟨65, 1, 1, 0, 0, 0⟩ : Pos)], [(⟨1, 0, 1, 0, 0, 0⟩ : Pos)], [(⟨1, 17, 1, 0, 0, 0⟩ : Pos)], [(⟨1, 1, 0, 0, 0, 0⟩ : Pos)], [(⟨1, 1, -1, 0, 0, 0⟩ : Pos)], [(⟨1, 1, 1, 4611686018427387905, 0, 0⟩ : Pos)], [(⟨1, 1, 1, 0, -1, 0⟩ : Pos)], [(⟨1, 1, 1, 0, 0, 4611686018427387905⟩ : Pos)], [(⟨1, 1, 1, 0, 0, 0⟩ : Pos), (⟨1, 1, 1, 0, 0, 0⟩ : Pos)], [(⟨2, 1, 1, 0, 0, 0⟩ : Pos), (⟨1, 1, 1, 0, 0, 0⟩ : Pos)]]
abbrev fsA : Pos := ⟨1, 1, 0, 4611686018427387902, 0, 4611686018427387904⟩
abbrev fsB : Pos := ⟨2, 1, 4611686018427387904, 0, 4611686018427387868, 0⟩
abbrev fsC : Pos := ⟨1, 1, 0, 4611686018427387904, 0, 4611686018427387904⟩
abbrev fsD : Pos := ⟨2, 1, 4611686018427387904, 0, 4611686018427387904, 0⟩
abbrev fsL : List Pos := [fsA, fsB]
theorem nmr0 : posR fsL openL [] (⟨3, 13, [1, 2, 12, 3, 1], []⟩ : Evt) = ([fsC, fsD], 0) := by kernel_rfl
theorem nmr1 : posR fsL openL [] (⟨3, 13, [1, 2, 12, 3, 37], []⟩ : Evt) = ([], 1) := by kernel_rfl
theorem nmr2 : posR fsL openL [] (⟨3, 13, [1, 9, 12, 3, 1], []⟩ : Evt) = ([], 5) := by kernel_rfl
theorem nmr3 : posR fsL openL [] (⟨3, 13, [1, 2, 12, 4, 1], []⟩ : Evt) = ([], 1) := by kernel_rfl
theorem nmr4 : posR fsL openL [] (⟨3, 13, [1, 3, 12, 1, 0], []⟩ : Evt) = ([], 1) := by kernel_rfl
theorem nmr5 : posR fsL openL [] (⟨3, 13, [2, 4, 12, 1, 0], []⟩ : Evt) = ([], 1) := by kernel_rfl
theorem nmr6 : posR fsL openL [] (⟨3, 13, [1, 5, 12, 1, 0], []⟩ : Evt) = ([], 1) := by kernel_rfl
theorem nmr7 : posR fsL [] lotsL (⟨3, 18, [7, 1, 100, 1], []⟩ : Evt) = ([], 1) := by kernel_rfl
theorem nmr8 : posR fsL [] lotsL (⟨3, 18, [7, 3, 100, 101], []⟩ : Evt) = ([], 1) := by kernel_rfl
theorem nmr9 : posR fsL [] lotsL (⟨3, 18, [8, 1, 100, 101], []⟩ : Evt) = ([], 5) := by kernel_rfl
theorem nmr10 : posR fsL [] lotsL (⟨3, 19, [99], []⟩ : Evt) = (fsL, 0) := by kernel_rfl
theorem nmr11 : posR fsL openL [] (⟨3, 11, [1, 1, 1, 1, 1, 1], []⟩ : Evt) = (fsL, 0) := by kernel_rfl
abbrev evM5 : Evt := ⟨3, 20, [5], []⟩
theorem tblP_ok : (tblP.all fun t => decide (posR t [] [] evM5 = ([], 4)) && (!mayPs t && decide (t.length ≤ 2))) = true := by kernel_rfl
theorem tblP_at {t : List Pos} (h : t ∈ tblP) : posR t [] [] evM5 = ([], 4) ∧ mayPs t = false ∧ t.length ≤ 2 := by
  have := List.all_eq_true.1 tblP_ok t h
  rw [Bool.and_eq_true, Bool.and_eq_true] at this
  exact ⟨of_decide_eq_true this.1, by simpa using this.2.1, of_decide_eq_true this.2.2⟩
set_option maxRecDepth 20000 in
theorem chg0_c (N : Nat) (w : World) (h : PT w N 39 (encS nmP)) : Calls Tryz.prog 25 #[.pointer (some ⟨N, 0, none⟩)] w fun e w' => e = .returned (.tuple #[]) ∧ PT w' N 39 (encS (⟨0, 1, 1, 0, 0, 0⟩ : Pos)) ∧ w.grownBy w' (some N) := by
  have hw := Below.refl w.heap.size w
  refine fn_enter 5 Tryz.func25 rfl rfl rfl ?_
  repeat' (first | (refine lw_pure rfl (pv_move rfl) ?_) | (refine lw_pure rfl (pv_assign rfl) ?_) | (refine is_cw ?_; first | (refine cw_region ?_) | (refine cw_ret ?_)) | (refine is_qw ?_; first | (with_reducible refine qw_then ?_) | (with_reducible refine qw_then_ret ?_)) | (refine lw_nil ?_) | ((refine is_fa ?_; first | (refine lw_pure rfl (pv_fa (tF rfl) rfl) ?_))) | (refine lw_pure rfl (pv_nilp rfl) ?_) | (refine lw_pure0 (pv_nilp rfl) ?_))
  refine lw_store h (tZ rfl) rfl rfl rfl (by rw [encS_len]; omega) ?_; intro w2 h2 hg hz
  repeat' (first | (refine lw_pure rfl (pv_move rfl) ?_) | (refine lw_pure rfl (pv_assign rfl) ?_) | (refine is_cw ?_; first | (refine cw_region ?_) | (refine cw_ret ?_)) | (refine is_qw ?_; first | (with_reducible refine qw_then ?_) | (with_reducible refine qw_then_ret ?_)) | (refine lw_nil ?_) | ((refine is_fa ?_; first | (refine lw_pure rfl (pv_fa (tF rfl) rfl) ?_))) | (refine lw_pure rfl (pv_nilp rfl) ?_) | (refine lw_pure0 (pv_nilp rfl) ?_))
  exact qw_end0 rfl ⟨rfl, h2, hg⟩
set_option maxRecDepth 20000 in
theorem chg1_c (N : Nat) (w : World) (h : PT w N 39 (encS nmP)) : Calls Tryz.prog 26 #[.pointer (some ⟨N, 0, none⟩)] w fun e w' => e = .returned (.tuple #[]) ∧ PT w' N 39 (encS (⟨65, 1, 1, 0, 0, 0⟩ : Pos)) ∧ w.grownBy w' (some N) := by
  have hw := Below.refl w.heap.size w
  refine fn_enter 5 Tryz.func26 rfl rfl rfl ?_
  repeat' (first | (refine lw_pure rfl (pv_move rfl) ?_) | (refine lw_pure rfl (pv_assign rfl) ?_) | (refine is_cw ?_; first | (refine cw_region ?_) | (refine cw_ret ?_)) | (refine is_qw ?_; first | (with_reducible refine qw_then ?_) | (with_reducible refine qw_then_ret ?_)) | (refine lw_nil ?_) | ((refine is_fa ?_; first | (refine lw_pure rfl (pv_fa (tF rfl) rfl) ?_))) | (refine lw_pure rfl (pv_nilp rfl) ?_) | (refine lw_pure0 (pv_nilp rfl) ?_))
  refine lw_store h (tZ rfl) rfl rfl rfl (by rw [encS_len]; omega) ?_; intro w2 h2 hg hz
  repeat' (first | (refine lw_pure rfl (pv_move rfl) ?_) | (refine lw_pure rfl (pv_assign rfl) ?_) | (refine is_cw ?_; first | (refine cw_region ?_) | (refine cw_ret ?_)) | (refine is_qw ?_; first | (with_reducible refine qw_then ?_) | (with_reducible refine qw_then_ret ?_)) | (refine lw_nil ?_) | ((refine is_fa ?_; first | (refine lw_pure rfl (pv_fa (tF rfl) rfl) ?_))) | (refine lw_pure rfl (pv_nilp rfl) ?_) | (refine lw_pure0 (pv_nilp rfl) ?_))
  exact qw_end0 rfl ⟨rfl, h2, hg⟩
set_option maxRecDepth 20000 in
theorem chg2_c (N : Nat) (w : World) (h : PT w N 39 (encS nmP)) : Calls Tryz.prog 27 #[.pointer (some ⟨N, 0, none⟩)] w fun e w' => e = .returned (.tuple #[]) ∧ PT w' N 39 (encS (⟨1, 0, 1, 0, 0, 0⟩ : Pos)) ∧ w.grownBy w' (some N) := by
  have hw := Below.refl w.heap.size w
  refine fn_enter 5 Tryz.func27 rfl rfl rfl ?_
  repeat' (first | (refine lw_pure rfl (pv_move rfl) ?_) | (refine lw_pure rfl (pv_assign rfl) ?_) | (refine is_cw ?_; first | (refine cw_region ?_) | (refine cw_ret ?_)) | (refine is_qw ?_; first | (with_reducible refine qw_then ?_) | (with_reducible refine qw_then_ret ?_)) | (refine lw_nil ?_) | ((refine is_fa ?_; first | (refine lw_pure rfl (pv_fa (tF rfl) rfl) ?_))) | (refine lw_pure rfl (pv_nilp rfl) ?_) | (refine lw_pure0 (pv_nilp rfl) ?_))
  refine lw_store h (tZ rfl) rfl rfl rfl (by rw [encS_len]; omega) ?_; intro w2 h2 hg hz
  repeat' (first | (refine lw_pure rfl (pv_move rfl) ?_) | (refine lw_pure rfl (pv_assign rfl) ?_) | (refine is_cw ?_; first | (refine cw_region ?_) | (refine cw_ret ?_)) | (refine is_qw ?_; first | (with_reducible refine qw_then ?_) | (with_reducible refine qw_then_ret ?_)) | (refine lw_nil ?_) | ((refine is_fa ?_; first | (refine lw_pure rfl (pv_fa (tF rfl) rfl) ?_))) | (refine lw_pure rfl (pv_nilp rfl) ?_) | (refine lw_pure0 (pv_nilp rfl) ?_))
  exact qw_end0 rfl ⟨rfl, h2, hg⟩
set_option maxRecDepth 20000 in
theorem chg3_c (N : Nat) (w : World) (h : PT w N 39 (encS nmP)) : Calls Tryz.prog 28 #[.pointer (some ⟨N, 0, none⟩)] w fun e w' => e = .returned (.tuple #[]) ∧ PT w' N 39 (encS (⟨1, 17, 1, 0, 0, 0⟩ : Pos)) ∧ w.grownBy w' (some N) := by
  have hw := Below.refl w.heap.size w
  refine fn_enter 5 Tryz.func28 rfl rfl rfl ?_
  repeat' (first | (refine lw_pure rfl (pv_move rfl) ?_) | (refine lw_pure rfl (pv_assign rfl) ?_) | (refine is_cw ?_; first | (refine cw_region ?_) | (refine cw_ret ?_)) | (refine is_qw ?_; first | (with_reducible refine qw_then ?_) | (with_reducible refine qw_then_ret ?_)) | (refine lw_nil ?_) | ((refine is_fa ?_; first | (refine lw_pure rfl (pv_fa (tF rfl) rfl) ?_))) | (refine lw_pure rfl (pv_nilp rfl) ?_) | (refine lw_pure0 (pv_nilp rfl) ?_))
  refine lw_store h (tZ rfl) rfl rfl rfl (by rw [encS_len]; omega) ?_; intro w2 h2 hg hz
  repeat' (first | (refine lw_pure rfl (pv_move rfl) ?_) | (refine lw_pure rfl (pv_assign rfl) ?_) | (refine is_cw ?_; first | (refine cw_region ?_) | (refine cw_ret ?_)) | (refine is_qw ?_; first | (with_reducible refine qw_then ?_) | (with_reducible refine qw_then_ret ?_)) | (refine lw_nil ?_) | ((refine is_fa ?_; first | (refine lw_pure rfl (pv_fa (tF rfl) rfl) ?_))) | (refine lw_pure rfl (pv_nilp rfl) ?_) | (refine lw_pure0 (pv_nilp rfl) ?_))
  exact qw_end0 rfl ⟨rfl, h2, hg⟩
set_option maxRecDepth 20000 in
theorem chg4_c (N : Nat) (w : World) (h : PT w N 39 (encS nmP)) : Calls Tryz.prog 29 #[.pointer (some ⟨N, 0, none⟩)] w fun e w' => e = .returned (.tuple #[]) ∧ PT w' N 39 (encS (⟨1, 1, 0, 0, 0, 0⟩ : Pos)) ∧ w.grownBy w' (some N) := by
  have hw := Below.refl w.heap.size w
  refine fn_enter 5 Tryz.func29 rfl rfl rfl ?_
  repeat' (first | (refine lw_pure rfl (pv_move rfl) ?_) | (refine lw_pure rfl (pv_assign rfl) ?_) | (refine is_cw ?_; first | (refine cw_region ?_) | (refine cw_ret ?_)) | (refine is_qw ?_; first | (with_reducible refine qw_then ?_) | (with_reducible refine qw_then_ret ?_)) | (refine lw_nil ?_) | ((refine is_fa ?_; first | (refine lw_pure rfl (pv_fa (tF rfl) rfl) ?_))) | (refine lw_pure rfl (pv_nilp rfl) ?_) | (refine lw_pure0 (pv_nilp rfl) ?_))
  refine lw_store h (tZ rfl) rfl rfl rfl (by rw [encS_len]; omega) ?_; intro w2 h2 hg hz
  repeat' (first | (refine lw_pure rfl (pv_move rfl) ?_) | (refine lw_pure rfl (pv_assign rfl) ?_) | (refine is_cw ?_; first | (refine cw_region ?_) | (refine cw_ret ?_)) | (refine is_qw ?_; first | (with_reducible refine qw_then ?_) | (with_reducible refine qw_then_ret ?_)) | (refine lw_nil ?_) | ((refine is_fa ?_; first | (refine lw_pure rfl (pv_fa (tF rfl) rfl) ?_))) | (refine lw_pure rfl (pv_nilp rfl) ?_) | (refine lw_pure0 (pv_nilp rfl) ?_))
  exact qw_end0 rfl ⟨rfl, h2, hg⟩
set_option maxRecDepth 20000 in
theorem chg5_c (N : Nat) (w : World) (h : PT w N 39 (encS nmP)) : Calls Tryz.prog 30 #[.pointer (some ⟨N, 0, none⟩)] w fun e w' => e = .returned (.tuple #[]) ∧ PT w' N 39 (encS (⟨1, 1, -1, 0, 0, 0⟩ : Pos)) ∧ w.grownBy w' (some N) := by
  have hw := Below.refl w.heap.size w
  refine fn_enter 5 Tryz.func30 rfl rfl rfl ?_
  repeat' (first | (refine lw_pure rfl (pv_move rfl) ?_) | (refine lw_pure rfl (pv_assign rfl) ?_) | (refine is_cw ?_; first | (refine cw_region ?_) | (refine cw_ret ?_)) | (refine is_qw ?_; first | (with_reducible refine qw_then ?_) | (with_reducible refine qw_then_ret ?_)) | (refine lw_nil ?_) | ((refine is_fa ?_; first | (refine lw_pure rfl (pv_fa (tF rfl) rfl) ?_))) | (refine lw_pure rfl (pv_nilp rfl) ?_) | (refine lw_pure0 (pv_nilp rfl) ?_))
  refine lw_store h (tZ rfl) rfl rfl rfl (by rw [encS_len]; omega) ?_; intro w2 h2 hg hz
  repeat' (first | (refine lw_pure rfl (pv_move rfl) ?_) | (refine lw_pure rfl (pv_assign rfl) ?_) | (refine is_cw ?_; first | (refine cw_region ?_) | (refine cw_ret ?_)) | (refine is_qw ?_; first | (with_reducible refine qw_then ?_) | (with_reducible refine qw_then_ret ?_)) | (refine lw_nil ?_) | ((refine is_fa ?_; first | (refine lw_pure rfl (pv_fa (tF rfl) rfl) ?_))) | (refine lw_pure rfl (pv_nilp rfl) ?_) | (refine lw_pure0 (pv_nilp rfl) ?_))
  exact qw_end0 rfl ⟨rfl, h2, hg⟩
set_option maxRecDepth 20000 in
theorem chg6_c (N : Nat) (w : World) (h : PT w N 39 (encS nmP)) : Calls Tryz.prog 31 #[.pointer (some ⟨N, 0, none⟩)] w fun e w' => e = .returned (.tuple #[]) ∧ PT w' N 39 (encS (⟨1, 1, 1, 4611686018427387905, 0, 0⟩ : Pos)) ∧ w.grownBy w' (some N) := by
  have hw := Below.refl w.heap.size w
  refine fn_enter 5 Tryz.func31 rfl rfl rfl ?_
  repeat' (first | (refine lw_pure rfl (pv_move rfl) ?_) | (refine lw_pure rfl (pv_assign rfl) ?_) | (refine is_cw ?_; first | (refine cw_region ?_) | (refine cw_ret ?_)) | (refine is_qw ?_; first | (with_reducible refine qw_then ?_) | (with_reducible refine qw_then_ret ?_)) | (refine lw_nil ?_) | ((refine is_fa ?_; first | (refine lw_pure rfl (pv_fa (tF rfl) rfl) ?_))) | (refine lw_pure rfl (pv_nilp rfl) ?_) | (refine lw_pure0 (pv_nilp rfl) ?_))
  refine lw_store h (tZ rfl) rfl rfl rfl (by rw [encS_len]; omega) ?_; intro w2 h2 hg hz
  repeat' (first | (refine lw_pure rfl (pv_move rfl) ?_) | (refine lw_pure rfl (pv_assign rfl) ?_) | (refine is_cw ?_; first | (refine cw_region ?_) | (refine cw_ret ?_)) | (refine is_qw ?_; first | (with_reducible refine qw_then ?_) | (with_reducible refine qw_then_ret ?_)) | (refine lw_nil ?_) | ((refine is_fa ?_; first | (refine lw_pure rfl (pv_fa (tF rfl) rfl) ?_))) | (refine lw_pure rfl (pv_nilp rfl) ?_) | (refine lw_pure0 (pv_nilp rfl) ?_))
  exact qw_end0 rfl ⟨rfl, h2, hg⟩
set_option maxRecDepth 20000 in
theorem chg7_c (N : Nat) (w : World) (h : PT w N 39 (encS nmP)) : Calls Tryz.prog 32 #[.pointer (some ⟨N, 0, none⟩)] w fun e w' => e = .returned (.tuple #[]) ∧ PT w' N 39 (encS (⟨1, 1, 1, 0, -1, 0⟩ : Pos)) ∧ w.grownBy w' (some N) := by
  have hw := Below.refl w.heap.size w
  refine fn_enter 5 Tryz.func32 rfl rfl rfl ?_
  repeat' (first | (refine lw_pure rfl (pv_move rfl) ?_) | (refine lw_pure rfl (pv_assign rfl) ?_) | (refine is_cw ?_; first | (refine cw_region ?_) | (refine cw_ret ?_)) | (refine is_qw ?_; first | (with_reducible refine qw_then ?_) | (with_reducible refine qw_then_ret ?_)) | (refine lw_nil ?_) | ((refine is_fa ?_; first | (refine lw_pure rfl (pv_fa (tF rfl) rfl) ?_))) | (refine lw_pure rfl (pv_nilp rfl) ?_) | (refine lw_pure0 (pv_nilp rfl) ?_))
  refine lw_store h (tZ rfl) rfl rfl rfl (by rw [encS_len]; omega) ?_; intro w2 h2 hg hz
  repeat' (first | (refine lw_pure rfl (pv_move rfl) ?_) | (refine lw_pure rfl (pv_assign rfl) ?_) | (refine is_cw ?_; first | (refine cw_region ?_) | (refine cw_ret ?_)) | (refine is_qw ?_; first | (with_reducible refine qw_then ?_) | (with_reducible refine qw_then_ret ?_)) | (refine lw_nil ?_) | ((refine is_fa ?_; first | (refine lw_pure rfl (pv_fa (tF rfl) rfl) ?_))) | (refine lw_pure rfl (pv_nilp rfl) ?_) | (refine lw_pure0 (pv_nilp rfl) ?_))
  exact qw_end0 rfl ⟨rfl, h2, hg⟩
set_option maxRecDepth 20000 in
theorem chg8_c (N : Nat) (w : World) (h : PT w N 39 (encS nmP)) : Calls Tryz.prog 33 #[.pointer (some ⟨N, 0, none⟩)] w fun e w' => e = .returned (.tuple #[]) ∧ PT w' N 39 (encS (⟨1, 1, 1, 0, 0, 4611686018427387905⟩ : Pos)) ∧ w.grownBy w' (some N) := by
  have hw := Below.refl w.heap.size w
  refine fn_enter 5 Tryz.func33 rfl rfl rfl ?_
  repeat' (first | (refine lw_pure rfl (pv_move rfl) ?_) | (refine lw_pure rfl (pv_assign rfl) ?_) | (refine is_cw ?_; first | (refine cw_region ?_) | (refine cw_ret ?_)) | (refine is_qw ?_; first | (with_reducible refine qw_then ?_) | (with_reducible refine qw_then_ret ?_)) | (refine lw_nil ?_) | ((refine is_fa ?_; first | (refine lw_pure rfl (pv_fa (tF rfl) rfl) ?_))) | (refine lw_pure rfl (pv_nilp rfl) ?_) | (refine lw_pure0 (pv_nilp rfl) ?_))
  refine lw_store h (tZ rfl) rfl rfl rfl (by rw [encS_len]; omega) ?_; intro w2 h2 hg hz
  repeat' (first | (refine lw_pure rfl (pv_move rfl) ?_) | (refine lw_pure rfl (pv_assign rfl) ?_) | (refine is_cw ?_; first | (refine cw_region ?_) | (refine cw_ret ?_)) | (refine is_qw ?_; first | (with_reducible refine qw_then ?_) | (with_reducible refine qw_then_ret ?_)) | (refine lw_nil ?_) | ((refine is_fa ?_; first | (refine lw_pure rfl (pv_fa (tF rfl) rfl) ?_))) | (refine lw_pure rfl (pv_nilp rfl) ?_) | (refine lw_pure0 (pv_nilp rfl) ?_))
  exact qw_end0 rfl ⟨rfl, h2, hg⟩
set_option maxRecDepth 20000 in
theorem chg9_c (N : Nat) (w : World) (h : PT w N 39 (encS nmP)) : Calls Tryz.prog 34 #[.pointer (some ⟨N, 0, none⟩)] w fun e w' => e = .returned (.tuple #[]) ∧ PT w' N 39 (encS (⟨2, 1, 1, 0, 0, 0⟩ : Pos)) ∧ w.grownBy w' (some N) := by
  have hw := Below.refl w.heap.size w
  refine fn_enter 5 Tryz.func34 rfl rfl rfl ?_
  repeat' (first | (refine lw_pure rfl (pv_move rfl) ?_) | (refine lw_pure rfl (pv_assign rfl) ?_) | (refine is_cw ?_; first | (refine cw_region ?_) | (refine cw_ret ?_)) | (refine is_qw ?_; first | (with_reducible refine qw_then ?_) | (with_reducible refine qw_then_ret ?_)) | (refine lw_nil ?_) | ((refine is_fa ?_; first | (refine lw_pure rfl (pv_fa (tF rfl) rfl) ?_))) | (refine lw_pure rfl (pv_nilp rfl) ?_) | (refine lw_pure0 (pv_nilp rfl) ?_))
  refine lw_store h (tZ rfl) rfl rfl rfl (by rw [encS_len]; omega) ?_; intro w2 h2 hg hz
  repeat' (first | (refine lw_pure rfl (pv_move rfl) ?_) | (refine lw_pure rfl (pv_assign rfl) ?_) | (refine is_cw ?_; first | (refine cw_region ?_) | (refine cw_ret ?_)) | (refine is_qw ?_; first | (with_reducible refine qw_then ?_) | (with_reducible refine qw_then_ret ?_)) | (refine lw_nil ?_) | ((refine is_fa ?_; first | (refine lw_pure rfl (pv_fa (tF rfl) rfl) ?_))) | (refine lw_pure rfl (pv_nilp rfl) ?_) | (refine lw_pure0 (pv_nilp rfl) ?_))
  exact qw_end0 rfl ⟨rfl, h2, hg⟩
set_option maxRecDepth 20000 in
set_option maxHeartbeats 4000000 in
theorem other_g {f : Nat} {p : Pos} {N0 : Nat} {w : World} (he : entersB Tryz.prog f = true) (hc : ∀ (N : Nat) (w : World), PT w N 39 (encS nmP) → Calls Tryz.prog f #[.pointer (some ⟨N, 0, none⟩)] w fun e w' => e = .returned (.tuple #[]) ∧ PT w' N 39 (encS p) ∧ w.grownBy w' (some N)) (h : PT w N0 39 (encS nmP)) :
    Calls Tryz.prog 24 #[.func (.func f) #[] #[], .pointer (some ⟨N0, 0, none⟩)] w fun e w' => e = .returned (.agg (encS p).toArray) ∧ Below w.heap.size w w' := by
  have hw := Below.refl w.heap.size w
  refine fn_enter 9 Tryz.func24 rfl rfl rfl ?_
  repeat' (first | (refine lw_pure rfl (pv_move rfl) ?_) | (refine lw_pure rfl (pv_assign rfl) ?_) | (refine is_cw ?_; first | (refine cw_seq ?_) | (refine cw_region ?_) | (refine cw_ret ?_)) | (refine is_qw ?_; first | (with_reducible refine qw_then ?_) | (with_reducible refine qw_then_ret ?_)) | (refine lw_nil ?_) | ((refine is_load ?_; first | (refine lw_pure rfl (pv_load (t1 rfl) rfl (by first | fail)) ?_) | (refine lw_pure rfl (pv_loada (tA rfl) rfl (by first | fail) (by rfl)) ?_))))
  refine lw_allocN rfl (by first | exact tyv_27 | exact tyv_28 | exact tyv_38 | exact tyv_39 | exact tyv_48 | exact tyv_49 | exact tyv_52 | exact tyv_53 | exact tyv_68 | exact tyv_69 | exact tyv_79 | exact tyv_80 | exact tyv_94 | exact tyv_95 | exact tyv_131 | exact tyv_132) rfl ?_; intro N3 w1 hN3 H3 hb; replace hw := grow_trans hw hb
  replace h := h.mono hb
  clear hb
  repeat' (first | (refine lw_pure rfl (pv_move rfl) ?_) | (refine lw_pure rfl (pv_assign rfl) ?_) | (refine is_cw ?_; first | (refine cw_seq ?_) | (refine cw_region ?_) | (refine cw_ret ?_)) | (refine is_qw ?_; first | (with_reducible refine qw_then ?_) | (with_reducible refine qw_then_ret ?_)) | (refine lw_nil ?_) | ((refine is_load ?_; first | (refine lw_pure rfl (pv_load (t1 rfl) rfl (by first | exact PT.ld0 h rfl | exact PT.ld h rfl)) ?_) | (refine lw_pure rfl (pv_loada (tA rfl) rfl (by first | exact PT.lda h) (by rfl)) ?_))))
  refine lw_varN rfl (by first | exact tyv_27 | exact tyv_28 | exact tyv_38 | exact tyv_39 | exact tyv_48 | exact tyv_49 | exact tyv_52 | exact tyv_53 | exact tyv_68 | exact tyv_69 | exact tyv_79 | exact tyv_80 | exact tyv_94 | exact tyv_95 | exact tyv_131 | exact tyv_132) rfl (tZ rfl) (fun _ => rfl) rfl rfl ?_; intro N4 w2 hN4 H4 hb
  have h3l := H3.lt
  have hne : N3 ≠ N4 := by omega
  have hz1 := hw.size
  replace H3 := H3.mono hb
  replace hw := grow_trans hw hb
  clear hb
  repeat' (first | (refine lw_pure rfl (pv_move rfl) ?_) | (refine lw_pure rfl (pv_assign rfl) ?_) | (refine is_cw ?_; first | (refine cw_seq ?_) | (refine cw_region ?_) | (refine cw_ret ?_)) | (refine is_qw ?_; first | (with_reducible refine qw_then ?_) | (with_reducible refine qw_then_ret ?_)) | (refine lw_nil ?_) | ((refine is_load ?_; first | (refine lw_pure rfl (pv_load (t1 rfl) rfl (by first | fail)) ?_) | (refine lw_pure rfl (pv_loada (tA rfl) rfl (by first | fail) (by rfl)) ?_))))
  refine lw_callv (f := f) rfl he rfl rfl (hc N4 w2 H4) ?_; rintro e1 w3 ⟨rfl, H4b, hg⟩; refine ⟨_, rfl, ?_⟩
  replace H3 := (hg.block N3 H3.lt (fun e => hne (Option.some.inj e))).trans H3
  replace hw := st_hw hw hg (by omega)
  repeat' (first | (refine lw_pure rfl (pv_move rfl) ?_) | (refine lw_pure rfl (pv_assign rfl) ?_) | (refine is_cw ?_; first | (refine cw_seq ?_) | (refine cw_region ?_) | (refine cw_ret ?_)) | (refine is_qw ?_; first | (with_reducible refine qw_then ?_) | (with_reducible refine qw_then_ret ?_)) | (refine lw_nil ?_) | ((refine is_load ?_; first | (refine lw_pure rfl (pv_load (t1 rfl) rfl (by first | exact PT.ld0 H4b rfl | exact PT.ld H4b rfl)) ?_) | (refine lw_pure rfl (pv_loada (tA rfl) rfl (by first | exact PT.lda H4b) (by rfl)) ?_))))
  refine lw_storea (vs := encS p) H3 (tZ rfl) rfl rfl rfl rfl (encS_one _) ?_; intro w4 H3b hg4 hz4
  replace hw := st_hw hw hg4 (by omega)
  repeat' (first | (refine lw_pure rfl (pv_move rfl) ?_) | (refine lw_pure rfl (pv_assign rfl) ?_) | (refine is_cw ?_; first | (refine cw_seq ?_) | (refine cw_region ?_) | (refine cw_ret ?_)) | (refine is_qw ?_; first | (with_reducible refine qw_then ?_) | (with_reducible refine qw_then_ret ?_)) | (refine lw_nil ?_) | ((refine is_load ?_; first | (refine lw_pure rfl (pv_load (t1 rfl) rfl (by first | fail)) ?_) | (refine lw_pure rfl (pv_loada (tA rfl) rfl (by first | fail) (by rfl)) ?_))))
  exact qw_retc rfl rfl (agg_ld (tA rfl) rfl (fun i u hu => H3b.ld0 hu)) ⟨rfl, hw⟩
end Go.Proofs.YtemngicaoacfaaaGreatDoor
