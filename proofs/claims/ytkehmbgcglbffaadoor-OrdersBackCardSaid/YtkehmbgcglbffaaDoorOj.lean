/-
  Contracts of layer 22's table of kinds, and of what each kind does. Conditions: what stands in memory, as each names it.
-/
import Derived.Test.YtkehmbgcglbffaaDoorOi
import Derived.Test.YtkehmbgcglbffaaDoorEm
import Derived.Test.YtkehmbgcglbffaaDoorSm
namespace Go.Proofs.YtkehmbgcglbffaaDoor
open Go.RowKit Go.PlainAid Go.ChangeShapes Go.WideShapes Go.Maps

section
variable {κ ν : Type} [DecidableEq κ] {eK : κ → Value} {eV : ν → Value} {P : Program} {n : Nat} {l : Fr} {w : World} {B : Nat} {Q : Exit → Act → World → Prop} {ops : Array Oper} {os : List Oper} {d : Option Nat} {ty : TypeId} {pos : String} {af : Array Edge} {g : Option (Nat × Bool)} {T K V : TypeId} {x y z : Operand}
/-- a map literal's entry -/
theorem lw_insertM (ht : P.underlying T = some (.map K V)) (E : KeyE P K eK) {m : List (κ × ν)} (k : κ) (v : ν) (hx : ev l x = some (.map (some B))) (hy : ev l y = some (eK k)) (hz : ev l z = some (eV v)) (h : Mp eK eV w B m)
    (hc : ∀ w', Mp eK eV w' B (putM m k v) → w.grownBy w' (some B) → w'.heap.size = w.heap.size → LW P n ops Q os l w') : LW P n ops Q (⟨none, .insert T x y z, ty, pos, af, none⟩ :: os) l w :=
  lw_skips (Φ := fun w' => Mp eK eV w' B (putM m k v) ∧ w.grownBy w' (some B) ∧ w'.heap.size = w.heap.size) (fun A hA => by
    obtain ⟨w', h1, h2⟩ := run_updateM (w := w) ht E h k v
    exact ⟨w', by simp [execOp, hA.ev hx, hA.ev hy, hA.ev hz, h1], h2⟩) fun w' ⟨h1, h2, h3⟩ => hc w' h1 h2 h3
end
def kU (q : Fin 256) : Value := .int .u8 (q.val : Int)
def vF (f : Option Nat) : Value := match f with | some f => .func (.func f) #[] #[] | none => .nilFunc
theorem keyU : KeyE Tryd.prog 5 kU := ⟨int_keyed Tryd.underlying5, fun q => ⟨_, keyOf_int_mk Tryd.underlying5 (by have := q.isLt; simp only [Lit.wf, Bool.and_eq_true, decide_eq_true_eq]; exact ⟨show (0 : Int) ≤ _ by omega, show _ ≤ (255 : Int) by omega⟩)⟩, fun a b h => by
  simp only [kU, Value.int.injEq, true_and] at h
  exact Fin.ext (by omega)⟩
theorem zF (w : World) : (zeroValue 52).run Tryd.prog w = .ok (vF none) w := by kernel_rfl
def doesM : List (Fin 256 × Option Nat) := [(11, some 30), (12, some 31), (13, some 32), (14, some 33), (16, some 33), (18, some 34), (19, some 34)]
set_option maxRecDepth 20000 in
set_option maxHeartbeats 1000000 in
theorem does_c (w : World) : Calls Tryd.prog 16 #[] w fun e w' => (∃ N, e = .returned (.map (some N)) ∧ Mp kU vF w' N doesM ∧ w.heap.size ≤ N) ∧ Below w.heap.size w w' := by
  have hW := Below.refl w.heap.size w
  refine fn_enter 3 Tryd.func16 rfl rfl rfl ?_
  have hw := Below.refl w.heap.size w
  repeat' (first | (refine lw_pure rfl (pv_assign rfl) ?_) | (refine is_cw ?_; first | (refine cw_seq ?_) | (refine cw_region ?_)) | (refine is_qw ?_; first | (with_reducible refine qw_then ?_)) | (refine lw_nil ?_))
  refine lw_makeMap kU vF rfl ?_; intro N w1 hN HM hb
  replace hW := hW.trans hb
  refine lw_insertM (eV := vF) Tryd.underlying54 keyU 11 (some 30) rfl rfl rfl HM ?_; clear HM; intro w1 HM hg hz; replace hW := hW.grown hg hW.size (by intro q hq; injection hq with hq; omega); clear hg hz
  refine lw_insertM (eV := vF) Tryd.underlying54 keyU 12 (some 31) rfl rfl rfl HM ?_; clear HM; intro w1 HM hg hz; replace hW := hW.grown hg hW.size (by intro q hq; injection hq with hq; omega); clear hg hz
  refine lw_insertM (eV := vF) Tryd.underlying54 keyU 13 (some 32) rfl rfl rfl HM ?_; clear HM; intro w1 HM hg hz; replace hW := hW.grown hg hW.size (by intro q hq; injection hq with hq; omega); clear hg hz
  refine lw_insertM (eV := vF) Tryd.underlying54 keyU 14 (some 33) rfl rfl rfl HM ?_; clear HM; intro w1 HM hg hz; replace hW := hW.grown hg hW.size (by intro q hq; injection hq with hq; omega); clear hg hz
  refine lw_insertM (eV := vF) Tryd.underlying54 keyU 16 (some 33) rfl rfl rfl HM ?_; clear HM; intro w1 HM hg hz; replace hW := hW.grown hg hW.size (by intro q hq; injection hq with hq; omega); clear hg hz
  refine lw_insertM (eV := vF) Tryd.underlying54 keyU 18 (some 34) rfl rfl rfl HM ?_; clear HM; intro w1 HM hg hz; replace hW := hW.grown hg hW.size (by intro q hq; injection hq with hq; omega); clear hg hz
  refine lw_insertM (eV := vF) Tryd.underlying54 keyU 19 (some 34) rfl rfl rfl HM ?_; clear HM; intro w1 HM hg hz; replace hW := hW.grown hg hW.size (by intro q hq; injection hq with hq; omega); clear hg hz
  clear hw
  have hw := Below.refl w1.heap.size w1
  repeat' (first | (refine lw_pure rfl (pv_move rfl) ?_) | (refine lw_pure rfl (pv_assign rfl) ?_) | (refine is_cw ?_; first | (refine cw_ret ?_)) | (refine is_qw ?_; first | (with_reducible refine qw_then ?_)) | (refine lw_nil ?_))
  exact qw_ret1 rfl rfl ⟨⟨N, rfl, HM, hN⟩, hW⟩
theorem fld11 : fieldsR 3 11 = some ({ data := #[111, 97, 105, 115, 112, 113] }, false) := by kernel_rfl
theorem fld12 : fieldsR 3 12 = some ({ data := #[111] }, false) := by kernel_rfl
theorem fld13 : fieldsR 3 13 = some ({ data := #[111, 111, 112, 113, 122] }, false) := by kernel_rfl
theorem fld14 : fieldsR 3 14 = some ({ data := #[99, 97, 105, 113, 109, 109, 116] }, false) := by kernel_rfl
theorem fld16 : fieldsR 3 16 = some ({ data := #[99, 97, 105, 113, 109, 116] }, false) := by kernel_rfl
theorem fld18 : fieldsR 3 18 = some ({ data := #[99, 97, 109, 122] }, false) := by kernel_rfl
theorem fld19 : fieldsR 3 19 = some ({ data := #[99] }, false) := by kernel_rfl
theorem nums11 {e : Evt} (h : mayE e = true) (hv : e.v = 3) (hk : e.kind = 11) : ∃ n0 n1 n2 n3 n4 n5, e.nums = [n0, n1, n2, n3, n4, n5] ∧ (1 ≤ n0 ∧ n0 ≤ 1099511627776) ∧ (1 ≤ n1 ∧ n1 ≤ 64) ∧ (1 ≤ n2 ∧ n2 ≤ 16) ∧ (1 ≤ n3 ∧ n3 ≤ 2) ∧ (1 ≤ n4 ∧ n4 ≤ 1073741824) ∧ (1 ≤ n5 ∧ n5 ≤ 1048576) := by
  have h1 : allR 3 [111, 97, 105, 115, 112, 113] e.nums = true := (may_nums h hv hk fld11).1
  obtain ⟨n0, r0, e0, f0, h1⟩ := all_cons h1
  obtain ⟨n1, r1, rfl, f1, h1⟩ := all_cons h1
  obtain ⟨n2, r2, rfl, f2, h1⟩ := all_cons h1
  obtain ⟨n3, r3, rfl, f3, h1⟩ := all_cons h1
  obtain ⟨n4, r4, rfl, f4, h1⟩ := all_cons h1
  obtain ⟨n5, r5, rfl, f5, h1⟩ := all_cons h1
  have h2 := all_nil h1; subst h2
  exact ⟨n0, n1, n2, n3, n4, n5, e0, fits_lo f0 bnd_o, fits_lo f1 bnd_a, fits_lo f2 bnd_i, fits_lo f3 bnd_s, fits_lo f4 bnd_p, fits_lo f5 bnd_q⟩
theorem nums12 {e : Evt} (h : mayE e = true) (hv : e.v = 3) (hk : e.kind = 12) : ∃ n0, e.nums = [n0] ∧ (1 ≤ n0 ∧ n0 ≤ 1099511627776) := by
  have h1 : allR 3 [111] e.nums = true := (may_nums h hv hk fld12).1
  obtain ⟨n0, r0, e0, f0, h1⟩ := all_cons h1
  have h2 := all_nil h1; subst h2
  exact ⟨n0, e0, fits_lo f0 bnd_o⟩
theorem nums13 {e : Evt} (h : mayE e = true) (hv : e.v = 3) (hk : e.kind = 13) : ∃ n0 n1 n2 n3 n4, e.nums = [n0, n1, n2, n3, n4] ∧ (1 ≤ n0 ∧ n0 ≤ 1099511627776) ∧ (1 ≤ n1 ∧ n1 ≤ 1099511627776) ∧ (1 ≤ n2 ∧ n2 ≤ 1073741824) ∧ (1 ≤ n3 ∧ n3 ≤ 1048576) ∧ (0 ≤ n4 ∧ n4 ≤ 1125899906842624) := by
  have h1 : allR 3 [111, 111, 112, 113, 122] e.nums = true := (may_nums h hv hk fld13).1
  obtain ⟨n0, r0, e0, f0, h1⟩ := all_cons h1
  obtain ⟨n1, r1, rfl, f1, h1⟩ := all_cons h1
  obtain ⟨n2, r2, rfl, f2, h1⟩ := all_cons h1
  obtain ⟨n3, r3, rfl, f3, h1⟩ := all_cons h1
  obtain ⟨n4, r4, rfl, f4, h1⟩ := all_cons h1
  have h2 := all_nil h1; subst h2
  exact ⟨n0, n1, n2, n3, n4, e0, fits_lo f0 bnd_o, fits_lo f1 bnd_o, fits_lo f2 bnd_p, fits_lo f3 bnd_q, fits_lo f4 bnd_z⟩
/-- an auction that is opened -/
theorem nums14 {e : Evt} (h : mayE e = true) (hv : e.v = 3) (hk : e.kind = 14 ∨ e.kind = 16) : ∃ n0 n1 n2 n3 r, e.nums = n0 :: n1 :: n2 :: n3 :: r ∧ (1 ≤ n0 ∧ n0 ≤ 1099511627776) ∧ (1 ≤ n1 ∧ n1 ≤ 64) ∧ (1 ≤ n2 ∧ n2 ≤ 16) ∧ (1 ≤ n3 ∧ n3 ≤ 1048576) := by
  have key : ∃ cs, allR 3 (99 :: 97 :: 105 :: 113 :: cs) e.nums = true := by
    rcases hk with hk | hk
    · exact ⟨[109, 109, 116], (may_nums h hv hk fld14).1⟩
    · exact ⟨[109, 116], (may_nums h hv hk fld16).1⟩
  obtain ⟨cs, h1⟩ := key
  obtain ⟨n0, r0, e0, f0, h1⟩ := all_cons h1
  obtain ⟨n1, r1, rfl, f1, h1⟩ := all_cons h1
  obtain ⟨n2, r2, rfl, f2, h1⟩ := all_cons h1
  obtain ⟨n3, r3, rfl, f3, h1⟩ := all_cons h1
  exact ⟨n0, n1, n2, n3, r3, e0, fits_lo f0 bnd_c, fits_lo f1 bnd_a, fits_lo f2 bnd_i, fits_lo f3 bnd_q⟩
theorem nums18 {e : Evt} (h : mayE e = true) (hv : e.v = 3) (hk : e.kind = 18) : ∃ n0 n1 n2 n3, e.nums = [n0, n1, n2, n3] ∧ (1 ≤ n0 ∧ n0 ≤ 1099511627776) ∧ (1 ≤ n1 ∧ n1 ≤ 64) ∧ (1 ≤ n2 ∧ n2 ≤ 1125899906842624) ∧ (0 ≤ n3 ∧ n3 ≤ 1125899906842624) := by
  have h1 : allR 3 [99, 97, 109, 122] e.nums = true := (may_nums h hv hk fld18).1
  obtain ⟨n0, r0, e0, f0, h1⟩ := all_cons h1
  obtain ⟨n1, r1, rfl, f1, h1⟩ := all_cons h1
  obtain ⟨n2, r2, rfl, f2, h1⟩ := all_cons h1
  obtain ⟨n3, r3, rfl, f3, h1⟩ := all_cons h1
  have h2 := all_nil h1; subst h2
  exact ⟨n0, n1, n2, n3, e0, fits_lo f0 bnd_c, fits_lo f1 bnd_a, fits_lo f2 bnd_m, fits_lo f3 bnd_z⟩
theorem nums19 {e : Evt} (h : mayE e = true) (hv : e.v = 3) (hk : e.kind = 19) : ∃ n0, e.nums = [n0] ∧ (1 ≤ n0 ∧ n0 ≤ 1099511627776) := by
  have h1 : allR 3 [99] e.nums = true := (may_nums h hv hk fld19).1
  obtain ⟨n0, r0, e0, f0, h1⟩ := all_cons h1
  have h2 := all_nil h1; subst h2
  exact ⟨n0, e0, fits_lo f0 bnd_c⟩
def methR (k : Int) : Option Nat := if k = 11 then some 30 else if k = 12 then some 31 else if k = 13 then some 32 else if k = 14 ∨ k = 16 then some 33 else if k = 18 ∨ k = 19 then some 34 else none
set_option maxHeartbeats 1000000 in
theorem meth_c {p : List Opn} {t : List Lt} {ev0 : Evt} {w0 w : World} {N m F : Nat} {a : Option Addr} {c : Nat} {vo vt : Value} (hF : methR ev0.kind = some F) (hM : MayV p t) (hE : mayE ev0 = true) (hv : ev0.v = 3) (hm : ev0.nums.length = m) (hb0 : Below w0.heap.size w0 w) (hW : WkO w0.heap.size w N p t vo vt) (HN : SlR encI 1 w0 a c ev0.nums) :
    Calls Tryd.prog F #[.pointer (some ⟨N, 0, none⟩), .slice a m c] w fun e w' => e = .returned (.int .i64 (doneR p t ev0).2.2) ∧ ((doneR p t ev0).2.2 = 0 → ∃ vo vt, WkO w0.heap.size w' N (doneR p t ev0).1 (doneR p t ev0).2.1 vo vt) ∧ Below w0.heap.size w0 w' := by
  obtain ⟨⟨hl1, hl2⟩, hp1, ht1, hmo, hnd, hml⟩ := hM
  subst hm
  unfold methR at hF
  unfold doneR
  by_cases k1 : ev0.kind = 11
  · rw [if_pos k1] at hF ⊢
    injection hF with hF; subst hF
    obtain ⟨n0, n1, n2, n3, n4, n5, hn, h0, h1, h2, h3, h4, h5⟩ := nums11 hE hv k1
    rw [hn] at HN ⊢
    exact placed_c hn hb0 hW HN hp1 hl1 (by omega)
  rw [if_neg k1] at hF ⊢
  by_cases k2 : ev0.kind = 12
  · rw [if_pos k2] at hF ⊢
    injection hF with hF; subst hF
    obtain ⟨n0, hn, h0⟩ := nums12 hE hv k2
    rw [hn] at HN ⊢
    exact cancelled_c hn hb0 hW HN hnd (fun x hx => by have := hmo x hx; unfold MayO at this; omega) hl1
  rw [if_neg k2] at hF ⊢
  by_cases k3 : ev0.kind = 13
  · rw [if_pos k3] at hF ⊢
    injection hF with hF; subst hF
    obtain ⟨n0, n1, n2, n3, n4, hn, h0, h1, h2, h3, h4⟩ := nums13 hE hv k3
    exact traded_c rfl rfl (by rw [hn]; rfl) (by rw [hn]; rfl) (by rw [hn]; rfl) h3 hb0 hW HN hnd (fun x hx => by have := hmo x hx; unfold MayO at this; omega)
  rw [if_neg k3] at hF ⊢
  by_cases k4 : ev0.kind = 14 ∨ ev0.kind = 16
  · rw [if_pos k4] at hF ⊢
    injection hF with hF; subst hF
    obtain ⟨n0, n1, n2, n3, r, hn, h0, h1, h2, h3⟩ := nums14 hE hv k4
    exact opened_c rfl rfl (by rw [hn]; rfl) (by rw [hn]; rfl) (by rw [hn]; rfl) (by rw [hn]; rfl) hb0 hW HN ht1 hl2
  rw [if_neg k4] at hF ⊢
  by_cases k5 : ev0.kind = 18 ∨ ev0.kind = 19
  · rw [if_pos k5] at hF ⊢
    injection hF with hF; subst hF
    have key : ∃ n0, ev0.nums[0]? = some n0 := by
      rcases k5 with k5 | k5
      · obtain ⟨n0, n1, n2, n3, hn, _⟩ := nums18 hE hv k5; exact ⟨n0, by rw [hn]; rfl⟩
      · obtain ⟨n0, hn, _⟩ := nums19 hE hv k5; exact ⟨n0, by rw [hn]; rfl⟩
    obtain ⟨n0, hn⟩ := key
    exact gone_c rfl rfl hn hb0 hW HN ht1 hl2
  rw [if_neg k5] at hF; cases hF
end Go.Proofs.YtkehmbgcglbffaaDoor
