/-
  Part 2 of the texts of: StateTells: its row: whatever the input: true; the input reads as it did. Conditions: none.
-/
import Derived.Test.YtekomjnjddhfmaaGreatZU1
namespace Go.Proofs.YtekomjnjddhfmaaGreat
open Go.RowKit Go.PlainAid

theorem mayOne_e {o : Ord} {b : Bool} (h : mayOne o = b) (w : World) : Calls Tryz.prog 63 #[.agg (encO o).toArray] w fun e w' => e = .returned (.bool b) ∧ Below w.heap.size w w' := by subst h; exact mayOne_c o w
theorem rmayOne_e {o : Ord} {b : Bool} (h : mayOne o = b) (w : World) : Calls Tryz.prog 86 #[.agg (encO o).toArray] w fun e w' => e = .returned (.bool b) ∧ Below w.heap.size w w' := by subst h; exact rmayOne_c o w
set_option maxRecDepth 20000 in
set_option maxHeartbeats 2000000 in
theorem holds_c (o : Ord) (w : World) : Calls Tryz.prog 28 #[.agg (encO o).toArray] w fun e w' => e = .returned (.tuple #[.int .i64 (holdsA o), .int .i64 (holdsN o)]) ∧ Below w.heap.size w w' := by
  have hE := Ext.refl w
  have hw := Below.refl w.heap.size w
  refine fn_enter 21 Tryz.func28 rfl rfl rfl ?_
  repeat' (first | (refine is_cw ?_; first | (refine cw_seq ?_) | (refine cw_region ?_)))
  refine lw_boxN rfl rfl (cs := encO o) rfl ?_; intro N2 wn hN2 HX hb; replace hN2 := Nat.le_trans hw.size hN2; replace hw := grow_trans hw hb; clear hb
  replace hE := hE.mono hw; clear hw; have hw := Below.refl wn.heap.size wn
  cases hm : mayOne o with
  | false =>
    rw [(holdsN_no hm).1, (holdsN_no hm).2]
    repeat' (first | (refine lw_pure rfl (pv_assign rfl) ?_) | (refine lw_call (f := 63) (by kernel_rfl) rfl rfl (mayOne_e hm _) ?_; rintro e w1 ⟨rfl, hb⟩; refine ⟨_, rfl, ?_⟩; replace hw := grow_trans hw hb; clear hb) | (refine is_cw ?_; first | (refine cw_seq ?_) | (refine cw_region ?_) | (refine cw_true rfl rfl ?_) | (refine cw_block ?_) | (refine cw_ret ?_)) | (refine is_qw ?_; first | (with_reducible refine qw_then ?_) | (with_reducible refine qw_then_ret ?_) | (with_reducible refine qw_in_ret ?_)) | (refine lw_nil ?_) | ((refine is_load ?_; first | (refine lw_pure rfl (pv_loada (tA rfl) rfl (by first | exact PT.lda (HX.mono hw)) (by rfl)) ?_))) | ((refine is_un ?_; first | (refine lw_pure rfl (pv_not rfl) ?_))))
    exact qw_ret2 rfl rfl rfl ⟨rfl, (hE.mono hw).b⟩
  | true =>
    have g := mayOne_iff.1 hm
    have hq := mul_le_q g.2.2.2.2.1 g.2.2.2.2.2
    have hA : holdsA o = if o.side = 1 then 0 else o.inst := by unfold holdsA; rw [if_pos hm]
    have hN : holdsN o = if o.side = 1 then o.price * o.left else o.left := by unfold holdsN; rw [if_pos hm]
    rw [hA, hN]
    have hE0 := hE
    repeat' (first | (refine lw_pure rfl (pv_assign rfl) ?_) | (refine lw_call (f := 63) (by kernel_rfl) rfl rfl (mayOne_e hm _) ?_; rintro e w1 ⟨rfl, hb⟩; refine ⟨_, rfl, ?_⟩; replace hw := grow_trans hw hb; clear hb) | (refine is_cw ?_; first | (refine cw_seq ?_) | (refine cw_region ?_) | (refine cw_false rfl rfl ?_) | (refine cw_block ?_)) | (refine is_qw ?_; first | (with_reducible refine qw_then ?_)) | (refine lw_nil ?_) | ((refine is_bin ?_; first | (refine lw_pure rfl (pv_eql rfl rfl) ?_))) | ((refine is_load ?_; first | (refine lw_pure rfl (pv_load (t1 rfl) rfl (by first | exact PT.ld0 (HX.mono hw) rfl | exact PT.ld (HX.mono hw) rfl)) ?_) | (refine lw_pure rfl (pv_loada (tA rfl) rfl (by first | exact PT.lda (HX.mono hw)) (by rfl)) ?_))) | ((refine is_fa ?_; first | (refine lw_pure rfl (pv_fa (tF rfl) rfl) ?_))) | ((refine is_un ?_; first | (refine lw_pure rfl (pv_not rfl) ?_))))
    by_cases hs : o.side = 1
    · rw [if_pos hs, if_pos hs]
      repeat' (first | (refine is_cw ?_; first | (refine cw_seq ?_) | (refine is_cd ?_; refine cw_true rfl (by first | assumption | exact decide_eq_true (by omega) | exact dec_notT (by omega)) ?_)))
      refine cw_drawn (fun w' => Below wn.heap.size wn w') (by kernel_rfl) (by repeat (first | exact NoPanic.body | with_reducible refine NoPanic.then ?_ | with_reducible refine NoPanic.inBlock ?_)) (fun hNP => ?_)
      have hS := hw.drew
      (refine at0 0 rfl (fun w' hq => pv_fa (tF rfl) rfl) ?_)
      (refine at0 1 rfl (fun w' hq => pv_load (t1 rfl) rfl (by first | exact PT.ld0 (HX.mono hq) rfl | exact PT.ld (HX.mono hq) rfl)) ?_)
      (refine at0 2 rfl (fun w' hq => pv_fa (tF rfl) rfl) ?_)
      (refine at0 3 rfl (fun w' hq => pv_load (t1 rfl) rfl (by first | exact PT.ld0 (HX.mono hq) rfl | exact PT.ld (HX.mono hq) rfl)) ?_)
      (refine at0 4 rfl (fun w' hq => pv_mul rfl rfl (by omega)) ?_)
      (refine at0 5 rfl (fun w' hq => pv_assign rfl) ?_)
      (refine at0 6 rfl (fun w' hq => pv_assign rfl) ?_)
      refine aw_done (by kernel_rfl) ?_
      replace hw := hS; clear hS hNP
      repeat' (first | (refine is_cw ?_; first | (refine cw_ret ?_)) | (refine is_qw ?_; first | (with_reducible refine qw_then ?_) | (with_reducible refine qw_then_ret ?_) | (with_reducible refine qw_in_ret ?_)))
      exact qw_ret2 rfl rfl rfl ⟨rfl, (hE0.mono hw).b⟩
    · rw [if_neg hs, if_neg hs]
      repeat' (first | (refine is_cw ?_; first | (refine cw_seq ?_) | (refine is_cd ?_; refine cw_false rfl (by first | assumption | exact decide_eq_false (by omega) | exact dec_notF (by omega)) ?_) | (refine cw_skip ?_)) | (refine is_qw ?_; first | (with_reducible refine qw_then ?_) | (with_reducible refine qw_in ?_)))
      refine cw_drawn (fun w' => Below wn.heap.size wn w') (by kernel_rfl) (by repeat (first | exact NoPanic.body | with_reducible refine NoPanic.then ?_ | with_reducible refine NoPanic.inBlock ?_)) (fun hNP => ?_)
      have hS := hw.drew
      (refine at0 0 rfl (fun w' hq => pv_fa (tF rfl) rfl) ?_)
      (refine at0 1 rfl (fun w' hq => pv_load (t1 rfl) rfl (by first | exact PT.ld0 (HX.mono hq) rfl | exact PT.ld (HX.mono hq) rfl)) ?_)
      (refine at0 2 rfl (fun w' hq => pv_fa (tF rfl) rfl) ?_)
      (refine at0 3 rfl (fun w' hq => pv_load (t1 rfl) rfl (by first | exact PT.ld0 (HX.mono hq) rfl | exact PT.ld (HX.mono hq) rfl)) ?_)
      (refine at0 4 rfl (fun w' hq => pv_assign rfl) ?_)
      (refine at0 5 rfl (fun w' hq => pv_assign rfl) ?_)
      refine aw_done (by kernel_rfl) ?_
      replace hw := hS; clear hS hNP
      repeat' (first | (refine is_cw ?_; first | (refine cw_ret ?_)) | (refine is_qw ?_; first | (with_reducible refine qw_then ?_)))
      exact qw_ret2 rfl rfl rfl ⟨rfl, (hE0.mono hw).b⟩
set_option maxRecDepth 20000 in
set_option maxHeartbeats 2000000 in
theorem rholds_c (o : Ord) (w : World) : Calls Tryz.prog 61 #[.agg (encO o).toArray] w fun e w' => e = .returned (.tuple #[.int .i64 (holdsA o), .int .i64 (holdsN o)]) ∧ Below w.heap.size w w' := by
  have hE := Ext.refl w
  have hw := Below.refl w.heap.size w
  refine fn_enter 19 Tryz.func61 rfl rfl rfl ?_
  repeat' (first | (refine is_cw ?_; first | (refine cw_seq ?_) | (refine cw_region ?_)))
  refine lw_boxN rfl rfl (cs := encO o) rfl ?_; intro N2 wn hN2 HX hb; replace hN2 := Nat.le_trans hw.size hN2; replace hw := grow_trans hw hb; clear hb
  replace hE := hE.mono hw; clear hw; have hw := Below.refl wn.heap.size wn
  cases hm : mayOne o with
  | false =>
    rw [(holdsN_no hm).1, (holdsN_no hm).2]
    repeat' (first | (refine lw_pure rfl (pv_assign rfl) ?_) | (refine lw_call (f := 86) (by kernel_rfl) rfl rfl (rmayOne_e hm _) ?_; rintro e w1 ⟨rfl, hb⟩; refine ⟨_, rfl, ?_⟩; replace hw := grow_trans hw hb; clear hb) | (refine is_cw ?_; first | (refine cw_seq ?_) | (refine cw_region ?_) | (refine cw_true rfl rfl ?_) | (refine cw_ret ?_)) | (refine is_qw ?_; first | (with_reducible refine qw_then ?_) | (with_reducible refine qw_then_ret ?_)) | (refine lw_nil ?_) | ((refine is_load ?_; first | (refine lw_pure rfl (pv_loada (tA rfl) rfl (by first | exact PT.lda (HX.mono hw)) (by rfl)) ?_))) | ((refine is_un ?_; first | (refine lw_pure rfl (pv_not rfl) ?_))))
    exact qw_ret2 rfl rfl rfl ⟨rfl, (hE.mono hw).b⟩
  | true =>
    have g := mayOne_iff.1 hm
    have hq := mul_le_q g.2.2.2.2.1 g.2.2.2.2.2
    have hA : holdsA o = if o.side = 1 then 0 else o.inst := by unfold holdsA; rw [if_pos hm]
    have hN : holdsN o = if o.side = 1 then o.price * o.left else o.left := by unfold holdsN; rw [if_pos hm]
    rw [hA, hN]
    have hE0 := hE
    repeat' (first | (refine lw_pure rfl (pv_assign rfl) ?_) | (refine lw_call (f := 86) (by kernel_rfl) rfl rfl (rmayOne_e hm _) ?_; rintro e w1 ⟨rfl, hb⟩; refine ⟨_, rfl, ?_⟩; replace hw := grow_trans hw hb; clear hb) | (refine is_cw ?_; first | (refine cw_seq ?_) | (refine cw_region ?_) | (refine cw_false rfl rfl ?_) | (refine cw_skip ?_)) | (refine is_qw ?_; first | (with_reducible refine qw_then ?_)) | (refine lw_nil ?_) | ((refine is_bin ?_; first | (refine lw_pure rfl (pv_eql rfl rfl) ?_))) | ((refine is_load ?_; first | (refine lw_pure rfl (pv_load (t1 rfl) rfl (by first | exact PT.ld0 (HX.mono hw) rfl | exact PT.ld (HX.mono hw) rfl)) ?_) | (refine lw_pure rfl (pv_loada (tA rfl) rfl (by first | exact PT.lda (HX.mono hw)) (by rfl)) ?_))) | ((refine is_fa ?_; first | (refine lw_pure rfl (pv_fa (tF rfl) rfl) ?_))) | ((refine is_un ?_; first | (refine lw_pure rfl (pv_not rfl) ?_))))
    by_cases hs : o.side = 1
    · rw [if_pos hs, if_pos hs]
      repeat' (first | (refine is_cw ?_; first | (refine cw_seq ?_) | (refine is_cd ?_; refine cw_true rfl (by first | assumption | exact decide_eq_true (by omega) | exact dec_notT (by omega)) ?_)))
      refine cw_drawn (fun w' => Below wn.heap.size wn w') (by kernel_rfl) (by repeat (first | exact NoPanic.body | with_reducible refine NoPanic.then ?_ | with_reducible refine NoPanic.inBlock ?_)) (fun hNP => ?_)
      have hS := hw.drew
      (refine at0 0 rfl (fun w' hq => pv_fa (tF rfl) rfl) ?_)
      (refine at0 1 rfl (fun w' hq => pv_load (t1 rfl) rfl (by first | exact PT.ld0 (HX.mono hq) rfl | exact PT.ld (HX.mono hq) rfl)) ?_)
      (refine at0 2 rfl (fun w' hq => pv_fa (tF rfl) rfl) ?_)
      (refine at0 3 rfl (fun w' hq => pv_load (t1 rfl) rfl (by first | exact PT.ld0 (HX.mono hq) rfl | exact PT.ld (HX.mono hq) rfl)) ?_)
      (refine at0 4 rfl (fun w' hq => pv_mul rfl rfl (by omega)) ?_)
      (refine at0 5 rfl (fun w' hq => pv_assign rfl) ?_)
      (refine at0 6 rfl (fun w' hq => pv_assign rfl) ?_)
      refine aw_done (by kernel_rfl) ?_
      replace hw := hS; clear hS hNP
      repeat' (first | (refine is_cw ?_; first | (refine cw_ret ?_)) | (refine is_qw ?_; first | (with_reducible refine qw_then ?_) | (with_reducible refine qw_then_ret ?_)))
      exact qw_ret2 rfl rfl rfl ⟨rfl, (hE0.mono hw).b⟩
    · rw [if_neg hs, if_neg hs]
      repeat' (first | (refine is_cw ?_; first | (refine cw_seq ?_) | (refine is_cd ?_; refine cw_false rfl (by first | assumption | exact decide_eq_false (by omega) | exact dec_notF (by omega)) ?_) | (refine cw_skip ?_)) | (refine is_qw ?_; first | (with_reducible refine qw_then ?_)))
      refine cw_drawn (fun w' => Below wn.heap.size wn w') (by kernel_rfl) (by repeat (first | exact NoPanic.body | with_reducible refine NoPanic.then ?_ | with_reducible refine NoPanic.inBlock ?_)) (fun hNP => ?_)
      have hS := hw.drew
      (refine at0 0 rfl (fun w' hq => pv_fa (tF rfl) rfl) ?_)
      (refine at0 1 rfl (fun w' hq => pv_load (t1 rfl) rfl (by first | exact PT.ld0 (HX.mono hq) rfl | exact PT.ld (HX.mono hq) rfl)) ?_)
      (refine at0 2 rfl (fun w' hq => pv_fa (tF rfl) rfl) ?_)
      (refine at0 3 rfl (fun w' hq => pv_load (t1 rfl) rfl (by first | exact PT.ld0 (HX.mono hq) rfl | exact PT.ld (HX.mono hq) rfl)) ?_)
      (refine at0 4 rfl (fun w' hq => pv_assign rfl) ?_)
      (refine at0 5 rfl (fun w' hq => pv_assign rfl) ?_)
      refine aw_done (by kernel_rfl) ?_
      replace hw := hS; clear hS hNP
      repeat' (first | (refine is_cw ?_; first | (refine cw_ret ?_)) | (refine is_qw ?_; first | (with_reducible refine qw_then ?_)))
      exact qw_ret2 rfl rfl rfl ⟨rfl, (hE0.mono hw).b⟩
theorem neq_O (x y : Ord) (w : World) : (binOp .neq 41 (.agg (encO x).toArray) (.agg (encO y).toArray)).run Tryz.prog w = .ok (.bool (!decide (x = y))) w := by
  have hS : (Tryz.prog).underlying 41 = some (.struct ((Tryz.prog).fieldsOf 41)) := by kernel_rfl
  have hp : (Tryz.prog).stoodInHeld 41 = false := by kernel_rfl
  unfold encO
  rw [run_neq_struct, show (10000 : Nat) = 9999 + 1 from rfl, run_equalIn_agg w 9999 41 _ _ hS hp]
  have h : (decide (x = y)) = (x.id == y.id && (x.acct == y.acct && (x.inst == y.inst && (x.side == y.side && (x.price == y.price && x.left == y.left))))) := by
    rw [Bool.eq_iff_iff]
    cases x; cases y; simp
  rw [h]
  simp only [Program.fieldsOf, Tryz.underlying41]
  go_simp
  by_cases h1 : x.id = y.id <;> by_cases h2 : x.acct = y.acct <;> by_cases h3 : x.inst = y.inst <;> by_cases h4 : x.side = y.side <;> by_cases h5 : x.price = y.price <;> by_cases h6 : x.left = y.left <;> simp [*]
theorem eql_O (x y : Ord) (w : World) : (binOp .eql 41 (.agg (encO x).toArray) (.agg (encO y).toArray)).run Tryz.prog w = .ok (.bool (decide (x = y))) w := by
  have hS : (Tryz.prog).underlying 41 = some (.struct ((Tryz.prog).fieldsOf 41)) := by kernel_rfl
  have hp : (Tryz.prog).stoodInHeld 41 = false := by kernel_rfl
  unfold encO
  rw [run_eql_struct, show (10000 : Nat) = 9999 + 1 from rfl, run_equalIn_agg w 9999 41 _ _ hS hp]
  have h : (decide (x = y)) = (x.id == y.id && (x.acct == y.acct && (x.inst == y.inst && (x.side == y.side && (x.price == y.price && x.left == y.left))))) := by
    rw [Bool.eq_iff_iff]
    cases x; cases y; simp
  rw [h]
  simp only [Program.fieldsOf, Tryz.underlying41]
  go_simp
  by_cases h1 : x.id = y.id <;> by_cases h2 : x.acct = y.acct <;> by_cases h3 : x.inst = y.inst <;> by_cases h4 : x.side = y.side <;> by_cases h5 : x.price = y.price <;> by_cases h6 : x.left = y.left <;> simp [*]
theorem pv_neqO {n : Nat} {l : Fr} {w : World} {d : Option Nat} {t' ty : TypeId} {x y : Operand} {pos : String} {af : Array Edge} {g : Option (Nat × Bool)} (a b : Ord) (hx : ev l x = some (.agg (encO a).toArray)) (hy : ev l y = some (.agg (encO b).toArray)) : Pv Tryz.prog n l ⟨d, .binOp .neq 41 x y t', ty, pos, af, g⟩ (.bool (!decide (a = b))) w := ⟨fun A hA => by
  have h1 : (eqGuard .neq 41 x y (.agg (encO a).toArray) (.agg (encO b).toArray)).run Tryz.prog w = .ok () w := run_eqGuard_agg w .neq 41 x y _ _ (by kernel_rfl)
  have h2 := neq_O a b w
  simp [execOp, hA.ev hx, hA.ev hy, h1, h2]⟩
theorem pv_eqlO {n : Nat} {l : Fr} {w : World} {d : Option Nat} {t' ty : TypeId} {x y : Operand} {pos : String} {af : Array Edge} {g : Option (Nat × Bool)} (a b : Ord) (hx : ev l x = some (.agg (encO a).toArray)) (hy : ev l y = some (.agg (encO b).toArray)) : Pv Tryz.prog n l ⟨d, .binOp .eql 41 x y t', ty, pos, af, g⟩ (.bool (decide (a = b))) w := ⟨fun A hA => by
  have h1 : (eqGuard .eql 41 x y (.agg (encO a).toArray) (.agg (encO b).toArray)).run Tryz.prog w = .ok () w := run_eqGuard_agg w .eql 41 x y _ _ (by kernel_rfl)
  have h2 := eql_O a b w
  simp [execOp, hA.ev hx, hA.ev hy, h1, h2]⟩

set_option maxRecDepth 20000 in
theorem rsame_O {p q : List Ord} {m n : Nat} {a b : Option Addr} {ca cb : Nat} {w : World} (hm : p.length = m) (hn : q.length = n) (HP : SlR encO 6 w a ca p) (HQ : SlR encO 6 w b cb q) : Calls Tryz.prog 52 #[.slice a m ca, .slice b n cb] w fun e w' => e = .returned (.bool (decide (p = q))) ∧ Below w.heap.size w w' := by
  subst hm hn
  have hw := Below.refl w.heap.size w
  have hca := HP.le
  have hcm := HP.max
  refine fn_enter 26 Tryz.func52 rfl rfl rfl ?_
  by_cases hl : p.length = q.length
  · repeat' ((fail_if_success (refine is_seqb ?_)); (fail_if_success (refine is_blk ?_)); first | (refine lw_pure rfl (pv_move rfl) ?_) | (refine lw_pure rfl (pv_assign rfl) ?_) | (refine is_cw ?_; first | (refine cw_seq ?_) | (refine cw_region ?_) | (refine is_cd ?_; refine cw_false rfl (by first | assumption | exact decide_eq_false (by omega) | exact dec_notF (by omega)) ?_) | (refine cw_skip ?_)) | (refine is_qw ?_; first | (with_reducible refine qw_then ?_)) | (refine lw_nil ?_) | ((refine is_bin ?_; first | (refine lw_pure rfl (pv_neq rfl rfl) ?_))) | ((refine is_bi ?_; first | (refine lw_pure rfl (pv_lenl (tS rfl) rfl) ?_))))
    repeat' (first | (refine is_cw ?_; first | (refine cw_block ?_)))
    refine cw_loop (σ := Nat) (fun k => [(0, .slice a p.length ca), (1, .slice b q.length cb), (5, .int .i64 (k : Nat))]) (fun k wr => k ≤ p.length ∧ Below w.heap.size w wr ∧ ∀ j, j < k → p[j]? = q[j]?) (fun k => p.length - k) 0 (by repeat' (first | exact trivial | refine ⟨rfl, ?_⟩)) ⟨Nat.zero_le _, hw, by omega⟩ ?_
    clear hw
    rintro k wr ⟨hk, hw, hn⟩
    by_cases hlt : k < p.length
    · have hxk : p[k]? = some p[k] := List.getElem?_eq_getElem hlt
      have hyk : q[k]? = some (q[k]'(by omega)) := List.getElem?_eq_getElem _
      obtain ⟨ab, ao, rfl, -, -⟩ := HP.at (by intro h; rw [h] at hlt; simp at hlt)
      obtain ⟨bb, bo, rfl, -, -⟩ := HQ.at (by intro h; rw [h] at hl; rw [hl] at hlt; simp at hlt)
      generalize p[k] = x at hxk
      generalize q[k] = y at hyk
      repeat' (first | (refine lw_pure rfl (pv_move rfl) ?_) | (refine is_cw ?_; first | (refine cw_seq ?_) | (refine cw_region ?_) | (refine is_cd ?_; refine cw_true rfl (by first | assumption | exact decide_eq_true (by omega) | exact dec_notT (by omega)) ?_) | (refine cw_skip ?_) | (refine cw_block ?_)) | (refine is_qw ?_; first | (with_reducible refine qw_then ?_)) | (refine lw_nil ?_) | ((refine is_bin ?_; first | (refine lw_pure rfl (pv_lss rfl rfl) ?_))) | ((refine is_bi ?_; first | (refine lw_pure rfl (pv_lenl (tS rfl) rfl) ?_))))
      refine cw_drawn (fun w' => Below w.heap.size w w') (by kernel_rfl) (by repeat (first | exact NoPanic.body | with_reducible refine NoPanic.then ?_ | with_reducible refine NoPanic.inBlock ?_)) (fun hNP => ?_)
      have hS := hw.drew
      (refine at0 0 rfl (fun w' hq => pv_move rfl) ?_)
      (refine at0 1 rfl (fun w' hq => pv_move rfl) ?_)
      (refine at0 2 rfl (fun w' hq => pv_ian (tS rfl) rfl rfl (by omega)) ?_)
      (refine at0 3 rfl (fun w' hq => pv_loada (tA rfl) rfl (by first | exact SlR.lda (HP.mono hq) hxk | exact SlR.lda (HQ.mono hq) hyk) (by rfl)) ?_)
      (refine at0 4 rfl (fun w' hq => pv_move rfl) ?_)
      (refine at0 5 rfl (fun w' hq => pv_move rfl) ?_)
      (refine at0 6 rfl (fun w' hq => pv_ian (tS rfl) rfl rfl (by omega)) ?_)
      (refine at0 7 rfl (fun w' hq => pv_loada (tA rfl) rfl (by first | exact SlR.lda (HP.mono hq) hxk | exact SlR.lda (HQ.mono hq) hyk) (by rfl)) ?_)
      (refine at0 8 rfl (fun w' hq => pv_neqO _ _ rfl rfl) ?_)
      refine aw_done (by kernel_rfl) ?_
      replace hw := hS; clear hS hNP
      by_cases hxy : x = y
      · repeat' (first | (refine lw_pure rfl (pv_move rfl) ?_) | (refine lw_pure rfl (pv_assign rfl) ?_) | (refine is_cw ?_; first | (refine cw_region ?_) | (refine is_cd ?_; refine cw_false rfl (by first | assumption | exact decide_eq_false (by omega) | exact dec_notF (by omega)) ?_) | (refine cw_skip ?_)) | (refine is_qw ?_; first | (with_reducible refine qw_then ?_) | (with_reducible refine qw_in ?_)) | (refine lw_nil ?_) | ((refine is_bin ?_; first | (refine lw_pure rfl (pv_inc rfl rfl (by omega)) ?_))))
        refine qw_round (k + 1) (by repeat' (first | exact trivial | refine ⟨rfl, ?_⟩)) ⟨by omega, hw, ?_⟩ (by omega)
        intro j hj
        by_cases hjk : j = k
        · subst hjk; rw [hxk, hyk, hxy]
        · exact hn j (by omega)
      · repeat' (first | (refine lw_pure rfl (pv_assign rfl) ?_) | (refine is_cw ?_; first | (refine cw_seq ?_) | (refine cw_region ?_) | (refine is_cd ?_; refine cw_true rfl (by first | assumption | exact decide_eq_true (by omega) | exact dec_notT (by omega)) ?_) | (refine cw_ret ?_)) | (refine is_qw ?_; first | (with_reducible refine qw_then ?_) | (with_reducible refine qw_then_ret ?_) | (with_reducible refine qw_in_ret ?_)) | (refine lw_nil ?_))
        refine qw_ret1 rfl rfl ⟨ret_bool ?_, hw⟩
        symm; rw [decide_eq_false_iff_not]; rintro rfl
        rw [hxk] at hyk; injection hyk with hyk; exact hxy hyk
    · have hkl : k = p.length := by omega
      subst hkl
      have he : p = q := List.ext_getElem? fun j => by
        by_cases hj : j < p.length
        · exact hn j hj
        · rw [List.getElem?_eq_none (by omega), List.getElem?_eq_none (by omega)]
      repeat' (first | (refine lw_pure rfl (pv_move rfl) ?_) | (refine lw_pure rfl (pv_assign rfl) ?_) | (refine is_cw ?_; first | (refine cw_seq ?_) | (refine cw_region ?_) | (refine is_cd ?_; refine cw_false rfl (by first | assumption | exact decide_eq_false (by omega) | exact dec_notF (by omega)) ?_) | (refine cw_exit ?_) | (refine cw_ret ?_)) | (refine is_qw ?_; first | (with_reducible refine qw_then ?_) | (with_reducible refine qw_in_hit ?_) | (with_reducible refine qw_then_exit ?_)) | (refine lw_nil ?_) | ((refine is_bin ?_; first | (refine lw_pure rfl (pv_lss rfl rfl) ?_))) | ((refine is_bi ?_; first | (refine lw_pure rfl (pv_lenl (tS rfl) rfl) ?_))))
      exact qw_ret1 rfl rfl ⟨ret_bool (by simp [he]), hw⟩
  · repeat' (first | (refine lw_pure rfl (pv_move rfl) ?_) | (refine lw_pure rfl (pv_assign rfl) ?_) | (refine is_cw ?_; first | (refine cw_seq ?_) | (refine cw_region ?_) | (refine is_cd ?_; refine cw_true rfl (by first | assumption | exact decide_eq_true (by omega) | exact dec_notT (by omega)) ?_) | (refine cw_ret ?_)) | (refine is_qw ?_; first | (with_reducible refine qw_then ?_) | (with_reducible refine qw_then_ret ?_)) | (refine lw_nil ?_) | ((refine is_bin ?_; first | (refine lw_pure rfl (pv_neq rfl rfl) ?_))) | ((refine is_bi ?_; first | (refine lw_pure rfl (pv_lenl (tS rfl) rfl) ?_))))
    exact qw_ret1 rfl rfl ⟨ret_bool (by symm; rw [decide_eq_false_iff_not]; rintro rfl; exact hl rfl), hw⟩

theorem pv_iap {P : Program} {n : Nat} {l : Fr} {w : World} {d : Option Nat} {ty : TypeId} {pos : String} {af : Array Edge} {g : Option (Nat × Bool)} {x y : Operand} {t : TypeId} {k : IntKind} {B o m c e j : Nat} {i : Int} (hi : i = (j : Int)) (ht : slB P t e = true) (hx : ev l x = some (.slice (some ⟨B, o, none⟩) m c)) (hy : ev l y = some (.int k i)) (h : j < m) : Pv P n l ⟨d, .indexAddr t x y, ty, pos, af, g⟩ (.pointer (some ⟨B, o + j * e, none⟩)) w := by
  subst hi; exact pv_ian ht hx hy h
set_option maxRecDepth 20000 in
set_option maxHeartbeats 2000000 in
theorem rmay_O {l : List Ord} {m : Nat} {ad : Option Addr} {cap : Nat} {w : World} (hm : l.length = m) (HS : SlR encO 6 w ad cap l) : Calls Tryz.prog 83 #[.slice ad m cap] w fun e w' => e = .returned (.bool (mayO l)) ∧ Below w.heap.size w w' := by
  subst hm
  have hw := Below.refl w.heap.size w
  have hla := HS.le
  have hma := HS.max
  refine fn_enter 38 Tryz.func83 rfl rfl rfl ?_
  repeat' (first | (refine lw_pure rfl (pv_assign rfl) ?_) | (refine is_cw ?_; first | (refine cw_seq ?_) | (refine cw_region ?_) | (refine cw_block ?_)) | (refine is_qw ?_; first | (with_reducible refine qw_then ?_)) | (refine lw_nil ?_))
  refine cw_loop (σ := Nat) (fun k => [(0, .slice ad l.length cap), (3, .int .i64 (k : Nat))]) (fun k wr => k ≤ l.length ∧ k ≤ 128 ∧ Below w.heap.size w wr ∧ (∀ (j : Nat) x, j < k → l[j]? = some x → mayOne x = true) ∧ ∀ (j : Nat) x y, j + 1 < k → l[j]? = some x → l[j + 1]? = some y → x.id < y.id) (fun k => l.length - k) 0 (by repeat' (first | exact trivial | refine ⟨rfl, ?_⟩)) ⟨Nat.zero_le _, Nat.zero_le _, hw, fun j x hj => by omega, fun j x y hj => by omega⟩ ?_
  clear hw
  rintro k wr ⟨hk, hk8, hw, hn1, hn2⟩
  by_cases hlt : k < l.length
  · have hxk : l[k]? = some (l[k]'(by omega)) := List.getElem?_eq_getElem _
    obtain ⟨ab, ao, rfl, -, -⟩ := HS.at (by intro h; rw [h] at hlt; simp at hlt)
    generalize l[k]'(by omega) = x at hxk
    have hE := Ext.mk hw
    replace HS := HS.mono hw
    clear hw
    have hw := Below.refl wr.heap.size wr
    by_cases h128 : 128 ≤ k
    · rw [mayO_no3 (by omega)]
      repeat' (first | (refine lw_pure rfl (pv_move rfl) ?_) | (refine is_cw ?_; first | (refine cw_seq ?_) | (refine cw_region ?_) | (refine is_cd ?_; refine cw_true rfl (by first | assumption | exact decide_eq_true (by omega) | exact dec_notT (by omega)) ?_) | (refine cw_skip ?_) | (refine cw_block ?_)) | (refine is_qw ?_; first | (with_reducible refine qw_then ?_)) | (refine lw_nil ?_) | ((refine is_bin ?_; first | (refine lw_pure rfl (pv_lss rfl rfl) ?_))) | ((refine is_bi ?_; first | (refine lw_pure rfl (pv_lenl (tS rfl) rfl) ?_))))
      refine cw_drawn (fun w' => Below wr.heap.size wr w') (by kernel_rfl) (by repeat (first | exact NoPanic.body | with_reducible refine NoPanic.then ?_ | with_reducible refine NoPanic.inBlock ?_)) (fun hNP => ?_)
      have hS := hw.drew
      all_goals (refine at0 0 rfl (fun w' hq => pv_move rfl) ?_)
      all_goals (refine at0 1 rfl (fun w' hq => pv_geq rfl rfl) ?_)
      all_goals (refine at0 2 rfl (fun w' hq => pv_move rfl) ?_)
      all_goals (refine an2 3 rfl rfl rfl ?_)
      all_goals (refine an2 4 rfl rfl rfl ?_)
      all_goals (refine an2 5 rfl rfl rfl ?_)
      all_goals (refine an2 6 rfl rfl rfl ?_)
      all_goals (refine an2 7 rfl rfl rfl ?_)
      all_goals (refine an2 8 rfl rfl rfl ?_)
      all_goals (refine at0 9 rfl (fun w' hq => pv_pick_t rfl (by first | assumption | exact decide_eq_true (by omega) | exact dec_notT (by omega)) rfl) ?_)
      all_goals (refine at0 10 rfl (fun w' hq => pv_move rfl) ?_)
      all_goals (refine an1 11 rfl rfl rfl rfl ?_)
      all_goals (refine an1 12 rfl rfl rfl rfl ?_)
      all_goals (refine an1 13 rfl rfl rfl rfl ?_)
      all_goals (refine an0 14 rfl rfl rfl ?_)
      all_goals (refine an0 15 rfl rfl rfl ?_)
      all_goals (refine an0 16 rfl rfl rfl ?_)
      all_goals (refine an0 17 rfl rfl rfl ?_)
      all_goals (refine an0 18 rfl rfl rfl ?_)
      all_goals (refine an0 19 rfl rfl rfl ?_)
      all_goals (refine an0 20 rfl rfl rfl ?_)
      all_goals (refine an0 21 rfl rfl rfl ?_)
      all_goals (refine an0 22 rfl rfl rfl ?_)
      all_goals (refine an0 23 rfl rfl rfl ?_)
      all_goals (refine an0 24 rfl rfl rfl ?_)
      all_goals (refine an0 25 rfl rfl rfl ?_)
      all_goals (refine an1 26 rfl rfl rfl rfl ?_)
      all_goals (refine at0 27 rfl (fun w' hq => pv_pick_t rfl rfl rfl) ?_)
      all_goals (refine aw_done (by kernel_rfl) ?_; replace hw := hS; clear hS hNP)
      repeat' (first | (refine lw_pure rfl (pv_assign rfl) ?_) | (refine is_cw ?_; first | (refine cw_seq ?_) | (refine cw_region ?_) | (refine cw_true rfl rfl ?_) | (refine cw_ret ?_)) | (refine is_qw ?_; first | (with_reducible refine qw_then ?_) | (with_reducible refine qw_then_ret ?_) | (with_reducible refine qw_in_ret ?_)) | (refine lw_nil ?_))
      exact qw_ret1 rfl rfl ⟨rfl, (hE.mono hw).b⟩
    cases hm : mayOne x with
    | false =>
      rw [mayO_no1 hxk hm]
      repeat' (first | (refine lw_pure rfl (pv_move rfl) ?_) | (refine is_cw ?_; first | (refine cw_seq ?_) | (refine cw_region ?_) | (refine is_cd ?_; refine cw_true rfl (by first | assumption | exact decide_eq_true (by omega) | exact dec_notT (by omega)) ?_) | (refine cw_skip ?_) | (refine cw_block ?_)) | (refine is_qw ?_; first | (with_reducible refine qw_then ?_)) | (refine lw_nil ?_) | ((refine is_bin ?_; first | (refine lw_pure rfl (pv_lss rfl rfl) ?_))) | ((refine is_bi ?_; first | (refine lw_pure rfl (pv_lenl (tS rfl) rfl) ?_))))
      refine cw_drawn (fun w' => Below wr.heap.size wr w') (by kernel_rfl) (by repeat (first | exact NoPanic.body | with_reducible refine NoPanic.then ?_ | with_reducible refine NoPanic.inBlock ?_)) (fun hNP => ?_)
      have hS := hw.drew
      all_goals (refine at0 0 rfl (fun w' hq => pv_move rfl) ?_)
      all_goals (refine at0 1 rfl (fun w' hq => pv_geq rfl rfl) ?_)
      all_goals (refine at0 2 rfl (fun w' hq => pv_move rfl) ?_)
      all_goals (refine at2 3 rfl rfl rfl (fun w' hq => pv_move rfl) ?_)
      all_goals (refine at2 4 rfl rfl rfl (fun w' hq => pv_move rfl) ?_)
      all_goals (refine at2 5 rfl rfl rfl (fun w' hq => pv_ian (tS rfl) rfl rfl (by omega)) ?_)
      all_goals (refine at2 6 rfl rfl rfl (fun w' hq => pv_loada (tA rfl) rfl (by first | exact SlR.lda (HS.mono hq) hxk) (by rfl)) ?_)
      all_goals first | (refine an3 7 rfl rfl rfl ?_) | (refine an0 7 rfl rfl rfl ?_) | (refine aw_act_g 7 (by kernel_rfl) rfl rfl rfl (by first | rfl | assumption | exact decide_eq_true (by omega) | exact decide_eq_false (by omega) | exact dec_notT (by omega) | exact dec_notF (by omega)) rfl ?_; refine act_call (f := 86) (by kernel_rfl) rfl (rmayOne_e hm _) ?_; rintro e w1 ⟨rfl, hb⟩; refine ⟨_, rfl, grow_trans hS hb, fun hS => ?_⟩; clear hb)
      all_goals (refine at2 8 rfl rfl rfl (fun w' hq => pv_not rfl) ?_)
      all_goals (refine at0 9 rfl (fun w' hq => pv_pick_f rfl (by first | assumption | exact decide_eq_false (by omega) | exact dec_notF (by omega)) rfl) ?_)
      all_goals (refine at0 10 rfl (fun w' hq => pv_move rfl) ?_)
      all_goals (refine an1 11 rfl rfl rfl rfl ?_)
      all_goals (refine an1 12 rfl rfl rfl rfl ?_)
      all_goals (refine an1 13 rfl rfl rfl rfl ?_)
      all_goals (refine an0 14 rfl rfl rfl ?_)
      all_goals (refine an0 15 rfl rfl rfl ?_)
      all_goals (refine an0 16 rfl rfl rfl ?_)
      all_goals (refine an0 17 rfl rfl rfl ?_)
      all_goals (refine an0 18 rfl rfl rfl ?_)
      all_goals (refine an0 19 rfl rfl rfl ?_)
      all_goals (refine an0 20 rfl rfl rfl ?_)
      all_goals (refine an0 21 rfl rfl rfl ?_)
      all_goals (refine an0 22 rfl rfl rfl ?_)
      all_goals (refine an0 23 rfl rfl rfl ?_)
      all_goals (refine an0 24 rfl rfl rfl ?_)
      all_goals (refine an0 25 rfl rfl rfl ?_)
      all_goals (refine an1 26 rfl rfl rfl rfl ?_)
      all_goals (refine at0 27 rfl (fun w' hq => pv_pick_t rfl rfl rfl) ?_)
      all_goals (refine aw_done (by kernel_rfl) ?_; replace hw := hS; clear hS hNP)
      repeat' (first | (refine lw_pure rfl (pv_assign rfl) ?_) | (refine is_cw ?_; first | (refine cw_seq ?_) | (refine cw_region ?_) | (refine cw_true rfl rfl ?_) | (refine cw_ret ?_)) | (refine is_qw ?_; first | (with_reducible refine qw_then ?_) | (with_reducible refine qw_then_ret ?_) | (with_reducible refine qw_in_ret ?_)) | (refine lw_nil ?_))
      exact qw_ret1 rfl rfl ⟨rfl, (hE.mono hw).b⟩
    | true =>
      have hn3 : ∀ (j : Nat) u, j < k + 1 → l[j]? = some u → mayOne u = true := fun j u hj hu => by
        by_cases hjk : j = k
        · subst hjk; rw [hxk] at hu; injection hu with hu; subst hu; exact hm
        · exact hn1 j u (by omega) hu
      by_cases hk0 : k = 0
      · subst hk0
        repeat' (first | (refine lw_pure rfl (pv_move rfl) ?_) | (refine is_cw ?_; first | (refine cw_seq ?_) | (refine cw_region ?_) | (refine is_cd ?_; refine cw_true rfl (by first | assumption | exact decide_eq_true (by omega) | exact dec_notT (by omega)) ?_) | (refine cw_skip ?_) | (refine cw_block ?_)) | (refine is_qw ?_; first | (with_reducible refine qw_then ?_)) | (refine lw_nil ?_) | ((refine is_bin ?_; first | (refine lw_pure rfl (pv_lss rfl rfl) ?_))) | ((refine is_bi ?_; first | (refine lw_pure rfl (pv_lenl (tS rfl) rfl) ?_))))
        refine cw_drawn (fun w' => Below wr.heap.size wr w') (by kernel_rfl) (by repeat (first | exact NoPanic.body | with_reducible refine NoPanic.then ?_ | with_reducible refine NoPanic.inBlock ?_)) (fun hNP => ?_)
        have hS := hw.drew
        all_goals (refine at0 0 rfl (fun w' hq => pv_move rfl) ?_)
        all_goals (refine at0 1 rfl (fun w' hq => pv_geq rfl rfl) ?_)
        all_goals (refine at0 2 rfl (fun w' hq => pv_move rfl) ?_)
        all_goals (refine at1 3 rfl rfl rfl rfl (fun w' hq => pv_move rfl) ?_)
        all_goals (refine at1 4 rfl rfl rfl rfl (fun w' hq => pv_move rfl) ?_)
        all_goals (refine at1 5 rfl rfl rfl rfl (fun w' hq => pv_ian (tS rfl) rfl rfl (by omega)) ?_)
        all_goals (refine at1 6 rfl rfl rfl rfl (fun w' hq => pv_loada (tA rfl) rfl (by first | exact SlR.lda (HS.mono hq) hxk) (by rfl)) ?_)
        all_goals first | (refine an3 7 rfl rfl rfl ?_) | (refine an0 7 rfl rfl rfl ?_) | (refine aw_act_g 7 (by kernel_rfl) rfl rfl rfl (by first | rfl | assumption | exact decide_eq_true (by omega) | exact decide_eq_false (by omega) | exact dec_notT (by omega) | exact dec_notF (by omega)) rfl ?_; refine act_call (f := 86) (by kernel_rfl) rfl (rmayOne_e hm _) ?_; rintro e w1 ⟨rfl, hb⟩; refine ⟨_, rfl, grow_trans hS hb, fun hS => ?_⟩; clear hb)
        all_goals (refine at1 8 rfl rfl rfl rfl (fun w' hq => pv_not rfl) ?_)
        all_goals (refine at0 9 rfl (fun w' hq => pv_pick_f rfl rfl rfl) ?_)
        all_goals (refine at0 10 rfl (fun w' hq => pv_move rfl) ?_)
        all_goals (refine at1 11 rfl rfl rfl rfl (fun w' hq => pv_move rfl) ?_)
        all_goals (refine at1 12 rfl rfl rfl rfl (fun w' hq => pv_gtr rfl rfl) ?_)
        all_goals (refine at1 13 rfl rfl rfl rfl (fun w' hq => pv_move rfl) ?_)
        all_goals (refine an1 14 rfl rfl rfl rfl ?_)
        all_goals (refine an1 15 rfl rfl rfl rfl ?_)
        all_goals (refine an1 16 rfl rfl rfl rfl ?_)
        all_goals (refine an1 17 rfl rfl rfl rfl ?_)
        all_goals (refine an1 18 rfl rfl rfl rfl ?_)
        all_goals (refine an1 19 rfl rfl rfl rfl ?_)
        all_goals (refine an1 20 rfl rfl rfl rfl ?_)
        all_goals (refine an1 21 rfl rfl rfl rfl ?_)
        all_goals (refine an1 22 rfl rfl rfl rfl ?_)
        all_goals (refine an1 23 rfl rfl rfl rfl ?_)
        all_goals (refine an1 24 rfl rfl rfl rfl ?_)
        all_goals (refine an1 25 rfl rfl rfl rfl ?_)
        all_goals (refine at1 26 rfl rfl rfl rfl (fun w' hq => pv_pick_f rfl rfl rfl) ?_)
        all_goals (refine at0 27 rfl (fun w' hq => pv_pick_f rfl rfl rfl) ?_)
        all_goals (refine aw_done (by kernel_rfl) ?_; replace hw := hS; clear hS hNP)
        repeat' (first | (refine lw_pure rfl (pv_move rfl) ?_) | (refine lw_pure rfl (pv_assign rfl) ?_) | (refine is_cw ?_; first | (refine cw_region ?_) | (refine cw_false rfl rfl ?_) | (refine cw_skip ?_)) | (refine is_qw ?_; first | (with_reducible refine qw_then ?_) | (with_reducible refine qw_in ?_)) | (refine lw_nil ?_) | ((refine is_bin ?_; first | (refine lw_pure rfl (pv_inc rfl rfl (by omega)) ?_))))
        exact qw_round 1 (by repeat' (first | exact trivial | refine ⟨rfl, ?_⟩)) ⟨by omega, by omega, (hE.mono hw).b, hn3, fun j u v hj => by omega⟩ (by omega)
      · have hyk : l[k - 1]? = some (l[k - 1]'(by omega)) := List.getElem?_eq_getElem _
        generalize l[k - 1]'(by omega) = y at hyk
        have hidx : ((k : Int) - 1) = ((k - 1 : Nat) : Int) := by omega
        have hlt1 : k - 1 < l.length := by omega
        by_cases hxy : y.id < x.id
        · repeat' (first | (refine lw_pure rfl (pv_move rfl) ?_) | (refine is_cw ?_; first | (refine cw_seq ?_) | (refine cw_region ?_) | (refine is_cd ?_; refine cw_true rfl (by first | assumption | exact decide_eq_true (by omega) | exact dec_notT (by omega)) ?_) | (refine cw_skip ?_) | (refine cw_block ?_)) | (refine is_qw ?_; first | (with_reducible refine qw_then ?_)) | (refine lw_nil ?_) | ((refine is_bin ?_; first | (refine lw_pure rfl (pv_lss rfl rfl) ?_))) | ((refine is_bi ?_; first | (refine lw_pure rfl (pv_lenl (tS rfl) rfl) ?_))))
          refine cw_drawn (fun w' => Below wr.heap.size wr w') (by kernel_rfl) (by repeat (first | exact NoPanic.body | with_reducible refine NoPanic.then ?_ | with_reducible refine NoPanic.inBlock ?_)) (fun hNP => ?_)
          have hS := hw.drew
          all_goals (refine at0 0 rfl (fun w' hq => pv_move rfl) ?_)
          all_goals (refine at0 1 rfl (fun w' hq => pv_geq rfl rfl) ?_)
          all_goals (refine at0 2 rfl (fun w' hq => pv_move rfl) ?_)
          all_goals (refine at2 3 rfl rfl rfl (fun w' hq => pv_move rfl) ?_)
          all_goals (refine at2 4 rfl rfl rfl (fun w' hq => pv_move rfl) ?_)
          all_goals (refine at2 5 rfl rfl rfl (fun w' hq => pv_ian (tS rfl) rfl rfl (by omega)) ?_)
          all_goals (refine at2 6 rfl rfl rfl (fun w' hq => pv_loada (tA rfl) rfl (by first | exact SlR.lda (HS.mono hq) hxk | exact SlR.lda (HS.mono hq) hyk) (by rfl)) ?_)
          all_goals first | (refine an3 7 rfl rfl rfl ?_) | (refine an0 7 rfl rfl rfl ?_) | (refine aw_act_g 7 (by kernel_rfl) rfl rfl rfl (by first | rfl | assumption | exact decide_eq_true (by omega) | exact decide_eq_false (by omega) | exact dec_notT (by omega) | exact dec_notF (by omega)) rfl ?_; refine act_call (f := 86) (by kernel_rfl) rfl (rmayOne_e hm _) ?_; rintro e w1 ⟨rfl, hb⟩; refine ⟨_, rfl, grow_trans hS hb, fun hS => ?_⟩; clear hb)
          all_goals (refine at2 8 rfl rfl rfl (fun w' hq => pv_not rfl) ?_)
          all_goals (refine at0 9 rfl (fun w' hq => pv_pick_f rfl (by first | assumption | exact decide_eq_false (by omega) | exact dec_notF (by omega)) rfl) ?_)
          all_goals (refine at0 10 rfl (fun w' hq => pv_move rfl) ?_)
          all_goals (refine at1 11 rfl rfl rfl rfl (fun w' hq => pv_move rfl) ?_)
          all_goals (refine at1 12 rfl rfl rfl rfl (fun w' hq => pv_gtr rfl rfl) ?_)
          all_goals (refine at1 13 rfl rfl rfl rfl (fun w' hq => pv_move rfl) ?_)
          all_goals (refine at2 14 rfl rfl rfl (fun w' hq => pv_move rfl) ?_)
          all_goals (refine at2 15 rfl rfl rfl (fun w' hq => pv_move rfl) ?_)
          all_goals (refine at2 16 rfl rfl rfl (fun w' hq => pv_ian (tS rfl) rfl rfl (by omega)) ?_)
          all_goals (refine at2 17 rfl rfl rfl (fun w' hq => pv_fa (tF rfl) rfl) ?_)
          all_goals (refine at2 18 rfl rfl rfl (fun w' hq => pv_load (t1 rfl) rfl (by first | exact SlR.ld (HS.mono hq) hxk rfl | exact SlR.ld1 (HS.mono hq) hxk rfl | exact SlR.ld (HS.mono hq) hyk rfl | exact SlR.ld1 (HS.mono hq) hyk rfl)) ?_)
          all_goals (refine at2 19 rfl rfl rfl (fun w' hq => pv_move rfl) ?_)
          all_goals (refine at2 20 rfl rfl rfl (fun w' hq => pv_move rfl) ?_)
          all_goals (refine at2 21 rfl rfl rfl (fun w' hq => pv_sub rfl rfl (by omega)) ?_)
          all_goals (refine at2 22 rfl rfl rfl (fun w' hq => pv_iap hidx (tS rfl) rfl rfl hlt1) ?_)
          all_goals (refine at2 23 rfl rfl rfl (fun w' hq => pv_fa (tF rfl) rfl) ?_)
          all_goals (refine at2 24 rfl rfl rfl (fun w' hq => pv_load (t1 rfl) rfl (by first | exact SlR.ld (HS.mono hq) hxk rfl | exact SlR.ld1 (HS.mono hq) hxk rfl | exact SlR.ld (HS.mono hq) hyk rfl | exact SlR.ld1 (HS.mono hq) hyk rfl)) ?_)
          all_goals (refine at2 25 rfl rfl rfl (fun w' hq => pv_leq rfl rfl) ?_)
          all_goals (refine at1 26 rfl rfl rfl rfl (fun w' hq => pv_pick_t rfl (by first | assumption | exact decide_eq_true (by omega) | exact dec_notT (by omega)) rfl) ?_)
          all_goals (refine at0 27 rfl (fun w' hq => pv_pick_f rfl rfl rfl) ?_)
          all_goals (refine aw_done (by kernel_rfl) ?_; replace hw := hS; clear hS hNP)
          repeat' (first | (refine lw_pure rfl (pv_move rfl) ?_) | (refine lw_pure rfl (pv_assign rfl) ?_) | (refine is_cw ?_; first | (refine cw_region ?_) | (refine is_cd ?_; refine cw_false rfl (by first | assumption | exact decide_eq_false (by omega) | exact dec_notF (by omega)) ?_) | (refine cw_skip ?_)) | (refine is_qw ?_; first | (with_reducible refine qw_then ?_) | (with_reducible refine qw_in ?_)) | (refine lw_nil ?_) | ((refine is_bin ?_; first | (refine lw_pure rfl (pv_inc rfl rfl (by omega)) ?_))))
          refine qw_round (k + 1) (by repeat' (first | exact trivial | refine ⟨rfl, ?_⟩)) ⟨by omega, by omega, (hE.mono hw).b, hn3, fun j u v hj hu hv => ?_⟩ (by omega)
          by_cases hjk : j + 1 = k
          · have : j = k - 1 := by omega
            subst this
            rw [hyk] at hu; rw [hjk, hxk] at hv; injection hu with hu; injection hv with hv; subst hu hv; exact hxy
          · exact hn2 j u v (by omega) hu hv
        · rw [mayO_no2 (j := k - 1) hyk (by rw [show k - 1 + 1 = k by omega]; exact hxk) (by omega)]
          repeat' (first | (refine lw_pure rfl (pv_move rfl) ?_) | (refine is_cw ?_; first | (refine cw_seq ?_) | (refine cw_region ?_) | (refine is_cd ?_; refine cw_true rfl (by first | assumption | exact decide_eq_true (by omega) | exact dec_notT (by omega)) ?_) | (refine cw_skip ?_) | (refine cw_block ?_)) | (refine is_qw ?_; first | (with_reducible refine qw_then ?_)) | (refine lw_nil ?_) | ((refine is_bin ?_; first | (refine lw_pure rfl (pv_lss rfl rfl) ?_))) | ((refine is_bi ?_; first | (refine lw_pure rfl (pv_lenl (tS rfl) rfl) ?_))))
          refine cw_drawn (fun w' => Below wr.heap.size wr w') (by kernel_rfl) (by repeat (first | exact NoPanic.body | with_reducible refine NoPanic.then ?_ | with_reducible refine NoPanic.inBlock ?_)) (fun hNP => ?_)
          have hS := hw.drew
          all_goals (refine at0 0 rfl (fun w' hq => pv_move rfl) ?_)
          all_goals (refine at0 1 rfl (fun w' hq => pv_geq rfl rfl) ?_)
          all_goals (refine at0 2 rfl (fun w' hq => pv_move rfl) ?_)
          all_goals (refine at2 3 rfl rfl rfl (fun w' hq => pv_move rfl) ?_)
          all_goals (refine at2 4 rfl rfl rfl (fun w' hq => pv_move rfl) ?_)
          all_goals (refine at2 5 rfl rfl rfl (fun w' hq => pv_ian (tS rfl) rfl rfl (by omega)) ?_)
          all_goals (refine at2 6 rfl rfl rfl (fun w' hq => pv_loada (tA rfl) rfl (by first | exact SlR.lda (HS.mono hq) hxk | exact SlR.lda (HS.mono hq) hyk) (by rfl)) ?_)
          all_goals first | (refine an3 7 rfl rfl rfl ?_) | (refine an0 7 rfl rfl rfl ?_) | (refine aw_act_g 7 (by kernel_rfl) rfl rfl rfl (by first | rfl | assumption | exact decide_eq_true (by omega) | exact decide_eq_false (by omega) | exact dec_notT (by omega) | exact dec_notF (by omega)) rfl ?_; refine act_call (f := 86) (by kernel_rfl) rfl (rmayOne_e hm _) ?_; rintro e w1 ⟨rfl, hb⟩; refine ⟨_, rfl, grow_trans hS hb, fun hS => ?_⟩; clear hb)
          all_goals (refine at2 8 rfl rfl rfl (fun w' hq => pv_not rfl) ?_)
          all_goals (refine at0 9 rfl (fun w' hq => pv_pick_f rfl (by first | assumption | exact decide_eq_false (by omega) | exact dec_notF (by omega)) rfl) ?_)
          all_goals (refine at0 10 rfl (fun w' hq => pv_move rfl) ?_)
          all_goals (refine at1 11 rfl rfl rfl rfl (fun w' hq => pv_move rfl) ?_)
          all_goals (refine at1 12 rfl rfl rfl rfl (fun w' hq => pv_gtr rfl rfl) ?_)
          all_goals (refine at1 13 rfl rfl rfl rfl (fun w' hq => pv_move rfl) ?_)
          all_goals (refine at2 14 rfl rfl rfl (fun w' hq => pv_move rfl) ?_)
          all_goals (refine at2 15 rfl rfl rfl (fun w' hq => pv_move rfl) ?_)
          all_goals (refine at2 16 rfl rfl rfl (fun w' hq => pv_ian (tS rfl) rfl rfl (by omega)) ?_)
          all_goals (refine at2 17 rfl rfl rfl (fun w' hq => pv_fa (tF rfl) rfl) ?_)
          all_goals (refine at2 18 rfl rfl rfl (fun w' hq => pv_load (t1 rfl) rfl (by first | exact SlR.ld (HS.mono hq) hxk rfl | exact SlR.ld1 (HS.mono hq) hxk rfl | exact SlR.ld (HS.mono hq) hyk rfl | exact SlR.ld1 (HS.mono hq) hyk rfl)) ?_)
          all_goals (refine at2 19 rfl rfl rfl (fun w' hq => pv_move rfl) ?_)
          all_goals (refine at2 20 rfl rfl rfl (fun w' hq => pv_move rfl) ?_)
          all_goals (refine at2 21 rfl rfl rfl (fun w' hq => pv_sub rfl rfl (by omega)) ?_)
          all_goals (refine at2 22 rfl rfl rfl (fun w' hq => pv_iap hidx (tS rfl) rfl rfl hlt1) ?_)
          all_goals (refine at2 23 rfl rfl rfl (fun w' hq => pv_fa (tF rfl) rfl) ?_)
          all_goals (refine at2 24 rfl rfl rfl (fun w' hq => pv_load (t1 rfl) rfl (by first | exact SlR.ld (HS.mono hq) hxk rfl | exact SlR.ld1 (HS.mono hq) hxk rfl | exact SlR.ld (HS.mono hq) hyk rfl | exact SlR.ld1 (HS.mono hq) hyk rfl)) ?_)
          all_goals (refine at2 25 rfl rfl rfl (fun w' hq => pv_leq rfl rfl) ?_)
          all_goals (refine at1 26 rfl rfl rfl rfl (fun w' hq => pv_pick_t rfl (by first | assumption | exact decide_eq_true (by omega) | exact dec_notT (by omega)) rfl) ?_)
          all_goals (refine at0 27 rfl (fun w' hq => pv_pick_f rfl rfl rfl) ?_)
          all_goals (refine aw_done (by kernel_rfl) ?_; replace hw := hS; clear hS hNP)
          repeat' (first | (refine lw_pure rfl (pv_assign rfl) ?_) | (refine is_cw ?_; first | (refine cw_seq ?_) | (refine cw_region ?_) | (refine is_cd ?_; refine cw_true rfl (by first | assumption | exact decide_eq_true (by omega) | exact dec_notT (by omega)) ?_) | (refine cw_ret ?_)) | (refine is_qw ?_; first | (with_reducible refine qw_then ?_) | (with_reducible refine qw_then_ret ?_) | (with_reducible refine qw_in_ret ?_)) | (refine lw_nil ?_))
          exact qw_ret1 rfl rfl ⟨rfl, (hE.mono hw).b⟩
  · have hkl : k = l.length := by omega
    subst hkl
    rw [mayO_yes hk8 (all_get fun j x hx => hn1 j x (List.getElem?_eq_some_iff.1 hx).1 hx) fun j x y hx hy => hn2 j x y (List.getElem?_eq_some_iff.1 hy).1 hx hy]
    repeat' (first | (refine lw_pure rfl (pv_move rfl) ?_) | (refine lw_pure rfl (pv_assign rfl) ?_) | (refine is_cw ?_; first | (refine cw_seq ?_) | (refine cw_region ?_) | (refine is_cd ?_; refine cw_false rfl (by first | assumption | exact decide_eq_false (by omega) | exact dec_notF (by omega)) ?_) | (refine cw_exit ?_) | (refine cw_ret ?_)) | (refine is_qw ?_; first | (with_reducible refine qw_then ?_) | (with_reducible refine qw_in_hit ?_) | (with_reducible refine qw_then_exit ?_)) | (refine lw_nil ?_) | ((refine is_bin ?_; first | (refine lw_pure rfl (pv_lss rfl rfl) ?_))) | ((refine is_bi ?_; first | (refine lw_pure rfl (pv_lenl (tS rfl) rfl) ?_))))
    exact qw_ret1 rfl rfl ⟨rfl, hw⟩

section
variable {P : Program} {n : Nat} {l : Fr}
theorem pv_iface {w : World} {d : Option Nat} {ty t : TypeId} {pos : String} {af : Array Edge} {g : Option (Nat × Bool)} {x : Operand} {v : Value} (hc : P.concrete t = true) (hx : ev l x = some v) : Pv P n l ⟨d, .makeInterface t x, ty, pos, af, g⟩ (.iface t v) w := ⟨fun A hA => by
  simp [execOp, hA.ev hx, run_makeInterface w t v hc]⟩
theorem run_callm {w : World} {f : FuncId} {a : Act} {x : Operand} {name : String} {t : TypeId} {v r : Value} {args : List Operand} {ts : Array TypeId} {d : Option Nat} {ty : TypeId} {pos : String} {af : Array Edge} {g : Option (Nat × Bool)} (hm : (method (P.types.size + Made.depth) t v name).run P w = .ok (f, r) w) (he : entersB P f = true) (ha : Holds n l a) (hx : ev l x = some (.iface t v)) {vs : List Value} (hvs : evs l args = some vs) :
    (execOp a.eval ⟨d, .call ⟨.invoke x name, args.toArray, ts⟩, ty, pos, af, g⟩).run P w = .ok (.enter f (r :: vs).toArray) w := by
  have h0 : (#[Value.iface t v] ++ vs.toArray)[0]? = some (.iface t v) := by simp
  have h1 : (#[Value.iface t v] ++ vs.toArray).extract 1 (#[Value.iface t v] ++ vs.toArray).size = vs.toArray := by simp
  have h2 : (callMethod (.iface t v) name vs.toArray).run P w = .ok (.enter f (r :: vs).toArray) w := by
    simp only [callMethod, Sem.run_bind, run_program, Result.andThen_ok, hm]
    have := run_callFunc he (#[r] ++ vs.toArray) w
    rw [this]; simp
  simp [execOp, resolve, ha.ev hx, invoke, ha.evs hvs, h2]
theorem act_callm {w : World} {d : Option Nat} {f : FuncId} {x : Operand} {name : String} {t : TypeId} {v r : Value} {args : List Operand} {ts : Array TypeId} {ty : TypeId} {pos : String} {af : Array Edge} {g : Option (Nat × Bool)} {vs : List Value} {R : Ending → World → Prop} {Z : Value → World → Prop} (hm : (method (P.types.size + Made.depth) t v name).run P w = .ok (f, r) w) (he : entersB P f = true) (hx : ev l x = some (.iface t v)) (hvs : evs l args = some vs)
    (hc : Calls P f (r :: vs).toArray w R) (h : ∀ e w', R e w' → ∃ v, e = .returned v ∧ Z v w') : Act1 P n l ⟨d, .call ⟨.invoke x name, args.toArray, ts⟩, ty, pos, af, g⟩ w Z := ⟨fun a ha K Q hK => by
  unfold Oper.wp; rw [run_callm hm he ha hx hvs]
  refine Calls.mono hc fun e w' hr => ?_
  obtain ⟨v, rfl, hl⟩ := h e w' hr
  exact hK v w' hl⟩
end
set_option maxRecDepth 20000 in
theorem withI_c (n m : Int) (w : World) : Calls Tryz.prog 97 #[.int .i64 n, .int .i64 m] w fun e w' => e = .returned (.bool (decide (1 ≤ n ∧ n ≤ m))) ∧ Below w.heap.size w w' := by
  have hw := Below.refl w.heap.size w
  refine fn_enter 12 Tryz.func97 rfl rfl rfl ?_
  repeat' (first | (refine lw_pure rfl (pv_move rfl) ?_) | (refine lw_pure rfl (pv_assign rfl) ?_) | (refine is_cw ?_; first | (refine cw_seq ?_) | (refine cw_region ?_) | (refine cw_ret ?_)) | (refine is_qw ?_; first | (with_reducible refine qw_then ?_)) | (refine lw_nil ?_) | (refine is_guarded ?_; first | (refine lw_on rfl rfl (by first | assumption | exact decide_eq_true (by omega) | exact decide_eq_false (by omega) | exact dec_notT (by omega) | exact dec_notF (by omega)) ?_) | (refine lw_not rfl rfl rfl (by first | assumption | exact decide_eq_true (by omega) | exact decide_eq_false (by omega) | exact dec_notT (by omega) | exact dec_notF (by omega)) ?_) | (refine lw_gs_t rfl rfl rfl (fun hc => ?_) (fun hc => ?_) <;> (first | replace hc := of_decide_eq_true hc | replace hc := of_decide_eq_false hc | replace hc := dec_nT hc | replace hc := dec_nF hc | skip) <;> (try (exfalso; omega)))) | ((refine is_bin ?_; first | (refine lw_pure rfl (pv_leq rfl rfl) ?_) | (refine lw_pure rfl (pv_geq rfl rfl) ?_))) | (refine is_pk ?_; refine lw_pure rfl (pv_pick_t rfl (by first | assumption | exact decide_eq_true (by omega) | exact dec_notT (by omega)) rfl) ?_) | (refine is_pk ?_; refine lw_pure rfl (pv_pick_f rfl (by first | assumption | exact decide_eq_false (by omega) | exact dec_notF (by omega)) rfl) ?_))
  all_goals (refine qw_ret1 rfl rfl ⟨ret_bool ?_, hw⟩; first | rfl | (rw [decide_eq_decide]; omega) | (symm; rw [decide_eq_true_eq]; omega) | (symm; rw [decide_eq_false_iff_not]; omega))
set_option maxRecDepth 20000 in
theorem withL_c (n m : Int) (w : World) : Calls Tryz.prog 96 #[.int .i64 n, .int .i64 m] w fun e w' => e = .returned (.bool (decide (1 ≤ n ∧ n ≤ m))) ∧ Below w.heap.size w w' := by
  have hw := Below.refl w.heap.size w
  refine fn_enter 12 Tryz.func96 rfl rfl rfl ?_
  repeat' (first | (refine lw_pure rfl (pv_move rfl) ?_) | (refine lw_pure rfl (pv_assign rfl) ?_) | (refine is_cw ?_; first | (refine cw_seq ?_) | (refine cw_region ?_) | (refine cw_ret ?_)) | (refine is_qw ?_; first | (with_reducible refine qw_then ?_)) | (refine lw_nil ?_) | (refine is_guarded ?_; first | (refine lw_on rfl rfl (by first | assumption | exact decide_eq_true (by omega) | exact decide_eq_false (by omega) | exact dec_notT (by omega) | exact dec_notF (by omega)) ?_) | (refine lw_not rfl rfl rfl (by first | assumption | exact decide_eq_true (by omega) | exact decide_eq_false (by omega) | exact dec_notT (by omega) | exact dec_notF (by omega)) ?_) | (refine lw_gs_t rfl rfl rfl (fun hc => ?_) (fun hc => ?_) <;> (first | replace hc := of_decide_eq_true hc | replace hc := of_decide_eq_false hc | replace hc := dec_nT hc | replace hc := dec_nF hc | skip) <;> (try (exfalso; omega)))) | ((refine is_bin ?_; first | (refine lw_pure rfl (pv_leq rfl rfl) ?_) | (refine lw_pure rfl (pv_geq rfl rfl) ?_))) | (refine is_pk ?_; refine lw_pure rfl (pv_pick_t rfl (by first | assumption | exact decide_eq_true (by omega) | exact dec_notT (by omega)) rfl) ?_) | (refine is_pk ?_; refine lw_pure rfl (pv_pick_f rfl (by first | assumption | exact decide_eq_false (by omega) | exact dec_notF (by omega)) rfl) ?_))
  all_goals (refine qw_ret1 rfl rfl ⟨ret_bool ?_, hw⟩; first | rfl | (rw [decide_eq_decide]; omega) | (symm; rw [decide_eq_true_eq]; omega) | (symm; rw [decide_eq_false_iff_not]; omega))
set_option maxRecDepth 20000 in
theorem rin_c (n m : Int) (w : World) : Calls Tryz.prog 87 #[.int .i64 n, .int .i64 m] w fun e w' => e = .returned (.bool (decide (1 ≤ n ∧ n ≤ m))) ∧ Below w.heap.size w w' := by
  have hw := Below.refl w.heap.size w
  refine fn_enter 12 Tryz.func87 rfl rfl rfl ?_
  repeat' (first | (refine lw_pure rfl (pv_move rfl) ?_) | (refine lw_pure rfl (pv_assign rfl) ?_) | (refine is_cw ?_; first | (refine cw_seq ?_) | (refine cw_region ?_) | (refine cw_ret ?_)) | (refine is_qw ?_; first | (with_reducible refine qw_then ?_)) | (refine lw_nil ?_) | (refine is_guarded ?_; first | (refine lw_on rfl rfl (by first | assumption | exact decide_eq_true (by omega) | exact decide_eq_false (by omega) | exact dec_notT (by omega) | exact dec_notF (by omega)) ?_) | (refine lw_not rfl rfl rfl (by first | assumption | exact decide_eq_true (by omega) | exact decide_eq_false (by omega) | exact dec_notT (by omega) | exact dec_notF (by omega)) ?_) | (refine lw_gs_t rfl rfl rfl (fun hc => ?_) (fun hc => ?_) <;> (first | replace hc := of_decide_eq_true hc | replace hc := of_decide_eq_false hc | replace hc := dec_nT hc | replace hc := dec_nF hc | skip) <;> (try (exfalso; omega)))) | ((refine is_bin ?_; first | (refine lw_pure rfl (pv_leq rfl rfl) ?_) | (refine lw_pure rfl (pv_geq rfl rfl) ?_))) | (refine is_pk ?_; refine lw_pure rfl (pv_pick_t rfl (by first | assumption | exact decide_eq_true (by omega) | exact dec_notT (by omega)) rfl) ?_) | (refine is_pk ?_; refine lw_pure rfl (pv_pick_f rfl (by first | assumption | exact decide_eq_false (by omega) | exact dec_notF (by omega)) rfl) ?_))
  all_goals (refine qw_ret1 rfl rfl ⟨ret_bool ?_, hw⟩; first | rfl | (rw [decide_eq_decide]; omega) | (symm; rw [decide_eq_true_eq]; omega) | (symm; rw [decide_eq_false_iff_not]; omega))
/-! which bids may be -/
theorem bids_no1 {s : Int} {l : List Bid} {j : Nat} {b : Bid} (h : l[j]? = some b) (hb : bidB s b = false) : bidsB s l = false := by
  rw [← Bool.not_eq_true, bidsB_iff]; intro hM
  have := hM.1 b (List.mem_of_getElem? h); rw [hb] at this; cases this
theorem bids_no2 {s : Int} {l : List Bid} {i j : Nat} {b c : Bid} (hi : l[i]? = some c) (h : l[j]? = some b) (hij : i < j) (he : c.acct = b.acct) : bidsB s l = false := by
  rw [← Bool.not_eq_true, bidsB_iff, nodup_get]; intro hM
  exact hM.2 i j c b hij hi h he
theorem bids_yes {s : Int} {l : List Bid} (h : ∀ (j : Nat) b, l[j]? = some b → bidB s b = true ∧ ∀ (i : Nat) c, i < j → l[i]? = some c → c.acct ≠ b.acct) : bidsB s l = true := by
  rw [bidsB_iff, nodup_get]
  exact ⟨all_get fun j b hb => (h j b hb).1, fun i j x y hij hx hy => (h j y hy).2 i x hij hx⟩
set_option maxRecDepth 20000 in
theorem bidsF_c {b c : Bid} {N : Nat} {w : World} (HB : PT w N 46 (encD b)) : Calls Tryz.prog 124 #[.agg (encD c).toArray, .pointer (some ⟨N, 0, none⟩)] w fun e w' => e = .returned (.bool (decide (c.acct = b.acct))) ∧ Below w.heap.size w w' := by
  have hE := Ext.refl w
  have hw := Below.refl w.heap.size w
  refine fn_enter 9 Tryz.func124 rfl rfl rfl ?_
  repeat' (first | (refine is_cw ?_; first | (refine cw_seq ?_) | (refine cw_region ?_)))
  refine lw_boxN rfl rfl (cs := encD c) rfl ?_; intro N2 wn hN2 HX hb; replace hN2 := Nat.le_trans hw.size hN2; replace hw := grow_trans hw hb; clear hb
  replace hE := hE.mono hw; replace HB := HB.mono hw; clear hw; have hw := Below.refl wn.heap.size wn
  repeat' (first | (refine lw_pure rfl (pv_assign rfl) ?_) | (refine is_cw ?_; first | (refine cw_seq ?_) | (refine cw_region ?_) | (refine cw_ret ?_)) | (refine is_qw ?_; first | (with_reducible refine qw_then ?_)) | (refine lw_nil ?_) | ((refine is_bin ?_; first | (refine lw_pure rfl (pv_eql rfl rfl) ?_))) | ((refine is_load ?_; first | (refine lw_pure rfl (pv_load (t1 rfl) rfl (by first | exact PT.ld0 (HX.mono hw) rfl | exact PT.ld (HX.mono hw) rfl | exact PT.ld0 (HB.mono hw) rfl | exact PT.ld (HB.mono hw) rfl)) ?_))) | ((refine is_fa ?_; first | (refine lw_pure rfl (pv_fa (tF rfl) rfl) ?_))))
  exact qw_ret1 rfl rfl ⟨rfl, (hE.mono hw).b⟩
set_option maxRecDepth 20000 in
theorem indexf_D {xs : List Bid} {m : Nat} {ad : Option Addr} {cap : Nat} {w : World} (base : Nat) (p : Bid → Bool) (F : FuncId) (caps : Array Value) (he : entersB Tryz.prog F = true) (hbw : base ≤ w.heap.size) (hF : ∀ x, x ∈ xs → ∀ w', Below base w w' → Calls Tryz.prog F (#[] ++ [Value.agg (encD x).toArray].toArray ++ caps) w' fun e w'' => e = .returned (.bool (p x)) ∧ Below w'.heap.size w' w'') (hm : xs.length = m) (HS : SlR encD 2 w ad cap xs) : Calls Tryz.prog 133 #[.slice ad m cap, .func (.func F) #[] caps] w fun e w' => (∃ i, e = .returned (.int .i64 i) ∧ ((i = -1 ∧ ∀ x ∈ xs, p x = false) ∨ ∃ (k : Nat) (r : Bid), i = k ∧ xs[k]? = some r ∧ p r = true ∧ ∀ x ∈ xs.take k, p x = false)) ∧ Below w.heap.size w w' := by
  subst hm
  have hw := Below.refl w.heap.size w
  have hla := HS.le
  have hma := HS.max
  refine fn_enter 19 Tryz.func133 rfl rfl rfl ?_
  repeat' (first | (refine lw_pure rfl (pv_move rfl) ?_) | (refine lw_pure rfl (pv_assign rfl) ?_) | (refine is_cw ?_; first | (refine cw_seq ?_) | (refine cw_region ?_) | (refine cw_block ?_)) | (refine is_qw ?_; first | (with_reducible refine qw_then ?_)) | (refine lw_nil ?_) | ((refine is_bi ?_; first | (refine lw_pure rfl (pv_lenl (tS rfl) rfl) ?_))))
  refine cw_loop (σ := Nat) (fun k => [(0, .slice ad xs.length cap), (1, .func (.func F) #[] caps), (7, .int .i64 (xs.length : Nat)), (8, .int .i64 (k : Nat))]) (fun k wr => k ≤ xs.length ∧ Below w.heap.size w wr ∧ ∀ x ∈ xs.take k, p x = false) (fun k => xs.length - k) 0 (by repeat' (first | exact trivial | refine ⟨rfl, ?_⟩)) ⟨Nat.zero_le _, hw, by simp⟩ ?_
  clear hw
  rintro k wr ⟨hk, hw, hn⟩
  by_cases hlt : k < xs.length
  · have hxk : xs[k]? = some xs[k] := List.getElem?_eq_getElem hlt
    have hmem := List.getElem_mem hlt
    obtain ⟨ab, ao, rfl, -, -⟩ := HS.at (by intro h; rw [h] at hlt; simp at hlt)
    generalize xs[k] = x at hxk hmem
    repeat' (first | (refine lw_pure rfl (pv_move rfl) ?_) | (refine lw_pure rfl (pv_assign rfl) ?_) | (refine is_cw ?_; first | (refine cw_seq ?_) | (refine cw_region ?_) | (refine is_cd ?_; refine cw_true rfl (by first | assumption | exact decide_eq_true (by omega) | exact dec_notT (by omega)) ?_) | (refine cw_skip ?_) | (refine cw_block ?_)) | (refine is_qw ?_; first | (with_reducible refine qw_then ?_)) | (refine lw_nil ?_) | ((refine is_bin ?_; first | (refine lw_pure rfl (pv_lss rfl rfl) ?_))) | ((refine is_load ?_; first | (refine lw_pure rfl (pv_loada (tA rfl) rfl (by first | exact SlR.lda (HS.mono hw) hxk) (by rfl)) ?_))) | ((refine is_ia ?_; first | (refine lw_pure rfl (pv_ian (tS rfl) rfl rfl (by omega)) ?_))))
    refine lw_callv (f := F) rfl he rfl rfl (hF x hmem _ (hw.mono hbw)) ?_; rintro e w1 ⟨rfl, hb⟩; refine ⟨_, rfl, ?_⟩; replace hw := grow_trans hw hb; clear hb
    cases hp : p x with
    | true =>
      repeat' (first | (refine lw_pure rfl (pv_move rfl) ?_) | (refine lw_pure rfl (pv_assign rfl) ?_) | (refine is_cw ?_; first | (refine cw_seq ?_) | (refine cw_region ?_) | (refine cw_true rfl rfl ?_) | (refine cw_ret ?_)) | (refine is_qw ?_; first | (with_reducible refine qw_then ?_) | (with_reducible refine qw_then_ret ?_) | (with_reducible refine qw_in_ret ?_)) | (refine lw_nil ?_))
      exact qw_ret1 rfl rfl ⟨⟨_, rfl, Or.inr ⟨k, x, rfl, hxk, hp, hn⟩⟩, hw⟩
    | false =>
      repeat' (first | (refine lw_pure rfl (pv_move rfl) ?_) | (refine is_cw ?_; first | (refine cw_region ?_) | (refine cw_false rfl rfl ?_) | (refine cw_skip ?_)) | (refine is_qw ?_; first | (with_reducible refine qw_then ?_) | (with_reducible refine qw_in ?_)) | (refine lw_nil ?_) | ((refine is_bin ?_; first | (refine lw_pure rfl (pv_inc rfl rfl (by omega)) ?_))))
      refine qw_round (k + 1) (by repeat' (first | exact trivial | refine ⟨rfl, ?_⟩)) ⟨by omega, hw, ?_⟩ (by omega)
      intro y hy
      rw [List.take_add_one, hxk] at hy
      rcases List.mem_append.1 hy with hy | hy
      · exact hn y hy
      · simp at hy; subst hy; exact hp
  · have hkl : k = xs.length := by omega
    subst hkl
    rw [List.take_length] at hn
    repeat' (first | (refine lw_pure rfl (pv_assign rfl) ?_) | (refine is_cw ?_; first | (refine cw_seq ?_) | (refine cw_region ?_) | (refine is_cd ?_; refine cw_false rfl (by first | assumption | exact decide_eq_false (by omega) | exact dec_notF (by omega)) ?_) | (refine cw_exit ?_) | (refine cw_ret ?_)) | (refine is_qw ?_; first | (with_reducible refine qw_then ?_) | (with_reducible refine qw_in_hit ?_) | (with_reducible refine qw_then_exit ?_)) | (refine lw_nil ?_) | ((refine is_bin ?_; first | (refine lw_pure rfl (pv_lss rfl rfl) ?_))))
    exact qw_ret1 rfl rfl ⟨⟨_, rfl, Or.inl ⟨rfl, hn⟩⟩, hw⟩

set_option maxRecDepth 20000 in
theorem contf_D {xs : List Bid} {m : Nat} {ad : Option Addr} {cap : Nat} {w : World} (base : Nat) (p : Bid → Bool) (F : FuncId) (caps : Array Value) (he : entersB Tryz.prog F = true) (hbw : base ≤ w.heap.size) (hF : ∀ x, x ∈ xs → ∀ w', Below base w w' → Calls Tryz.prog F (#[] ++ [Value.agg (encD x).toArray].toArray ++ caps) w' fun e w'' => e = .returned (.bool (p x)) ∧ Below w'.heap.size w' w'') (hm : xs.length = m) (HS : SlR encD 2 w ad cap xs) : Calls Tryz.prog 111 #[.slice ad m cap, .func (.func F) #[] caps] w fun e w' => e = .returned (.bool (xs.any p)) ∧ Below w.heap.size w w' := by
  have hw := Below.refl w.heap.size w
  refine fn_enter 9 Tryz.func111 rfl rfl rfl ?_
  repeat' (first | (refine lw_pure rfl (pv_move rfl) ?_) | (refine lw_pure rfl (pv_assign rfl) ?_) | (refine is_cw ?_; first | (refine cw_seq ?_) | (refine cw_region ?_)) | (refine is_qw ?_; first | (with_reducible refine qw_then ?_)) | (refine lw_nil ?_))
  refine lw_call (f := 133) (by kernel_rfl) rfl rfl (indexf_D base p F caps he hbw hF hm HS) ?_; rintro e w1 ⟨⟨i, rfl, hi⟩, hb⟩; refine ⟨_, rfl, ?_⟩; replace hw := grow_trans hw hb; clear hb
  have hv : decide (i ≥ 0) = xs.any p := by
    rcases hi with ⟨rfl, h⟩ | ⟨k, r, rfl, hx, hp, -⟩
    · symm; rw [show decide ((-1 : Int) ≥ 0) = false by decide, List.any_eq_false]; intro x hx; rw [h x hx]; decide
    · symm; rw [decide_eq_true (by omega), List.any_eq_true]; exact ⟨r, List.mem_of_getElem? hx, hp⟩
  repeat' (first | (refine lw_pure rfl (pv_assign rfl) ?_) | (refine is_cw ?_; first | (refine cw_ret ?_)) | (refine is_qw ?_; first | (with_reducible refine qw_then ?_)) | (refine lw_nil ?_) | ((refine is_bin ?_; first | (refine lw_pure rfl (pv_geq rfl rfl) ?_))))
  exact qw_ret1 rfl rfl ⟨by rw [← hv], hw⟩

set_option maxRecDepth 20000 in
set_option maxHeartbeats 4000000 in
theorem bidsA_c {x : AucC} {a : Auc} {w : World} (hR : AuR w x a) : Calls Tryz.prog 99 #[.agg (encC x).toArray] w fun e w' => e = .returned (.bool (bidsB a.h.seller a.bids)) ∧ Below w.heap.size w w' := by
  have hE := Ext.refl w
  have hw := Below.refl w.heap.size w
  obtain ⟨xh, ba, bm, bc⟩ := x; obtain ⟨hh, hm, HS⟩ := hR; simp only at hh hm HS; subst hh hm
  have hla := HS.le
  have hma := HS.max
  refine fn_enter 41 Tryz.func99 rfl rfl rfl ?_
  repeat' (first | (refine is_cw ?_; first | (refine cw_seq ?_) | (refine cw_region ?_)))
  refine lw_boxN rfl rfl (cs := [.int .i64 a.h.id, .int .i64 a.h.seller, .int .i64 a.h.inst, .bool a.h.shut, .int .i64 a.h.qty, .int .i64 a.h.reserve, .int .i64 a.h.step, .int .i64 a.h.fin, .slice ba a.bids.length bc]) rfl ?_; intro N2 wn hN2 HX hb; replace hN2 := Nat.le_trans hw.size hN2; replace hw := grow_trans hw hb; clear hb
  replace hE := hE.mono hw; replace HS := HS.mono hw; clear hw; have hw := Below.refl wn.heap.size wn
  repeat' (first | (refine lw_pure rfl (pv_move rfl) ?_) | (refine lw_pure rfl (pv_assign rfl) ?_) | (refine is_cw ?_; first | (refine cw_seq ?_) | (refine cw_region ?_) | (refine cw_block ?_)) | (refine is_qw ?_; first | (with_reducible refine qw_then ?_)) | (refine lw_nil ?_) | ((refine is_load ?_; first | (refine lw_pure rfl (pv_load (t1 rfl) rfl (by first | exact PT.ld0 (HX.mono hw) rfl | exact PT.ld (HX.mono hw) rfl)) ?_))) | ((refine is_fa ?_; first | (refine lw_pure rfl (pv_fa (tF rfl) rfl) ?_))) | ((refine is_bi ?_; first | (refine lw_pure rfl (pv_lenl (tS rfl) rfl) ?_))))
  refine cw_loop (σ := Nat) (fun k => [(1, .pointer (some ⟨N2, 0, none⟩)), (7, .slice ba a.bids.length bc), (8, .int .i64 (a.bids.length : Nat)), (9, .int .i64 (k : Nat))]) (fun k wr => k ≤ a.bids.length ∧ Below wn.heap.size wn wr ∧ ∀ (j : Nat) b, j < k → a.bids[j]? = some b → bidB a.h.seller b = true ∧ ∀ (i : Nat) c, i < j → a.bids[i]? = some c → c.acct ≠ b.acct) (fun k => a.bids.length - k) 0 (by repeat' (first | exact trivial | refine ⟨rfl, ?_⟩)) ⟨Nat.zero_le _, hw, fun j x hj => by omega⟩ ?_
  clear hw
  rintro k wr ⟨hk, hw, hn⟩
  by_cases hlt : k < a.bids.length
  · have hxk : a.bids[k]? = some (a.bids[k]'(by omega)) := List.getElem?_eq_getElem _
    obtain ⟨ab, ao, rfl, -, -⟩ := HS.at (by intro h; rw [h] at hlt; simp at hlt)
    generalize a.bids[k]'(by omega) = b at hxk
    have hG := Ext.mk hw
    replace hE := hE.mono hw; replace HS := HS.mono hw; replace HX := HX.mono hw; clear hw; have hw := Below.refl wr.heap.size wr
    repeat' (first | (refine lw_pure rfl (pv_move rfl) ?_) | (refine is_cw ?_; first | (refine cw_seq ?_) | (refine cw_region ?_) | (refine is_cd ?_; refine cw_true rfl (by first | assumption | exact decide_eq_true (by omega) | exact dec_notT (by omega)) ?_) | (refine cw_skip ?_) | (refine cw_block ?_)) | (refine is_qw ?_; first | (with_reducible refine qw_then ?_)) | (refine lw_nil ?_) | ((refine is_bin ?_; first | (refine lw_pure rfl (pv_lss rfl rfl) ?_))) | ((refine is_load ?_; first | (refine lw_pure rfl (pv_loada (tA rfl) rfl (by first | exact SlR.lda (HS.mono hw) hxk) (by rfl)) ?_))) | ((refine is_ia ?_; first | (refine lw_pure rfl (pv_ian (tS rfl) rfl rfl (by omega)) ?_))))
    refine lw_allocN rfl (by first | exact tyv_29 | exact tyv_30 | exact tyv_33 | exact tyv_34 | exact tyv_36 | exact tyv_37 | exact tyv_38 | exact tyv_39 | exact tyv_40 | exact tyv_41 | exact tyv_43 | exact tyv_44 | exact tyv_45 | exact tyv_46 | exact tyv_73 | exact tyv_74 | exact tyv_80 | exact tyv_81 | exact tyv_107 | exact tyv_108 | exact tyv_123 | exact tyv_146 | exact tyv_147 | exact tyv_148 | exact tyv_149) rfl ?_; intro N4 w4 hN4 HB hb
    replace hN4 := Nat.le_trans hw.size hN4
    replace hw := grow_trans hw hb
    clear hb
    repeat' (first | (refine lw_pure rfl (pv_assign rfl) ?_))
    refine lw_storea (vs := encD b) HB (tZ rfl) rfl rfl rfl rfl (encD_one _) ?_; intro w5 HB hg hz
    replace hw := st_hw hw hg hN4
    clear hg hz
    replace hE := hE.mono hw; replace hG := hG.mono hw; replace HS := HS.mono hw; replace HX := HX.mono hw; clear hw; have hw := Below.refl w5.heap.size w5
    cases hA : (a.bids.take k).any (fun c : Bid => decide (c.acct = b.acct)) with
    | true =>
      obtain ⟨c, hcm, hce⟩ := List.any_eq_true.1 hA
      obtain ⟨i, hi⟩ := List.mem_iff_getElem?.1 hcm
      have hik : i < k := by have := (List.getElem?_eq_some_iff.1 hi).1; rw [List.length_take] at this; omega
      rw [bids_no2 (i := i) (by rw [← hi]; exact (List.getElem?_take_of_lt hik).symm) hxk hik (by simpa using hce)]
      repeat' (first | (refine lw_pure rfl (pv_move rfl) ?_) | (refine lw_pure rfl (pv_assign rfl) ?_) | (refine lw_call (f := 96) (by kernel_rfl) rfl rfl (withL_c _ _ _) ?_; rintro e w1 ⟨rfl, hb⟩; refine ⟨_, rfl, ?_⟩; replace hw := grow_trans hw hb; clear hb) | (refine lw_call (f := 97) (by kernel_rfl) rfl rfl (withI_c _ _ _) ?_; rintro e w1 ⟨rfl, hb⟩; refine ⟨_, rfl, ?_⟩; replace hw := grow_trans hw hb; clear hb) | (refine lw_call (f := 111) (by kernel_rfl) rfl rfl (contf_D _ (fun c : Bid => decide (c.acct = b.acct)) 124 #[.pointer (some ⟨N4, 0, none⟩)] (by kernel_rfl) (Nat.le_refl _) (fun c _ w' hb => bidsF_c ((HB.mono hw).mono hb)) (by rw [List.length_take, Nat.min_eq_left (by omega)]; rfl) ((HS.mono hw).head k bc (by omega) ⟨by omega, by omega⟩)) ?_; rintro e w1 ⟨rfl, hb⟩; refine ⟨_, rfl, ?_⟩; replace hw := grow_trans hw hb; clear hb; rw [hA]) | (refine is_cw ?_; first | (refine cw_seq ?_) | (refine cw_region ?_) | (refine cw_true rfl rfl ?_) | (refine cw_ret ?_)) | (refine is_qw ?_; first | (with_reducible refine qw_then ?_) | (with_reducible refine qw_then_ret ?_) | (with_reducible refine qw_in_ret ?_)) | (refine lw_nil ?_) | (refine is_guarded ?_; first | (refine lw_not rfl rfl rfl rfl ?_) | (refine lw_on rfl rfl (by first | assumption | exact decide_eq_true (by omega) | exact decide_eq_false (by omega) | exact dec_notT (by omega) | exact dec_notF (by omega)) ?_) | (refine lw_not rfl rfl rfl (by first | assumption | exact decide_eq_true (by omega) | exact decide_eq_false (by omega) | exact dec_notT (by omega) | exact dec_notF (by omega)) ?_) | (refine lw_gs_f rfl rfl rfl (fun hc => ?_) (fun hc => ?_) <;> (first | replace hc := of_decide_eq_true hc | replace hc := of_decide_eq_false hc | replace hc := dec_nT hc | replace hc := dec_nF hc | skip) <;> (try (exfalso; omega)))) | ((refine is_bin ?_; first | (refine lw_pure rfl (pv_eql rfl rfl) ?_))) | ((refine is_load ?_; first | (refine lw_pure rfl (pv_load (t1 rfl) rfl (by first | exact PT.ld0 (HX.mono hw) rfl | exact PT.ld (HX.mono hw) rfl | exact PT.ld0 (HB.mono hw) rfl | exact PT.ld (HB.mono hw) rfl)) ?_))) | ((refine is_fa ?_; first | (refine lw_pure rfl (pv_fa (tF rfl) rfl) ?_))) | ((refine is_un ?_; first | (refine lw_pure rfl (pv_not rfl) ?_))) | (refine is_pk ?_; refine lw_pure rfl (pv_pick_t rfl rfl rfl) ?_) | (refine is_pk ?_; refine lw_pure rfl (pv_pick_t rfl (by first | assumption | exact decide_eq_true (by omega) | exact dec_notT (by omega)) rfl) ?_) | (refine is_pk ?_; refine lw_pure rfl (pv_pick_f rfl (by first | assumption | exact decide_eq_false (by omega) | exact dec_notF (by omega)) rfl) ?_) | (refine lw_pure rfl (pv_makeFunc rfl rfl) ?_) | (refine is_sl ?_; refine lw_pure rfl (pv_slice_h (tS rfl) rfl rfl (by omega)) ?_))
      all_goals exact qw_ret1 rfl rfl ⟨rfl, (hE.mono hw).b⟩
    | false =>
      cases hbb : bidB a.h.seller b with
      | false =>
        rw [bids_no1 hxk hbb]
        have hbb : ¬ ((1 ≤ b.acct ∧ b.acct ≤ 64) ∧ b.acct ≠ a.h.seller ∧ (1 ≤ b.amt ∧ b.amt ≤ 1125899906842624)) := fun h => by rw [bidB_iff.2 h] at hbb; cases hbb
        repeat' (first | (refine lw_pure rfl (pv_move rfl) ?_) | (refine lw_pure rfl (pv_assign rfl) ?_) | (refine lw_call (f := 96) (by kernel_rfl) rfl rfl (withL_c _ _ _) ?_; rintro e w1 ⟨rfl, hb⟩; refine ⟨_, rfl, ?_⟩; replace hw := grow_trans hw hb; clear hb) | (refine lw_call (f := 97) (by kernel_rfl) rfl rfl (withI_c _ _ _) ?_; rintro e w1 ⟨rfl, hb⟩; refine ⟨_, rfl, ?_⟩; replace hw := grow_trans hw hb; clear hb) | (refine is_cw ?_; first | (refine cw_seq ?_) | (refine cw_region ?_) | (refine cw_true rfl rfl ?_) | (refine cw_ret ?_)) | (refine is_qw ?_; first | (with_reducible refine qw_then ?_) | (with_reducible refine qw_then_ret ?_) | (with_reducible refine qw_in_ret ?_)) | (refine lw_nil ?_) | (refine is_guarded ?_; first | (refine lw_not rfl rfl rfl rfl ?_) | (refine lw_on rfl rfl (by first | assumption | exact decide_eq_true (by omega) | exact decide_eq_false (by omega) | exact dec_notT (by omega) | exact dec_notF (by omega)) ?_) | (refine lw_not rfl rfl rfl (by first | assumption | exact decide_eq_true (by omega) | exact decide_eq_false (by omega) | exact dec_notT (by omega) | exact dec_notF (by omega)) ?_) | (refine lw_gs_f rfl rfl rfl (fun hc => ?_) (fun hc => ?_) <;> (first | replace hc := of_decide_eq_true hc | replace hc := of_decide_eq_false hc | replace hc := dec_nT hc | replace hc := dec_nF hc | skip) <;> (try (exfalso; omega)))) | ((refine is_bin ?_; first | (refine lw_pure rfl (pv_eql rfl rfl) ?_))) | ((refine is_load ?_; first | (refine lw_pure rfl (pv_load (t1 rfl) rfl (by first | exact PT.ld0 (HX.mono hw) rfl | exact PT.ld (HX.mono hw) rfl | exact PT.ld0 (HB.mono hw) rfl | exact PT.ld (HB.mono hw) rfl)) ?_))) | ((refine is_fa ?_; first | (refine lw_pure rfl (pv_fa (tF rfl) rfl) ?_))) | ((refine is_un ?_; first | (refine lw_pure rfl (pv_not rfl) ?_))) | (refine is_pk ?_; refine lw_pure rfl (pv_pick_t rfl rfl rfl) ?_) | (refine is_pk ?_; refine lw_pure rfl (pv_pick_t rfl (by first | assumption | exact decide_eq_true (by omega) | exact dec_notT (by omega)) rfl) ?_) | (refine is_pk ?_; refine lw_pure rfl (pv_pick_f rfl (by first | assumption | exact decide_eq_false (by omega) | exact dec_notF (by omega)) rfl) ?_) | (refine lw_pure rfl (pv_makeFunc rfl rfl) ?_))
        all_goals exact qw_ret1 rfl rfl ⟨rfl, (hE.mono hw).b⟩
      | true =>
        have hbc := bidB_iff.1 hbb
        repeat' (first | (refine lw_pure rfl (pv_move rfl) ?_) | (refine lw_pure rfl (pv_assign rfl) ?_) | (refine lw_call (f := 96) (by kernel_rfl) rfl rfl (withL_c _ _ _) ?_; rintro e w1 ⟨rfl, hb⟩; refine ⟨_, rfl, ?_⟩; replace hw := grow_trans hw hb; clear hb) | (refine lw_call (f := 97) (by kernel_rfl) rfl rfl (withI_c _ _ _) ?_; rintro e w1 ⟨rfl, hb⟩; refine ⟨_, rfl, ?_⟩; replace hw := grow_trans hw hb; clear hb) | (refine lw_call (f := 111) (by kernel_rfl) rfl rfl (contf_D _ (fun c : Bid => decide (c.acct = b.acct)) 124 #[.pointer (some ⟨N4, 0, none⟩)] (by kernel_rfl) (Nat.le_refl _) (fun c _ w' hb => bidsF_c ((HB.mono hw).mono hb)) (by rw [List.length_take, Nat.min_eq_left (by omega)]; rfl) ((HS.mono hw).head k bc (by omega) ⟨by omega, by omega⟩)) ?_; rintro e w1 ⟨rfl, hb⟩; refine ⟨_, rfl, ?_⟩; replace hw := grow_trans hw hb; clear hb; rw [hA]) | (refine is_cw ?_; first | (refine cw_seq ?_) | (refine cw_region ?_) | (refine cw_false rfl rfl ?_) | (refine cw_skip ?_)) | (refine is_qw ?_; first | (with_reducible refine qw_then ?_) | (with_reducible refine qw_in ?_)) | (refine lw_nil ?_) | (refine is_guarded ?_; first | (refine lw_on rfl rfl (by first | assumption | exact decide_eq_true (by omega) | exact decide_eq_false (by omega) | exact dec_notT (by omega) | exact dec_notF (by omega)) ?_)) | ((refine is_bin ?_; first | (refine lw_pure rfl (pv_eql rfl rfl) ?_) | (refine lw_pure rfl (pv_inc rfl rfl (by omega)) ?_))) | ((refine is_load ?_; first | (refine lw_pure rfl (pv_load (t1 rfl) rfl (by first | exact PT.ld0 (HX.mono hw) rfl | exact PT.ld (HX.mono hw) rfl | exact PT.ld0 (HB.mono hw) rfl | exact PT.ld (HB.mono hw) rfl)) ?_))) | ((refine is_fa ?_; first | (refine lw_pure rfl (pv_fa (tF rfl) rfl) ?_))) | ((refine is_un ?_; first | (refine lw_pure rfl (pv_not rfl) ?_))) | (refine is_pk ?_; refine lw_pure rfl (pv_pick_f rfl (by first | assumption | exact decide_eq_false (by omega) | exact dec_notF (by omega)) rfl) ?_) | (refine lw_pure rfl (pv_makeFunc rfl rfl) ?_) | (refine is_sl ?_; refine lw_pure rfl (pv_slice_h (tS rfl) rfl rfl (by omega)) ?_))
        refine qw_round (k + 1) (by repeat' (first | exact trivial | refine ⟨rfl, ?_⟩)) ⟨by omega, (hG.mono hw).b, fun j u hj hu => ?_⟩ (by omega)
        by_cases hjk : j = k
        · subst hjk; rw [hxk] at hu; injection hu with hu; subst hu
          refine ⟨hbb, fun i c hi hc he => ?_⟩
          have := List.any_eq_false.1 hA c (List.mem_of_getElem? (i := i) (by rw [List.getElem?_take_of_lt hi]; exact hc))
          exact this (by simpa using he)
        · exact hn j u (by omega) hu
  · have hkl : k = a.bids.length := by omega
    subst hkl
    rw [bids_yes fun j b hb => hn j b (List.getElem?_eq_some_iff.1 hb).1 hb]
    repeat' (first | (refine lw_pure rfl (pv_assign rfl) ?_) | (refine is_cw ?_; first | (refine cw_seq ?_) | (refine cw_region ?_) | (refine is_cd ?_; refine cw_false rfl (by first | assumption | exact decide_eq_false (by omega) | exact dec_notF (by omega)) ?_) | (refine cw_exit ?_) | (refine cw_ret ?_)) | (refine is_qw ?_; first | (with_reducible refine qw_then ?_) | (with_reducible refine qw_in_hit ?_) | (with_reducible refine qw_then_exit ?_)) | (refine lw_nil ?_) | ((refine is_bin ?_; first | (refine lw_pure rfl (pv_lss rfl rfl) ?_))))
    exact qw_ret1 rfl rfl ⟨rfl, (hE.mono hw).b⟩
set_option maxRecDepth 20000 in
theorem of_c {x : AucC} {a : Auc} {w : World} (hR : AuR w x a) : Calls Tryz.prog 98 #[.agg (encC x).toArray] w fun e w' => e = .returned (.iface (if a.h.shut then 156 else 157) (.agg #[])) ∧ Below w.heap.size w w' := by
  have hE := Ext.refl w
  have hw := Below.refl w.heap.size w
  obtain ⟨xh, ba, bm, bc⟩ := x; obtain ⟨hh, hm, HS⟩ := hR; simp only at hh hm HS; subst hh hm
  refine fn_enter 9 Tryz.func98 rfl rfl rfl ?_
  repeat' (first | (refine is_cw ?_; first | (refine cw_seq ?_) | (refine cw_region ?_)))
  refine lw_boxN rfl rfl (cs := [.int .i64 a.h.id, .int .i64 a.h.seller, .int .i64 a.h.inst, .bool a.h.shut, .int .i64 a.h.qty, .int .i64 a.h.reserve, .int .i64 a.h.step, .int .i64 a.h.fin, .slice ba a.bids.length bc]) rfl ?_; intro N2 wn hN2 HX hb; replace hN2 := Nat.le_trans hw.size hN2; replace hw := grow_trans hw hb; clear hb
  replace hE := hE.mono hw; clear hw; have hw := Below.refl wn.heap.size wn
  cases hs : a.h.shut with
  | true =>
    rw [hs] at HX
    repeat' (first | (refine lw_pure rfl (pv_assign rfl) ?_) | (refine lw_pure rfl (pv_built (ps := []) (is := []) (vs := []) (cells := []) rfl rfl (by kernel_rfl)) ?_) | (refine lw_pure rfl (pv_iface (by kernel_rfl) rfl) ?_) | (refine is_cw ?_; first | (refine cw_seq ?_) | (refine cw_region ?_) | (refine cw_true rfl rfl ?_) | (refine cw_ret ?_)) | (refine is_qw ?_; first | (with_reducible refine qw_then ?_) | (with_reducible refine qw_then_ret ?_)) | (refine lw_nil ?_) | ((refine is_load ?_; first | (refine lw_pure rfl (pv_load (t1 rfl) rfl (by first | exact PT.ld0 (HX.mono hw) rfl | exact PT.ld (HX.mono hw) rfl)) ?_))) | ((refine is_fa ?_; first | (refine lw_pure rfl (pv_fa (tF rfl) rfl) ?_))))
    exact qw_ret1 rfl rfl ⟨rfl, (hE.mono hw).b⟩
  | false =>
    rw [hs] at HX
    repeat' (first | (refine lw_pure rfl (pv_assign rfl) ?_) | (refine lw_pure rfl (pv_built (ps := []) (is := []) (vs := []) (cells := []) rfl rfl (by kernel_rfl)) ?_) | (refine lw_pure rfl (pv_iface (by kernel_rfl) rfl) ?_) | (refine is_cw ?_; first | (refine cw_seq ?_) | (refine cw_region ?_) | (refine cw_false rfl rfl ?_) | (refine cw_skip ?_) | (refine cw_ret ?_)) | (refine is_qw ?_; first | (with_reducible refine qw_then ?_)) | (refine lw_nil ?_) | ((refine is_load ?_; first | (refine lw_pure rfl (pv_load (t1 rfl) rfl (by first | exact PT.ld0 (HX.mono hw) rfl | exact PT.ld (HX.mono hw) rfl)) ?_))) | ((refine is_fa ?_; first | (refine lw_pure rfl (pv_fa (tF rfl) rfl) ?_))))
    exact qw_ret1 rfl rfl ⟨rfl, (hE.mono hw).b⟩
theorem mann_s {a : Auc} (h : a.h.shut = true) : mannB a = decide (a.h.step = 0 ∧ a.bids.length ≤ 16) := by unfold mannB; rw [if_pos h, Bool.eq_iff_iff]; simp
theorem mann_e {a : Auc} (h : a.h.shut = false) : mannB a = decide ((1 ≤ a.h.step ∧ a.h.step ≤ 1125899906842624) ∧ a.bids.length ≤ 1 ∧ ∀ b ∈ a.bids, a.h.reserve ≤ b.amt) := by
  unfold mannB; rw [if_neg (by rw [h]; decide), Bool.eq_iff_iff]; simp [btw, and_assoc]
set_option maxRecDepth 20000 in
theorem smay_c {x : AucC} {a : Auc} {w : World} (hR : AuR w x a) (h : a.h.shut = true) : Calls Tryz.prog 192 #[.agg #[], .agg (encC x).toArray] w fun e w' => e = .returned (.bool (mannB a)) ∧ Below w.heap.size w w' := by
  have hE := Ext.refl w
  have hw := Below.refl w.heap.size w
  rw [mann_s h]
  obtain ⟨xh, ba, bm, bc⟩ := x; obtain ⟨hh, hm, HS⟩ := hR; simp only at hh hm HS; subst hh hm
  have hla := HS.le
  have hma := HS.max
  refine fn_enter 14 Tryz.func192 rfl rfl rfl ?_
  repeat' (first | (refine is_cw ?_; first | (refine cw_seq ?_) | (refine cw_region ?_)))
  refine lw_boxN rfl rfl (cs := []) rfl ?_; intro N1 wn hN1 HZ hb; replace hN1 := Nat.le_trans hw.size hN1; replace hw := grow_trans hw hb; clear hb
  skip
  refine lw_boxN rfl rfl (cs := [.int .i64 a.h.id, .int .i64 a.h.seller, .int .i64 a.h.inst, .bool a.h.shut, .int .i64 a.h.qty, .int .i64 a.h.reserve, .int .i64 a.h.step, .int .i64 a.h.fin, .slice ba a.bids.length bc]) rfl ?_; intro N2 wn hN2 HX hb; replace hN2 := Nat.le_trans hw.size hN2; replace hw := grow_trans hw hb; clear hb
  replace hE := hE.mono hw; clear hw; have hw := Below.refl wn.heap.size wn
  repeat' (first | (refine lw_pure rfl (pv_move rfl) ?_) | (refine lw_pure rfl (pv_assign rfl) ?_) | (refine is_cw ?_; first | (refine cw_seq ?_) | (refine cw_region ?_) | (refine cw_ret ?_)) | (refine is_qw ?_; first | (with_reducible refine qw_then ?_)) | (refine lw_nil ?_) | (refine is_guarded ?_; first | (refine lw_on rfl rfl (by first | assumption | exact decide_eq_true (by omega) | exact decide_eq_false (by omega) | exact dec_notT (by omega) | exact dec_notF (by omega)) ?_) | (refine lw_not rfl rfl rfl (by first | assumption | exact decide_eq_true (by omega) | exact decide_eq_false (by omega) | exact dec_notT (by omega) | exact dec_notF (by omega)) ?_) | (refine lw_gs_t rfl rfl rfl (fun hc => ?_) (fun hc => ?_) <;> (first | replace hc := of_decide_eq_true hc | replace hc := of_decide_eq_false hc | replace hc := dec_nT hc | replace hc := dec_nF hc | skip) <;> (try (exfalso; omega)))) | ((refine is_bin ?_; first | (refine lw_pure rfl (pv_eql rfl rfl) ?_) | (refine lw_pure rfl (pv_leq rfl rfl) ?_))) | ((refine is_load ?_; first | (refine lw_pure rfl (pv_load (t1 rfl) rfl (by first | exact PT.ld0 (HX.mono hw) rfl | exact PT.ld (HX.mono hw) rfl)) ?_))) | ((refine is_fa ?_; first | (refine lw_pure rfl (pv_fa (tF rfl) rfl) ?_))) | ((refine is_bi ?_; first | (refine lw_pure rfl (pv_lenl (tS rfl) rfl) ?_))) | (refine is_pk ?_; refine lw_pure rfl (pv_pick_t rfl (by first | assumption | exact decide_eq_true (by omega) | exact dec_notT (by omega)) rfl) ?_) | (refine is_pk ?_; refine lw_pure rfl (pv_pick_f rfl (by first | assumption | exact decide_eq_false (by omega) | exact dec_notF (by omega)) rfl) ?_))
  all_goals (refine qw_ret1 rfl rfl ⟨ret_bool ?_, (hE.mono hw).b⟩; first | rfl | (rw [decide_eq_decide]; omega) | (symm; rw [decide_eq_true_eq]; omega) | (symm; rw [decide_eq_false_iff_not]; omega))
set_option maxRecDepth 20000 in
set_option maxHeartbeats 2000000 in
theorem emay_c {x : AucC} {a : Auc} {w : World} (hR : AuR w x a) (h : a.h.shut = false) : Calls Tryz.prog 196 #[.agg #[], .agg (encC x).toArray] w fun e w' => e = .returned (.bool (mannB a)) ∧ Below w.heap.size w w' := by
  have hE := Ext.refl w
  have hw := Below.refl w.heap.size w
  rw [mann_e h]
  have hd : decide ((1 ≤ a.h.step ∧ a.h.step ≤ 1125899906842624) ∧ a.bids.length ≤ 1 ∧ ∀ b ∈ a.bids, a.h.reserve ≤ b.amt) = (decide (1 ≤ a.h.step ∧ a.h.step ≤ 1125899906842624) && (decide (a.bids.length ≤ 1) && a.bids.all fun b => decide (a.h.reserve ≤ b.amt))) := by rw [Bool.eq_iff_iff]; simp
  rw [hd]
  obtain ⟨xh, ba, bm, bc⟩ := x; obtain ⟨hh, hm, HS⟩ := hR; simp only at hh hm HS; subst hh hm
  have hla := HS.le
  have hma := HS.max
  refine fn_enter 30 Tryz.func196 rfl rfl rfl ?_
  repeat' (first | (refine is_cw ?_; first | (refine cw_seq ?_) | (refine cw_region ?_)))
  refine lw_boxN rfl rfl (cs := []) rfl ?_; intro N1 wn hN1 HZ hb; replace hN1 := Nat.le_trans hw.size hN1; replace hw := grow_trans hw hb; clear hb
  skip
  refine lw_boxN rfl rfl (cs := [.int .i64 a.h.id, .int .i64 a.h.seller, .int .i64 a.h.inst, .bool a.h.shut, .int .i64 a.h.qty, .int .i64 a.h.reserve, .int .i64 a.h.step, .int .i64 a.h.fin, .slice ba a.bids.length bc]) rfl ?_; intro N2 wn hN2 HX hb; replace hN2 := Nat.le_trans hw.size hN2; replace hw := grow_trans hw hb; clear hb
  replace hE := hE.mono hw; replace HS := HS.mono hw; clear hw; have hw := Below.refl wn.heap.size wn
  by_cases hst : 1 ≤ a.h.step ∧ a.h.step ≤ 1125899906842624
  · by_cases hl0 : a.bids.length = 0
    · have hb : a.bids = [] := List.length_eq_zero_iff.1 hl0
      have hD : (decide (1 ≤ a.h.step ∧ a.h.step ≤ 1125899906842624) && (decide (a.bids.length ≤ 1) && a.bids.all fun b => decide (a.h.reserve ≤ b.amt))) = true := by simp [hst, hb]
      rw [hD]
      repeat' (first | (refine lw_pure rfl (pv_assign rfl) ?_) | (refine is_cw ?_; first | (refine cw_seq ?_)) | (refine is_qw ?_; first | (with_reducible refine qw_then ?_)) | (refine lw_nil ?_))
      refine cw_drawn (fun w' => Below wn.heap.size wn w') (by kernel_rfl) (by repeat (first | exact NoPanic.body | with_reducible refine NoPanic.then ?_ | with_reducible refine NoPanic.inBlock ?_)) (fun hNP => ?_)
      have hS := hw.drew
      all_goals (refine at0 0 rfl (fun w' hq => pv_fa (tF rfl) rfl) ?_)
      all_goals (refine at0 1 rfl (fun w' hq => pv_load (t1 rfl) rfl (by first | exact PT.ld0 (HX.mono hq) rfl | exact PT.ld (HX.mono hq) rfl)) ?_)
      all_goals (refine aw_act 2 (by kernel_rfl) rfl rfl rfl ?_; refine act_call (f := 96) (by kernel_rfl) rfl (withL_c _ _ _) ?_; rintro e w1 ⟨rfl, hb⟩; refine ⟨_, rfl, grow_trans hS hb, fun hS => ?_⟩)
      all_goals (refine at0 3 rfl (fun w' hq => pv_move rfl) ?_)
      all_goals (refine at2 4 rfl rfl rfl (fun w' hq => pv_fa (tF rfl) rfl) ?_)
      all_goals (refine at2 5 rfl rfl rfl (fun w' hq => pv_load (t1 rfl) rfl (by first | exact PT.ld0 (HX.mono hq) rfl | exact PT.ld (HX.mono hq) rfl)) ?_)
      all_goals (refine at2 6 rfl rfl rfl (fun w' hq => pv_lenl (tS rfl) rfl) ?_)
      all_goals (refine at2 7 rfl rfl rfl (fun w' hq => pv_leq rfl rfl) ?_)
      all_goals (refine at0 8 rfl (fun w' hq => pv_pick_t rfl (by first | assumption | exact decide_eq_true (by omega) | exact dec_notT (by omega)) rfl) ?_)
      all_goals (refine at0 9 rfl (fun w' hq => pv_move rfl) ?_)
      all_goals (refine at2 10 rfl rfl rfl (fun w' hq => pv_fa (tF rfl) rfl) ?_)
      all_goals (refine at2 11 rfl rfl rfl (fun w' hq => pv_load (t1 rfl) rfl (by first | exact PT.ld0 (HX.mono hq) rfl | exact PT.ld (HX.mono hq) rfl)) ?_)
      all_goals (refine at2 12 rfl rfl rfl (fun w' hq => pv_lenl (tS rfl) rfl) ?_)
      all_goals (refine at2 13 rfl rfl rfl (fun w' hq => pv_eql rfl rfl) ?_)
      all_goals (refine at2 14 rfl rfl rfl (fun w' hq => pv_move rfl) ?_)
      all_goals (refine an2 15 rfl rfl rfl ?_)
      all_goals (refine an2 16 rfl rfl rfl ?_)
      all_goals (refine an2 17 rfl rfl rfl ?_)
      all_goals (refine an2 18 rfl rfl rfl ?_)
      all_goals (refine an2 19 rfl rfl rfl ?_)
      all_goals (refine an2 20 rfl rfl rfl ?_)
      all_goals (refine an2 21 rfl rfl rfl ?_)
      all_goals (refine an2 22 rfl rfl rfl ?_)
      all_goals (refine at2 23 rfl rfl rfl (fun w' hq => pv_pick_t rfl (by first | assumption | exact decide_eq_true (by omega) | exact dec_notT (by omega)) rfl) ?_)
      all_goals (refine at0 24 rfl (fun w' hq => pv_pick_t rfl (by first | assumption | exact decide_eq_true (by omega) | exact dec_notT (by omega)) rfl) ?_)
      all_goals (refine at0 25 rfl (fun w' hq => pv_assign rfl) ?_)
      all_goals (refine aw_done (by kernel_rfl) ?_; replace hw := hS; clear hS hNP)
      repeat' (first | (refine is_cw ?_; first | (refine cw_ret ?_)) | (refine is_qw ?_; first | (with_reducible refine qw_then ?_)))
      refine qw_ret1 rfl rfl ⟨ret_bool ?_, (hE.mono hw).b⟩; first | rfl | (rw [decide_eq_decide]; omega) | (symm; rw [decide_eq_true_eq]; omega) | (symm; rw [decide_eq_false_iff_not]; omega)
    · by_cases hl1 : a.bids.length = 1
      · obtain ⟨b, hb⟩ := List.length_eq_one_iff.1 hl1
        have hx0 : a.bids[0]? = some b := by rw [hb]; rfl
        have hD : (decide (1 ≤ a.h.step ∧ a.h.step ≤ 1125899906842624) && (decide (a.bids.length ≤ 1) && a.bids.all fun b => decide (a.h.reserve ≤ b.amt))) = decide (a.h.reserve ≤ b.amt) := by simp [hst, hb]
        rw [hD]
        clear hb
        obtain ⟨ab, ao, rfl, -, -⟩ := HS.at (by intro h; rw [h] at hl1; simp at hl1)
        repeat' (first | (refine lw_pure rfl (pv_assign rfl) ?_) | (refine is_cw ?_; first | (refine cw_seq ?_)) | (refine is_qw ?_; first | (with_reducible refine qw_then ?_)) | (refine lw_nil ?_))
        refine cw_drawn (fun w' => Below wn.heap.size wn w') (by kernel_rfl) (by repeat (first | exact NoPanic.body | with_reducible refine NoPanic.then ?_ | with_reducible refine NoPanic.inBlock ?_)) (fun hNP => ?_)
        have hS := hw.drew
        all_goals (refine at0 0 rfl (fun w' hq => pv_fa (tF rfl) rfl) ?_)
        all_goals (refine at0 1 rfl (fun w' hq => pv_load (t1 rfl) rfl (by first | exact PT.ld0 (HX.mono hq) rfl | exact PT.ld (HX.mono hq) rfl | exact SlR.ld (HS.mono hq) hx0 rfl | exact SlR.ld1 (HS.mono hq) hx0 rfl)) ?_)
        all_goals (refine aw_act 2 (by kernel_rfl) rfl rfl rfl ?_; refine act_call (f := 96) (by kernel_rfl) rfl (withL_c _ _ _) ?_; rintro e w1 ⟨rfl, hb⟩; refine ⟨_, rfl, grow_trans hS hb, fun hS => ?_⟩)
        all_goals (refine at0 3 rfl (fun w' hq => pv_move rfl) ?_)
        all_goals (refine at2 4 rfl rfl rfl (fun w' hq => pv_fa (tF rfl) rfl) ?_)
        all_goals (refine at2 5 rfl rfl rfl (fun w' hq => pv_load (t1 rfl) rfl (by first | exact PT.ld0 (HX.mono hq) rfl | exact PT.ld (HX.mono hq) rfl | exact SlR.ld (HS.mono hq) hx0 rfl | exact SlR.ld1 (HS.mono hq) hx0 rfl)) ?_)
        all_goals (refine at2 6 rfl rfl rfl (fun w' hq => pv_lenl (tS rfl) rfl) ?_)
        all_goals (refine at2 7 rfl rfl rfl (fun w' hq => pv_leq rfl rfl) ?_)
        all_goals (refine at0 8 rfl (fun w' hq => pv_pick_t rfl (by first | assumption | exact decide_eq_true (by omega) | exact dec_notT (by omega)) rfl) ?_)
        all_goals (refine at0 9 rfl (fun w' hq => pv_move rfl) ?_)
        all_goals (refine at2 10 rfl rfl rfl (fun w' hq => pv_fa (tF rfl) rfl) ?_)
        all_goals (refine at2 11 rfl rfl rfl (fun w' hq => pv_load (t1 rfl) rfl (by first | exact PT.ld0 (HX.mono hq) rfl | exact PT.ld (HX.mono hq) rfl | exact SlR.ld (HS.mono hq) hx0 rfl | exact SlR.ld1 (HS.mono hq) hx0 rfl)) ?_)
        all_goals (refine at2 12 rfl rfl rfl (fun w' hq => pv_lenl (tS rfl) rfl) ?_)
        all_goals (refine at2 13 rfl rfl rfl (fun w' hq => pv_eql rfl rfl) ?_)
        all_goals (refine at2 14 rfl rfl rfl (fun w' hq => pv_move rfl) ?_)
        all_goals (refine at2 15 rfl rfl rfl (fun w' hq => pv_fa (tF rfl) rfl) ?_)
        all_goals (refine at2 16 rfl rfl rfl (fun w' hq => pv_load (t1 rfl) rfl (by first | exact PT.ld0 (HX.mono hq) rfl | exact PT.ld (HX.mono hq) rfl | exact SlR.ld (HS.mono hq) hx0 rfl | exact SlR.ld1 (HS.mono hq) hx0 rfl)) ?_)
        all_goals (refine at2 17 rfl rfl rfl (fun w' hq => pv_ia (tS rfl) rfl rfl (by omega)) ?_)
        all_goals (refine at2 18 rfl rfl rfl (fun w' hq => pv_fa (tF rfl) rfl) ?_)
        all_goals (refine at2 19 rfl rfl rfl (fun w' hq => pv_load (t1 rfl) rfl (by first | exact PT.ld0 (HX.mono hq) rfl | exact PT.ld (HX.mono hq) rfl | exact SlR.ld (HS.mono hq) hx0 rfl | exact SlR.ld1 (HS.mono hq) hx0 rfl)) ?_)
        all_goals (refine at2 20 rfl rfl rfl (fun w' hq => pv_fa (tF rfl) rfl) ?_)
        all_goals (refine at2 21 rfl rfl rfl (fun w' hq => pv_load (t1 rfl) rfl (by first | exact PT.ld0 (HX.mono hq) rfl | exact PT.ld (HX.mono hq) rfl | exact SlR.ld (HS.mono hq) hx0 rfl | exact SlR.ld1 (HS.mono hq) hx0 rfl)) ?_)
        all_goals (refine at2 22 rfl rfl rfl (fun w' hq => pv_geq rfl rfl) ?_)
        all_goals (refine at2 23 rfl rfl rfl (fun w' hq => pv_pick_f rfl (by first | assumption | exact decide_eq_false (by omega) | exact dec_notF (by omega)) rfl) ?_)
        all_goals (refine at0 24 rfl (fun w' hq => pv_pick_t rfl (by first | assumption | exact decide_eq_true (by omega) | exact dec_notT (by omega)) rfl) ?_)
        all_goals (refine at0 25 rfl (fun w' hq => pv_assign rfl) ?_)
        all_goals (refine aw_done (by kernel_rfl) ?_; replace hw := hS; clear hS hNP)
        repeat' (first | (refine is_cw ?_; first | (refine cw_ret ?_)) | (refine is_qw ?_; first | (with_reducible refine qw_then ?_)))
        refine qw_ret1 rfl rfl ⟨ret_bool ?_, (hE.mono hw).b⟩; first | rfl | (rw [decide_eq_decide]; omega) | (symm; rw [decide_eq_true_eq]; omega) | (symm; rw [decide_eq_false_iff_not]; omega)
      · have hD : (decide (1 ≤ a.h.step ∧ a.h.step ≤ 1125899906842624) && (decide (a.bids.length ≤ 1) && a.bids.all fun b => decide (a.h.reserve ≤ b.amt))) = false := by rw [decide_eq_false (p := a.bids.length ≤ 1) (by omega)]; simp
        rw [hD]
        repeat' (first | (refine lw_pure rfl (pv_assign rfl) ?_) | (refine is_cw ?_; first | (refine cw_seq ?_)) | (refine is_qw ?_; first | (with_reducible refine qw_then ?_)) | (refine lw_nil ?_))
        refine cw_drawn (fun w' => Below wn.heap.size wn w') (by kernel_rfl) (by repeat (first | exact NoPanic.body | with_reducible refine NoPanic.then ?_ | with_reducible refine NoPanic.inBlock ?_)) (fun hNP => ?_)
        have hS := hw.drew
        all_goals (refine at0 0 rfl (fun w' hq => pv_fa (tF rfl) rfl) ?_)
        all_goals (refine at0 1 rfl (fun w' hq => pv_load (t1 rfl) rfl (by first | exact PT.ld0 (HX.mono hq) rfl | exact PT.ld (HX.mono hq) rfl)) ?_)
        all_goals (refine aw_act 2 (by kernel_rfl) rfl rfl rfl ?_; refine act_call (f := 96) (by kernel_rfl) rfl (withL_c _ _ _) ?_; rintro e w1 ⟨rfl, hb⟩; refine ⟨_, rfl, grow_trans hS hb, fun hS => ?_⟩)
        all_goals (refine at0 3 rfl (fun w' hq => pv_move rfl) ?_)
        all_goals (refine at2 4 rfl rfl rfl (fun w' hq => pv_fa (tF rfl) rfl) ?_)
        all_goals (refine at2 5 rfl rfl rfl (fun w' hq => pv_load (t1 rfl) rfl (by first | exact PT.ld0 (HX.mono hq) rfl | exact PT.ld (HX.mono hq) rfl)) ?_)
        all_goals (refine at2 6 rfl rfl rfl (fun w' hq => pv_lenl (tS rfl) rfl) ?_)
        all_goals (refine at2 7 rfl rfl rfl (fun w' hq => pv_leq rfl rfl) ?_)
        all_goals (refine at0 8 rfl (fun w' hq => pv_pick_t rfl (by first | assumption | exact decide_eq_true (by omega) | exact dec_notT (by omega)) rfl) ?_)
        all_goals (refine at0 9 rfl (fun w' hq => pv_move rfl) ?_)
        all_goals (refine an2 10 rfl rfl rfl ?_)
        all_goals (refine an2 11 rfl rfl rfl ?_)
        all_goals (refine an2 12 rfl rfl rfl ?_)
        all_goals (refine an2 13 rfl rfl rfl ?_)
        all_goals (refine an2 14 rfl rfl rfl ?_)
        all_goals (refine an0 15 rfl rfl rfl ?_)
        all_goals (refine an0 16 rfl rfl rfl ?_)
        all_goals (refine an0 17 rfl rfl rfl ?_)
        all_goals (refine an0 18 rfl rfl rfl ?_)
        all_goals (refine an0 19 rfl rfl rfl ?_)
        all_goals (refine an0 20 rfl rfl rfl ?_)
        all_goals (refine an0 21 rfl rfl rfl ?_)
        all_goals (refine an0 22 rfl rfl rfl ?_)
        all_goals (refine an2 23 rfl rfl rfl ?_)
        all_goals (refine at0 24 rfl (fun w' hq => pv_pick_f rfl (by first | assumption | exact decide_eq_false (by omega) | exact dec_notF (by omega)) rfl) ?_)
        all_goals (refine at0 25 rfl (fun w' hq => pv_assign rfl) ?_)
        all_goals (refine aw_done (by kernel_rfl) ?_; replace hw := hS; clear hS hNP)
        repeat' (first | (refine is_cw ?_; first | (refine cw_ret ?_)) | (refine is_qw ?_; first | (with_reducible refine qw_then ?_)))
        refine qw_ret1 rfl rfl ⟨ret_bool ?_, (hE.mono hw).b⟩; first | rfl | (rw [decide_eq_decide]; omega) | (symm; rw [decide_eq_true_eq]; omega) | (symm; rw [decide_eq_false_iff_not]; omega)
  · rw [decide_eq_false hst, Bool.false_and]
    repeat' (first | (refine lw_pure rfl (pv_assign rfl) ?_) | (refine is_cw ?_; first | (refine cw_seq ?_)) | (refine is_qw ?_; first | (with_reducible refine qw_then ?_)) | (refine lw_nil ?_))
    refine cw_drawn (fun w' => Below wn.heap.size wn w') (by kernel_rfl) (by repeat (first | exact NoPanic.body | with_reducible refine NoPanic.then ?_ | with_reducible refine NoPanic.inBlock ?_)) (fun hNP => ?_)
    have hS := hw.drew
    all_goals (refine at0 0 rfl (fun w' hq => pv_fa (tF rfl) rfl) ?_)
    all_goals (refine at0 1 rfl (fun w' hq => pv_load (t1 rfl) rfl (by first | exact PT.ld0 (HX.mono hq) rfl | exact PT.ld (HX.mono hq) rfl)) ?_)
    all_goals (refine aw_act 2 (by kernel_rfl) rfl rfl rfl ?_; refine act_call (f := 96) (by kernel_rfl) rfl (withL_c _ _ _) ?_; rintro e w1 ⟨rfl, hb⟩; refine ⟨_, rfl, grow_trans hS hb, fun hS => ?_⟩)
    all_goals (refine at0 3 rfl (fun w' hq => pv_move rfl) ?_)
    all_goals (refine an2 4 rfl rfl rfl ?_)
    all_goals (refine an2 5 rfl rfl rfl ?_)
    all_goals (refine an2 6 rfl rfl rfl ?_)
    all_goals (refine an2 7 rfl rfl rfl ?_)
    all_goals (refine at0 8 rfl (fun w' hq => pv_pick_f rfl (by first | assumption | exact decide_eq_false (by omega) | exact dec_notF (by omega)) rfl) ?_)
    all_goals (refine at0 9 rfl (fun w' hq => pv_move rfl) ?_)
    all_goals (refine an1 10 rfl rfl rfl rfl ?_)
    all_goals (refine an1 11 rfl rfl rfl rfl ?_)
    all_goals (refine an1 12 rfl rfl rfl rfl ?_)
    all_goals (refine an1 13 rfl rfl rfl rfl ?_)
    all_goals (refine an1 14 rfl rfl rfl rfl ?_)
    all_goals (refine an0 15 rfl rfl rfl ?_)
    all_goals (refine an0 16 rfl rfl rfl ?_)
    all_goals (refine an0 17 rfl rfl rfl ?_)
    all_goals (refine an0 18 rfl rfl rfl ?_)
    all_goals (refine an0 19 rfl rfl rfl ?_)
    all_goals (refine an0 20 rfl rfl rfl ?_)
    all_goals (refine an0 21 rfl rfl rfl ?_)
    all_goals (refine an0 22 rfl rfl rfl ?_)
    all_goals (refine an1 23 rfl rfl rfl rfl ?_)
    all_goals (refine at0 24 rfl (fun w' hq => pv_pick_f rfl rfl rfl) ?_)
    all_goals (refine at0 25 rfl (fun w' hq => pv_assign rfl) ?_)
    all_goals (refine aw_done (by kernel_rfl) ?_; replace hw := hS; clear hS hNP)
    repeat' (first | (refine is_cw ?_; first | (refine cw_ret ?_)) | (refine is_qw ?_; first | (with_reducible refine qw_then ?_)))
    refine qw_ret1 rfl rfl ⟨ret_bool ?_, (hE.mono hw).b⟩; first | rfl | (rw [decide_eq_decide]; omega) | (symm; rw [decide_eq_true_eq]; omega) | (symm; rw [decide_eq_false_iff_not]; omega)
theorem meth_smay (w : World) : (method ((Tryz.prog).types.size + Made.depth) 156 (.agg #[]) "souk/auction.may").run Tryz.prog w = .ok (192, .agg #[]) w := by kernel_rfl
theorem meth_emay (w : World) : (method ((Tryz.prog).types.size + Made.depth) 157 (.agg #[]) "souk/auction.may").run Tryz.prog w = .ok (196, .agg #[]) w := by kernel_rfl
theorem of_s {a : Auc} {ba : Option Addr} {bc : Nat} {w : World} (HS : SlR encD 2 w ba bc a.bids) (h : a.h.shut = true) : Calls Tryz.prog 98 #[.agg #[.int .i64 a.h.id, .int .i64 a.h.seller, .int .i64 a.h.inst, .bool a.h.shut, .int .i64 a.h.qty, .int .i64 a.h.reserve, .int .i64 a.h.step, .int .i64 a.h.fin, .slice ba a.bids.length bc]] w fun e w' => e = .returned (.iface 156 (.agg #[])) ∧ Below w.heap.size w w' := by
  have := of_c (x := ⟨a.h, ba, a.bids.length, bc⟩) (a := a) ⟨rfl, rfl, HS⟩; rw [if_pos h] at this; exact this
theorem of_e {a : Auc} {ba : Option Addr} {bc : Nat} {w : World} (HS : SlR encD 2 w ba bc a.bids) (h : a.h.shut = false) : Calls Tryz.prog 98 #[.agg #[.int .i64 a.h.id, .int .i64 a.h.seller, .int .i64 a.h.inst, .bool a.h.shut, .int .i64 a.h.qty, .int .i64 a.h.reserve, .int .i64 a.h.step, .int .i64 a.h.fin, .slice ba a.bids.length bc]] w fun e w' => e = .returned (.iface 157 (.agg #[])) ∧ Below w.heap.size w w' := by
  have := of_c (x := ⟨a.h, ba, a.bids.length, bc⟩) (a := a) ⟨rfl, rfl, HS⟩; rw [if_neg (by rw [h]; decide)] at this; exact this
theorem smay_e {a : Auc} {ba : Option Addr} {bc : Nat} {b : Bool} {w : World} (hM : mannB a = b) (HS : SlR encD 2 w ba bc a.bids) (h : a.h.shut = true) : Calls Tryz.prog 192 #[.agg #[], .agg #[.int .i64 a.h.id, .int .i64 a.h.seller, .int .i64 a.h.inst, .bool a.h.shut, .int .i64 a.h.qty, .int .i64 a.h.reserve, .int .i64 a.h.step, .int .i64 a.h.fin, .slice ba a.bids.length bc]] w fun e w' => e = .returned (.bool b) ∧ Below w.heap.size w w' := by
  subst hM; exact smay_c (x := ⟨a.h, ba, a.bids.length, bc⟩) (a := a) ⟨rfl, rfl, HS⟩ h
theorem emay_e {a : Auc} {ba : Option Addr} {bc : Nat} {b : Bool} {w : World} (hM : mannB a = b) (HS : SlR encD 2 w ba bc a.bids) (h : a.h.shut = false) : Calls Tryz.prog 196 #[.agg #[], .agg #[.int .i64 a.h.id, .int .i64 a.h.seller, .int .i64 a.h.inst, .bool a.h.shut, .int .i64 a.h.qty, .int .i64 a.h.reserve, .int .i64 a.h.step, .int .i64 a.h.fin, .slice ba a.bids.length bc]] w fun e w' => e = .returned (.bool b) ∧ Below w.heap.size w w' := by
  subst hM; exact emay_c (x := ⟨a.h, ba, a.bids.length, bc⟩) (a := a) ⟨rfl, rfl, HS⟩ h
theorem bidsA_e {a : Auc} {ba : Option Addr} {bc : Nat} {b : Bool} {w : World} (hB : bidsB a.h.seller a.bids = b) (HS : SlR encD 2 w ba bc a.bids) : Calls Tryz.prog 99 #[.agg #[.int .i64 a.h.id, .int .i64 a.h.seller, .int .i64 a.h.inst, .bool a.h.shut, .int .i64 a.h.qty, .int .i64 a.h.reserve, .int .i64 a.h.step, .int .i64 a.h.fin, .slice ba a.bids.length bc]] w fun e w' => e = .returned (.bool b) ∧ Below w.heap.size w w' := by
  subst hB; exact bidsA_c (x := ⟨a.h, ba, a.bids.length, bc⟩) (a := a) ⟨rfl, rfl, HS⟩

set_option maxRecDepth 20000 in
set_option maxHeartbeats 4000000 in
theorem amay_c {x : AucC} {a : Auc} {w : World} (hR : AuR w x a) : Calls Tryz.prog 69 #[.agg (encC x).toArray] w fun e w' => e = .returned (.bool (mayAu a)) ∧ Below w.heap.size w w' := by
  have hE := Ext.refl w
  have hw := Below.refl w.heap.size w
  obtain ⟨xh, ba, bm, bc⟩ := x; obtain ⟨hh, hm, HS⟩ := hR; simp only at hh hm HS; subst hh hm
  refine fn_enter 41 Tryz.func69 rfl rfl rfl ?_
  repeat' (first | (refine is_cw ?_; first | (refine cw_seq ?_) | (refine cw_region ?_)))
  refine lw_boxN rfl rfl (cs := [.int .i64 a.h.id, .int .i64 a.h.seller, .int .i64 a.h.inst, .bool a.h.shut, .int .i64 a.h.qty, .int .i64 a.h.reserve, .int .i64 a.h.step, .int .i64 a.h.fin, .slice ba a.bids.length bc]) rfl ?_; intro N2 wn hN2 HX hb; replace hN2 := Nat.le_trans hw.size hN2; replace hw := grow_trans hw hb; clear hb
  replace hE := hE.mono hw; replace HS := HS.mono hw; clear hw; have hw := Below.refl wn.heap.size wn
  cases hH : headB a.h with
  | false =>
    have hf : mayAu a = false := by unfold mayAu; rw [hH]; rfl
    rw [hf]
    have hH : ¬ ((1 ≤ a.h.id ∧ a.h.id ≤ 1099511627776) ∧ (1 ≤ a.h.seller ∧ a.h.seller ≤ 64) ∧ (1 ≤ a.h.inst ∧ a.h.inst ≤ 16) ∧ (1 ≤ a.h.qty ∧ a.h.qty ≤ 1048576) ∧ (1 ≤ a.h.reserve ∧ a.h.reserve ≤ 1125899906842624) ∧ (1 ≤ a.h.fin ∧ a.h.fin ≤ 1099511627776)) := fun h => by rw [headB_iff.2 h] at hH; cases hH
    repeat' (first | (refine lw_pure rfl (pv_assign rfl) ?_) | (refine is_cw ?_; first | (refine cw_seq ?_)) | (refine is_qw ?_; first | (with_reducible refine qw_then ?_)) | (refine lw_nil ?_))
    refine cw_drawn (fun w' => Below wn.heap.size wn w') (by kernel_rfl) (by repeat (first | exact NoPanic.body | with_reducible refine NoPanic.then ?_ | with_reducible refine NoPanic.inBlock ?_)) (fun hNP => ?_)
    have hS := hw.drew
    all_goals (refine at0 0 rfl (fun w' hq => pv_fa (tF rfl) rfl) ?_)
    all_goals (refine at0 1 rfl (fun w' hq => pv_load (t1 rfl) rfl (by first | exact PT.ld0 (HX.mono hq) rfl | exact PT.ld (HX.mono hq) rfl)) ?_)
    all_goals (refine aw_act 2 (by kernel_rfl) rfl rfl rfl ?_; refine act_call (f := 96) (by kernel_rfl) rfl (withL_c _ _ _) ?_; rintro e w1 ⟨rfl, hb⟩; refine ⟨_, rfl, grow_trans hS hb, fun hS => ?_⟩; clear hb)
    all_goals (refine at0 3 rfl (fun w' hq => pv_move rfl) ?_)
    all_goals (refine aw_gs 4 rfl rfl rfl (by kernel_rfl) (by kernel_rfl) (by kernel_rfl) hNP hS rfl (fun hc w' hq => pv_fa (tF rfl) rfl) (fun hc => ?_) (fun hc => ?_) <;> (first | replace hc := of_decide_eq_true hc | replace hc := of_decide_eq_false hc | replace hc := dec_nT hc | replace hc := dec_nF hc | skip) <;> (try (exfalso; omega)))
    all_goals first | (refine an2 5 rfl rfl rfl ?_) | (refine at2 5 rfl rfl rfl (fun w' hq => pv_load (t1 rfl) rfl (by first | exact PT.ld0 (HX.mono hq) rfl | exact PT.ld (HX.mono hq) rfl)) ?_)
    all_goals first | (refine an3 6 rfl rfl rfl ?_) | (refine an0 6 rfl rfl rfl ?_) | (refine aw_act_g 6 (by kernel_rfl) rfl rfl rfl (by first | rfl | assumption | exact decide_eq_true (by omega) | exact decide_eq_false (by omega) | exact dec_notT (by omega) | exact dec_notF (by omega)) rfl ?_; refine act_call (f := 97) (by kernel_rfl) rfl (withI_c _ _ _) ?_; rintro e w1 ⟨rfl, hb⟩; refine ⟨_, rfl, grow_trans hS hb, fun hS => ?_⟩; clear hb)
    all_goals first | (refine at0 7 rfl (fun w' hq => pv_pick_t rfl (by first | assumption | exact decide_eq_true (by omega) | exact dec_notT (by omega)) rfl) ?_) | (refine at0 7 rfl (fun w' hq => pv_pick_f rfl (by first | assumption | exact decide_eq_false (by omega) | exact dec_notF (by omega)) rfl) ?_)
    all_goals (refine at0 8 rfl (fun w' hq => pv_move rfl) ?_)
    all_goals first | (refine an1 9 rfl rfl rfl rfl ?_) | (refine aw_gs 9 rfl rfl rfl (by kernel_rfl) (by kernel_rfl) (by kernel_rfl) hNP hS rfl (fun hc w' hq => pv_fa (tF rfl) rfl) (fun hc => ?_) (fun hc => ?_) <;> (first | replace hc := of_decide_eq_true hc | replace hc := of_decide_eq_false hc | replace hc := dec_nT hc | replace hc := dec_nF hc | skip) <;> (try (exfalso; omega)))
    all_goals first | (refine an1 10 rfl rfl rfl rfl ?_) | (refine an2 10 rfl rfl rfl ?_) | (refine at2 10 rfl rfl rfl (fun w' hq => pv_load (t1 rfl) rfl (by first | exact PT.ld0 (HX.mono hq) rfl | exact PT.ld (HX.mono hq) rfl)) ?_)
    all_goals first | (refine an3 11 rfl rfl rfl ?_) | (refine an0 11 rfl rfl rfl ?_) | (refine aw_act_g 11 (by kernel_rfl) rfl rfl rfl (by first | rfl | assumption | exact decide_eq_true (by omega) | exact decide_eq_false (by omega) | exact dec_notT (by omega) | exact dec_notF (by omega)) rfl ?_; refine act_call (f := 97) (by kernel_rfl) rfl (withI_c _ _ _) ?_; rintro e w1 ⟨rfl, hb⟩; refine ⟨_, rfl, grow_trans hS hb, fun hS => ?_⟩; clear hb)
    all_goals first | (refine at0 12 rfl (fun w' hq => pv_pick_f rfl rfl rfl) ?_) | (refine at0 12 rfl (fun w' hq => pv_pick_t rfl (by first | assumption | exact decide_eq_true (by omega) | exact dec_notT (by omega)) rfl) ?_) | (refine at0 12 rfl (fun w' hq => pv_pick_f rfl (by first | assumption | exact decide_eq_false (by omega) | exact dec_notF (by omega)) rfl) ?_)
    all_goals (refine at0 13 rfl (fun w' hq => pv_move rfl) ?_)
    all_goals first | (refine an1 14 rfl rfl rfl rfl ?_) | (refine aw_gs 14 rfl rfl rfl (by kernel_rfl) (by kernel_rfl) (by kernel_rfl) hNP hS rfl (fun hc w' hq => pv_fa (tF rfl) rfl) (fun hc => ?_) (fun hc => ?_) <;> (first | replace hc := of_decide_eq_true hc | replace hc := of_decide_eq_false hc | replace hc := dec_nT hc | replace hc := dec_nF hc | skip) <;> (try (exfalso; omega)))
    all_goals first | (refine an1 15 rfl rfl rfl rfl ?_) | (refine an2 15 rfl rfl rfl ?_) | (refine at2 15 rfl rfl rfl (fun w' hq => pv_load (t1 rfl) rfl (by first | exact PT.ld0 (HX.mono hq) rfl | exact PT.ld (HX.mono hq) rfl)) ?_)
    all_goals first | (refine an3 16 rfl rfl rfl ?_) | (refine an0 16 rfl rfl rfl ?_) | (refine aw_act_g 16 (by kernel_rfl) rfl rfl rfl (by first | rfl | assumption | exact decide_eq_true (by omega) | exact decide_eq_false (by omega) | exact dec_notT (by omega) | exact dec_notF (by omega)) rfl ?_; refine act_call (f := 96) (by kernel_rfl) rfl (withL_c _ _ _) ?_; rintro e w1 ⟨rfl, hb⟩; refine ⟨_, rfl, grow_trans hS hb, fun hS => ?_⟩; clear hb)
    all_goals first | (refine at0 17 rfl (fun w' hq => pv_pick_f rfl rfl rfl) ?_) | (refine at0 17 rfl (fun w' hq => pv_pick_t rfl (by first | assumption | exact decide_eq_true (by omega) | exact dec_notT (by omega)) rfl) ?_) | (refine at0 17 rfl (fun w' hq => pv_pick_f rfl (by first | assumption | exact decide_eq_false (by omega) | exact dec_notF (by omega)) rfl) ?_)
    all_goals (refine at0 18 rfl (fun w' hq => pv_move rfl) ?_)
    all_goals first | (refine an1 19 rfl rfl rfl rfl ?_) | (refine aw_gs 19 rfl rfl rfl (by kernel_rfl) (by kernel_rfl) (by kernel_rfl) hNP hS rfl (fun hc w' hq => pv_fa (tF rfl) rfl) (fun hc => ?_) (fun hc => ?_) <;> (first | replace hc := of_decide_eq_true hc | replace hc := of_decide_eq_false hc | replace hc := dec_nT hc | replace hc := dec_nF hc | skip) <;> (try (exfalso; omega)))
    all_goals first | (refine an1 20 rfl rfl rfl rfl ?_) | (refine an2 20 rfl rfl rfl ?_) | (refine at2 20 rfl rfl rfl (fun w' hq => pv_load (t1 rfl) rfl (by first | exact PT.ld0 (HX.mono hq) rfl | exact PT.ld (HX.mono hq) rfl)) ?_)
    all_goals first | (refine an3 21 rfl rfl rfl ?_) | (refine an0 21 rfl rfl rfl ?_) | (refine aw_act_g 21 (by kernel_rfl) rfl rfl rfl (by first | rfl | assumption | exact decide_eq_true (by omega) | exact decide_eq_false (by omega) | exact dec_notT (by omega) | exact dec_notF (by omega)) rfl ?_; refine act_call (f := 96) (by kernel_rfl) rfl (withL_c _ _ _) ?_; rintro e w1 ⟨rfl, hb⟩; refine ⟨_, rfl, grow_trans hS hb, fun hS => ?_⟩; clear hb)
    all_goals first | (refine at0 22 rfl (fun w' hq => pv_pick_f rfl rfl rfl) ?_) | (refine at0 22 rfl (fun w' hq => pv_pick_t rfl (by first | assumption | exact decide_eq_true (by omega) | exact dec_notT (by omega)) rfl) ?_) | (refine at0 22 rfl (fun w' hq => pv_pick_f rfl (by first | assumption | exact decide_eq_false (by omega) | exact dec_notF (by omega)) rfl) ?_)
    all_goals (refine at0 23 rfl (fun w' hq => pv_move rfl) ?_)
    all_goals first | (refine an1 24 rfl rfl rfl rfl ?_) | (refine aw_gs 24 rfl rfl rfl (by kernel_rfl) (by kernel_rfl) (by kernel_rfl) hNP hS rfl (fun hc w' hq => pv_fa (tF rfl) rfl) (fun hc => ?_) (fun hc => ?_) <;> (first | replace hc := of_decide_eq_true hc | replace hc := of_decide_eq_false hc | replace hc := dec_nT hc | replace hc := dec_nF hc | skip) <;> (try (exfalso; omega)))
    all_goals first | (refine an1 25 rfl rfl rfl rfl ?_) | (refine an2 25 rfl rfl rfl ?_) | (refine at2 25 rfl rfl rfl (fun w' hq => pv_load (t1 rfl) rfl (by first | exact PT.ld0 (HX.mono hq) rfl | exact PT.ld (HX.mono hq) rfl)) ?_)
    all_goals first | (refine an3 26 rfl rfl rfl ?_) | (refine an0 26 rfl rfl rfl ?_) | (refine aw_act_g 26 (by kernel_rfl) rfl rfl rfl (by first | rfl | assumption | exact decide_eq_true (by omega) | exact decide_eq_false (by omega) | exact dec_notT (by omega) | exact dec_notF (by omega)) rfl ?_; refine act_call (f := 96) (by kernel_rfl) rfl (withL_c _ _ _) ?_; rintro e w1 ⟨rfl, hb⟩; refine ⟨_, rfl, grow_trans hS hb, fun hS => ?_⟩; clear hb)
    all_goals first | (refine at0 27 rfl (fun w' hq => pv_pick_f rfl rfl rfl) ?_) | (refine at0 27 rfl (fun w' hq => pv_pick_t rfl (by first | assumption | exact decide_eq_true (by omega) | exact dec_notT (by omega)) rfl) ?_) | (refine at0 27 rfl (fun w' hq => pv_pick_f rfl (by first | assumption | exact decide_eq_false (by omega) | exact dec_notF (by omega)) rfl) ?_)
    all_goals (refine at0 28 rfl (fun w' hq => pv_move rfl) ?_)
    all_goals first | (refine an1 29 rfl rfl rfl rfl ?_) | (refine an2 29 rfl rfl rfl ?_)
    all_goals first | (refine an1 30 rfl rfl rfl rfl ?_) | (refine an2 30 rfl rfl rfl ?_)
    all_goals first | (refine an1 31 rfl rfl rfl rfl ?_) | (refine an2 31 rfl rfl rfl ?_)
    all_goals first | (refine an1 32 rfl rfl rfl rfl ?_) | (refine an2 32 rfl rfl rfl ?_)
    all_goals first | (refine at0 33 rfl (fun w' hq => pv_pick_f rfl rfl rfl) ?_) | (refine at0 33 rfl (fun w' hq => pv_pick_f rfl (by first | assumption | exact decide_eq_false (by omega) | exact dec_notF (by omega)) rfl) ?_)
    all_goals (refine at0 34 rfl (fun w' hq => pv_move rfl) ?_)
    all_goals (refine an1 35 rfl rfl rfl rfl ?_)
    all_goals (refine an1 36 rfl rfl rfl rfl ?_)
    all_goals (refine at0 37 rfl (fun w' hq => pv_pick_f rfl rfl rfl) ?_)
    all_goals (refine at0 38 rfl (fun w' hq => pv_assign rfl) ?_)
    all_goals (refine aw_done (by kernel_rfl) ?_; replace hw := hS; clear hS hNP)
    all_goals (repeat' (first | (refine is_cw ?_; first | (refine cw_ret ?_)) | (refine is_qw ?_; first | (with_reducible refine qw_then ?_))))
    all_goals exact qw_ret1 rfl rfl ⟨rfl, (hE.mono hw).b⟩
  | true =>
    have hG := headB_iff.1 hH
    cases hM : mannB a with
    | false =>
      have hf : mayAu a = false := by unfold mayAu; rw [hM]; simp
      rw [hf]
      cases hs : a.h.shut with
      | true =>
        repeat' (first | (refine lw_pure rfl (pv_assign rfl) ?_) | (refine is_cw ?_; first | (refine cw_seq ?_)) | (refine is_qw ?_; first | (with_reducible refine qw_then ?_)) | (refine lw_nil ?_))
        refine cw_drawn (fun w' => Below wn.heap.size wn w') (by kernel_rfl) (by repeat (first | exact NoPanic.body | with_reducible refine NoPanic.then ?_ | with_reducible refine NoPanic.inBlock ?_)) (fun hNP => ?_)
        have hS := hw.drew
        all_goals (refine at0 0 rfl (fun w' hq => pv_fa (tF rfl) rfl) ?_)
        all_goals (refine at0 1 rfl (fun w' hq => pv_load (t1 rfl) rfl (by first | exact PT.ld0 (HX.mono hq) rfl | exact PT.ld (HX.mono hq) rfl)) ?_)
        all_goals (refine aw_act 2 (by kernel_rfl) rfl rfl rfl ?_; refine act_call (f := 96) (by kernel_rfl) rfl (withL_c _ _ _) ?_; rintro e w1 ⟨rfl, hb⟩; refine ⟨_, rfl, grow_trans hS hb, fun hS => ?_⟩; clear hb)
        all_goals (refine at0 3 rfl (fun w' hq => pv_move rfl) ?_)
        all_goals (refine at2 4 rfl rfl rfl (fun w' hq => pv_fa (tF rfl) rfl) ?_)
        all_goals (refine at2 5 rfl rfl rfl (fun w' hq => pv_load (t1 rfl) rfl (by first | exact PT.ld0 (HX.mono hq) rfl | exact PT.ld (HX.mono hq) rfl)) ?_)
        all_goals first | (refine an3 6 rfl rfl rfl ?_) | (refine an0 6 rfl rfl rfl ?_) | (refine aw_act_g 6 (by kernel_rfl) rfl rfl rfl (by first | rfl | assumption | exact decide_eq_true (by omega) | exact decide_eq_false (by omega) | exact dec_notT (by omega) | exact dec_notF (by omega)) rfl ?_; refine act_call (f := 97) (by kernel_rfl) rfl (withI_c _ _ _) ?_; rintro e w1 ⟨rfl, hb⟩; refine ⟨_, rfl, grow_trans hS hb, fun hS => ?_⟩; clear hb)
        all_goals (refine at0 7 rfl (fun w' hq => pv_pick_t rfl (by first | assumption | exact decide_eq_true (by omega) | exact dec_notT (by omega)) rfl) ?_)
        all_goals (refine at0 8 rfl (fun w' hq => pv_move rfl) ?_)
        all_goals (refine at2 9 rfl rfl rfl (fun w' hq => pv_fa (tF rfl) rfl) ?_)
        all_goals (refine at2 10 rfl rfl rfl (fun w' hq => pv_load (t1 rfl) rfl (by first | exact PT.ld0 (HX.mono hq) rfl | exact PT.ld (HX.mono hq) rfl)) ?_)
        all_goals first | (refine an3 11 rfl rfl rfl ?_) | (refine an0 11 rfl rfl rfl ?_) | (refine aw_act_g 11 (by kernel_rfl) rfl rfl rfl (by first | rfl | assumption | exact decide_eq_true (by omega) | exact decide_eq_false (by omega) | exact dec_notT (by omega) | exact dec_notF (by omega)) rfl ?_; refine act_call (f := 97) (by kernel_rfl) rfl (withI_c _ _ _) ?_; rintro e w1 ⟨rfl, hb⟩; refine ⟨_, rfl, grow_trans hS hb, fun hS => ?_⟩; clear hb)
        all_goals (refine at0 12 rfl (fun w' hq => pv_pick_t rfl (by first | assumption | exact decide_eq_true (by omega) | exact dec_notT (by omega)) rfl) ?_)
        all_goals (refine at0 13 rfl (fun w' hq => pv_move rfl) ?_)
        all_goals (refine at2 14 rfl rfl rfl (fun w' hq => pv_fa (tF rfl) rfl) ?_)
        all_goals (refine at2 15 rfl rfl rfl (fun w' hq => pv_load (t1 rfl) rfl (by first | exact PT.ld0 (HX.mono hq) rfl | exact PT.ld (HX.mono hq) rfl)) ?_)
        all_goals first | (refine an3 16 rfl rfl rfl ?_) | (refine an0 16 rfl rfl rfl ?_) | (refine aw_act_g 16 (by kernel_rfl) rfl rfl rfl (by first | rfl | assumption | exact decide_eq_true (by omega) | exact decide_eq_false (by omega) | exact dec_notT (by omega) | exact dec_notF (by omega)) rfl ?_; refine act_call (f := 96) (by kernel_rfl) rfl (withL_c _ _ _) ?_; rintro e w1 ⟨rfl, hb⟩; refine ⟨_, rfl, grow_trans hS hb, fun hS => ?_⟩; clear hb)
        all_goals (refine at0 17 rfl (fun w' hq => pv_pick_t rfl (by first | assumption | exact decide_eq_true (by omega) | exact dec_notT (by omega)) rfl) ?_)
        all_goals (refine at0 18 rfl (fun w' hq => pv_move rfl) ?_)
        all_goals (refine at2 19 rfl rfl rfl (fun w' hq => pv_fa (tF rfl) rfl) ?_)
        all_goals (refine at2 20 rfl rfl rfl (fun w' hq => pv_load (t1 rfl) rfl (by first | exact PT.ld0 (HX.mono hq) rfl | exact PT.ld (HX.mono hq) rfl)) ?_)
        all_goals first | (refine an3 21 rfl rfl rfl ?_) | (refine an0 21 rfl rfl rfl ?_) | (refine aw_act_g 21 (by kernel_rfl) rfl rfl rfl (by first | rfl | assumption | exact decide_eq_true (by omega) | exact decide_eq_false (by omega) | exact dec_notT (by omega) | exact dec_notF (by omega)) rfl ?_; refine act_call (f := 96) (by kernel_rfl) rfl (withL_c _ _ _) ?_; rintro e w1 ⟨rfl, hb⟩; refine ⟨_, rfl, grow_trans hS hb, fun hS => ?_⟩; clear hb)
        all_goals (refine at0 22 rfl (fun w' hq => pv_pick_t rfl (by first | assumption | exact decide_eq_true (by omega) | exact dec_notT (by omega)) rfl) ?_)
        all_goals (refine at0 23 rfl (fun w' hq => pv_move rfl) ?_)
        all_goals (refine at2 24 rfl rfl rfl (fun w' hq => pv_fa (tF rfl) rfl) ?_)
        all_goals (refine at2 25 rfl rfl rfl (fun w' hq => pv_load (t1 rfl) rfl (by first | exact PT.ld0 (HX.mono hq) rfl | exact PT.ld (HX.mono hq) rfl)) ?_)
        all_goals first | (refine an3 26 rfl rfl rfl ?_) | (refine an0 26 rfl rfl rfl ?_) | (refine aw_act_g 26 (by kernel_rfl) rfl rfl rfl (by first | rfl | assumption | exact decide_eq_true (by omega) | exact decide_eq_false (by omega) | exact dec_notT (by omega) | exact dec_notF (by omega)) rfl ?_; refine act_call (f := 96) (by kernel_rfl) rfl (withL_c _ _ _) ?_; rintro e w1 ⟨rfl, hb⟩; refine ⟨_, rfl, grow_trans hS hb, fun hS => ?_⟩; clear hb)
        all_goals (refine at0 27 rfl (fun w' hq => pv_pick_t rfl (by first | assumption | exact decide_eq_true (by omega) | exact dec_notT (by omega)) rfl) ?_)
        all_goals (refine at0 28 rfl (fun w' hq => pv_move rfl) ?_)
        all_goals (refine at2 29 rfl rfl rfl (fun w' hq => pv_loada (tA rfl) rfl (by first | exact PT.lda (HX.mono hq)) (by rfl)) ?_)
        all_goals (refine at2 31 rfl rfl rfl (fun w' hq => pv_loada (tA rfl) rfl (by first | exact PT.lda (HX.mono hq)) (by rfl)) ?_)
        all_goals first | (refine an3 30 rfl rfl rfl ?_) | (refine an0 30 rfl rfl rfl ?_) | (refine aw_act_g 30 (by kernel_rfl) rfl rfl rfl (by first | rfl | assumption | exact decide_eq_true (by omega) | exact decide_eq_false (by omega) | exact dec_notT (by omega) | exact dec_notF (by omega)) rfl ?_; refine act_call (f := 98) (by kernel_rfl) rfl (of_s (HS.mono hS) hs) ?_; rintro e w1 ⟨rfl, hb⟩; refine ⟨_, rfl, grow_trans hS hb, fun hS => ?_⟩; clear hb)
        all_goals first | (refine an3 32 rfl rfl rfl ?_) | (refine an0 32 rfl rfl rfl ?_) | (refine aw_act_g 32 (by kernel_rfl) rfl rfl rfl (by first | rfl | assumption | exact decide_eq_true (by omega) | exact decide_eq_false (by omega) | exact dec_notT (by omega) | exact dec_notF (by omega)) rfl ?_; refine act_callm (f := 192) (t := 156) (v := .agg #[]) (r := .agg #[]) (meth_smay _) (by kernel_rfl) rfl rfl (smay_e hM (HS.mono hS) hs) ?_; rintro e w1 ⟨rfl, hb⟩; refine ⟨_, rfl, grow_trans hS hb, fun hS => ?_⟩; clear hb)
        all_goals (refine at0 33 rfl (fun w' hq => pv_pick_t rfl (by first | assumption | exact decide_eq_true (by omega) | exact dec_notT (by omega)) rfl) ?_)
        all_goals (refine at0 34 rfl (fun w' hq => pv_move rfl) ?_)
        all_goals (refine an1 35 rfl rfl rfl rfl ?_)
        all_goals (refine an1 36 rfl rfl rfl rfl ?_)
        all_goals (refine at0 37 rfl (fun w' hq => pv_pick_f rfl rfl rfl) ?_)
        all_goals (refine at0 38 rfl (fun w' hq => pv_assign rfl) ?_)
        all_goals (refine aw_done (by kernel_rfl) ?_; replace hw := hS; clear hS hNP)
        repeat' (first | (refine is_cw ?_; first | (refine cw_ret ?_)) | (refine is_qw ?_; first | (with_reducible refine qw_then ?_)))
        exact qw_ret1 rfl rfl ⟨rfl, (hE.mono hw).b⟩
      | false =>
        repeat' (first | (refine lw_pure rfl (pv_assign rfl) ?_) | (refine is_cw ?_; first | (refine cw_seq ?_)) | (refine is_qw ?_; first | (with_reducible refine qw_then ?_)) | (refine lw_nil ?_))
        refine cw_drawn (fun w' => Below wn.heap.size wn w') (by kernel_rfl) (by repeat (first | exact NoPanic.body | with_reducible refine NoPanic.then ?_ | with_reducible refine NoPanic.inBlock ?_)) (fun hNP => ?_)
        have hS := hw.drew
        all_goals (refine at0 0 rfl (fun w' hq => pv_fa (tF rfl) rfl) ?_)
        all_goals (refine at0 1 rfl (fun w' hq => pv_load (t1 rfl) rfl (by first | exact PT.ld0 (HX.mono hq) rfl | exact PT.ld (HX.mono hq) rfl)) ?_)
        all_goals (refine aw_act 2 (by kernel_rfl) rfl rfl rfl ?_; refine act_call (f := 96) (by kernel_rfl) rfl (withL_c _ _ _) ?_; rintro e w1 ⟨rfl, hb⟩; refine ⟨_, rfl, grow_trans hS hb, fun hS => ?_⟩; clear hb)
        all_goals (refine at0 3 rfl (fun w' hq => pv_move rfl) ?_)
        all_goals (refine at2 4 rfl rfl rfl (fun w' hq => pv_fa (tF rfl) rfl) ?_)
        all_goals (refine at2 5 rfl rfl rfl (fun w' hq => pv_load (t1 rfl) rfl (by first | exact PT.ld0 (HX.mono hq) rfl | exact PT.ld (HX.mono hq) rfl)) ?_)
        all_goals first | (refine an3 6 rfl rfl rfl ?_) | (refine an0 6 rfl rfl rfl ?_) | (refine aw_act_g 6 (by kernel_rfl) rfl rfl rfl (by first | rfl | assumption | exact decide_eq_true (by omega) | exact decide_eq_false (by omega) | exact dec_notT (by omega) | exact dec_notF (by omega)) rfl ?_; refine act_call (f := 97) (by kernel_rfl) rfl (withI_c _ _ _) ?_; rintro e w1 ⟨rfl, hb⟩; refine ⟨_, rfl, grow_trans hS hb, fun hS => ?_⟩; clear hb)
        all_goals (refine at0 7 rfl (fun w' hq => pv_pick_t rfl (by first | assumption | exact decide_eq_true (by omega) | exact dec_notT (by omega)) rfl) ?_)
        all_goals (refine at0 8 rfl (fun w' hq => pv_move rfl) ?_)
        all_goals (refine at2 9 rfl rfl rfl (fun w' hq => pv_fa (tF rfl) rfl) ?_)
        all_goals (refine at2 10 rfl rfl rfl (fun w' hq => pv_load (t1 rfl) rfl (by first | exact PT.ld0 (HX.mono hq) rfl | exact PT.ld (HX.mono hq) rfl)) ?_)
        all_goals first | (refine an3 11 rfl rfl rfl ?_) | (refine an0 11 rfl rfl rfl ?_) | (refine aw_act_g 11 (by kernel_rfl) rfl rfl rfl (by first | rfl | assumption | exact decide_eq_true (by omega) | exact decide_eq_false (by omega) | exact dec_notT (by omega) | exact dec_notF (by omega)) rfl ?_; refine act_call (f := 97) (by kernel_rfl) rfl (withI_c _ _ _) ?_; rintro e w1 ⟨rfl, hb⟩; refine ⟨_, rfl, grow_trans hS hb, fun hS => ?_⟩; clear hb)
        all_goals (refine at0 12 rfl (fun w' hq => pv_pick_t rfl (by first | assumption | exact decide_eq_true (by omega) | exact dec_notT (by omega)) rfl) ?_)
        all_goals (refine at0 13 rfl (fun w' hq => pv_move rfl) ?_)
        all_goals (refine at2 14 rfl rfl rfl (fun w' hq => pv_fa (tF rfl) rfl) ?_)
        all_goals (refine at2 15 rfl rfl rfl (fun w' hq => pv_load (t1 rfl) rfl (by first | exact PT.ld0 (HX.mono hq) rfl | exact PT.ld (HX.mono hq) rfl)) ?_)
        all_goals first | (refine an3 16 rfl rfl rfl ?_) | (refine an0 16 rfl rfl rfl ?_) | (refine aw_act_g 16 (by kernel_rfl) rfl rfl rfl (by first | rfl | assumption | exact decide_eq_true (by omega) | exact decide_eq_false (by omega) | exact dec_notT (by omega) | exact dec_notF (by omega)) rfl ?_; refine act_call (f := 96) (by kernel_rfl) rfl (withL_c _ _ _) ?_; rintro e w1 ⟨rfl, hb⟩; refine ⟨_, rfl, grow_trans hS hb, fun hS => ?_⟩; clear hb)
        all_goals (refine at0 17 rfl (fun w' hq => pv_pick_t rfl (by first | assumption | exact decide_eq_true (by omega) | exact dec_notT (by omega)) rfl) ?_)
        all_goals (refine at0 18 rfl (fun w' hq => pv_move rfl) ?_)
        all_goals (refine at2 19 rfl rfl rfl (fun w' hq => pv_fa (tF rfl) rfl) ?_)
        all_goals (refine at2 20 rfl rfl rfl (fun w' hq => pv_load (t1 rfl) rfl (by first | exact PT.ld0 (HX.mono hq) rfl | exact PT.ld (HX.mono hq) rfl)) ?_)
        all_goals first | (refine an3 21 rfl rfl rfl ?_) | (refine an0 21 rfl rfl rfl ?_) | (refine aw_act_g 21 (by kernel_rfl) rfl rfl rfl (by first | rfl | assumption | exact decide_eq_true (by omega) | exact decide_eq_false (by omega) | exact dec_notT (by omega) | exact dec_notF (by omega)) rfl ?_; refine act_call (f := 96) (by kernel_rfl) rfl (withL_c _ _ _) ?_; rintro e w1 ⟨rfl, hb⟩; refine ⟨_, rfl, grow_trans hS hb, fun hS => ?_⟩; clear hb)
        all_goals (refine at0 22 rfl (fun w' hq => pv_pick_t rfl (by first | assumption | exact decide_eq_true (by omega) | exact dec_notT (by omega)) rfl) ?_)
        all_goals (refine at0 23 rfl (fun w' hq => pv_move rfl) ?_)
        all_goals (refine at2 24 rfl rfl rfl (fun w' hq => pv_fa (tF rfl) rfl) ?_)
        all_goals (refine at2 25 rfl rfl rfl (fun w' hq => pv_load (t1 rfl) rfl (by first | exact PT.ld0 (HX.mono hq) rfl | exact PT.ld (HX.mono hq) rfl)) ?_)
        all_goals first | (refine an3 26 rfl rfl rfl ?_) | (refine an0 26 rfl rfl rfl ?_) | (refine aw_act_g 26 (by kernel_rfl) rfl rfl rfl (by first | rfl | assumption | exact decide_eq_true (by omega) | exact decide_eq_false (by omega) | exact dec_notT (by omega) | exact dec_notF (by omega)) rfl ?_; refine act_call (f := 96) (by kernel_rfl) rfl (withL_c _ _ _) ?_; rintro e w1 ⟨rfl, hb⟩; refine ⟨_, rfl, grow_trans hS hb, fun hS => ?_⟩; clear hb)
        all_goals (refine at0 27 rfl (fun w' hq => pv_pick_t rfl (by first | assumption | exact decide_eq_true (by omega) | exact dec_notT (by omega)) rfl) ?_)
        all_goals (refine at0 28 rfl (fun w' hq => pv_move rfl) ?_)
        all_goals (refine at2 29 rfl rfl rfl (fun w' hq => pv_loada (tA rfl) rfl (by first | exact PT.lda (HX.mono hq)) (by rfl)) ?_)
        all_goals (refine at2 31 rfl rfl rfl (fun w' hq => pv_loada (tA rfl) rfl (by first | exact PT.lda (HX.mono hq)) (by rfl)) ?_)
        all_goals first | (refine an3 30 rfl rfl rfl ?_) | (refine an0 30 rfl rfl rfl ?_) | (refine aw_act_g 30 (by kernel_rfl) rfl rfl rfl (by first | rfl | assumption | exact decide_eq_true (by omega) | exact decide_eq_false (by omega) | exact dec_notT (by omega) | exact dec_notF (by omega)) rfl ?_; refine act_call (f := 98) (by kernel_rfl) rfl (of_e (HS.mono hS) hs) ?_; rintro e w1 ⟨rfl, hb⟩; refine ⟨_, rfl, grow_trans hS hb, fun hS => ?_⟩; clear hb)
        all_goals first | (refine an3 32 rfl rfl rfl ?_) | (refine an0 32 rfl rfl rfl ?_) | (refine aw_act_g 32 (by kernel_rfl) rfl rfl rfl (by first | rfl | assumption | exact decide_eq_true (by omega) | exact decide_eq_false (by omega) | exact dec_notT (by omega) | exact dec_notF (by omega)) rfl ?_; refine act_callm (f := 196) (t := 157) (v := .agg #[]) (r := .agg #[]) (meth_emay _) (by kernel_rfl) rfl rfl (emay_e hM (HS.mono hS) hs) ?_; rintro e w1 ⟨rfl, hb⟩; refine ⟨_, rfl, grow_trans hS hb, fun hS => ?_⟩; clear hb)
        all_goals (refine at0 33 rfl (fun w' hq => pv_pick_t rfl (by first | assumption | exact decide_eq_true (by omega) | exact dec_notT (by omega)) rfl) ?_)
        all_goals (refine at0 34 rfl (fun w' hq => pv_move rfl) ?_)
        all_goals (refine an1 35 rfl rfl rfl rfl ?_)
        all_goals (refine an1 36 rfl rfl rfl rfl ?_)
        all_goals (refine at0 37 rfl (fun w' hq => pv_pick_f rfl rfl rfl) ?_)
        all_goals (refine at0 38 rfl (fun w' hq => pv_assign rfl) ?_)
        all_goals (refine aw_done (by kernel_rfl) ?_; replace hw := hS; clear hS hNP)
        repeat' (first | (refine is_cw ?_; first | (refine cw_ret ?_)) | (refine is_qw ?_; first | (with_reducible refine qw_then ?_)))
        exact qw_ret1 rfl rfl ⟨rfl, (hE.mono hw).b⟩
    | true =>
      have hf : mayAu a = bidsB a.h.seller a.bids := by unfold mayAu; rw [hH, hM]; rfl
      rw [hf]
      generalize hB : bidsB a.h.seller a.bids = r
      cases hs : a.h.shut with
      | true =>
        repeat' (first | (refine lw_pure rfl (pv_assign rfl) ?_) | (refine is_cw ?_; first | (refine cw_seq ?_)) | (refine is_qw ?_; first | (with_reducible refine qw_then ?_)) | (refine lw_nil ?_))
        refine cw_drawn (fun w' => Below wn.heap.size wn w') (by kernel_rfl) (by repeat (first | exact NoPanic.body | with_reducible refine NoPanic.then ?_ | with_reducible refine NoPanic.inBlock ?_)) (fun hNP => ?_)
        have hS := hw.drew
        all_goals (refine at0 0 rfl (fun w' hq => pv_fa (tF rfl) rfl) ?_)
        all_goals (refine at0 1 rfl (fun w' hq => pv_load (t1 rfl) rfl (by first | exact PT.ld0 (HX.mono hq) rfl | exact PT.ld (HX.mono hq) rfl)) ?_)
        all_goals (refine aw_act 2 (by kernel_rfl) rfl rfl rfl ?_; refine act_call (f := 96) (by kernel_rfl) rfl (withL_c _ _ _) ?_; rintro e w1 ⟨rfl, hb⟩; refine ⟨_, rfl, grow_trans hS hb, fun hS => ?_⟩; clear hb)
        all_goals (refine at0 3 rfl (fun w' hq => pv_move rfl) ?_)
        all_goals (refine at2 4 rfl rfl rfl (fun w' hq => pv_fa (tF rfl) rfl) ?_)
        all_goals (refine at2 5 rfl rfl rfl (fun w' hq => pv_load (t1 rfl) rfl (by first | exact PT.ld0 (HX.mono hq) rfl | exact PT.ld (HX.mono hq) rfl)) ?_)
        all_goals first | (refine an3 6 rfl rfl rfl ?_) | (refine an0 6 rfl rfl rfl ?_) | (refine aw_act_g 6 (by kernel_rfl) rfl rfl rfl (by first | rfl | assumption | exact decide_eq_true (by omega) | exact decide_eq_false (by omega) | exact dec_notT (by omega) | exact dec_notF (by omega)) rfl ?_; refine act_call (f := 97) (by kernel_rfl) rfl (withI_c _ _ _) ?_; rintro e w1 ⟨rfl, hb⟩; refine ⟨_, rfl, grow_trans hS hb, fun hS => ?_⟩; clear hb)
        all_goals (refine at0 7 rfl (fun w' hq => pv_pick_t rfl (by first | assumption | exact decide_eq_true (by omega) | exact dec_notT (by omega)) rfl) ?_)
        all_goals (refine at0 8 rfl (fun w' hq => pv_move rfl) ?_)
        all_goals (refine at2 9 rfl rfl rfl (fun w' hq => pv_fa (tF rfl) rfl) ?_)
        all_goals (refine at2 10 rfl rfl rfl (fun w' hq => pv_load (t1 rfl) rfl (by first | exact PT.ld0 (HX.mono hq) rfl | exact PT.ld (HX.mono hq) rfl)) ?_)
        all_goals first | (refine an3 11 rfl rfl rfl ?_) | (refine an0 11 rfl rfl rfl ?_) | (refine aw_act_g 11 (by kernel_rfl) rfl rfl rfl (by first | rfl | assumption | exact decide_eq_true (by omega) | exact decide_eq_false (by omega) | exact dec_notT (by omega) | exact dec_notF (by omega)) rfl ?_; refine act_call (f := 97) (by kernel_rfl) rfl (withI_c _ _ _) ?_; rintro e w1 ⟨rfl, hb⟩; refine ⟨_, rfl, grow_trans hS hb, fun hS => ?_⟩; clear hb)
        all_goals (refine at0 12 rfl (fun w' hq => pv_pick_t rfl (by first | assumption | exact decide_eq_true (by omega) | exact dec_notT (by omega)) rfl) ?_)
        all_goals (refine at0 13 rfl (fun w' hq => pv_move rfl) ?_)
        all_goals (refine at2 14 rfl rfl rfl (fun w' hq => pv_fa (tF rfl) rfl) ?_)
        all_goals (refine at2 15 rfl rfl rfl (fun w' hq => pv_load (t1 rfl) rfl (by first | exact PT.ld0 (HX.mono hq) rfl | exact PT.ld (HX.mono hq) rfl)) ?_)
        all_goals first | (refine an3 16 rfl rfl rfl ?_) | (refine an0 16 rfl rfl rfl ?_) | (refine aw_act_g 16 (by kernel_rfl) rfl rfl rfl (by first | rfl | assumption | exact decide_eq_true (by omega) | exact decide_eq_false (by omega) | exact dec_notT (by omega) | exact dec_notF (by omega)) rfl ?_; refine act_call (f := 96) (by kernel_rfl) rfl (withL_c _ _ _) ?_; rintro e w1 ⟨rfl, hb⟩; refine ⟨_, rfl, grow_trans hS hb, fun hS => ?_⟩; clear hb)
        all_goals (refine at0 17 rfl (fun w' hq => pv_pick_t rfl (by first | assumption | exact decide_eq_true (by omega) | exact dec_notT (by omega)) rfl) ?_)
        all_goals (refine at0 18 rfl (fun w' hq => pv_move rfl) ?_)
        all_goals (refine at2 19 rfl rfl rfl (fun w' hq => pv_fa (tF rfl) rfl) ?_)
        all_goals (refine at2 20 rfl rfl rfl (fun w' hq => pv_load (t1 rfl) rfl (by first | exact PT.ld0 (HX.mono hq) rfl | exact PT.ld (HX.mono hq) rfl)) ?_)
        all_goals first | (refine an3 21 rfl rfl rfl ?_) | (refine an0 21 rfl rfl rfl ?_) | (refine aw_act_g 21 (by kernel_rfl) rfl rfl rfl (by first | rfl | assumption | exact decide_eq_true (by omega) | exact decide_eq_false (by omega) | exact dec_notT (by omega) | exact dec_notF (by omega)) rfl ?_; refine act_call (f := 96) (by kernel_rfl) rfl (withL_c _ _ _) ?_; rintro e w1 ⟨rfl, hb⟩; refine ⟨_, rfl, grow_trans hS hb, fun hS => ?_⟩; clear hb)
        all_goals (refine at0 22 rfl (fun w' hq => pv_pick_t rfl (by first | assumption | exact decide_eq_true (by omega) | exact dec_notT (by omega)) rfl) ?_)
        all_goals (refine at0 23 rfl (fun w' hq => pv_move rfl) ?_)
        all_goals (refine at2 24 rfl rfl rfl (fun w' hq => pv_fa (tF rfl) rfl) ?_)
        all_goals (refine at2 25 rfl rfl rfl (fun w' hq => pv_load (t1 rfl) rfl (by first | exact PT.ld0 (HX.mono hq) rfl | exact PT.ld (HX.mono hq) rfl)) ?_)
        all_goals first | (refine an3 26 rfl rfl rfl ?_) | (refine an0 26 rfl rfl rfl ?_) | (refine aw_act_g 26 (by kernel_rfl) rfl rfl rfl (by first | rfl | assumption | exact decide_eq_true (by omega) | exact decide_eq_false (by omega) | exact dec_notT (by omega) | exact dec_notF (by omega)) rfl ?_; refine act_call (f := 96) (by kernel_rfl) rfl (withL_c _ _ _) ?_; rintro e w1 ⟨rfl, hb⟩; refine ⟨_, rfl, grow_trans hS hb, fun hS => ?_⟩; clear hb)
        all_goals (refine at0 27 rfl (fun w' hq => pv_pick_t rfl (by first | assumption | exact decide_eq_true (by omega) | exact dec_notT (by omega)) rfl) ?_)
        all_goals (refine at0 28 rfl (fun w' hq => pv_move rfl) ?_)
        all_goals (refine at2 29 rfl rfl rfl (fun w' hq => pv_loada (tA rfl) rfl (by first | exact PT.lda (HX.mono hq)) (by rfl)) ?_)
        all_goals (refine at2 31 rfl rfl rfl (fun w' hq => pv_loada (tA rfl) rfl (by first | exact PT.lda (HX.mono hq)) (by rfl)) ?_)
        all_goals first | (refine an3 30 rfl rfl rfl ?_) | (refine an0 30 rfl rfl rfl ?_) | (refine aw_act_g 30 (by kernel_rfl) rfl rfl rfl (by first | rfl | assumption | exact decide_eq_true (by omega) | exact decide_eq_false (by omega) | exact dec_notT (by omega) | exact dec_notF (by omega)) rfl ?_; refine act_call (f := 98) (by kernel_rfl) rfl (of_s (HS.mono hS) hs) ?_; rintro e w1 ⟨rfl, hb⟩; refine ⟨_, rfl, grow_trans hS hb, fun hS => ?_⟩; clear hb)
        all_goals first | (refine an3 32 rfl rfl rfl ?_) | (refine an0 32 rfl rfl rfl ?_) | (refine aw_act_g 32 (by kernel_rfl) rfl rfl rfl (by first | rfl | assumption | exact decide_eq_true (by omega) | exact decide_eq_false (by omega) | exact dec_notT (by omega) | exact dec_notF (by omega)) rfl ?_; refine act_callm (f := 192) (t := 156) (v := .agg #[]) (r := .agg #[]) (meth_smay _) (by kernel_rfl) rfl rfl (smay_e hM (HS.mono hS) hs) ?_; rintro e w1 ⟨rfl, hb⟩; refine ⟨_, rfl, grow_trans hS hb, fun hS => ?_⟩; clear hb)
        all_goals (refine at0 33 rfl (fun w' hq => pv_pick_t rfl (by first | assumption | exact decide_eq_true (by omega) | exact dec_notT (by omega)) rfl) ?_)
        all_goals (refine at0 34 rfl (fun w' hq => pv_move rfl) ?_)
        all_goals (refine at1 35 rfl rfl rfl rfl (fun w' hq => pv_loada (tA rfl) rfl (by first | exact PT.lda (HX.mono hq)) (by rfl)) ?_)
        all_goals first | (refine an3 36 rfl rfl rfl ?_) | (refine an0 36 rfl rfl rfl ?_) | (refine aw_act_g 36 (by kernel_rfl) rfl rfl rfl (by first | rfl | assumption | exact decide_eq_true (by omega) | exact decide_eq_false (by omega) | exact dec_notT (by omega) | exact dec_notF (by omega)) rfl ?_; refine act_call (f := 99) (by kernel_rfl) rfl (bidsA_e hB (HS.mono hS)) ?_; rintro e w1 ⟨rfl, hb⟩; refine ⟨_, rfl, grow_trans hS hb, fun hS => ?_⟩; clear hb)
        all_goals (refine at0 37 rfl (fun w' hq => pv_pick_t rfl rfl rfl) ?_)
        all_goals (refine at0 38 rfl (fun w' hq => pv_assign rfl) ?_)
        all_goals (refine aw_done (by kernel_rfl) ?_; replace hw := hS; clear hS hNP)
        repeat' (first | (refine is_cw ?_; first | (refine cw_ret ?_)) | (refine is_qw ?_; first | (with_reducible refine qw_then ?_)))
        exact qw_ret1 rfl rfl ⟨rfl, (hE.mono hw).b⟩
      | false =>
        repeat' (first | (refine lw_pure rfl (pv_assign rfl) ?_) | (refine is_cw ?_; first | (refine cw_seq ?_)) | (refine is_qw ?_; first | (with_reducible refine qw_then ?_)) | (refine lw_nil ?_))
        refine cw_drawn (fun w' => Below wn.heap.size wn w') (by kernel_rfl) (by repeat (first | exact NoPanic.body | with_reducible refine NoPanic.then ?_ | with_reducible refine NoPanic.inBlock ?_)) (fun hNP => ?_)
        have hS := hw.drew
        all_goals (refine at0 0 rfl (fun w' hq => pv_fa (tF rfl) rfl) ?_)
        all_goals (refine at0 1 rfl (fun w' hq => pv_load (t1 rfl) rfl (by first | exact PT.ld0 (HX.mono hq) rfl | exact PT.ld (HX.mono hq) rfl)) ?_)
        all_goals (refine aw_act 2 (by kernel_rfl) rfl rfl rfl ?_; refine act_call (f := 96) (by kernel_rfl) rfl (withL_c _ _ _) ?_; rintro e w1 ⟨rfl, hb⟩; refine ⟨_, rfl, grow_trans hS hb, fun hS => ?_⟩; clear hb)
        all_goals (refine at0 3 rfl (fun w' hq => pv_move rfl) ?_)
        all_goals (refine at2 4 rfl rfl rfl (fun w' hq => pv_fa (tF rfl) rfl) ?_)
        all_goals (refine at2 5 rfl rfl rfl (fun w' hq => pv_load (t1 rfl) rfl (by first | exact PT.ld0 (HX.mono hq) rfl | exact PT.ld (HX.mono hq) rfl)) ?_)
        all_goals first | (refine an3 6 rfl rfl rfl ?_) | (refine an0 6 rfl rfl rfl ?_) | (refine aw_act_g 6 (by kernel_rfl) rfl rfl rfl (by first | rfl | assumption | exact decide_eq_true (by omega) | exact decide_eq_false (by omega) | exact dec_notT (by omega) | exact dec_notF (by omega)) rfl ?_; refine act_call (f := 97) (by kernel_rfl) rfl (withI_c _ _ _) ?_; rintro e w1 ⟨rfl, hb⟩; refine ⟨_, rfl, grow_trans hS hb, fun hS => ?_⟩; clear hb)
        all_goals (refine at0 7 rfl (fun w' hq => pv_pick_t rfl (by first | assumption | exact decide_eq_true (by omega) | exact dec_notT (by omega)) rfl) ?_)
        all_goals (refine at0 8 rfl (fun w' hq => pv_move rfl) ?_)
        all_goals (refine at2 9 rfl rfl rfl (fun w' hq => pv_fa (tF rfl) rfl) ?_)
        all_goals (refine at2 10 rfl rfl rfl (fun w' hq => pv_load (t1 rfl) rfl (by first | exact PT.ld0 (HX.mono hq) rfl | exact PT.ld (HX.mono hq) rfl)) ?_)
        all_goals first | (refine an3 11 rfl rfl rfl ?_) | (refine an0 11 rfl rfl rfl ?_) | (refine aw_act_g 11 (by kernel_rfl) rfl rfl rfl (by first | rfl | assumption | exact decide_eq_true (by omega) | exact decide_eq_false (by omega) | exact dec_notT (by omega) | exact dec_notF (by omega)) rfl ?_; refine act_call (f := 97) (by kernel_rfl) rfl (withI_c _ _ _) ?_; rintro e w1 ⟨rfl, hb⟩; refine ⟨_, rfl, grow_trans hS hb, fun hS => ?_⟩; clear hb)
        all_goals (refine at0 12 rfl (fun w' hq => pv_pick_t rfl (by first | assumption | exact decide_eq_true (by omega) | exact dec_notT (by omega)) rfl) ?_)
        all_goals (refine at0 13 rfl (fun w' hq => pv_move rfl) ?_)
        all_goals (refine at2 14 rfl rfl rfl (fun w' hq => pv_fa (tF rfl) rfl) ?_)
        all_goals (refine at2 15 rfl rfl rfl (fun w' hq => pv_load (t1 rfl) rfl (by first | exact PT.ld0 (HX.mono hq) rfl | exact PT.ld (HX.mono hq) rfl)) ?_)
        all_goals first | (refine an3 16 rfl rfl rfl ?_) | (refine an0 16 rfl rfl rfl ?_) | (refine aw_act_g 16 (by kernel_rfl) rfl rfl rfl (by first | rfl | assumption | exact decide_eq_true (by omega) | exact decide_eq_false (by omega) | exact dec_notT (by omega) | exact dec_notF (by omega)) rfl ?_; refine act_call (f := 96) (by kernel_rfl) rfl (withL_c _ _ _) ?_; rintro e w1 ⟨rfl, hb⟩; refine ⟨_, rfl, grow_trans hS hb, fun hS => ?_⟩; clear hb)
        all_goals (refine at0 17 rfl (fun w' hq => pv_pick_t rfl (by first | assumption | exact decide_eq_true (by omega) | exact dec_notT (by omega)) rfl) ?_)
        all_goals (refine at0 18 rfl (fun w' hq => pv_move rfl) ?_)
        all_goals (refine at2 19 rfl rfl rfl (fun w' hq => pv_fa (tF rfl) rfl) ?_)
        all_goals (refine at2 20 rfl rfl rfl (fun w' hq => pv_load (t1 rfl) rfl (by first | exact PT.ld0 (HX.mono hq) rfl | exact PT.ld (HX.mono hq) rfl)) ?_)
        all_goals first | (refine an3 21 rfl rfl rfl ?_) | (refine an0 21 rfl rfl rfl ?_) | (refine aw_act_g 21 (by kernel_rfl) rfl rfl rfl (by first | rfl | assumption | exact decide_eq_true (by omega) | exact decide_eq_false (by omega) | exact dec_notT (by omega) | exact dec_notF (by omega)) rfl ?_; refine act_call (f := 96) (by kernel_rfl) rfl (withL_c _ _ _) ?_; rintro e w1 ⟨rfl, hb⟩; refine ⟨_, rfl, grow_trans hS hb, fun hS => ?_⟩; clear hb)
        all_goals (refine at0 22 rfl (fun w' hq => pv_pick_t rfl (by first | assumption | exact decide_eq_true (by omega) | exact dec_notT (by omega)) rfl) ?_)
        all_goals (refine at0 23 rfl (fun w' hq => pv_move rfl) ?_)
        all_goals (refine at2 24 rfl rfl rfl (fun w' hq => pv_fa (tF rfl) rfl) ?_)
        all_goals (refine at2 25 rfl rfl rfl (fun w' hq => pv_load (t1 rfl) rfl (by first | exact PT.ld0 (HX.mono hq) rfl | exact PT.ld (HX.mono hq) rfl)) ?_)
        all_goals first | (refine an3 26 rfl rfl rfl ?_) | (refine an0 26 rfl rfl rfl ?_) | (refine aw_act_g 26 (by kernel_rfl) rfl rfl rfl (by first | rfl | assumption | exact decide_eq_true (by omega) | exact decide_eq_false (by omega) | exact dec_notT (by omega) | exact dec_notF (by omega)) rfl ?_; refine act_call (f := 96) (by kernel_rfl) rfl (withL_c _ _ _) ?_; rintro e w1 ⟨rfl, hb⟩; refine ⟨_, rfl, grow_trans hS hb, fun hS => ?_⟩; clear hb)
        all_goals (refine at0 27 rfl (fun w' hq => pv_pick_t rfl (by first | assumption | exact decide_eq_true (by omega) | exact dec_notT (by omega)) rfl) ?_)
        all_goals (refine at0 28 rfl (fun w' hq => pv_move rfl) ?_)
        all_goals (refine at2 29 rfl rfl rfl (fun w' hq => pv_loada (tA rfl) rfl (by first | exact PT.lda (HX.mono hq)) (by rfl)) ?_)
        all_goals (refine at2 31 rfl rfl rfl (fun w' hq => pv_loada (tA rfl) rfl (by first | exact PT.lda (HX.mono hq)) (by rfl)) ?_)
        all_goals first | (refine an3 30 rfl rfl rfl ?_) | (refine an0 30 rfl rfl rfl ?_) | (refine aw_act_g 30 (by kernel_rfl) rfl rfl rfl (by first | rfl | assumption | exact decide_eq_true (by omega) | exact decide_eq_false (by omega) | exact dec_notT (by omega) | exact dec_notF (by omega)) rfl ?_; refine act_call (f := 98) (by kernel_rfl) rfl (of_e (HS.mono hS) hs) ?_; rintro e w1 ⟨rfl, hb⟩; refine ⟨_, rfl, grow_trans hS hb, fun hS => ?_⟩; clear hb)
        all_goals first | (refine an3 32 rfl rfl rfl ?_) | (refine an0 32 rfl rfl rfl ?_) | (refine aw_act_g 32 (by kernel_rfl) rfl rfl rfl (by first | rfl | assumption | exact decide_eq_true (by omega) | exact decide_eq_false (by omega) | exact dec_notT (by omega) | exact dec_notF (by omega)) rfl ?_; refine act_callm (f := 196) (t := 157) (v := .agg #[]) (r := .agg #[]) (meth_emay _) (by kernel_rfl) rfl rfl (emay_e hM (HS.mono hS) hs) ?_; rintro e w1 ⟨rfl, hb⟩; refine ⟨_, rfl, grow_trans hS hb, fun hS => ?_⟩; clear hb)
        all_goals (refine at0 33 rfl (fun w' hq => pv_pick_t rfl (by first | assumption | exact decide_eq_true (by omega) | exact dec_notT (by omega)) rfl) ?_)
        all_goals (refine at0 34 rfl (fun w' hq => pv_move rfl) ?_)
        all_goals (refine at1 35 rfl rfl rfl rfl (fun w' hq => pv_loada (tA rfl) rfl (by first | exact PT.lda (HX.mono hq)) (by rfl)) ?_)
        all_goals first | (refine an3 36 rfl rfl rfl ?_) | (refine an0 36 rfl rfl rfl ?_) | (refine aw_act_g 36 (by kernel_rfl) rfl rfl rfl (by first | rfl | assumption | exact decide_eq_true (by omega) | exact decide_eq_false (by omega) | exact dec_notT (by omega) | exact dec_notF (by omega)) rfl ?_; refine act_call (f := 99) (by kernel_rfl) rfl (bidsA_e hB (HS.mono hS)) ?_; rintro e w1 ⟨rfl, hb⟩; refine ⟨_, rfl, grow_trans hS hb, fun hS => ?_⟩; clear hb)
        all_goals (refine at0 37 rfl (fun w' hq => pv_pick_t rfl rfl rfl) ?_)
        all_goals (refine at0 38 rfl (fun w' hq => pv_assign rfl) ?_)
        all_goals (refine aw_done (by kernel_rfl) ?_; replace hw := hS; clear hS hNP)
        repeat' (first | (refine is_cw ?_; first | (refine cw_ret ?_)) | (refine is_qw ?_; first | (with_reducible refine qw_then ?_)))
        exact qw_ret1 rfl rfl ⟨rfl, (hE.mono hw).b⟩
end Go.Proofs.YtekomjnjddhfmaaGreat
namespace Go.Proofs.YtekomjnjddhfmaaGreat

def RowRef (r : Row) : Prop := there r.acct r.asset = true ∧ ¬ (r.free = 0 ∧ r.held = 0) ∧ ¬ (r.acct = 0 ∧ (r.held ≠ 0 ∨ r.free < -72057594037927936)) ∧ ¬ (0 < r.acct ∧ (r.free < 0 ∨ r.held < 0 ∨ mostA < r.free ∨ mostA - r.free < r.held))
def outA (l : List Row) (a : Int) : Int := l.foldl (fun o r => if r.asset = a ∧ r.acct = 0 then r.free else o) 0
def posA (l : List Row) (a : Int) : Int := ((l.filter fun r => r.asset == a && decide (0 < r.acct)).map fun r => r.free + r.held).sum
theorem outA_take {l : List Row} {k : Nat} {r : Row} (h : l[k]? = some r) (a : Int) : outA (l.take (k + 1)) a = if r.asset = a ∧ r.acct = 0 then r.free else outA (l.take k) a := by
  unfold outA; rw [List.take_add_one, h]; simp [List.foldl_append]
theorem posA_take {l : List Row} {k : Nat} {r : Row} (h : l[k]? = some r) (a : Int) : posA (l.take (k + 1)) a = posA (l.take k) a + if r.asset = a ∧ 0 < r.acct then r.free + r.held else 0 := by
  unfold posA; rw [List.take_add_one, h]
  by_cases h1 : r.asset = a <;> by_cases h2 : 0 < r.acct <;> simp [List.filter_append, h1, h2]
theorem sumA_take {l : List Row} {k : Nat} {r : Row} (h : l[k]? = some r) (a : Int) : sumA (l.take (k + 1)) a = sumA (l.take k) a + if r.asset = a then r.free + r.held else 0 := by
  unfold sumA; rw [List.take_add_one, h]
  by_cases h1 : r.asset = a <;> simp [List.filter_append, h1]
theorem pw_get {l : List Row} (h : l.Pairwise keyLt) {i j : Nat} (hij : i < j) {x y : Row} (hx : l[i]? = some x) (hy : l[j]? = some y) : keyLt x y := by
  obtain ⟨h1, rfl⟩ := List.getElem?_eq_some_iff.1 hx
  obtain ⟨h2, rfl⟩ := List.getElem?_eq_some_iff.1 hy
  exact List.pairwise_iff_getElem.1 h i j h1 h2 hij
theorem pw_snoc {l : List Row} {k : Nat} {r : Row} (h : (l.take k).Pairwise keyLt) (hr : l[k]? = some r) (hk : k = 0 ∨ ∃ q, l[k - 1]? = some q ∧ keyLt q r) : (l.take (k + 1)).Pairwise keyLt := by
  rw [List.take_add_one, hr, List.pairwise_append]
  refine ⟨h, by simp, fun x hx y hy => ?_⟩
  simp at hy; subst hy
  obtain ⟨j, hj⟩ := List.getElem?_of_mem hx
  have hjk : j < k := by have := (List.getElem?_eq_some_iff.1 hj).1; rw [List.length_take] at this; omega
  rcases hk with hk | ⟨q, hq, hlt⟩
  · omega
  · by_cases he : j = k - 1
    · subst he
      rw [List.getElem?_take, if_pos hjk, hq] at hj
      injection hj with hj; subst hj; exact hlt
    · have hq' : (l.take k)[k - 1]? = some q := by rw [List.getElem?_take, if_pos (by omega), hq]
      exact keyLt_trans (pw_get h (show j < k - 1 by omega) hj hq') hlt
theorem mem_of_all {l : List Row} {p : Row → Prop} (h : ∀ j, j < l.length → ∀ r, l[j]? = some r → p r) : ∀ r ∈ l, p r := fun r hr => by
  obtain ⟨j, hj⟩ := List.getElem?_of_mem hr
  exact h j (List.getElem?_eq_some_iff.1 hj).1 r hj
theorem key0_len : ∀ (xs : List Int) (lo : Int), xs.Pairwise (· < ·) → (∀ x ∈ xs, lo ≤ x ∧ x ≤ 64) → lo ≤ 65 → (xs.length : Int) ≤ 65 - lo
  | [], lo, _, _, h => by simp; omega
  | x :: xs, lo, hp, hm, _ => by
    have hx := hm x (by simp)
    rw [List.pairwise_cons] at hp
    have := key0_len xs (x + 1) hp.2 (fun y hy => ⟨by have := hp.1 y hy; omega, (hm y (by simp [hy])).2⟩) (by omega)
    simp only [List.length_cons]; omega
theorem sum_le (m : Int) : ∀ (xs : List Int), (∀ x ∈ xs, 0 ≤ x ∧ x ≤ m) → 0 ≤ xs.sum ∧ xs.sum ≤ m * xs.length
  | [], _ => by simp
  | x :: xs, h => by
    have h1 := h x (by simp)
    have h2 := sum_le m xs (fun y hy => h y (by simp [hy]))
    simp only [List.sum_cons, List.length_cons]
    rw [show ((xs.length + 1 : Nat) : Int) = (xs.length : Int) + 1 by omega, Int.mul_add, Int.mul_one]
    omega
theorem posA_near {l : List Row} (hr : ∀ r ∈ l, RowRef r) (hp : l.Pairwise keyLt) (a : Int) : 0 ≤ posA l a ∧ posA l a ≤ 72057594037927936 := by
  unfold posA
  have hlen : (((l.filter fun r => r.asset == a && decide (0 < r.acct)).map (·.acct)).length : Int) ≤ 65 - 1 := by
    refine key0_len _ 1 ?_ (fun x hx => ?_) (by omega)
    · rw [List.pairwise_map]
      refine ((hp.filter _).imp_of_mem fun {x y} hx hy h => ?_)
      simp only [List.mem_filter, Bool.and_eq_true, beq_iff_eq] at hx hy
      unfold keyLt at h; omega
    · obtain ⟨r, hrm, rfl⟩ := List.mem_map.1 hx
      simp only [List.mem_filter, Bool.and_eq_true, decide_eq_true_eq] at hrm
      have := there_iff.1 (hr r hrm.1).1
      omega
  rw [List.length_map] at hlen
  have := sum_le mostA ((l.filter fun r => r.asset == a && decide (0 < r.acct)).map fun r => r.free + r.held) (fun x hx => by
    obtain ⟨r, hrm, rfl⟩ := List.mem_map.1 hx
    simp only [List.mem_filter, Bool.and_eq_true, decide_eq_true_eq] at hrm
    have := (hr r hrm.1).2.2.2
    omega)
  rw [List.length_map] at this
  unfold mostA at this
  omega
theorem sumA_parts {l : List Row} (h : ∀ r ∈ l, 0 ≤ r.acct) (a : Int) : sumA l a = freeAt l 0 a + heldAt l 0 a + posA l a := by
  induction l with
  | nil => rfl
  | cons r l ih =>
    have hr := h r (by simp)
    have ih := ih (fun x hx => h x (by simp [hx]))
    unfold sumA freeAt heldAt posA at *
    by_cases h1 : r.asset = a
    · by_cases h2 : r.acct = 0
      · have h3 : ¬ 0 < r.acct := by omega
        simp only [List.filter_cons, h1, h2, isKey, beq_self_eq_true, Bool.and_self, if_true, List.map_cons, List.sum_cons, show (decide ((0:Int) < 0)) = false from rfl, Bool.and_false, Bool.false_eq_true, if_false]
        omega
      · have h3 : 0 < r.acct := by omega
        simp only [List.filter_cons, h1, isKey, beq_self_eq_true, Bool.and_true, beq_iff_eq, h2, if_false, h3, decide_true, Bool.and_self, if_true, List.map_cons, List.sum_cons]
        omega
    · simp only [List.filter_cons, isKey, beq_iff_eq, h1, Bool.and_eq_true, and_false, if_false, false_and]
      exact ih
theorem outA_at {l : List Row} (hp : l.Pairwise keyLt) (_h : ∀ r ∈ l, 0 ≤ r.acct) (a : Int) : outA l a = freeAt l 0 a := by
  have key : ∀ k, k ≤ l.length → outA (l.take k) a = freeAt (l.take k) 0 a := by
    intro k
    induction k with
    | zero => intro _; rfl
    | succ k ih =>
      intro hk
      have hx : l[k]? = some l[k] := List.getElem?_eq_getElem (by omega)
      rw [outA_take hx, ih (by omega)]
      rw [List.take_add_one, hx]
      show _ = freeAt (l.take k ++ [l[k]]) 0 a
      rw [freeAt_append]
      by_cases hc : l[k].asset = a ∧ l[k].acct = 0
      · rw [if_pos hc]
        have h0 : freeAt (l.take k) 0 a = 0 := by
          refine (freeAt_none fun r hr he => ?_).1
          obtain ⟨j, hj⟩ := List.getElem?_of_mem hr
          have hjk : j < k := by have := (List.getElem?_eq_some_iff.1 hj).1; rw [List.length_take] at this; omega
          rw [List.getElem?_take, if_pos hjk] at hj
          have := pw_get hp hjk hj hx
          unfold keyLt at this; omega
        have h1 : freeAt [l[k]] 0 a = l[k].free := by simp [freeAt, isKey, hc.1, hc.2]
        omega
      · rw [if_neg hc]
        have h1 : freeAt [l[k]] 0 a = 0 := by
          have : isKey 0 a l[k] = false := by
            rw [Bool.eq_false_iff]; intro e; rw [isKey_iff] at e; exact hc ⟨e.2, e.1⟩
          simp [freeAt, this]
        omega
  have := key l.length (Nat.le_refl _)
  rwa [List.take_length] at this
theorem held0 {l : List Row} (h : ∀ r ∈ l, r.acct = 0 → r.held = 0) (a : Int) : heldAt l 0 a = 0 := by
  unfold heldAt
  have : ∀ xs : List Int, (∀ x ∈ xs, x = 0) → xs.sum = 0 := by
    intro xs
    induction xs with
    | nil => intro _; rfl
    | cons x xs ih => intro h; rw [List.sum_cons, h x (by simp), ih (fun y hy => h y (by simp [hy]))]; rfl
  refine this _ fun x hx => ?_
  obtain ⟨r, hr, rfl⟩ := List.mem_map.1 hx
  simp only [List.mem_filter, isKey_iff] at hr
  exact h r hr.1 hr.2.1
theorem may_ref {l : List Row} : MayR l ↔ (∀ r ∈ l, RowRef r) ∧ l.Pairwise keyLt ∧ ∀ a ∈ List.range 17, outA l (a : Nat) = -posA l (a : Nat) := by
  constructor
  · rintro ⟨h1, h2, h3⟩
    have ha : ∀ r ∈ l, 0 ≤ r.acct := fun r hr => (there_iff.1 (h1 r hr).1).1
    have hz : ∀ r ∈ l, r.acct = 0 → r.held = 0 := fun r hr h => ((h1 r hr).2.2.1 h).1
    -- rows of accounts: their own part of the document's test
    have hpos : ∀ r ∈ l, ¬ (0 < r.acct ∧ (r.free < 0 ∨ r.held < 0 ∨ mostA < r.free ∨ mostA - r.free < r.held)) := fun r hr => by
      have := (h1 r hr).2.2.2
      rintro ⟨h4, h5⟩
      have := this (by omega)
      omega
    have hposn : ∀ a, 0 ≤ posA l a ∧ posA l a ≤ 72057594037927936 := fun a => by
      -- 'posA' goes by the accounts' rows alone
      have e : posA l a = posA (l.filter fun r => decide (0 < r.acct)) a := by
        unfold posA; rw [List.filter_filter]; congr 2; apply List.filter_congr; intro r _
        cases decide (0 < r.acct) <;> simp
      rw [e]
      refine posA_near (fun r hr => ?_) (h2.filter _) a
      simp only [List.mem_filter, decide_eq_true_eq] at hr
      have h4 := (h1 r hr.1)
      exact ⟨h4.1, fun h => by rcases h4.2.1 with h5 | h5 <;> omega, fun h => by omega, hpos r hr.1⟩
    refine ⟨fun r hr => ⟨(h1 r hr).1, fun h => ?_, ?_, hpos r hr⟩, h2, fun a haa => ?_⟩
    · rcases (h1 r hr).2.1 with h5 | h5 <;> omega
    · rintro ⟨h4, h5⟩
      have h6 := there_iff.1 (h1 r hr).1
      have h7 := h3 r.asset.toNat (by rw [List.mem_range]; omega)
      rw [show ((r.asset.toNat : Nat) : Int) = r.asset by omega, sumA_parts ha, held0 hz] at h7
      have h8 := (freeAt_mem h2 hr).1
      rw [h4] at h8
      have h9 := hposn r.asset
      have h10 := hz r hr h4
      rcases h5 with h5 | h5
      · exact h5 h10
      · omega
    · have h7 := h3 a haa
      rw [sumA_parts ha, held0 hz] at h7
      rw [outA_at h2 ha]; omega
  · rintro ⟨h1, h2, h3⟩
    have ha : ∀ r ∈ l, 0 ≤ r.acct := fun r hr => (there_iff.1 (h1 r hr).1).1
    have hz : ∀ r ∈ l, r.acct = 0 → r.held = 0 := fun r hr h => by
      rcases Classical.em (r.held = 0) with h5 | h5
      · exact h5
      · exact absurd ⟨h, Or.inl h5⟩ (h1 r hr).2.2.1
    refine ⟨fun r hr => ⟨(h1 r hr).1, ?_, fun h => ⟨hz r hr h, ?_⟩, fun h => ?_⟩, h2, fun a haa => ?_⟩
    · have := (h1 r hr).2.1; omega
    · have h6 := there_iff.1 (h1 r hr).1
      have h7 := h3 r.asset.toNat (by rw [List.mem_range]; omega)
      rw [show ((r.asset.toNat : Nat) : Int) = r.asset by omega, outA_at h2 ha] at h7
      have h8 := (freeAt_mem h2 hr).1
      rw [h] at h8
      have h9 := posA_near h1 h2 r.asset
      omega
    · have h4 := (h1 r hr).2.2.2
      have h5 := ha r hr
      have : 0 < r.acct := by omega
      omega
    · have h7 := h3 a haa
      rw [outA_at h2 ha] at h7
      rw [sumA_parts ha, held0 hz]; omega
theorem may_near {l : List Row} (h : MayR l) (k : Nat) (a : Int) : -72057594037927936 ≤ sumA (l.take k) a ∧ sumA (l.take k) a ≤ 72057594037927936 := by
  obtain ⟨h1, h2, _⟩ := may_ref.1 h
  have hsub : ∀ r ∈ l.take k, r ∈ l := fun r hr => List.mem_of_mem_take hr
  have hp : (l.take k).Pairwise keyLt := h2.sublist (List.take_sublist _ _)
  have ha : ∀ r ∈ l.take k, 0 ≤ r.acct := fun r hr => (there_iff.1 (h1 r (hsub r hr)).1).1
  have hz : ∀ r ∈ l.take k, r.acct = 0 → r.held = 0 := fun r hr e => ((h.1 r (hsub r hr)).2.2.1 e).1
  rw [sumA_parts ha, held0 hz]
  have h3 := posA_near (fun r hr => h1 r (hsub r hr)) hp a
  by_cases hk : ∃ r ∈ l.take k, r.acct = 0 ∧ r.asset = a
  · obtain ⟨r, hr, e1, e2⟩ := hk
    have h4 := (freeAt_mem hp hr).1
    rw [e1, e2] at h4
    have h5 := (h1 r (hsub r hr)).2.2.1
    have h6 := ((h.1 r (hsub r hr)).2.2.1 e1).2
    omega
  · have h4 := (freeAt_none (l := l.take k) (a := 0) (s := a) fun r hr e => hk ⟨r, hr, e⟩).1
    omega
end Go.Proofs.YtekomjnjddhfmaaGreat
namespace Go.Proofs.YtekomjnjddhfmaaGreat
open Go.RowKit

def parts (l : List Row) (a : Int) : List Int := (l.filter fun r => r.asset == a).flatMap fun r => [r.free, r.held]
theorem parts_sum (l : List Row) (a : Int) : (parts l a).sum = sumA l a := by
  unfold parts sumA
  induction l with
  | nil => rfl
  | cons r l ih =>
    by_cases h : r.asset = a
    · simp only [List.filter_cons, h, beq_self_eq_true, if_true, List.flatMap_cons, List.map_cons, List.sum_cons, List.sum_append, ih]; simp
    · simp only [List.filter_cons, beq_iff_eq, h, if_false]; exact ih
theorem parts_len (l : List Row) (a : Int) : (parts l a).length ≤ 2 * l.length := by
  unfold parts
  induction l with
  | nil => simp
  | cons r l ih =>
    by_cases h : r.asset = a
    · simp only [List.filter_cons, h, beq_self_eq_true, if_true, List.flatMap_cons, List.length_append, List.length_cons, List.length_nil]; omega
    · simp only [List.filter_cons, beq_iff_eq, h, if_false, List.length_cons]; omega
theorem parts_in {l : List Row} (h : In64R l) (a : Int) : In64 (parts l a) := by
  intro x hx
  simp only [parts, List.mem_flatMap, List.mem_filter] at hx
  obtain ⟨r, ⟨hr, _⟩, hx⟩ := hx
  simp at hx
  rcases hx with rfl | rfl
  · exact (h r hr).1
  · exact (h r hr).2
theorem parts_take {l : List Row} {k : Nat} {r : Row} (h : l[k]? = some r) (a : Int) : parts (l.take (k + 1)) a = parts (l.take k) a ++ if r.asset = a then [r.free, r.held] else [] := by
  unfold parts
  rw [List.take_add_one, h]
  by_cases hr : r.asset = a <;> simp [List.filter_append, hr]
set_option maxRecDepth 20000 in
theorem suml_c {l : List Row} {m : Nat} {ad : Option Addr} {cap : Nat} {w : World} (a : Int) (hm : l.length = m) (HS : SlL w ad cap l) (hl : l.length ≤ 524288) (hin : In64R l) : Calls Tryz.prog 17 #[.slice ad m cap, .int .i64 a] w fun e w' => e = .returned (.int .i64 (sumR l a)) ∧ Below w.heap.size w w' := by
  subst hm
  have hw := Below.refl w.heap.size w
  refine fn_enter 34 Tryz.func17 rfl rfl rfl ?_
  repeat' (first | (refine lw_pure rfl (pv_move rfl) ?_) | (refine lw_pure rfl (pv_assign rfl) ?_) | (refine is_cw ?_; first | (refine cw_seq ?_) | (refine cw_region ?_) | (refine cw_true rfl rfl ?_) | (refine cw_false rfl rfl ?_) | (refine is_cd ?_; refine cw_true rfl (by first | assumption | exact decide_eq_true (by omega) | exact dec_notT (by omega)) ?_) | (refine is_cd ?_; refine cw_false rfl (by first | assumption | exact decide_eq_false (by omega) | exact dec_notF (by omega)) ?_) | (refine cw_skip ?_) | (refine cw_block ?_) | (refine cw_exit ?_) | (refine cw_ret ?_)) | (refine is_qw ?_; first | (with_reducible refine qw_then ?_) | (with_reducible refine qw_in ?_) | (with_reducible refine qw_in_hit ?_) | (refine qw_in_miss rfl ?_) | (with_reducible refine qw_then_exit ?_) | (with_reducible refine qw_then_ret ?_) | (with_reducible refine qw_in_ret ?_)) | (refine lw_nil ?_) | ((refine is_bin ?_; first | (refine lw_pure rfl (pv_lss rfl rfl) ?_) | (refine lw_pure rfl (pv_eql rfl rfl) ?_) | (refine lw_pure rfl (pv_inc rfl rfl (by omega)) ?_) | (refine lw_pure rfl (pv_add rfl rfl (by omega)) ?_))) | ((refine is_load ?_; first | (refine lw_pure rfl (pv_load (t1 rfl) rfl (by first | fail)) ?_) | (refine lw_pure rfl (pv_loada (tA rfl) rfl (by first | fail) (by rfl)) ?_))) | ((refine is_fa ?_; first | (refine lw_pure rfl (pv_fa (tF rfl) rfl) ?_))) | ((refine is_ia ?_; first | (refine lw_pure rfl (pv_ian (tS rfl) rfl rfl (by omega)) ?_) | (refine lw_pure rfl (pv_ia (tS rfl) rfl rfl (by omega)) ?_))) | ((refine is_bi ?_; first | (refine lw_pure rfl (pv_lenl (tS rfl) rfl) ?_) | (refine lw_pure rfl (pv_lens (tStr rfl) rfl) ?_))) | (refine lw_pure rfl (pv_extract rfl rfl) ?_))
  refine cw_loop (σ := Nat × Value) (fun s => [(1, .int .i64 a), (5, s.2), (10, .slice ad l.length cap), (11, .int .i64 (l.length : Nat)), (12, .int .i64 (s.1 : Nat))]) (fun s wr => s.1 ≤ l.length ∧ Below w.heap.size w wr ∧ Own encI 1 2 w.heap.size wr s.2 (parts (l.take s.1) a)) (fun s => l.length - s.1) (0, .slice none 0 0) ⟨rfl, rfl, rfl, rfl, rfl, trivial⟩ ⟨Nat.zero_le _, hw, Own.nil _⟩ ?_
  clear hw
  rintro ⟨k, v⟩ wr ⟨hk, hw, hO⟩
  replace hk : k ≤ l.length := hk
  replace hO : Own encI 1 2 w.heap.size wr v (parts (l.take k) a) := hO
  by_cases hlt : k < l.length
  · have hxk : l[k]? = some l[k] := List.getElem?_eq_getElem hlt
    obtain ⟨ab, ao, rfl, -, -⟩ := HS.at (by intro h; rw [h] at hlt; simp at hlt)
    have hpl := parts_len (l.take k) a
    have htl : (l.take k).length ≤ k := by rw [List.length_take]; omega
    repeat' (first | (refine lw_pure rfl (pv_move rfl) ?_) | (refine lw_pure rfl (pv_assign rfl) ?_) | (refine is_cw ?_; first | (refine cw_seq ?_) | (refine cw_region ?_) | (refine cw_true rfl rfl ?_) | (refine cw_false rfl rfl ?_) | (refine is_cd ?_; refine cw_true rfl (by first | assumption | exact decide_eq_true (by omega) | exact dec_notT (by omega)) ?_) | (refine is_cd ?_; refine cw_false rfl (by first | assumption | exact decide_eq_false (by omega) | exact dec_notF (by omega)) ?_) | (refine cw_skip ?_) | (refine cw_block ?_) | (refine cw_exit ?_) | (refine cw_ret ?_)) | (refine is_qw ?_; first | (with_reducible refine qw_then ?_) | (with_reducible refine qw_in ?_) | (with_reducible refine qw_in_hit ?_) | (refine qw_in_miss rfl ?_) | (with_reducible refine qw_then_exit ?_) | (with_reducible refine qw_then_ret ?_) | (with_reducible refine qw_in_ret ?_)) | (refine lw_nil ?_) | ((refine is_bin ?_; first | (refine lw_pure rfl (pv_lss rfl rfl) ?_) | (refine lw_pure rfl (pv_eql rfl rfl) ?_) | (refine lw_pure rfl (pv_inc rfl rfl (by omega)) ?_) | (refine lw_pure rfl (pv_add rfl rfl (by omega)) ?_))) | ((refine is_load ?_; first | (refine lw_pure rfl (pv_load (t1 rfl) rfl (by first | exact SlR.ld (HS.mono hw) hxk rfl | exact SlR.ld1 (HS.mono hw) hxk rfl)) ?_) | (refine lw_pure rfl (pv_loada (tA rfl) rfl (by first | exact SlR.lda (HS.mono hw) hxk) (by rfl)) ?_))) | ((refine is_fa ?_; first | (refine lw_pure rfl (pv_fa (tF rfl) rfl) ?_))) | ((refine is_ia ?_; first | (refine lw_pure rfl (pv_ian (tS rfl) rfl rfl (by omega)) ?_) | (refine lw_pure rfl (pv_ia (tS rfl) rfl rfl (by omega)) ?_))) | ((refine is_bi ?_; first | (refine lw_pure rfl (pv_lenl (tS rfl) rfl) ?_) | (refine lw_pure rfl (pv_lens (tStr rfl) rfl) ?_))) | (refine lw_pure rfl (pv_extract rfl rfl) ?_))
    refine lw_varN rfl (by first | exact tyv_29 | exact tyv_30 | exact tyv_33 | exact tyv_34 | exact tyv_36 | exact tyv_37 | exact tyv_38 | exact tyv_39 | exact tyv_40 | exact tyv_41 | exact tyv_43 | exact tyv_44 | exact tyv_45 | exact tyv_46 | exact tyv_73 | exact tyv_74 | exact tyv_80 | exact tyv_81 | exact tyv_107 | exact tyv_108 | exact tyv_123 | exact tyv_146 | exact tyv_147 | exact tyv_148 | exact tyv_149) rfl (tZ rfl) (fun _ => rfl) rfl rfl ?_; intro N wn hN HX hb; replace hN := Nat.le_trans hw.size hN; replace hw := grow_trans hw hb; replace hO := hO.mono hb; clear hb
    by_cases hr : l[k].asset = a
    · repeat' (first | (refine lw_pure rfl (pv_move rfl) ?_) | (refine lw_pure rfl (pv_assign rfl) ?_) | (refine is_cw ?_; first | (refine cw_seq ?_) | (refine cw_region ?_) | (refine cw_true rfl rfl ?_) | (refine cw_false rfl rfl ?_) | (refine is_cd ?_; refine cw_true rfl (by first | assumption | exact decide_eq_true (by omega) | exact dec_notT (by omega)) ?_) | (refine is_cd ?_; refine cw_false rfl (by first | assumption | exact decide_eq_false (by omega) | exact dec_notF (by omega)) ?_) | (refine cw_skip ?_) | (refine cw_block ?_) | (refine cw_exit ?_) | (refine cw_ret ?_)) | (refine is_qw ?_; first | (with_reducible refine qw_then ?_) | (with_reducible refine qw_in ?_) | (with_reducible refine qw_in_hit ?_) | (refine qw_in_miss rfl ?_) | (with_reducible refine qw_then_exit ?_) | (with_reducible refine qw_then_ret ?_) | (with_reducible refine qw_in_ret ?_)) | (refine lw_nil ?_) | ((refine is_bin ?_; first | (refine lw_pure rfl (pv_lss rfl rfl) ?_) | (refine lw_pure rfl (pv_eql rfl rfl) ?_) | (refine lw_pure rfl (pv_inc rfl rfl (by omega)) ?_) | (refine lw_pure rfl (pv_add rfl rfl (by omega)) ?_))) | ((refine is_load ?_; first | (refine lw_pure rfl (pv_load (t1 rfl) rfl (by first | exact PT.ld0 HX rfl | exact PT.ld HX rfl)) ?_) | (refine lw_pure rfl (pv_loada (tA rfl) rfl (by first | exact PT.lda HX) (by rfl)) ?_))) | ((refine is_fa ?_; first | (refine lw_pure rfl (pv_fa (tF rfl) rfl) ?_))) | ((refine is_ia ?_; first | (refine lw_pure rfl (pv_ian (tS rfl) rfl rfl (by omega)) ?_) | (refine lw_pure rfl (pv_ia (tS rfl) rfl rfl (by omega)) ?_))) | ((refine is_bi ?_; first | (refine lw_pure rfl (pv_lenl (tS rfl) rfl) ?_) | (refine lw_pure rfl (pv_lens (tStr rfl) rfl) ?_))) | (refine lw_pure rfl (pv_extract rfl rfl) ?_))
      refine lw_bs (vs := [.int .i64 l[k].free, .int .i64 l[k].held]) (cs := [.int .i64 l[k].free, .int .i64 l[k].held]) elemI rfl rfl rfl (by omega) (by omega) rfl (by simp [Value.cells]) ?_; intro wb HB hb hz
      have hbs := (grow_trans hw hb).size
      refine lw_app elemI encI_len encI_one rfl rfl rfl (hO.mono hb) (HB.slR (xs := [l[k].free, l[k].held]) encI_len rfl (by omega)) rfl hbs (by simp; omega) (by simp [maxLen]; omega) ?_; intro v9 w9 hO9 hg9 hb9
      replace hw := (grow_trans hw hb).trans hb9
      repeat' (first | (refine lw_pure rfl (pv_move rfl) ?_) | (refine lw_pure rfl (pv_assign rfl) ?_) | (refine is_cw ?_; first | (refine cw_seq ?_) | (refine cw_region ?_) | (refine cw_true rfl rfl ?_) | (refine cw_false rfl rfl ?_) | (refine is_cd ?_; refine cw_true rfl (by first | assumption | exact decide_eq_true (by omega) | exact dec_notT (by omega)) ?_) | (refine is_cd ?_; refine cw_false rfl (by first | assumption | exact decide_eq_false (by omega) | exact dec_notF (by omega)) ?_) | (refine cw_skip ?_) | (refine cw_block ?_) | (refine cw_exit ?_) | (refine cw_ret ?_)) | (refine is_qw ?_; first | (with_reducible refine qw_then ?_) | (with_reducible refine qw_in ?_) | (with_reducible refine qw_in_hit ?_) | (refine qw_in_miss rfl ?_) | (with_reducible refine qw_then_exit ?_) | (with_reducible refine qw_then_ret ?_) | (with_reducible refine qw_in_ret ?_)) | (refine lw_nil ?_) | ((refine is_bin ?_; first | (refine lw_pure rfl (pv_lss rfl rfl) ?_) | (refine lw_pure rfl (pv_eql rfl rfl) ?_) | (refine lw_pure rfl (pv_inc rfl rfl (by omega)) ?_) | (refine lw_pure rfl (pv_add rfl rfl (by omega)) ?_))) | ((refine is_load ?_; first | (refine lw_pure rfl (pv_load (t1 rfl) rfl (by first | fail)) ?_) | (refine lw_pure rfl (pv_loada (tA rfl) rfl (by first | fail) (by rfl)) ?_))) | ((refine is_fa ?_; first | (refine lw_pure rfl (pv_fa (tF rfl) rfl) ?_))) | ((refine is_ia ?_; first | (refine lw_pure rfl (pv_ian (tS rfl) rfl rfl (by omega)) ?_) | (refine lw_pure rfl (pv_ia (tS rfl) rfl rfl (by omega)) ?_))) | ((refine is_bi ?_; first | (refine lw_pure rfl (pv_lenl (tS rfl) rfl) ?_) | (refine lw_pure rfl (pv_lens (tStr rfl) rfl) ?_))) | (refine lw_pure rfl (pv_extract rfl rfl) ?_))
      refine qw_round (k + 1, v9) ⟨rfl, rfl, rfl, rfl, rfl, trivial⟩ ⟨by show k + 1 ≤ _; omega, hw, ?_⟩ (by show l.length - (k + 1) < l.length - k; omega)
      show Own _ _ _ _ _ _ (parts (l.take (k + 1)) a)
      rw [parts_take hxk, if_pos hr]; exact hO9
    · repeat' (first | (refine lw_pure rfl (pv_move rfl) ?_) | (refine lw_pure rfl (pv_assign rfl) ?_) | (refine is_cw ?_; first | (refine cw_seq ?_) | (refine cw_region ?_) | (refine cw_true rfl rfl ?_) | (refine cw_false rfl rfl ?_) | (refine is_cd ?_; refine cw_true rfl (by first | assumption | exact decide_eq_true (by omega) | exact dec_notT (by omega)) ?_) | (refine is_cd ?_; refine cw_false rfl (by first | assumption | exact decide_eq_false (by omega) | exact dec_notF (by omega)) ?_) | (refine cw_skip ?_) | (refine cw_block ?_) | (refine cw_exit ?_) | (refine cw_ret ?_)) | (refine is_qw ?_; first | (with_reducible refine qw_then ?_) | (with_reducible refine qw_in ?_) | (with_reducible refine qw_in_hit ?_) | (refine qw_in_miss rfl ?_) | (with_reducible refine qw_then_exit ?_) | (with_reducible refine qw_then_ret ?_) | (with_reducible refine qw_in_ret ?_)) | (refine lw_nil ?_) | ((refine is_bin ?_; first | (refine lw_pure rfl (pv_lss rfl rfl) ?_) | (refine lw_pure rfl (pv_eql rfl rfl) ?_) | (refine lw_pure rfl (pv_inc rfl rfl (by omega)) ?_) | (refine lw_pure rfl (pv_add rfl rfl (by omega)) ?_))) | ((refine is_load ?_; first | (refine lw_pure rfl (pv_load (t1 rfl) rfl (by first | exact PT.ld0 HX rfl | exact PT.ld HX rfl)) ?_) | (refine lw_pure rfl (pv_loada (tA rfl) rfl (by first | exact PT.lda HX) (by rfl)) ?_))) | ((refine is_fa ?_; first | (refine lw_pure rfl (pv_fa (tF rfl) rfl) ?_))) | ((refine is_ia ?_; first | (refine lw_pure rfl (pv_ian (tS rfl) rfl rfl (by omega)) ?_) | (refine lw_pure rfl (pv_ia (tS rfl) rfl rfl (by omega)) ?_))) | ((refine is_bi ?_; first | (refine lw_pure rfl (pv_lenl (tS rfl) rfl) ?_) | (refine lw_pure rfl (pv_lens (tStr rfl) rfl) ?_))) | (refine lw_pure rfl (pv_extract rfl rfl) ?_))
      refine qw_round (k + 1, v) ⟨rfl, rfl, rfl, rfl, rfl, trivial⟩ ⟨by show k + 1 ≤ _; omega, hw, ?_⟩ (by show l.length - (k + 1) < l.length - k; omega)
      show Own _ _ _ _ _ _ (parts (l.take (k + 1)) a)
      rw [parts_take hxk, if_neg hr, List.append_nil]; exact hO
  · have hkl : k = l.length := by omega
    subst hkl
    rw [List.take_length] at hO
    obtain ⟨fa, fc, rfl, hF, -⟩ := Own.slR encI_len hO
    have hpl := parts_len l a
    repeat' (first | (refine lw_pure rfl (pv_move rfl) ?_) | (refine lw_pure rfl (pv_assign rfl) ?_) | (refine is_cw ?_; first | (refine cw_seq ?_) | (refine cw_region ?_) | (refine cw_true rfl rfl ?_) | (refine cw_false rfl rfl ?_) | (refine is_cd ?_; refine cw_true rfl (by first | assumption | exact decide_eq_true (by omega) | exact dec_notT (by omega)) ?_) | (refine is_cd ?_; refine cw_false rfl (by first | assumption | exact decide_eq_false (by omega) | exact dec_notF (by omega)) ?_) | (refine cw_skip ?_) | (refine cw_block ?_) | (refine cw_exit ?_) | (refine cw_ret ?_)) | (refine is_qw ?_; first | (with_reducible refine qw_then ?_) | (with_reducible refine qw_in ?_) | (with_reducible refine qw_in_hit ?_) | (refine qw_in_miss rfl ?_) | (with_reducible refine qw_then_exit ?_) | (with_reducible refine qw_then_ret ?_) | (with_reducible refine qw_in_ret ?_)) | (refine lw_nil ?_) | ((refine is_bin ?_; first | (refine lw_pure rfl (pv_lss rfl rfl) ?_) | (refine lw_pure rfl (pv_eql rfl rfl) ?_) | (refine lw_pure rfl (pv_inc rfl rfl (by omega)) ?_) | (refine lw_pure rfl (pv_add rfl rfl (by omega)) ?_))) | ((refine is_load ?_; first | (refine lw_pure rfl (pv_load (t1 rfl) rfl (by first | fail)) ?_) | (refine lw_pure rfl (pv_loada (tA rfl) rfl (by first | fail) (by rfl)) ?_))) | ((refine is_fa ?_; first | (refine lw_pure rfl (pv_fa (tF rfl) rfl) ?_))) | ((refine is_ia ?_; first | (refine lw_pure rfl (pv_ian (tS rfl) rfl rfl (by omega)) ?_) | (refine lw_pure rfl (pv_ia (tS rfl) rfl rfl (by omega)) ?_))) | ((refine is_bi ?_; first | (refine lw_pure rfl (pv_lenl (tS rfl) rfl) ?_) | (refine lw_pure rfl (pv_lens (tStr rfl) rfl) ?_))) | (refine lw_pure rfl (pv_extract rfl rfl) ?_))
    refine lw_call (f := 38) (by kernel_rfl) rfl rfl (sum_c (xs := parts l a) rfl hF (by omega) (parts_in hin a)) ?_; rintro e w1 ⟨rfl, hb⟩; refine ⟨_, rfl, ?_⟩; replace hw := grow_trans hw hb; clear hb
    repeat' (first | (refine lw_pure rfl (pv_move rfl) ?_) | (refine lw_pure rfl (pv_assign rfl) ?_) | (refine is_cw ?_; first | (refine cw_seq ?_) | (refine cw_region ?_) | (refine cw_true rfl rfl ?_) | (refine cw_false rfl rfl ?_) | (refine is_cd ?_; refine cw_true rfl (by first | assumption | exact decide_eq_true (by omega) | exact dec_notT (by omega)) ?_) | (refine is_cd ?_; refine cw_false rfl (by first | assumption | exact decide_eq_false (by omega) | exact dec_notF (by omega)) ?_) | (refine cw_skip ?_) | (refine cw_block ?_) | (refine cw_exit ?_) | (refine cw_ret ?_)) | (refine is_qw ?_; first | (with_reducible refine qw_then ?_) | (with_reducible refine qw_in ?_) | (with_reducible refine qw_in_hit ?_) | (refine qw_in_miss rfl ?_) | (with_reducible refine qw_then_exit ?_) | (with_reducible refine qw_then_ret ?_) | (with_reducible refine qw_in_ret ?_)) | (refine lw_nil ?_) | ((refine is_bin ?_; first | (refine lw_pure rfl (pv_lss rfl rfl) ?_) | (refine lw_pure rfl (pv_eql rfl rfl) ?_) | (refine lw_pure rfl (pv_inc rfl rfl (by omega)) ?_) | (refine lw_pure rfl (pv_add rfl rfl (by omega)) ?_))) | ((refine is_load ?_; first | (refine lw_pure rfl (pv_load (t1 rfl) rfl (by first | fail)) ?_) | (refine lw_pure rfl (pv_loada (tA rfl) rfl (by first | fail) (by rfl)) ?_))) | ((refine is_fa ?_; first | (refine lw_pure rfl (pv_fa (tF rfl) rfl) ?_))) | ((refine is_ia ?_; first | (refine lw_pure rfl (pv_ian (tS rfl) rfl rfl (by omega)) ?_) | (refine lw_pure rfl (pv_ia (tS rfl) rfl rfl (by omega)) ?_))) | ((refine is_bi ?_; first | (refine lw_pure rfl (pv_lenl (tS rfl) rfl) ?_) | (refine lw_pure rfl (pv_lens (tStr rfl) rfl) ?_))) | (refine lw_pure rfl (pv_extract rfl rfl) ?_))
    refine qw_ret1 rfl rfl ⟨?_, hw⟩
    rw [parts_sum]; unfold sumR; rw [← toldN_eq]; rfl


theorem ofR_take {l : List Row} {k : Nat} {r : Row} (h : l[k]? = some r) (a : Int) : ofR (l.take (k + 1)) a = ofR (l.take k) a ++ if r.acct = a then [r] else [] := by
  unfold ofR
  rw [List.take_add_one, h]
  by_cases hr : r.acct = a <;> simp [List.filter_append, hr]
theorem ofR_len (l : List Row) (a : Int) : (ofR l a).length ≤ l.length := List.length_filter_le _ _

theorem there_d (a s : Int) : there a s = decide (0 ≤ a ∧ a ≤ 64 ∧ 0 ≤ s ∧ s ≤ 16) := by rw [Bool.eq_iff_iff, there_iff, decide_eq_true_eq]
theorem there_cd (a s : Int) (w : World) : Calls Tryz.prog 114 #[.int .i64 a, .int .i64 s] w fun e w' => e = .returned (.bool (decide (0 ≤ a ∧ a ≤ 64 ∧ 0 ≤ s ∧ s ≤ 16))) ∧ Below w.heap.size w w' := by
  rw [← there_d]; exact there_c a s w
theorem ref_d (r : Row) : RowRef r ↔ (0 ≤ r.acct ∧ r.acct ≤ 64 ∧ 0 ≤ r.asset ∧ r.asset ≤ 16) ∧ ¬ (r.free = 0 ∧ r.held = 0) ∧ ¬ (r.acct = 0 ∧ (r.held ≠ 0 ∨ r.free < -72057594037927936)) ∧ ¬ (0 < r.acct ∧ (r.free < 0 ∨ r.held < 0 ∨ 1125899906842624 < r.free ∨ 1125899906842624 - r.free < r.held)) := by
  unfold RowRef mostA; rw [there_iff]
theorem prev_lt {l : List Row} {k : Nat} {r q : Row} (hp : (l.take k).Pairwise keyLt) (hx : l[k]? = some r) (hq : l[k - 1]? = some q) (h : ¬ (0 < k ∧ ¬ keyLt q r)) : (l.take (k + 1)).Pairwise keyLt := by
  refine pw_snoc hp hx ?_
  by_cases hk : k = 0
  · exact Or.inl hk
  · refine Or.inr ⟨q, hq, ?_⟩
    rcases Classical.em (keyLt q r) with h1 | h1
    · exact h1
    · exact absurd ⟨by omega, h1⟩ h
set_option maxRecDepth 20000 in
set_option maxHeartbeats 4000000 in
theorem rmay_c {l : List Row} {m : Nat} {ad : Option Addr} {cap : Nat} {w : World} (hm : l.length = m) (HS : SlL w ad cap l) : Calls Tryz.prog 82 #[.slice ad m cap] w fun e w' => e = .returned (.bool (mayR l)) ∧ Below w.heap.size w w' := by
  subst hm
  have hE := Ext.refl w
  have hw := Below.refl w.heap.size w
  have hla := HS.le
  have hma := HS.max
  refine fn_enter 171 Tryz.func82 rfl rfl rfl ?_
  repeat' (first | (refine lw_pure rfl (pv_assign rfl) ?_) | (refine is_cw ?_; first | (refine cw_seq ?_) | (refine cw_region ?_) | (refine cw_block ?_)) | (refine is_qw ?_; first | (with_reducible refine qw_then ?_)) | (refine lw_nil ?_))
  refine cw_loop (σ := Nat) (fun k => [(0, .slice ad l.length cap), (3, .int .i64 (k : Nat))]) (fun k wr => k ≤ l.length ∧ Below w.heap.size w wr ∧ (∀ j, j < k → ∀ r, l[j]? = some r → RowRef r) ∧ (l.take k).Pairwise keyLt) (fun k => l.length - k) 0 ⟨rfl, rfl, trivial⟩ ⟨Nat.zero_le _, hw, by omega, by simp⟩ ?_
  clear hw
  rintro k wr ⟨hk, hw, hn, hp⟩
  by_cases hlt : k < l.length
  · have hxk : l[k]? = some l[k] := List.getElem?_eq_getElem hlt
    have hx1 : l[k - 1]? = some (l[k - 1]'(by omega)) := List.getElem?_eq_getElem _
    obtain ⟨ab, ao, rfl, -, -⟩ := HS.at (by intro h; rw [h] at hlt; simp at hlt)
    generalize hr : l[k] = r at hxk
    generalize l[k - 1]'(by omega) = q at hx1
    have hx2 : l[((k : Int) - 1).toNat]? = some q := by rw [show ((k : Int) - 1).toNat = k - 1 by omega]; exact hx1
    replace hE := hE.mono hw; replace HS := HS.mono hw; clear hw; have hw := Below.refl wr.heap.size wr
    repeat' (first | (refine lw_pure rfl (pv_move rfl) ?_) | (refine is_cw ?_; first | (refine cw_seq ?_) | (refine cw_region ?_) | (refine is_cd ?_; refine cw_true rfl (by first | assumption | exact decide_eq_true (by omega) | exact dec_notT (by omega)) ?_) | (refine cw_skip ?_) | (refine cw_block ?_)) | (refine is_qw ?_; first | (with_reducible refine qw_then ?_)) | (refine lw_nil ?_) | ((refine is_bin ?_; first | (refine lw_pure rfl (pv_lss rfl rfl) ?_))) | ((refine is_load ?_; first | (refine lw_pure rfl (pv_loada (tA rfl) rfl (by first | exact SlR.lda (HS.mono hw) hxk) (by rfl)) ?_))) | ((refine is_ia ?_; first | (refine lw_pure rfl (pv_ian (tS rfl) rfl rfl (by omega)) ?_))) | ((refine is_bi ?_; first | (refine lw_pure rfl (pv_lenl (tS rfl) rfl) ?_))))
    refine lw_varN rfl (by first | exact tyv_29 | exact tyv_30 | exact tyv_33 | exact tyv_34 | exact tyv_36 | exact tyv_37 | exact tyv_38 | exact tyv_39 | exact tyv_40 | exact tyv_41 | exact tyv_43 | exact tyv_44 | exact tyv_45 | exact tyv_46 | exact tyv_73 | exact tyv_74 | exact tyv_80 | exact tyv_81 | exact tyv_107 | exact tyv_108 | exact tyv_123 | exact tyv_146 | exact tyv_147 | exact tyv_148 | exact tyv_149) rfl (tZ rfl) (fun _ => rfl) rfl rfl ?_; intro N wn hN HX hb; replace hN := Nat.le_trans hw.size hN; replace hw := grow_trans hw hb; clear hb
    replace hE := hE.mono hw; replace HS := HS.mono hw; clear hw; have hw := Below.refl wn.heap.size wn
    refine lw_nil ?_; (with_reducible refine qw_then ?_)
    have hG : 0 < k ∧ ¬ keyLt q r → decide (MayR l) = false := fun h => by
      rw [decide_eq_false_iff_not]; intro hM; exact h.2 (pw_get (may_ref.1 hM).2.1 (by omega) hx1 hxk)
    have hF : ¬ RowRef r → decide (MayR l) = false := fun h => by
      rw [decide_eq_false_iff_not]; intro hM; exact h ((may_ref.1 hM).1 r (List.mem_of_getElem? hxk))
    refine cw_cut (σ := Unit) (fun _ => [(0, .slice (some ⟨ab, ao, none⟩) l.length cap), (3, .int .i64 (k : Nat)), (4, .pointer (some ⟨N, 0, none⟩))]) (fun _ w' => Below wn.heap.size wn w' ∧ ((0 ≤ r.acct ∧ r.acct ≤ 64 ∧ 0 ≤ r.asset ∧ r.asset ≤ 16) ∧ ¬ (r.free = 0 ∧ r.held = 0))) ?_ ?_
    · repeat' (first | (refine lw_pure rfl (pv_move rfl) ?_) | (refine lw_pure rfl (pv_assign rfl) ?_) | (refine lw_call (f := 114) (by kernel_rfl) rfl rfl (there_cd _ _ _) ?_; rintro e w1 ⟨rfl, hb⟩; refine ⟨_, rfl, ?_⟩; replace hw := grow_trans hw hb; clear hb) | (refine is_cw ?_; first | (refine cw_seq ?_) | (refine cw_region ?_) | (refine cw_true rfl rfl ?_) | (refine cw_false rfl rfl ?_) | (refine cw_skip ?_) | (refine cw_ret ?_)) | (refine is_qw ?_; first | (with_reducible refine qw_then ?_) | (with_reducible refine qw_then_ret ?_) | (with_reducible refine qw_in_ret ?_)) | (refine lw_nil ?_) | (refine is_guarded ?_; first | (refine lw_not_u rfl rfl rfl ?_) | (refine lw_on rfl rfl (by first | assumption | exact decide_eq_true (by omega) | exact decide_eq_false (by omega) | exact dec_notT (by omega) | exact dec_notF (by omega)) ?_) | (refine lw_not rfl rfl rfl (by first | assumption | exact decide_eq_true (by omega) | exact decide_eq_false (by omega) | exact dec_notT (by omega) | exact dec_notF (by omega)) ?_) | (refine lw_gs_t rfl rfl rfl (fun hc => ?_) (fun hc => ?_) <;> (first | replace hc := of_decide_eq_true hc | replace hc := of_decide_eq_false hc | replace hc := dec_nT hc | replace hc := dec_nF hc | skip) <;> (try (exfalso; omega))) | (refine lw_gs_f rfl rfl rfl (fun hc => ?_) (fun hc => ?_) <;> (first | replace hc := of_decide_eq_true hc | replace hc := of_decide_eq_false hc | replace hc := dec_nT hc | replace hc := dec_nF hc | skip) <;> (try (exfalso; omega)))) | ((refine is_bin ?_; first | (refine lw_pure rfl (pv_eql rfl rfl) ?_))) | ((refine is_load ?_; first | (refine lw_pure rfl (pv_load (t1 rfl) rfl (by first | exact PT.ld0 (HX.mono hw) rfl | exact PT.ld (HX.mono hw) rfl)) ?_))) | ((refine is_fa ?_; first | (refine lw_pure rfl (pv_fa (tF rfl) rfl) ?_))) | ((refine is_un ?_; first | (refine lw_pure rfl (pv_not rfl) ?_))) | (refine is_pk ?_; refine lw_pure rfl (pv_pick_t rfl (by first | assumption | exact decide_eq_true (by omega) | exact dec_notT (by omega)) rfl) ?_) | (refine is_pk ?_; refine lw_pure rfl (pv_pick_f rfl (by first | assumption | exact decide_eq_false (by omega) | exact dec_notF (by omega)) rfl) ?_) | (refine is_cw ?_; refine cw_split rfl (fun hc => ?_) (fun hc => ?_) <;> (first | replace hc := of_decide_eq_true hc | replace hc := of_decide_eq_false hc | replace hc := dec_nT hc | replace hc := dec_nF hc | skip) <;> (try (exfalso; omega))))
      all_goals first | (refine qw_join () (by repeat' (first | exact trivial | refine ⟨rfl, ?_⟩)) ⟨hw, ?_⟩; omega) | (refine qw_ret1 rfl rfl ⟨ret_bool (hF ?_).symm, (hE.mono hw).b⟩; rw [ref_d]; omega)
    rintro - w1 ⟨hw, hc1⟩
    replace hE := hE.mono hw; replace HS := HS.mono hw; replace HX := HX.mono hw; clear hw; have hw := Below.refl w1.heap.size w1
    refine cw_cut (σ := Unit) (fun _ => [(0, .slice (some ⟨ab, ao, none⟩) l.length cap), (3, .int .i64 (k : Nat)), (4, .pointer (some ⟨N, 0, none⟩))]) (fun _ w' => Below w1.heap.size w1 w' ∧ (¬ (0 < k ∧ ¬ keyLt q r))) ?_ ?_
    · refine cw_seq ?_
      refine cw_drawn (fun w' => Below w1.heap.size w1 w') (by kernel_rfl) (by repeat (first | exact NoPanic.body | with_reducible refine NoPanic.then ?_ | with_reducible refine NoPanic.inBlock ?_)) (fun hNP => ?_)
      have hS := hw.drew
      all_goals (refine at0 0 rfl (fun w' hq => pv_move rfl) ?_)
      all_goals (refine at0 1 rfl (fun w' hq => pv_gtr rfl rfl) ?_)
      all_goals (refine at0 2 rfl (fun w' hq => pv_move rfl) ?_)
      all_goals (refine aw_gs 3 rfl rfl rfl (by kernel_rfl) (by kernel_rfl) (by kernel_rfl) hNP hS rfl (fun hc w' hq => pv_fa (tF rfl) rfl) (fun hc => ?_) (fun hc => ?_) <;> (first | replace hc := of_decide_eq_true hc | replace hc := of_decide_eq_false hc | replace hc := dec_nT hc | replace hc := dec_nF hc | skip) <;> (try (exfalso; omega)))
      all_goals first | (refine an2 4 rfl rfl rfl ?_) | (refine at2 4 rfl rfl rfl (fun w' hq => pv_load (t1 rfl) rfl (by first | exact PT.ld0 (HX.mono hq) rfl | exact PT.ld (HX.mono hq) rfl | exact SlR.ld (HS.mono hq) hx2 rfl | exact SlR.ld1 (HS.mono hq) hx2 rfl)) ?_)
      all_goals first | (refine an2 5 rfl rfl rfl ?_) | (refine at2 5 rfl rfl rfl (fun w' hq => pv_move rfl) ?_)
      all_goals first | (refine an2 6 rfl rfl rfl ?_) | (refine at2 6 rfl rfl rfl (fun w' hq => pv_move rfl) ?_)
      all_goals first | (refine an2 7 rfl rfl rfl ?_) | (refine at2 7 rfl rfl rfl (fun w' hq => pv_sub rfl rfl (by omega)) ?_)
      all_goals first | (refine an2 8 rfl rfl rfl ?_) | (refine at2 8 rfl rfl rfl (fun w' hq => pv_ia (tS rfl) rfl rfl (by omega)) ?_)
      all_goals first | (refine an2 9 rfl rfl rfl ?_) | (refine at2 9 rfl rfl rfl (fun w' hq => pv_fa (tF rfl) rfl) ?_)
      all_goals first | (refine an2 10 rfl rfl rfl ?_) | (refine at2 10 rfl rfl rfl (fun w' hq => pv_load (t1 rfl) rfl (by first | exact PT.ld0 (HX.mono hq) rfl | exact PT.ld (HX.mono hq) rfl | exact SlR.ld (HS.mono hq) hx2 rfl | exact SlR.ld1 (HS.mono hq) hx2 rfl)) ?_)
      all_goals first | (refine an2 11 rfl rfl rfl ?_) | (refine at2 11 rfl rfl rfl (fun w' hq => pv_lss rfl rfl) ?_)
      all_goals first | (refine an2 12 rfl rfl rfl ?_) | (refine at2 12 rfl rfl rfl (fun w' hq => pv_move rfl) ?_)
      all_goals first | (refine an0 13 rfl rfl rfl ?_) | (refine aw_gs 13 rfl rfl rfl (by kernel_rfl) (by kernel_rfl) (by kernel_rfl) hNP hS rfl (fun hc w' hq => pv_fa (tF rfl) rfl) (fun hc => ?_) (fun hc => ?_) <;> (first | replace hc := of_decide_eq_true hc | replace hc := of_decide_eq_false hc | replace hc := dec_nT hc | replace hc := dec_nF hc | skip) <;> (try (exfalso; omega)))
      all_goals first | (refine an0 14 rfl rfl rfl ?_) | (refine an2 14 rfl rfl rfl ?_) | (refine at2 14 rfl rfl rfl (fun w' hq => pv_load (t1 rfl) rfl (by first | exact PT.ld0 (HX.mono hq) rfl | exact PT.ld (HX.mono hq) rfl | exact SlR.ld (HS.mono hq) hx2 rfl | exact SlR.ld1 (HS.mono hq) hx2 rfl)) ?_)
      all_goals first | (refine an0 15 rfl rfl rfl ?_) | (refine an2 15 rfl rfl rfl ?_) | (refine at2 15 rfl rfl rfl (fun w' hq => pv_move rfl) ?_)
      all_goals first | (refine an0 16 rfl rfl rfl ?_) | (refine an2 16 rfl rfl rfl ?_) | (refine at2 16 rfl rfl rfl (fun w' hq => pv_move rfl) ?_)
      all_goals first | (refine an0 17 rfl rfl rfl ?_) | (refine an2 17 rfl rfl rfl ?_) | (refine at2 17 rfl rfl rfl (fun w' hq => pv_sub rfl rfl (by omega)) ?_)
      all_goals first | (refine an0 18 rfl rfl rfl ?_) | (refine an2 18 rfl rfl rfl ?_) | (refine at2 18 rfl rfl rfl (fun w' hq => pv_ia (tS rfl) rfl rfl (by omega)) ?_)
      all_goals first | (refine an0 19 rfl rfl rfl ?_) | (refine an2 19 rfl rfl rfl ?_) | (refine at2 19 rfl rfl rfl (fun w' hq => pv_fa (tF rfl) rfl) ?_)
      all_goals first | (refine an0 20 rfl rfl rfl ?_) | (refine an2 20 rfl rfl rfl ?_) | (refine at2 20 rfl rfl rfl (fun w' hq => pv_load (t1 rfl) rfl (by first | exact PT.ld0 (HX.mono hq) rfl | exact PT.ld (HX.mono hq) rfl | exact SlR.ld (HS.mono hq) hx2 rfl | exact SlR.ld1 (HS.mono hq) hx2 rfl)) ?_)
      all_goals first | (refine an0 21 rfl rfl rfl ?_) | (refine an2 21 rfl rfl rfl ?_) | (refine at2 21 rfl rfl rfl (fun w' hq => pv_eql rfl rfl) ?_)
      all_goals first | (refine an0 22 rfl rfl rfl ?_) | (refine an2 22 rfl rfl rfl ?_) | (refine at2 22 rfl rfl rfl (fun w' hq => pv_move rfl) ?_)
      all_goals first | (refine an0 23 rfl rfl rfl ?_) | (refine aw_gs 23 rfl rfl rfl (by kernel_rfl) (by kernel_rfl) (by kernel_rfl) hNP hS rfl (fun hc w' hq => pv_fa (tF rfl) rfl) (fun hc => ?_) (fun hc => ?_) <;> (first | replace hc := of_decide_eq_true hc | replace hc := of_decide_eq_false hc | replace hc := dec_nT hc | replace hc := dec_nF hc | skip) <;> (try (exfalso; omega)))
      all_goals first | (refine an0 24 rfl rfl rfl ?_) | (refine an2 24 rfl rfl rfl ?_) | (refine at2 24 rfl rfl rfl (fun w' hq => pv_load (t1 rfl) rfl (by first | exact PT.ld0 (HX.mono hq) rfl | exact PT.ld (HX.mono hq) rfl | exact SlR.ld (HS.mono hq) hx2 rfl | exact SlR.ld1 (HS.mono hq) hx2 rfl)) ?_)
      all_goals first | (refine an0 25 rfl rfl rfl ?_) | (refine an2 25 rfl rfl rfl ?_) | (refine at2 25 rfl rfl rfl (fun w' hq => pv_move rfl) ?_)
      all_goals first | (refine an0 26 rfl rfl rfl ?_) | (refine an2 26 rfl rfl rfl ?_) | (refine at2 26 rfl rfl rfl (fun w' hq => pv_move rfl) ?_)
      all_goals first | (refine an0 27 rfl rfl rfl ?_) | (refine an2 27 rfl rfl rfl ?_) | (refine at2 27 rfl rfl rfl (fun w' hq => pv_sub rfl rfl (by omega)) ?_)
      all_goals first | (refine an0 28 rfl rfl rfl ?_) | (refine an2 28 rfl rfl rfl ?_) | (refine at2 28 rfl rfl rfl (fun w' hq => pv_ia (tS rfl) rfl rfl (by omega)) ?_)
      all_goals first | (refine an0 29 rfl rfl rfl ?_) | (refine an2 29 rfl rfl rfl ?_) | (refine at2 29 rfl rfl rfl (fun w' hq => pv_fa (tF rfl) rfl) ?_)
      all_goals first | (refine an0 30 rfl rfl rfl ?_) | (refine an2 30 rfl rfl rfl ?_) | (refine at2 30 rfl rfl rfl (fun w' hq => pv_load (t1 rfl) rfl (by first | exact PT.ld0 (HX.mono hq) rfl | exact PT.ld (HX.mono hq) rfl | exact SlR.ld (HS.mono hq) hx2 rfl | exact SlR.ld1 (HS.mono hq) hx2 rfl)) ?_)
      all_goals first | (refine an0 31 rfl rfl rfl ?_) | (refine an2 31 rfl rfl rfl ?_) | (refine at2 31 rfl rfl rfl (fun w' hq => pv_leq rfl rfl) ?_)
      all_goals first | (refine an0 32 rfl rfl rfl ?_) | (refine an2 32 rfl rfl rfl ?_) | (refine at2 32 rfl rfl rfl (fun w' hq => pv_pick_t rfl (by first | assumption | exact decide_eq_true (by omega) | exact dec_notT (by omega)) rfl) ?_) | (refine at2 32 rfl rfl rfl (fun w' hq => pv_pick_f rfl (by first | assumption | exact decide_eq_false (by omega) | exact dec_notF (by omega)) rfl) ?_)
      all_goals first | (refine an2 33 rfl rfl rfl ?_) | (refine at2 33 rfl rfl rfl (fun w' hq => pv_pick_t rfl (by first | assumption | exact decide_eq_true (by omega) | exact dec_notT (by omega)) rfl) ?_) | (refine at2 33 rfl rfl rfl (fun w' hq => pv_pick_f rfl (by first | assumption | exact decide_eq_false (by omega) | exact dec_notF (by omega)) rfl) ?_)
      all_goals first | (refine at0 34 rfl (fun w' hq => pv_pick_t rfl (by first | assumption | exact decide_eq_true (by omega) | exact dec_notT (by omega)) rfl) ?_) | (refine at0 34 rfl (fun w' hq => pv_pick_f rfl (by first | assumption | exact decide_eq_false (by omega) | exact dec_notF (by omega)) rfl) ?_)
      all_goals (refine aw_done (by kernel_rfl) ?_; replace hw := hS; clear hS hNP)
      all_goals repeat' (first | (refine lw_pure rfl (pv_assign rfl) ?_) | (refine is_cw ?_; first | (refine cw_seq ?_) | (refine cw_region ?_) | (refine cw_true rfl rfl ?_) | (refine cw_false rfl rfl ?_) | (refine cw_skip ?_) | (refine cw_ret ?_)) | (refine is_qw ?_; first | (with_reducible refine qw_then ?_) | (with_reducible refine qw_then_ret ?_) | (with_reducible refine qw_in_ret ?_)) | (refine lw_nil ?_) | (refine is_cw ?_; refine cw_split rfl (fun hc => ?_) (fun hc => ?_) <;> (first | replace hc := of_decide_eq_true hc | replace hc := of_decide_eq_false hc | replace hc := dec_nT hc | replace hc := dec_nF hc | skip) <;> (try (exfalso; omega))))
      all_goals first | (refine qw_join () (by repeat' (first | exact trivial | refine ⟨rfl, ?_⟩)) ⟨hw, ?_⟩; unfold keyLt; omega) | (refine qw_ret1 rfl rfl ⟨ret_bool (hG ?_).symm, (hE.mono hw).b⟩; unfold keyLt; omega)
    rintro - w2 ⟨hw, hc2⟩
    replace hE := hE.mono hw; replace HS := HS.mono hw; replace HX := HX.mono hw; clear hw; have hw := Below.refl w2.heap.size w2
    refine cw_cut (σ := Unit) (fun _ => [(0, .slice (some ⟨ab, ao, none⟩) l.length cap), (3, .int .i64 (k : Nat)), (4, .pointer (some ⟨N, 0, none⟩))]) (fun _ w' => Below w2.heap.size w2 w' ∧ (¬ (r.acct = 0 ∧ (r.held ≠ 0 ∨ r.free < -72057594037927936)))) ?_ ?_
    · repeat' (first | (refine lw_pure rfl (pv_move rfl) ?_) | (refine lw_pure rfl (pv_assign rfl) ?_) | (refine is_cw ?_; first | (refine cw_seq ?_) | (refine cw_region ?_) | (refine cw_true rfl rfl ?_) | (refine cw_false rfl rfl ?_) | (refine cw_skip ?_) | (refine cw_ret ?_)) | (refine is_qw ?_; first | (with_reducible refine qw_then ?_) | (with_reducible refine qw_then_ret ?_) | (with_reducible refine qw_in_ret ?_)) | (refine lw_nil ?_) | (refine is_guarded ?_; first | (refine lw_not_u rfl rfl rfl ?_) | (refine lw_on rfl rfl (by first | assumption | exact decide_eq_true (by omega) | exact decide_eq_false (by omega) | exact dec_notT (by omega) | exact dec_notF (by omega)) ?_) | (refine lw_not rfl rfl rfl (by first | assumption | exact decide_eq_true (by omega) | exact decide_eq_false (by omega) | exact dec_notT (by omega) | exact dec_notF (by omega)) ?_) | (refine lw_gs_t rfl rfl rfl (fun hc => ?_) (fun hc => ?_) <;> (first | replace hc := of_decide_eq_true hc | replace hc := of_decide_eq_false hc | replace hc := dec_nT hc | replace hc := dec_nF hc | skip) <;> (try (exfalso; omega))) | (refine lw_gs_f rfl rfl rfl (fun hc => ?_) (fun hc => ?_) <;> (first | replace hc := of_decide_eq_true hc | replace hc := of_decide_eq_false hc | replace hc := dec_nT hc | replace hc := dec_nF hc | skip) <;> (try (exfalso; omega)))) | ((refine is_bin ?_; first | (refine lw_pure rfl (pv_lss rfl rfl) ?_) | (refine lw_pure rfl (pv_eql rfl rfl) ?_) | (refine lw_pure rfl (pv_neq rfl rfl) ?_))) | ((refine is_load ?_; first | (refine lw_pure rfl (pv_load (t1 rfl) rfl (by first | exact PT.ld0 (HX.mono hw) rfl | exact PT.ld (HX.mono hw) rfl)) ?_))) | ((refine is_fa ?_; first | (refine lw_pure rfl (pv_fa (tF rfl) rfl) ?_))) | (refine is_pk ?_; refine lw_pure rfl (pv_pick_t rfl (by first | assumption | exact decide_eq_true (by omega) | exact dec_notT (by omega)) rfl) ?_) | (refine is_pk ?_; refine lw_pure rfl (pv_pick_f rfl (by first | assumption | exact decide_eq_false (by omega) | exact dec_notF (by omega)) rfl) ?_) | (refine is_cw ?_; refine cw_split rfl (fun hc => ?_) (fun hc => ?_) <;> (first | replace hc := of_decide_eq_true hc | replace hc := of_decide_eq_false hc | replace hc := dec_nT hc | replace hc := dec_nF hc | skip) <;> (try (exfalso; omega))))
      all_goals first | (refine qw_join () (by repeat' (first | exact trivial | refine ⟨rfl, ?_⟩)) ⟨hw, ?_⟩; omega) | (refine qw_ret1 rfl rfl ⟨ret_bool (hF ?_).symm, (hE.mono hw).b⟩; rw [ref_d]; omega)
    rintro - w3 ⟨hw, hc3⟩
    replace hE := hE.mono hw; replace HS := HS.mono hw; replace HX := HX.mono hw; clear hw; have hw := Below.refl w3.heap.size w3
    have hend : ¬ (0 < r.acct ∧ (r.free < 0 ∨ r.held < 0 ∨ 1125899906842624 < r.free ∨ 1125899906842624 - r.free < r.held)) → ∀ j, j < k + 1 → ∀ x, l[j]? = some x → RowRef x := fun hc4 j hj x hx => by
      by_cases hjk : j = k
      · subst hjk; rw [hxk] at hx; injection hx with hx; subst hx; exact (ref_d _).2 ⟨hc1.1, hc1.2, hc3, hc4⟩
      · exact hn j (by omega) x hx
    repeat' (first | (refine lw_pure rfl (pv_move rfl) ?_) | (refine lw_pure rfl (pv_assign rfl) ?_) | (refine is_cw ?_; first | (refine cw_seq ?_) | (refine cw_region ?_) | (refine cw_true rfl rfl ?_) | (refine cw_false rfl rfl ?_) | (refine cw_skip ?_) | (refine cw_ret ?_)) | (refine is_qw ?_; first | (with_reducible refine qw_then ?_) | (with_reducible refine qw_in ?_) | (with_reducible refine qw_then_ret ?_) | (with_reducible refine qw_in_ret ?_)) | (refine lw_nil ?_) | (refine is_guarded ?_; first | (refine lw_not rfl rfl rfl rfl ?_) | (refine lw_not_u rfl rfl rfl ?_) | (refine lw_on rfl rfl (by first | assumption | exact decide_eq_true (by omega) | exact decide_eq_false (by omega) | exact dec_notT (by omega) | exact dec_notF (by omega)) ?_) | (refine lw_not rfl rfl rfl (by first | assumption | exact decide_eq_true (by omega) | exact decide_eq_false (by omega) | exact dec_notT (by omega) | exact dec_notF (by omega)) ?_) | (refine lw_gs_t rfl rfl rfl (fun hc => ?_) (fun hc => ?_) <;> (first | replace hc := of_decide_eq_true hc | replace hc := of_decide_eq_false hc | replace hc := dec_nT hc | replace hc := dec_nF hc | skip) <;> (try (exfalso; omega))) | (refine lw_gs_f rfl rfl rfl (fun hc => ?_) (fun hc => ?_) <;> (first | replace hc := of_decide_eq_true hc | replace hc := of_decide_eq_false hc | replace hc := dec_nT hc | replace hc := dec_nF hc | skip) <;> (try (exfalso; omega)))) | ((refine is_bin ?_; first | (refine lw_pure rfl (pv_lss rfl rfl) ?_) | (refine lw_pure rfl (pv_gtr rfl rfl) ?_) | (refine lw_pure rfl (pv_inc rfl rfl (by omega)) ?_) | (refine lw_pure rfl (pv_sub rfl rfl (by omega)) ?_))) | ((refine is_load ?_; first | (refine lw_pure rfl (pv_load (t1 rfl) rfl (by first | exact PT.ld0 (HX.mono hw) rfl | exact PT.ld (HX.mono hw) rfl)) ?_))) | ((refine is_fa ?_; first | (refine lw_pure rfl (pv_fa (tF rfl) rfl) ?_))) | (refine is_pk ?_; refine lw_pure rfl (pv_pick_t rfl rfl rfl) ?_) | (refine is_pk ?_; refine lw_pure rfl (pv_pick_t rfl (by first | assumption | exact decide_eq_true (by omega) | exact dec_notT (by omega)) rfl) ?_) | (refine is_pk ?_; refine lw_pure rfl (pv_pick_f rfl (by first | assumption | exact decide_eq_false (by omega) | exact dec_notF (by omega)) rfl) ?_) | (refine is_cw ?_; refine cw_split rfl (fun hc => ?_) (fun hc => ?_) <;> (first | replace hc := of_decide_eq_true hc | replace hc := of_decide_eq_false hc | replace hc := dec_nT hc | replace hc := dec_nF hc | skip) <;> (try (exfalso; omega))))
    all_goals first | (refine qw_round (k + 1) (by repeat' (first | exact trivial | refine ⟨rfl, ?_⟩)) ⟨by omega, (hE.mono hw).b, hend ?_, prev_lt hp hxk hx1 hc2⟩ (by omega); omega) | (refine qw_ret1 rfl rfl ⟨ret_bool (hF ?_).symm, (hE.mono hw).b⟩; rw [ref_d]; omega)
  · have hkl : k = l.length := by omega
    subst hkl
    have hR : ∀ r ∈ l, RowRef r := mem_of_all hn
    rw [List.take_length] at hp
    repeat' (first | (refine lw_pure rfl (pv_move rfl) ?_) | (refine lw_pure rfl (pv_assign rfl) ?_) | (refine is_cw ?_; first | (refine cw_seq ?_) | (refine cw_region ?_) | (refine is_cd ?_; refine cw_false rfl (by first | assumption | exact decide_eq_false (by omega) | exact dec_notF (by omega)) ?_) | (refine cw_block ?_) | (refine cw_exit ?_)) | (refine is_qw ?_; first | (with_reducible refine qw_then ?_) | (with_reducible refine qw_in_hit ?_) | (with_reducible refine qw_then_exit ?_)) | (refine lw_nil ?_) | ((refine is_bin ?_; first | (refine lw_pure rfl (pv_lss rfl rfl) ?_))) | ((refine is_bi ?_; first | (refine lw_pure rfl (pv_lenl (tS rfl) rfl) ?_))))
    refine cw_loop (σ := Nat) (fun a => [(0, .slice ad l.length cap), (5, .int .i64 (a : Nat))]) (fun a wr => a ≤ 17 ∧ Below w.heap.size w wr ∧ ∀ b, b < a → outA l (b : Nat) = -posA l (b : Nat)) (fun a => 17 - a) 0 (by repeat' (first | exact trivial | refine ⟨rfl, ?_⟩)) ⟨by omega, hw, by omega⟩ ?_
    clear hw
    rintro a wr ⟨ha, hw, hs⟩
    by_cases hla : a ≤ 16
    · repeat' (first | (refine lw_pure rfl (pv_move rfl) ?_) | (refine lw_pure rfl (pv_assign rfl) ?_) | (refine is_cw ?_; first | (refine cw_seq ?_) | (refine cw_region ?_) | (refine is_cd ?_; refine cw_true rfl (by first | assumption | exact decide_eq_true (by omega) | exact dec_notT (by omega)) ?_) | (refine cw_skip ?_) | (refine cw_block ?_)) | (refine is_qw ?_; first | (with_reducible refine qw_then ?_)) | (refine lw_nil ?_) | ((refine is_bin ?_; first | (refine lw_pure rfl (pv_leq rfl rfl) ?_))))
      refine cw_loop (σ := Nat) (fun j => [(0, .slice ad l.length cap), (5, .int .i64 (a : Nat)), (6, .int .i64 (outA (l.take j) (a : Nat))), (7, .int .i64 (posA (l.take j) (a : Nat))), (8, .int .i64 (j : Nat))]) (fun j wr => j ≤ l.length ∧ Below w.heap.size w wr) (fun j => l.length - j) 0 (by repeat' (first | exact trivial | refine ⟨rfl, ?_⟩)) ⟨Nat.zero_le _, hw⟩ ?_
      clear hw
      rintro j wr ⟨hj, hw⟩
      have hnear := posA_near (l := l.take j) (fun r hr => hR r (List.mem_of_mem_take hr)) (hp.sublist (List.take_sublist _ _)) (a : Nat)
      by_cases hlt : j < l.length
      · have hxk : l[j]? = some l[j] := List.getElem?_eq_getElem hlt
        obtain ⟨ab, ao, rfl, -, -⟩ := HS.at (by intro h; rw [h] at hlt; simp at hlt)
        have hrr := (ref_d _).1 (hR _ (List.getElem_mem hlt))
        have e1 := outA_take hxk (a : Nat)
        have e2 := posA_take hxk (a : Nat)
        generalize l[j] = r at hxk hrr e1 e2
        by_cases h1 : r.asset = (a : Nat)
        · by_cases h2 : r.acct = 0
          · rw [if_pos ⟨h1, h2⟩] at e1
            rw [if_neg (by omega), Int.add_zero] at e2
            repeat' (first | (refine lw_pure rfl (pv_move rfl) ?_) | (refine lw_pure rfl (pv_assign rfl) ?_) | (refine is_cw ?_; first | (refine cw_seq ?_) | (refine cw_region ?_) | (refine is_cd ?_; refine cw_true rfl (by first | assumption | exact decide_eq_true (by omega) | exact dec_notT (by omega)) ?_) | (refine is_cd ?_; refine cw_false rfl (by first | assumption | exact decide_eq_false (by omega) | exact dec_notF (by omega)) ?_) | (refine cw_skip ?_) | (refine cw_block ?_)) | (refine is_qw ?_; first | (with_reducible refine qw_then ?_) | (with_reducible refine qw_in ?_)) | (refine lw_nil ?_) | (refine is_guarded ?_; first | (refine lw_on rfl rfl (by first | assumption | exact decide_eq_true (by omega) | exact decide_eq_false (by omega) | exact dec_notT (by omega) | exact dec_notF (by omega)) ?_)) | ((refine is_bin ?_; first | (refine lw_pure rfl (pv_lss rfl rfl) ?_) | (refine lw_pure rfl (pv_eql rfl rfl) ?_) | (refine lw_pure rfl (pv_gtr rfl rfl) ?_) | (refine lw_pure rfl (pv_inc rfl rfl (by omega)) ?_))) | ((refine is_load ?_; first | (refine lw_pure rfl (pv_load (t1 rfl) rfl (by first | exact SlR.ld (HS.mono hw) hxk rfl | exact SlR.ld1 (HS.mono hw) hxk rfl)) ?_))) | ((refine is_fa ?_; first | (refine lw_pure rfl (pv_fa (tF rfl) rfl) ?_))) | ((refine is_ia ?_; first | (refine lw_pure rfl (pv_ian (tS rfl) rfl rfl (by omega)) ?_))) | ((refine is_bi ?_; first | (refine lw_pure rfl (pv_lenl (tS rfl) rfl) ?_))) | (refine is_pk ?_; refine lw_pure rfl (pv_pick_t rfl (by first | assumption | exact decide_eq_true (by omega) | exact dec_notT (by omega)) rfl) ?_))
            refine qw_round (j + 1) ⟨rfl, rfl, by rw [e1]; rfl, by rw [e2]; rfl, rfl, trivial⟩ ⟨by omega, hw⟩ (by omega)
          · rw [if_neg (by omega)] at e1
            rw [if_pos (by omega)] at e2
            repeat' (first | (refine lw_pure rfl (pv_move rfl) ?_) | (refine is_cw ?_; first | (refine cw_seq ?_) | (refine cw_region ?_) | (refine is_cd ?_; refine cw_true rfl (by first | assumption | exact decide_eq_true (by omega) | exact dec_notT (by omega)) ?_) | (refine is_cd ?_; refine cw_false rfl (by first | assumption | exact decide_eq_false (by omega) | exact dec_notF (by omega)) ?_) | (refine cw_skip ?_) | (refine cw_block ?_)) | (refine is_qw ?_; first | (with_reducible refine qw_then ?_)) | (refine lw_nil ?_) | (refine is_guarded ?_; first | (refine lw_on rfl rfl (by first | assumption | exact decide_eq_true (by omega) | exact decide_eq_false (by omega) | exact dec_notT (by omega) | exact dec_notF (by omega)) ?_)) | ((refine is_bin ?_; first | (refine lw_pure rfl (pv_lss rfl rfl) ?_) | (refine lw_pure rfl (pv_eql rfl rfl) ?_) | (refine lw_pure rfl (pv_gtr rfl rfl) ?_))) | ((refine is_load ?_; first | (refine lw_pure rfl (pv_load (t1 rfl) rfl (by first | exact SlR.ld (HS.mono hw) hxk rfl | exact SlR.ld1 (HS.mono hw) hxk rfl)) ?_))) | ((refine is_fa ?_; first | (refine lw_pure rfl (pv_fa (tF rfl) rfl) ?_))) | ((refine is_ia ?_; first | (refine lw_pure rfl (pv_ian (tS rfl) rfl rfl (by omega)) ?_))) | ((refine is_bi ?_; first | (refine lw_pure rfl (pv_lenl (tS rfl) rfl) ?_))) | (refine is_pk ?_; refine lw_pure rfl (pv_pick_t rfl (by first | assumption | exact decide_eq_true (by omega) | exact dec_notT (by omega)) rfl) ?_))
            refine cw_drawn (fun w' => Below w.heap.size w w') (by kernel_rfl) (by repeat (first | exact NoPanic.body | with_reducible refine NoPanic.then ?_ | with_reducible refine NoPanic.inBlock ?_)) (fun hNP => ?_)
            have hS := hw.drew
            (refine at0 0 rfl (fun w' hq => pv_move rfl) ?_)
            (refine at0 1 rfl (fun w' hq => pv_move rfl) ?_)
            (refine at0 2 rfl (fun w' hq => pv_move rfl) ?_)
            (refine at0 3 rfl (fun w' hq => pv_ian (tS rfl) rfl rfl (by omega)) ?_)
            (refine at0 4 rfl (fun w' hq => pv_fa (tF rfl) rfl) ?_)
            (refine at0 5 rfl (fun w' hq => pv_load (t1 rfl) rfl (by first | exact SlR.ld (HS.mono hq) hxk rfl | exact SlR.ld1 (HS.mono hq) hxk rfl)) ?_)
            (refine at0 6 rfl (fun w' hq => pv_add rfl rfl (by omega)) ?_)
            (refine at0 7 rfl (fun w' hq => pv_move rfl) ?_)
            (refine at0 8 rfl (fun w' hq => pv_move rfl) ?_)
            (refine at0 9 rfl (fun w' hq => pv_ian (tS rfl) rfl rfl (by omega)) ?_)
            (refine at0 10 rfl (fun w' hq => pv_fa (tF rfl) rfl) ?_)
            (refine at0 11 rfl (fun w' hq => pv_load (t1 rfl) rfl (by first | exact SlR.ld (HS.mono hq) hxk rfl | exact SlR.ld1 (HS.mono hq) hxk rfl)) ?_)
            (refine at0 12 rfl (fun w' hq => pv_add rfl rfl (by omega)) ?_)
            (refine at0 13 rfl (fun w' hq => pv_assign rfl) ?_)
            refine aw_done (by kernel_rfl) ?_
            replace hw := hS; clear hS hNP
            repeat' (first | (refine lw_pure rfl (pv_move rfl) ?_) | (refine lw_pure rfl (pv_assign rfl) ?_) | (refine is_cw ?_; first | (refine cw_region ?_)) | (refine is_qw ?_; first | (with_reducible refine qw_then ?_) | (with_reducible refine qw_in ?_)) | (refine lw_nil ?_) | ((refine is_bin ?_; first | (refine lw_pure rfl (pv_inc rfl rfl (by omega)) ?_))))
            refine qw_round (j + 1) ⟨rfl, rfl, by rw [e1]; rfl, by rw [e2, ← Int.add_assoc]; rfl, rfl, trivial⟩ ⟨by omega, hw⟩ (by omega)
        · rw [if_neg (by omega)] at e1
          rw [if_neg (by omega), Int.add_zero] at e2
          repeat' (first | (refine lw_pure rfl (pv_move rfl) ?_) | (refine lw_pure rfl (pv_assign rfl) ?_) | (refine is_cw ?_; first | (refine cw_seq ?_) | (refine cw_region ?_) | (refine cw_false rfl rfl ?_) | (refine is_cd ?_; refine cw_true rfl (by first | assumption | exact decide_eq_true (by omega) | exact dec_notT (by omega)) ?_) | (refine cw_skip ?_) | (refine cw_block ?_)) | (refine is_qw ?_; first | (with_reducible refine qw_then ?_) | (with_reducible refine qw_in ?_)) | (refine lw_nil ?_) | (refine is_guarded ?_; first | (refine lw_not rfl rfl rfl (by first | assumption | exact decide_eq_true (by omega) | exact decide_eq_false (by omega) | exact dec_notT (by omega) | exact dec_notF (by omega)) ?_)) | ((refine is_bin ?_; first | (refine lw_pure rfl (pv_lss rfl rfl) ?_) | (refine lw_pure rfl (pv_eql rfl rfl) ?_) | (refine lw_pure rfl (pv_inc rfl rfl (by omega)) ?_))) | ((refine is_load ?_; first | (refine lw_pure rfl (pv_load (t1 rfl) rfl (by first | exact SlR.ld (HS.mono hw) hxk rfl | exact SlR.ld1 (HS.mono hw) hxk rfl)) ?_))) | ((refine is_fa ?_; first | (refine lw_pure rfl (pv_fa (tF rfl) rfl) ?_))) | ((refine is_ia ?_; first | (refine lw_pure rfl (pv_ian (tS rfl) rfl rfl (by omega)) ?_))) | ((refine is_bi ?_; first | (refine lw_pure rfl (pv_lenl (tS rfl) rfl) ?_))) | (refine is_pk ?_; refine lw_pure rfl (pv_pick_f rfl (by first | assumption | exact decide_eq_false (by omega) | exact dec_notF (by omega)) rfl) ?_))
          refine qw_round (j + 1) ⟨rfl, rfl, by rw [e1]; rfl, by rw [e2]; rfl, rfl, trivial⟩ ⟨by omega, hw⟩ (by omega)
      · have hjl : j = l.length := by omega
        subst hjl
        rw [List.take_length] at hnear ⊢
        by_cases hO : outA l (a : Nat) = -posA l (a : Nat)
        · repeat' (first | (refine lw_pure rfl (pv_move rfl) ?_) | (refine lw_pure rfl (pv_assign rfl) ?_) | (refine is_cw ?_; first | (refine cw_seq ?_) | (refine cw_region ?_) | (refine is_cd ?_; refine cw_false rfl (by first | assumption | exact decide_eq_false (by omega) | exact dec_notF (by omega)) ?_) | (refine cw_skip ?_) | (refine cw_exit ?_)) | (refine is_qw ?_; first | (with_reducible refine qw_then ?_) | (with_reducible refine qw_in ?_) | (with_reducible refine qw_in_hit ?_) | (with_reducible refine qw_then_exit ?_)) | (refine lw_nil ?_) | ((refine is_bin ?_; first | (refine lw_pure rfl (pv_lss rfl rfl) ?_) | (refine lw_pure rfl (pv_neq rfl rfl) ?_) | (refine lw_pure rfl (pv_inc rfl rfl (by omega)) ?_))) | ((refine is_un ?_; first | (refine lw_pure rfl (pv_neg rfl (by omega)) ?_))) | ((refine is_bi ?_; first | (refine lw_pure rfl (pv_lenl (tS rfl) rfl) ?_))))
          refine qw_round (a + 1) (by repeat' (first | exact trivial | refine ⟨rfl, ?_⟩)) ⟨by omega, hw, fun b hb => ?_⟩ (by omega)
          by_cases hba : b = a
          · subst hba; exact hO
          · exact hs b (by omega)
        · repeat' (first | (refine lw_pure rfl (pv_move rfl) ?_) | (refine lw_pure rfl (pv_assign rfl) ?_) | (refine is_cw ?_; first | (refine cw_seq ?_) | (refine cw_region ?_) | (refine is_cd ?_; refine cw_true rfl (by first | assumption | exact decide_eq_true (by omega) | exact dec_notT (by omega)) ?_) | (refine is_cd ?_; refine cw_false rfl (by first | assumption | exact decide_eq_false (by omega) | exact dec_notF (by omega)) ?_) | (refine cw_exit ?_) | (refine cw_ret ?_)) | (refine is_qw ?_; first | (with_reducible refine qw_then ?_) | (with_reducible refine qw_in_hit ?_) | (with_reducible refine qw_then_exit ?_) | (with_reducible refine qw_then_ret ?_) | (with_reducible refine qw_in_ret ?_)) | (refine lw_nil ?_) | ((refine is_bin ?_; first | (refine lw_pure rfl (pv_lss rfl rfl) ?_) | (refine lw_pure rfl (pv_neq rfl rfl) ?_))) | ((refine is_un ?_; first | (refine lw_pure rfl (pv_neg rfl (by omega)) ?_))) | ((refine is_bi ?_; first | (refine lw_pure rfl (pv_lenl (tS rfl) rfl) ?_))))
          refine qw_ret1 rfl rfl ⟨ret_bool ?_, hw⟩
          symm; rw [mayR, decide_eq_false_iff_not]; intro hM
          exact hO ((may_ref.1 hM).2.2 a (by rw [List.mem_range]; omega))
    · have hal : a = 17 := by omega
      subst hal
      repeat' (first | (refine lw_pure rfl (pv_move rfl) ?_) | (refine lw_pure rfl (pv_assign rfl) ?_) | (refine is_cw ?_; first | (refine cw_seq ?_) | (refine cw_region ?_) | (refine cw_false rfl rfl ?_) | (refine cw_exit ?_) | (refine cw_ret ?_)) | (refine is_qw ?_; first | (with_reducible refine qw_then ?_) | (with_reducible refine qw_in_hit ?_) | (with_reducible refine qw_then_exit ?_)) | (refine lw_nil ?_) | ((refine is_bin ?_; first | (refine lw_pure rfl (pv_leq rfl rfl) ?_))))
      refine qw_ret1 rfl rfl ⟨ret_bool ?_, hw⟩
      symm; rw [mayR, decide_eq_true_eq]
      exact may_ref.2 ⟨hR, hp, fun b hb => hs b (by rwa [List.mem_range] at hb)⟩

abbrev intsV (S : List Int) : List Value := S.map fun x => Value.int .i64 x
theorem intsV_flat (S : List Int) : intsV S = S.flatMap encI := by
  induction S with
  | nil => rfl
  | cons x S ih => rw [List.flatMap_cons, ← ih]; rfl
theorem ptI {w : World} {B : Nat} {T : TypeId} {S : List Int} (h : PT w B T (intsV S)) {m : Nat} (hm : m = S.length) (hl : S.length ≤ 9223372036854775807) : SlR encI 1 w (some ⟨B, 0, none⟩) m S := by
  rw [intsV_flat] at h; exact PT.slR encI_len h hm (by omega)
theorem intsV_set (S : List Int) (i : Nat) (x : Int) : (intsV S).set i (.int .i64 x) = intsV (S.set i x) := (List.map_set).symm
theorem ar63 : arB Tryz.prog 161 17 1 = true := by kernel_rfl
theorem tyv63 (w : World) : (zeroValue 161).run Tryz.prog w = .ok (.agg (intsV (List.replicate 17 0)).toArray) w := by kernel_rfl
theorem tyb63 : (Tryz.prog).built 161 [] = some (intsV (List.replicate 17 0)).toArray := by kernel_rfl
def sums17 (l : List Row) : List Int := (List.range 17).map fun a => sumA l (a : Nat)
theorem sums17_len (l : List Row) : (sums17 l).length = 17 := by simp [sums17]
theorem sums17_at (l : List Row) {a : Int} (h : 0 ≤ a ∧ a ≤ 16) : (sums17 l)[a.toNat]? = some (sumA l a) := by
  unfold sums17
  rw [List.getElem?_map, List.getElem?_range (by omega)]
  simp only [Option.map_some]; congr 2; omega
theorem sums17_take {l : List Row} {k : Nat} {r : Row} (h : l[k]? = some r) (ha : 0 ≤ r.asset ∧ r.asset ≤ 16) : sums17 (l.take (k + 1)) = (sums17 (l.take k)).set r.asset.toNat (sumA (l.take k) r.asset + (r.free + r.held)) := by
  apply List.ext_getElem?
  intro i
  rw [List.getElem?_set]
  unfold sums17
  by_cases hi : i < 17
  · rw [List.getElem?_map, List.getElem?_range hi]
    by_cases hr : r.asset.toNat = i
    · subst hr
      rw [if_pos rfl, if_pos (by simp; omega)]
      simp only [Option.map_some]
      rw [show ((r.asset.toNat : Nat) : Int) = r.asset by omega, sumA_take h, if_pos rfl]
    · rw [if_neg hr, List.getElem?_map, List.getElem?_range hi]
      simp only [Option.map_some]
      rw [sumA_take h, if_neg (by omega), Int.add_zero]
  · rw [List.getElem?_eq_none (by simp; omega), if_neg (by omega), List.getElem?_eq_none (by simp; omega)]
theorem sums17_zero (l : List Row) : sums17 l = List.replicate 17 0 ↔ ∀ a ∈ List.range 17, sumA l (a : Nat) = 0 := by
  unfold sums17
  rw [show (List.replicate 17 (0 : Int)) = (List.range 17).map fun _ => (0 : Int) by decide]
  rw [List.map_inj_left]
def lastK (l : List Row) (k : Nat) : Int × Int := match k with
  | 0 => (-1, 0)
  | j + 1 => match l[j]? with
    | some r => (r.acct, r.asset)
    | none => (-1, 0)
theorem lastK_at {l : List Row} {k : Nat} {r : Row} (h : l[k]? = some r) : lastK l (k + 1) = (r.acct, r.asset) := by simp [lastK, h]
theorem may_pd (a s : Int) (w : World) : Calls Tryz.prog 131 #[.agg #[.int .i64 a, .int .i64 s]] w fun e w' => e = .returned (.bool (decide (0 ≤ a ∧ a ≤ 64 ∧ 0 ≤ s ∧ s ≤ 16))) ∧ Below w.heap.size w w' := by
  rw [← there_d]; exact may_p a s w
theorem compI_lt (a s b t : Int) : compI a s b t < 0 ↔ a < b ∨ (a = b ∧ s < t) := by
  unfold compI cmpI; (repeat' split) <;> omega
theorem wrongR_ok {r : Row} : wrongR r = 0 ↔ (r.acct = 0 ∨ (0 ≤ r.free ∧ 0 ≤ r.held ∧ r.free + r.held ≤ mostA)) := by
  have h : -9223372036854775808 ≤ r.free + r.held ∧ r.free + r.held ≤ 9223372036854775807 → IntKind.i64.wrap (r.free + r.held) = r.free + r.held := fun h => IntWalk.i64_in _ h
  unfold wrongR mostA
  (repeat' split) <;> omega
theorem ok_d (r : Row) : RowOk r ↔ (0 ≤ r.acct ∧ r.acct ≤ 64 ∧ 0 ≤ r.asset ∧ r.asset ≤ 16) ∧ wrongR r = 0 ∧ ¬ (r.free = 0 ∧ r.held = 0) ∧ ¬ (r.acct = 0 ∧ (r.held ≠ 0 ∨ 0 < r.free)) := by
  unfold RowOk
  rw [there_iff, wrongR_ok]
  omega
theorem last_lt {l : List Row} {k : Nat} {r : Row} (hp : (l.take k).Pairwise keyLt) (hx : l[k]? = some r) : compI (lastK l k).1 (lastK l k).2 r.acct r.asset < 0 → (l.take (k + 1)).Pairwise keyLt := by
  intro h
  rw [compI_lt] at h
  refine pw_snoc hp hx ?_
  cases k with
  | zero => exact Or.inl rfl
  | succ j =>
    have hj : l[j]? = some (l[j]'(by have := (List.getElem?_eq_some_iff.1 hx).1; omega)) := List.getElem?_eq_getElem _
    rw [lastK_at hj] at h
    exact Or.inr ⟨_, hj, h⟩
theorem last_not {l : List Row} {k : Nat} {r : Row} (hx : l[k]? = some r) (ha : 0 ≤ r.acct) : ¬ compI (lastK l k).1 (lastK l k).2 r.acct r.asset < 0 → ¬ l.Pairwise keyLt := by
  intro h hp
  rw [compI_lt] at h
  cases k with
  | zero => simp [lastK] at h; omega
  | succ j =>
    have hj : l[j]? = some (l[j]'(by have := (List.getElem?_eq_some_iff.1 hx).1; omega)) := List.getElem?_eq_getElem _
    rw [lastK_at hj] at h
    exact h (pw_get hp (Nat.lt_succ_self j) hj hx)
theorem slNe {α : Type} {enc : α → List Value} {k : Nat} {w : World} {a : Option Addr} {cap : Nat} {xs : List α} {N : Nat} (h : SlR enc k w a cap xs) (hN : w.heap.size ≤ N) (hc : 0 < cap) : ∀ ad, a = some ad → some ad.block ≠ some N := fun ad had e => by
  obtain ⟨_, h2, _⟩ := h.ofSome ad had hc
  injection e with e; omega
set_option maxRecDepth 20000 in
set_option maxHeartbeats 4000000 in
theorem may_c {l : List Row} {m : Nat} {ad : Option Addr} {cap : Nat} {w : World} (hm : l.length = m) (HS : SlL w ad cap l) (hin : In64R l) : Calls Tryz.prog 105 #[.slice ad m cap] w fun e w' => e = .returned (.bool (mayR l)) ∧ Below w.heap.size w w' := by
  subst hm
  have hE := Ext.refl w
  have hw := Below.refl w.heap.size w
  have hla := HS.le
  have hma := HS.max
  have HS0 := HS
  refine fn_enter 93 Tryz.func105 rfl rfl rfl ?_
  repeat' (first | (refine lw_pure rfl (pv_assign rfl) ?_) | (refine is_cw ?_; first | (refine cw_seq ?_) | (refine cw_region ?_)) | (refine is_qw ?_; first | (with_reducible refine qw_then ?_)) | (refine lw_nil ?_) | ((refine is_bd ?_; first | (refine lw_pure rfl (tyB_147 rfl rfl rfl) ?_))))
  refine lw_varN rfl (by first | exact tyv_29 | exact tyv_30 | exact tyv_33 | exact tyv_34 | exact tyv_36 | exact tyv_37 | exact tyv_38 | exact tyv_39 | exact tyv_40 | exact tyv_41 | exact tyv_43 | exact tyv_44 | exact tyv_45 | exact tyv_46 | exact tyv_73 | exact tyv_74 | exact tyv_80 | exact tyv_81 | exact tyv_107 | exact tyv_108 | exact tyv_123 | exact tyv_146 | exact tyv_147 | exact tyv_148 | exact tyv_149) rfl (tZ rfl) (fun _ => rfl) rfl rfl ?_; intro NL wn hNL HL hb; replace hNL := Nat.le_trans hw.size hNL; replace hw := grow_trans hw hb; clear hb
  replace HS := HS.mono hw
  repeat' (first | (refine is_cw ?_; first | (refine cw_seq ?_) | (refine cw_region ?_)) | (refine is_qw ?_; first | (with_reducible refine qw_then ?_)) | (refine lw_nil ?_))
  refine lw_allocN (cs := intsV (List.replicate 17 0)) rfl tyv63 rfl ?_; intro NS w2 hNS HN hb
  have hNE : NL ≠ NS := by have := HL.lt; omega
  replace HL := HL.mono hb
  have hNS0 : w.heap.size ≤ NS := Nat.le_trans hw.size hNS
  replace hw := grow_trans hw hb
  clear hb HS
  repeat' (first | (refine lw_pure rfl (pv_move rfl) ?_) | (refine is_cw ?_; first | (refine cw_seq ?_) | (refine cw_region ?_) | (refine cw_block ?_)) | (refine is_qw ?_; first | (with_reducible refine qw_then ?_)) | (refine lw_nil ?_) | ((refine is_bi ?_; first | (refine lw_pure rfl (pv_lenl (tS rfl) rfl) ?_))))
  refine cw_loop (σ := Nat) (fun k => [(0, .slice ad l.length cap), (3, .pointer (some ⟨NL, 0, none⟩)), (4, .pointer (some ⟨NS, 0, none⟩)), (11, .slice ad l.length cap), (12, .int .i64 (l.length : Nat)), (13, .int .i64 (k : Nat))]) (fun k wr => k ≤ l.length ∧ Below w.heap.size w wr ∧ (PT wr NL 147 [.int .i64 (lastK l k).1, .int .i64 (lastK l k).2] ∧ PT wr NS 161 (intsV (sums17 (l.take k)))) ∧ (∀ j, j < k → ∀ r, l[j]? = some r → RowOk r) ∧ (l.take k).Pairwise keyLt ∧ ∀ a, 0 ≤ a ∧ a ≤ 16 → -4611686018427387904 ≤ sumA (l.take k) a ∧ sumA (l.take k) a ≤ 4611686018427387904) (fun k => l.length - k) 0 (by repeat' (first | exact trivial | refine ⟨rfl, ?_⟩)) ⟨Nat.zero_le _, hw, ⟨HL, HN⟩, by omega, by simp, by intro a _; simp [sumA]⟩ ?_
  clear hw HL HN
  rintro k wr ⟨hk, hw, ⟨HL, HN⟩, hn, hp, hs⟩
  by_cases hlt : k < l.length
  · have hxk : l[k]? = some l[k] := List.getElem?_eq_getElem hlt
    obtain ⟨ab, ao, rfl, -, -⟩ := HS0.at (by intro h; rw [h] at hlt; simp at hlt)
    have hrin := hin _ (List.getElem_mem hlt)
    generalize hr : l[k] = r at hxk hrin
    have HS := HS0
    have HL0 := HL
    have HN0 := HN
    replace hE := hE.mono hw; replace HS := HS.mono hw; clear hw; have hw := Below.refl wr.heap.size wr
    repeat' (first | (refine is_cw ?_; first | (refine cw_seq ?_) | (refine cw_region ?_) | (refine is_cd ?_; refine cw_true rfl (by first | assumption | exact decide_eq_true (by omega) | exact dec_notT (by omega)) ?_) | (refine cw_skip ?_) | (refine cw_block ?_)) | (refine is_qw ?_; first | (with_reducible refine qw_then ?_)) | (refine lw_nil ?_) | ((refine is_bin ?_; first | (refine lw_pure rfl (pv_lss rfl rfl) ?_))) | ((refine is_load ?_; first | (refine lw_pure rfl (pv_loada (tA rfl) rfl (by first | exact SlR.lda (HS.mono hw) hxk) (by rfl)) ?_))) | ((refine is_ia ?_; first | (refine lw_pure rfl (pv_ian (tS rfl) rfl rfl (by omega)) ?_))))
    refine lw_varN rfl (by first | exact tyv_29 | exact tyv_30 | exact tyv_33 | exact tyv_34 | exact tyv_36 | exact tyv_37 | exact tyv_38 | exact tyv_39 | exact tyv_40 | exact tyv_41 | exact tyv_43 | exact tyv_44 | exact tyv_45 | exact tyv_46 | exact tyv_73 | exact tyv_74 | exact tyv_80 | exact tyv_81 | exact tyv_107 | exact tyv_108 | exact tyv_123 | exact tyv_146 | exact tyv_147 | exact tyv_148 | exact tyv_149) rfl (tZ rfl) (fun _ => rfl) rfl rfl ?_; intro N6 wn hN6 HX hb; replace hN6 := Nat.le_trans hw.size hN6; replace hw := grow_trans hw hb; clear hb
    replace hE := hE.mono hw; replace HS := HS.mono hw; replace HL := HL.mono hw; replace HN := HN.mono hw; clear hw; have hw := Below.refl wn.heap.size wn
    repeat' (first | (refine is_cw ?_; first | (refine cw_seq ?_) | (refine cw_region ?_)) | (refine is_qw ?_; first | (with_reducible refine qw_then ?_)) | (refine lw_nil ?_) | ((refine is_load ?_; first | (refine lw_pure rfl (pv_load (t1 rfl) rfl (by first | exact PT.ld0 (HX.mono hw) rfl | exact PT.ld (HX.mono hw) rfl)) ?_))) | ((refine is_fa ?_; first | (refine lw_pure rfl (pv_fa (tF rfl) rfl) ?_))) | ((refine is_bd ?_; first | (refine lw_pure rfl (tyB_147 rfl rfl rfl) ?_) | (refine lw_pure rfl (tyB_149 rfl rfl rfl) ?_))))
    refine lw_varN rfl (by first | exact tyv_29 | exact tyv_30 | exact tyv_33 | exact tyv_34 | exact tyv_36 | exact tyv_37 | exact tyv_38 | exact tyv_39 | exact tyv_40 | exact tyv_41 | exact tyv_43 | exact tyv_44 | exact tyv_45 | exact tyv_46 | exact tyv_73 | exact tyv_74 | exact tyv_80 | exact tyv_81 | exact tyv_107 | exact tyv_108 | exact tyv_123 | exact tyv_146 | exact tyv_147 | exact tyv_148 | exact tyv_149) rfl (tZ rfl) (fun _ => rfl) rfl rfl ?_; intro N7 wn hN7 HY hb; replace hN7 := Nat.le_trans hw.size hN7; replace hw := grow_trans hw hb; clear hb
    replace hE := hE.mono hw; replace HS := HS.mono hw; replace HL := HL.mono hw; replace HN := HN.mono hw; replace HX := HX.mono hw; clear hw; have hw := Below.refl wn.heap.size wn
    have hF : ¬ RowOk r → decide (MayR l) = false := fun h => by
      rw [decide_eq_false_iff_not]; intro hM; exact h (hM.1 r (List.mem_of_getElem? hxk))
    have hG : 0 ≤ r.acct → ¬ compI (lastK l k).1 (lastK l k).2 r.acct r.asset < 0 → decide (MayR l) = false := fun h1 h => by
      rw [decide_eq_false_iff_not]; intro hM; exact last_not hxk h1 h hM.2.1
    have hFG : ¬ (((0 ≤ r.acct ∧ r.acct ≤ 64 ∧ 0 ≤ r.asset ∧ r.asset ≤ 16) ∧ wrongR r = 0 ∧ ¬ (r.free = 0 ∧ r.held = 0) ∧ ¬ (r.acct = 0 ∧ (r.held ≠ 0 ∨ 0 < r.free))) ∧ compI (lastK l k).1 (lastK l k).2 r.acct r.asset < 0) → decide (MayR l) = false := fun h => by
      rcases Classical.em (RowOk r) with h1 | h1
      · exact hG (by have := (ok_d r).1 h1; omega) (fun h2 => h ⟨(ok_d r).1 h1, h2⟩)
      · exact hF h1
    refine lw_nil ?_; (with_reducible refine qw_then ?_)
    refine cw_cut (σ := Unit) (fun _ => [(0, .slice (some ⟨ab, ao, none⟩) l.length cap), (3, .pointer (some ⟨NL, 0, none⟩)), (4, .pointer (some ⟨NS, 0, none⟩)), (6, .pointer (some ⟨N6, 0, none⟩)), (7, .pointer (some ⟨N7, 0, none⟩)), (11, .slice (some ⟨ab, ao, none⟩) l.length cap), (12, .int .i64 (l.length : Nat)), (13, .int .i64 (k : Nat))]) (fun _ w' => Below wn.heap.size wn w' ∧ (((0 ≤ r.acct ∧ r.acct ≤ 64 ∧ 0 ≤ r.asset ∧ r.asset ≤ 16) ∧ wrongR r = 0 ∧ ¬ (r.free = 0 ∧ r.held = 0) ∧ ¬ (r.acct = 0 ∧ (r.held ≠ 0 ∨ 0 < r.free))) ∧ compI (lastK l k).1 (lastK l k).2 r.acct r.asset < 0)) ?_ ?_
    · repeat' (first | (refine lw_pure rfl (pv_move rfl) ?_) | (refine lw_pure rfl (pv_assign rfl) ?_) | (refine lw_call (f := 131) (by kernel_rfl) rfl rfl (may_pd _ _ _) ?_; rintro e w1 ⟨rfl, hb⟩; refine ⟨_, rfl, ?_⟩; replace hw := grow_trans hw hb; clear hb) | (refine lw_call (f := 123) (by kernel_rfl) rfl rfl (compare_c _ _ _ _ _) ?_; rintro e w1 ⟨rfl, hb⟩; refine ⟨_, rfl, ?_⟩; replace hw := grow_trans hw hb; clear hb) | (refine lw_call (f := 120) (by kernel_rfl) rfl rfl (wrong_c _ _) ?_; rintro e w1 ⟨rfl, hb⟩; refine ⟨_, rfl, ?_⟩; replace hw := grow_trans hw hb; clear hb) | (refine is_cw ?_; first | (refine cw_seq ?_) | (refine cw_region ?_) | (refine cw_true rfl rfl ?_) | (refine cw_false rfl rfl ?_) | (refine cw_skip ?_) | (refine cw_ret ?_)) | (refine is_qw ?_; first | (with_reducible refine qw_then ?_) | (with_reducible refine qw_then_ret ?_) | (with_reducible refine qw_in_ret ?_)) | (refine lw_nil ?_) | (refine is_guarded ?_; first | (refine lw_not rfl rfl rfl rfl ?_) | (refine lw_not_u rfl rfl rfl ?_) | (refine lw_on rfl rfl rfl ?_) | (refine lw_on rfl rfl (by first | assumption | exact decide_eq_true (by omega) | exact decide_eq_false (by omega) | exact dec_notT (by omega) | exact dec_notF (by omega)) ?_) | (refine lw_not rfl rfl rfl (by first | assumption | exact decide_eq_true (by omega) | exact decide_eq_false (by omega) | exact dec_notT (by omega) | exact dec_notF (by omega)) ?_) | (refine lw_gs_t rfl rfl rfl (fun hc => ?_) (fun hc => ?_) <;> (first | replace hc := of_decide_eq_true hc | replace hc := of_decide_eq_false hc | replace hc := dec_nT hc | replace hc := dec_nF hc | skip) <;> (try (exfalso; omega))) | (refine lw_gs_f rfl rfl rfl (fun hc => ?_) (fun hc => ?_) <;> (first | replace hc := of_decide_eq_true hc | replace hc := of_decide_eq_false hc | replace hc := dec_nT hc | replace hc := dec_nF hc | skip) <;> (try (exfalso; omega)))) | ((refine is_bin ?_; first | (refine lw_pure rfl (pv_eql rfl rfl) ?_) | (refine lw_pure rfl (pv_neq rfl rfl) ?_) | (refine lw_pure rfl (pv_gtr rfl rfl) ?_) | (refine lw_pure rfl (pv_geq rfl rfl) ?_))) | ((refine is_load ?_; first | (refine lw_pure rfl (pv_loadp (tA rfl) rfl (by first | exact PT.ldp (HY.mono hw)) (by first | (simp only [Nat.add_zero, List.drop_zero, List.take_succ_cons, List.take_zero]; rfl) | (simp only [Nat.zero_add, Nat.add_zero, List.drop_zero, List.drop_succ_cons, List.take_succ_cons, List.take_zero]; rfl) | (simp only [Nat.zero_add, List.drop_zero, List.drop_succ_cons, List.take_succ_cons, List.take_zero]; rfl)) rfl) ?_) | (refine lw_pure rfl (pv_load (t1 rfl) rfl (by first | exact PT.ld0 (HX.mono hw) rfl | exact PT.ld (HX.mono hw) rfl | exact PT.ld0 (HY.mono hw) rfl | exact PT.ld (HY.mono hw) rfl | exact PT.ld0 (HL.mono hw) rfl | exact PT.ld (HL.mono hw) rfl)) ?_) | (refine lw_pure rfl (pv_loada (tA rfl) rfl (by first | exact PT.lda (HX.mono hw) | exact PT.lda (HY.mono hw) | exact PT.lda (HL.mono hw)) (by rfl)) ?_))) | ((refine is_fa ?_; first | (refine lw_pure rfl (pv_fa (tF rfl) rfl) ?_))) | ((refine is_un ?_; first | (refine lw_pure rfl (pv_not rfl) ?_))) | (refine is_pk ?_; refine lw_pure rfl (pv_pick_t rfl rfl rfl) ?_) | (refine is_pk ?_; refine lw_pure rfl (pv_pick_f rfl rfl rfl) ?_) | (refine is_pk ?_; refine lw_pure rfl (pv_pick_t rfl (by first | assumption | exact decide_eq_true (by omega) | exact dec_notT (by omega)) rfl) ?_) | (refine is_pk ?_; refine lw_pure rfl (pv_pick_f rfl (by first | assumption | exact decide_eq_false (by omega) | exact dec_notF (by omega)) rfl) ?_) | (refine is_cw ?_; refine cw_split rfl (fun hc => ?_) (fun hc => ?_) <;> (first | replace hc := of_decide_eq_true hc | replace hc := of_decide_eq_false hc | replace hc := dec_nT hc | replace hc := dec_nF hc | skip) <;> (try (exfalso; omega))))
      all_goals first | (refine qw_join () (by repeat' (first | exact trivial | refine ⟨rfl, ?_⟩)) ⟨hw, ?_⟩; omega) | (refine qw_ret1 rfl rfl ⟨ret_bool (hFG ?_).symm, (hE.mono hw).b⟩; omega)
    rintro - w1 ⟨hw, hc1, hc2⟩
    replace hE := hE.mono hw; replace HS := HS.mono hw; replace HL := HL.mono hw; replace HN := HN.mono hw; replace HX := HX.mono hw; replace HY := HY.mono hw; clear hw; have hw := Below.refl w1.heap.size w1
    have hNL1 : NL < w1.heap.size := HL.lt
    have hnL : some NL ≠ some N6 := by intro e; injection e with e; have := HL0.lt; omega
    have hnN : some NS ≠ some N6 := by intro e; injection e with e; have := HN0.lt; omega
    have hnLN : some NL ≠ some NS := by intro e; injection e with e; exact hNE e
    repeat' (first | (refine is_cw ?_; first | (refine cw_seq ?_) | (refine cw_region ?_)) | ((refine is_load ?_; first | (refine lw_pure rfl (pv_loadp (tA rfl) rfl (by first | exact PT.ldp (HY.mono hw)) (by first | (simp only [Nat.add_zero, List.drop_zero, List.take_succ_cons, List.take_zero]; rfl) | (simp only [Nat.zero_add, Nat.add_zero, List.drop_zero, List.drop_succ_cons, List.take_succ_cons, List.take_zero]; rfl) | (simp only [Nat.zero_add, List.drop_zero, List.drop_succ_cons, List.take_succ_cons, List.take_zero]; rfl)) rfl) ?_))) | ((refine is_fa ?_; first | (refine lw_pure rfl (pv_fa (tF rfl) rfl) ?_))))
    refine lw_storea (vs := [.int .i64 r.acct, .int .i64 r.asset]) HL (tZ rfl) rfl rfl rfl rfl (by simp [Value.oneCell']) ?_; intro w2 HL hg hz9
    replace hE := hE.grown hg (by intro q hq; injection hq with hq; omega)
    replace HS := HS.grown hg (fun ad had => slNe HS0 hNL (by omega) ad had)
    replace HX := HX.grown hg hnL
    replace HN := HN.grown hg hnLN
    clear hg hz9 hw HY
    have hw := Below.refl w2.heap.size w2
    refine lw_nil ?_; (with_reducible refine qw_then ?_)
    have HI := ptI HN (m := 17) (sums17_len _).symm (by rw [sums17_len]; omega)
    have hia := sums17_at (l.take k) (a := r.asset) (by omega)
    have hsx : [sumA (l.take k) r.asset, r.free, r.held].sum = sumA (l.take k) r.asset + (r.free + r.held) := by simp
    have hin3 : In64 [sumA (l.take k) r.asset, r.free, r.held] := by
      have hnear := hs r.asset (by omega)
      intro x hx; simp at hx; rcases hx with rfl | rfl | rfl <;> omega
    have hnear : -4611686018427387904 ≤ sumA (l.take k) r.asset ∧ sumA (l.take k) r.asset ≤ 4611686018427387904 := hs _ (by omega)
    refine cw_seq ?_
    refine cw_drawn (fun w' => Below w2.heap.size w2 w') (by kernel_rfl) (by repeat (first | exact NoPanic.body | with_reducible refine NoPanic.then ?_ | with_reducible refine NoPanic.inBlock ?_)) (fun hNP => ?_)
    have hS := hw.drew
    (refine at0 0 rfl (fun w' hq => pv_fa (tF rfl) rfl) ?_)
    (refine at0 1 rfl (fun w' hq => pv_load (t1 rfl) rfl (by first | exact PT.ld0 (HX.mono hq) rfl | exact PT.ld (HX.mono hq) rfl | exact SlR.ld (HI.mono hq) hia rfl | exact SlR.ld1 (HI.mono hq) hia rfl)) ?_)
    (refine at0 2 rfl (fun w' hq => pv_iaa ar63 rfl rfl (by omega)) ?_)
    (refine at0 3 rfl (fun w' hq => pv_load (t1 rfl) rfl (by first | exact PT.ld0 (HX.mono hq) rfl | exact PT.ld (HX.mono hq) rfl | exact SlR.ld (HI.mono hq) hia rfl | exact SlR.ld1 (HI.mono hq) hia rfl)) ?_)
    (refine at0 4 rfl (fun w' hq => pv_fa (tF rfl) rfl) ?_)
    (refine at0 5 rfl (fun w' hq => pv_load (t1 rfl) rfl (by first | exact PT.ld0 (HX.mono hq) rfl | exact PT.ld (HX.mono hq) rfl | exact SlR.ld (HI.mono hq) hia rfl | exact SlR.ld1 (HI.mono hq) hia rfl)) ?_)
    (refine at0 6 rfl (fun w' hq => pv_fa (tF rfl) rfl) ?_)
    (refine at0 7 rfl (fun w' hq => pv_load (t1 rfl) rfl (by first | exact PT.ld0 (HX.mono hq) rfl | exact PT.ld (HX.mono hq) rfl | exact SlR.ld (HI.mono hq) hia rfl | exact SlR.ld1 (HI.mono hq) hia rfl)) ?_)
    refine aw_act 8 (by kernel_rfl) rfl rfl rfl ?_
    refine act_bs (vs := [.int .i64 (sumA (l.take k) r.asset), .int .i64 r.free, .int .i64 r.held]) (cs := [.int .i64 (sumA (l.take k) r.asset), .int .i64 r.free, .int .i64 r.held]) elemI rfl rfl (by omega) (by omega) rfl (by simp [Value.cells]) ?_; intro wb HC hb; refine ⟨grow_trans hS hb, fun hS => ?_⟩
    refine aw_act 9 (by kernel_rfl) rfl rfl rfl ?_
    refine act_call (f := 38) (by kernel_rfl) rfl (sum_c (xs := [sumA (l.take k) r.asset, r.free, r.held]) rfl (HC.slR encI_len rfl (by omega)) (by simp) hin3) ?_; rintro e w1 ⟨rfl, hb⟩; refine ⟨_, rfl, grow_trans hS hb, fun hS => ?_⟩
    (refine at0 10 rfl (fun w' hq => pv_move rfl) ?_)
    (refine at0 11 rfl (fun w' hq => pv_extract rfl rfl) ?_)
    (refine at0 12 rfl (fun w' hq => pv_extract rfl rfl) ?_)
    (refine at0 13 rfl (fun w' hq => pv_assign rfl) ?_)
    (refine at0 14 rfl (fun w' hq => pv_assign rfl) ?_)
    refine aw_done (by kernel_rfl) ?_
    replace hw := hS; clear hS hNP
    rw [hsx]
    have hw1 := hw
    by_cases hfar : sumA (l.take k) r.asset + (r.free + r.held) > 4611686018427387904 ∨ sumA (l.take k) r.asset + (r.free + r.held) < -4611686018427387904
    · have e2 : toldE (sumA (l.take k) r.asset + (r.free + r.held)) = 41 := by simp [toldE, farS]; omega
      rw [e2]
      repeat' (first | (refine lw_pure rfl (pv_move rfl) ?_) | (refine lw_pure rfl (pv_assign rfl) ?_) | (refine is_cw ?_; first | (refine cw_seq ?_) | (refine cw_region ?_) | (refine cw_true rfl rfl ?_) | (refine cw_ret ?_)) | (refine is_qw ?_; first | (with_reducible refine qw_then ?_) | (with_reducible refine qw_then_ret ?_) | (with_reducible refine qw_in_ret ?_)) | (refine lw_nil ?_) | ((refine is_bin ?_; first | (refine lw_pure rfl (pv_neq rfl rfl) ?_))))
      refine qw_ret1 rfl rfl ⟨ret_bool ?_, (hE.mono hw).b⟩
      symm; rw [mayR, decide_eq_false_iff_not]; intro hM
      have h1 := may_near hM (k + 1) r.asset
      rw [sumA_take hxk, if_pos rfl] at h1
      omega
    · have e1 : toldN (sumA (l.take k) r.asset + (r.free + r.held)) = sumA (l.take k) r.asset + (r.free + r.held) := by simp [toldN, farS]; omega
      have e2 : toldE (sumA (l.take k) r.asset + (r.free + r.held)) = 0 := by simp [toldE, farS]; omega
      rw [e1, e2]
      replace hE := hE.mono hw; replace HX := HX.mono hw; replace HN := HN.mono hw; clear hw; have hw := Below.refl w1.heap.size w1
      repeat' (first | (refine lw_pure rfl (pv_move rfl) ?_) | (refine is_cw ?_; first | (refine cw_seq ?_) | (refine cw_region ?_) | (refine cw_false rfl rfl ?_) | (refine cw_skip ?_)) | (refine is_qw ?_; first | (with_reducible refine qw_then ?_)) | (refine lw_nil ?_) | ((refine is_bin ?_; first | (refine lw_pure rfl (pv_neq rfl rfl) ?_))) | ((refine is_load ?_; first | (refine lw_pure rfl (pv_load (t1 rfl) rfl (by first | exact PT.ld0 (HX.mono hw) rfl | exact PT.ld (HX.mono hw) rfl)) ?_))) | ((refine is_fa ?_; first | (refine lw_pure rfl (pv_fa (tF rfl) rfl) ?_))) | ((refine is_ia ?_; first | (refine lw_pure rfl (pv_iaa ar63 rfl rfl (by omega)) ?_))))
      refine lw_store (i := 0 + r.asset.toNat * 1) (v := .int .i64 (sumA (l.take k) r.asset + (r.free + r.held))) HN (tZ rfl) rfl rfl rfl (by simp [sums17]; omega) ?_; intro w3 HN hg hz9
      replace hE := hE.grown hg (by intro q hq; injection hq with hq; omega)
      replace HL := (HL.mono hw1).grown hg (by intro e; exact hnLN e.symm)
      clear hg hz9 hw
      have hw := Below.refl w3.heap.size w3
      rw [show 0 + r.asset.toNat * 1 = r.asset.toNat by omega, intsV_set, ← sums17_take hxk (by omega)] at HN
      repeat' (first | (refine lw_pure rfl (pv_move rfl) ?_) | (refine is_cw ?_; first | (refine cw_region ?_)) | (refine is_qw ?_; first | (with_reducible refine qw_then ?_) | (with_reducible refine qw_in ?_)) | (refine lw_nil ?_) | ((refine is_bin ?_; first | (refine lw_pure rfl (pv_inc rfl rfl (by omega)) ?_))))
      refine qw_round (k + 1) (by repeat' (first | exact trivial | refine ⟨rfl, ?_⟩)) ⟨by omega, (hE.mono hw).b, ⟨?_, HN⟩, ?_, last_lt hp hxk hc2, ?_⟩ (by omega)
      · rw [lastK_at hxk]; exact HL
      · intro j hj x hx
        by_cases hjk : j = k
        · subst hjk; rw [hxk] at hx; injection hx with hx; subst hx; exact (ok_d _).2 hc1
        · exact hn j (by omega) x hx
      · intro a ha
        rw [sumA_take hxk]
        by_cases hra : r.asset = a
        · subst hra; rw [if_pos rfl]; omega
        · rw [if_neg hra, Int.add_zero]; exact hs a ha
  · have hkl : k = l.length := by omega
    subst hkl
    rw [List.take_length] at HN hp
    have hlen := sums17_len l
    repeat' (first | (refine lw_pure rfl (pv_assign rfl) ?_) | (refine lw_pure rfl (pv_build0 tyb63) ?_) | (refine lw_pure rfl (pv_eqlA .eql rfl Tryz.underlying161 Tryz.underlying2 (tZ rfl) (by kernel_rfl) (sums17 l) (List.replicate 17 0) hlen (by simp) rfl rfl) ?_) | (refine is_cw ?_; first | (refine cw_seq ?_) | (refine cw_region ?_) | (refine is_cd ?_; refine cw_false rfl (by first | assumption | exact decide_eq_false (by omega) | exact dec_notF (by omega)) ?_) | (refine cw_exit ?_) | (refine cw_ret ?_)) | (refine is_qw ?_; first | (with_reducible refine qw_then ?_) | (with_reducible refine qw_in_hit ?_) | (with_reducible refine qw_then_exit ?_)) | (refine lw_nil ?_) | ((refine is_bin ?_; first | (refine lw_pure rfl (pv_lss rfl rfl) ?_))) | ((refine is_load ?_; first | (refine lw_pure rfl (pv_loada (tA rfl) rfl (by first | exact PT.lda HN) (by rfl)) ?_))))
    refine qw_ret1 rfl rfl ⟨ret_bool ?_, hw⟩
    rw [mayR, decide_eq_decide, sums17_zero]
    exact ⟨fun h => ⟨mem_of_all hn, hp, h⟩, fun h => h.2.2⟩
end Go.Proofs.YtekomjnjddhfmaaGreat
namespace Go.Proofs.YtekomjnjddhfmaaGreat
open Go.RowKit Go.PlainAid

theorem amay_e {a : Auc} {ba : Option Addr} {bc : Nat} {b : Bool} {w : World} (hB : mayAu a = b) (HS : SlR encD 2 w ba bc a.bids) : Calls Tryz.prog 69 #[.agg #[.int .i64 a.h.id, .int .i64 a.h.seller, .int .i64 a.h.inst, .bool a.h.shut, .int .i64 a.h.qty, .int .i64 a.h.reserve, .int .i64 a.h.step, .int .i64 a.h.fin, .slice ba a.bids.length bc]] w fun e w' => e = .returned (.bool b) ∧ Below w.heap.size w w' := by
  subst hB; exact amay_c (x := ⟨a.h, ba, a.bids.length, bc⟩) (a := a) ⟨rfl, rfl, HS⟩
def lastA (l : List Auc) (k : Nat) : Int := match k with
  | 0 => 0
  | j + 1 => match l[j]? with
    | some a => a.h.id
    | none => 0
theorem lastA_at {l : List Auc} {k : Nat} {a : Auc} (h : l[k]? = some a) : lastA l (k + 1) = a.h.id := by simp [lastA, h]
theorem lastA_no {l : List Auc} {k : Nat} {a : Auc} (h : l[k]? = some a) (hl : a.h.id ≤ lastA l k) : mayAus l = false := by
  cases k with
  | zero =>
    refine mayAus_no1 h ?_
    rw [← Bool.not_eq_true, mayAu_iff, headB_iff]
    intro hM; have := hM.1.1.1; unfold lastA at hl; simp only at hl; omega
  | succ j =>
    have hj : l[j]? = some (l[j]'(by have := (List.getElem?_eq_some_iff.1 h).1; omega)) := List.getElem?_eq_getElem _
    rw [lastA_at hj] at hl
    exact mayAus_no2 hj h hl
theorem lastA_yes {l : List Auc} {j : Nat} {x y : Auc} (hx : l[j]? = some x) (h : lastA l (j + 1) < y.h.id) : x.h.id < y.h.id := by rwa [lastA_at hx] at h
set_option maxRecDepth 20000 in
set_option maxHeartbeats 4000000 in
theorem amayAll_c {xs : List AucC} {l : List Auc} {m : Nat} {ad : Option Addr} {cap : Nat} {w : World} (hm : l.length = m) (HS : SlR encC 9 w ad cap xs) (HA : AusR w xs l) : Calls Tryz.prog 31 #[.slice ad m cap] w fun e w' => e = .returned (.bool (mayAus l)) ∧ Below w.heap.size w w' := by
  subst hm
  have hw := Below.refl w.heap.size w
  have hla := HS.le
  have hma := HS.max
  have hln := HA.1
  refine fn_enter 27 Tryz.func31 rfl rfl rfl ?_
  repeat' (first | (refine lw_pure rfl (pv_move rfl) ?_) | (refine lw_pure rfl (pv_assign rfl) ?_) | (refine is_cw ?_; first | (refine cw_seq ?_) | (refine cw_region ?_) | (refine cw_block ?_)) | (refine is_qw ?_; first | (with_reducible refine qw_then ?_)) | (refine lw_nil ?_) | ((refine is_bi ?_; first | (refine lw_pure rfl (pv_lenl (tS rfl) rfl) ?_))))
  refine cw_loop (σ := Nat) (fun k => [(0, .slice ad l.length cap), (3, .int .i64 (lastA l k)), (6, .slice ad l.length cap), (7, .int .i64 (l.length : Nat)), (8, .int .i64 (k : Nat))]) (fun k wr => k ≤ l.length ∧ Below w.heap.size w wr ∧ (∀ (j : Nat) a, j < k → l[j]? = some a → mayAu a = true) ∧ ∀ (j : Nat) a, j < k → l[j]? = some a → lastA l j < a.h.id) (fun k => l.length - k) 0 (by repeat' (first | exact trivial | refine ⟨rfl, ?_⟩)) ⟨Nat.zero_le _, hw, fun j a hj => by omega, fun j a hj => by omega⟩ ?_
  clear hw
  rintro k wr ⟨hk, hw, hn1, hn2⟩
  by_cases hlt : k < l.length
  · have hak : l[k]? = some (l[k]'(by omega)) := List.getElem?_eq_getElem _
    obtain ⟨ab, ao, rfl, -, -⟩ := HS.at (by intro h; rw [h] at hln; simp at hln; omega)
    generalize l[k]'(by omega) = a at hak
    obtain ⟨x, hxk, hR⟩ := HA.at hak
    obtain ⟨xh, ba, bm, bc⟩ := x
    obtain ⟨hh, hm, HB⟩ := hR
    simp only at hh hm HB
    subst hh hm
    have hE := Ext.mk hw
    replace HS := HS.mono hw
    replace HB := HB.mono hw
    clear hw
    have hw := Below.refl wr.heap.size wr
    repeat' (first | (refine is_cw ?_; first | (refine cw_seq ?_) | (refine cw_region ?_) | (refine is_cd ?_; refine cw_true rfl (by first | assumption | exact decide_eq_true (by omega) | exact dec_notT (by omega)) ?_) | (refine cw_skip ?_) | (refine cw_block ?_)) | (refine is_qw ?_; first | (with_reducible refine qw_then ?_)) | (refine lw_nil ?_) | ((refine is_bin ?_; first | (refine lw_pure rfl (pv_lss rfl rfl) ?_))) | ((refine is_load ?_; first | (refine lw_pure rfl (pv_loada (tA rfl) rfl (by first | exact SlR.lda (HS.mono hw) hxk) (by rfl)) ?_))) | ((refine is_ia ?_; first | (refine lw_pure rfl (pv_ian (tS rfl) rfl rfl (by omega)) ?_))))
    refine lw_varN rfl (by first | exact tyv_29 | exact tyv_30 | exact tyv_33 | exact tyv_34 | exact tyv_36 | exact tyv_37 | exact tyv_38 | exact tyv_39 | exact tyv_40 | exact tyv_41 | exact tyv_43 | exact tyv_44 | exact tyv_45 | exact tyv_46 | exact tyv_73 | exact tyv_74 | exact tyv_80 | exact tyv_81 | exact tyv_107 | exact tyv_108 | exact tyv_123 | exact tyv_146 | exact tyv_147 | exact tyv_148 | exact tyv_149) rfl (tZ rfl) (fun _ => rfl) rfl rfl ?_; intro N5 wn hN5 HX hb
    replace HX : PT wn N5 44 [.int .i64 a.h.id, .int .i64 a.h.seller, .int .i64 a.h.inst, .bool a.h.shut, .int .i64 a.h.qty, .int .i64 a.h.reserve, .int .i64 a.h.step, .int .i64 a.h.fin, .slice ba a.bids.length bc] := HX
    replace hw := grow_trans hw hb
    clear hb
    replace hE := hE.mono hw; replace HB := HB.mono hw; clear hw; have hw := Below.refl wn.heap.size wn
    by_cases hid : a.h.id ≤ lastA l k
    · rw [lastA_no hak hid]
      repeat' (first | (refine lw_pure rfl (pv_move rfl) ?_) | (refine lw_pure rfl (pv_assign rfl) ?_) | (refine is_cw ?_; first | (refine cw_seq ?_) | (refine cw_region ?_) | (refine cw_true rfl rfl ?_) | (refine cw_ret ?_)) | (refine is_qw ?_; first | (with_reducible refine qw_then ?_) | (with_reducible refine qw_then_ret ?_) | (with_reducible refine qw_in_ret ?_)) | (refine lw_nil ?_) | (refine is_guarded ?_; first | (refine lw_not rfl rfl rfl (by first | assumption | exact decide_eq_true (by omega) | exact decide_eq_false (by omega) | exact dec_notT (by omega) | exact dec_notF (by omega)) ?_)) | ((refine is_bin ?_; first | (refine lw_pure rfl (pv_leq rfl rfl) ?_))) | ((refine is_load ?_; first | (refine lw_pure rfl (pv_load (t1 rfl) rfl (by first | exact PT.ld0 (HX.mono hw) rfl | exact PT.ld (HX.mono hw) rfl)) ?_))) | ((refine is_fa ?_; first | (refine lw_pure rfl (pv_fa (tF rfl) rfl) ?_))) | (refine is_pk ?_; refine lw_pure rfl (pv_pick_t rfl (by first | assumption | exact decide_eq_true (by omega) | exact dec_notT (by omega)) rfl) ?_))
      exact qw_ret1 rfl rfl ⟨rfl, (hE.mono hw).b⟩
    · cases hM : mayAu a with
      | false =>
        rw [mayAus_no1 hak hM]
        repeat' (first | (refine lw_pure rfl (pv_move rfl) ?_) | (refine lw_pure rfl (pv_assign rfl) ?_) | (refine lw_call (f := 69) (by kernel_rfl) rfl rfl (amay_e hM (HB.mono hw)) ?_; rintro e w1 ⟨rfl, hb⟩; refine ⟨_, rfl, ?_⟩; replace hw := grow_trans hw hb; clear hb) | (refine is_cw ?_; first | (refine cw_seq ?_) | (refine cw_region ?_) | (refine cw_true rfl rfl ?_) | (refine cw_ret ?_)) | (refine is_qw ?_; first | (with_reducible refine qw_then ?_) | (with_reducible refine qw_then_ret ?_) | (with_reducible refine qw_in_ret ?_)) | (refine lw_nil ?_) | (refine is_guarded ?_; first | (refine lw_on rfl rfl (by first | assumption | exact decide_eq_true (by omega) | exact decide_eq_false (by omega) | exact dec_notT (by omega) | exact dec_notF (by omega)) ?_)) | ((refine is_bin ?_; first | (refine lw_pure rfl (pv_leq rfl rfl) ?_))) | ((refine is_load ?_; first | (refine lw_pure rfl (pv_load (t1 rfl) rfl (by first | exact PT.ld0 (HX.mono hw) rfl | exact PT.ld (HX.mono hw) rfl)) ?_) | (refine lw_pure rfl (pv_loada (tA rfl) rfl (by first | exact PT.lda (HX.mono hw)) (by rfl)) ?_))) | ((refine is_fa ?_; first | (refine lw_pure rfl (pv_fa (tF rfl) rfl) ?_))) | ((refine is_un ?_; first | (refine lw_pure rfl (pv_not rfl) ?_))) | (refine is_pk ?_; refine lw_pure rfl (pv_pick_f rfl (by first | assumption | exact decide_eq_false (by omega) | exact dec_notF (by omega)) rfl) ?_))
        exact qw_ret1 rfl rfl ⟨rfl, (hE.mono hw).b⟩
      | true =>
        repeat' (first | (refine lw_pure rfl (pv_move rfl) ?_) | (refine lw_pure rfl (pv_assign rfl) ?_) | (refine lw_call (f := 69) (by kernel_rfl) rfl rfl (amay_e hM (HB.mono hw)) ?_; rintro e w1 ⟨rfl, hb⟩; refine ⟨_, rfl, ?_⟩; replace hw := grow_trans hw hb; clear hb) | (refine is_cw ?_; first | (refine cw_seq ?_) | (refine cw_region ?_) | (refine cw_false rfl rfl ?_) | (refine cw_skip ?_)) | (refine is_qw ?_; first | (with_reducible refine qw_then ?_) | (with_reducible refine qw_in ?_)) | (refine lw_nil ?_) | (refine is_guarded ?_; first | (refine lw_on rfl rfl (by first | assumption | exact decide_eq_true (by omega) | exact decide_eq_false (by omega) | exact dec_notT (by omega) | exact dec_notF (by omega)) ?_)) | ((refine is_bin ?_; first | (refine lw_pure rfl (pv_leq rfl rfl) ?_) | (refine lw_pure rfl (pv_inc rfl rfl (by omega)) ?_))) | ((refine is_load ?_; first | (refine lw_pure rfl (pv_load (t1 rfl) rfl (by first | exact PT.ld0 (HX.mono hw) rfl | exact PT.ld (HX.mono hw) rfl)) ?_) | (refine lw_pure rfl (pv_loada (tA rfl) rfl (by first | exact PT.lda (HX.mono hw)) (by rfl)) ?_))) | ((refine is_fa ?_; first | (refine lw_pure rfl (pv_fa (tF rfl) rfl) ?_))) | ((refine is_un ?_; first | (refine lw_pure rfl (pv_not rfl) ?_))) | (refine is_pk ?_; refine lw_pure rfl (pv_pick_f rfl (by first | assumption | exact decide_eq_false (by omega) | exact dec_notF (by omega)) rfl) ?_))
        rw [← lastA_at hak]
        refine qw_round (k + 1) (by repeat' (first | exact trivial | refine ⟨rfl, ?_⟩)) ⟨by omega, (hE.mono hw).b, fun j u hj hu => ?_, fun j u hj hu => ?_⟩ (by omega)
        · by_cases hjk : j = k
          · subst hjk; rw [hak] at hu; injection hu with hu; subst hu; exact hM
          · exact hn1 j u (by omega) hu
        · by_cases hjk : j = k
          · subst hjk; rw [hak] at hu; injection hu with hu; subst hu; omega
          · exact hn2 j u (by omega) hu
  · have hkl : k = l.length := by omega
    subst hkl
    rw [mayAus_end (fun j a ha => hn1 j a (List.getElem?_eq_some_iff.1 ha).1 ha) (fun j x y hx hy => lastA_yes hx (hn2 (j + 1) y (List.getElem?_eq_some_iff.1 hy).1 hy))]
    repeat' (first | (refine lw_pure rfl (pv_move rfl) ?_) | (refine lw_pure rfl (pv_assign rfl) ?_) | (refine is_cw ?_; first | (refine cw_seq ?_) | (refine cw_region ?_) | (refine is_cd ?_; refine cw_false rfl (by first | assumption | exact decide_eq_false (by omega) | exact dec_notF (by omega)) ?_) | (refine cw_exit ?_) | (refine cw_ret ?_)) | (refine is_qw ?_; first | (with_reducible refine qw_then ?_) | (with_reducible refine qw_in_hit ?_) | (with_reducible refine qw_then_exit ?_)) | (refine lw_nil ?_) | ((refine is_bin ?_; first | (refine lw_pure rfl (pv_lss rfl rfl) ?_) | (refine lw_pure rfl (pv_leq rfl rfl) ?_))) | ((refine is_bi ?_; first | (refine lw_pure rfl (pv_lenl (tS rfl) rfl) ?_))))
    refine qw_ret1 rfl rfl ⟨ret_bool ?_, hw⟩
    rw [decide_eq_decide]; omega

set_option maxRecDepth 20000 in
theorem btw3_c (n lo hi : Int) (w : World) : Calls Tryz.prog 101 #[.int .i64 n, .int .i64 lo, .int .i64 hi] w fun e w' => e = .returned (.bool (decide (lo ≤ n ∧ n ≤ hi))) ∧ Below w.heap.size w w' := by
  have hw := Below.refl w.heap.size w
  refine fn_enter 15 Tryz.func101 rfl rfl rfl ?_
  repeat' (first | (refine lw_pure rfl (pv_move rfl) ?_) | (refine lw_pure rfl (pv_assign rfl) ?_) | (refine is_cw ?_; first | (refine cw_seq ?_) | (refine cw_region ?_) | (refine cw_ret ?_)) | (refine is_qw ?_; first | (with_reducible refine qw_then ?_)) | (refine lw_nil ?_) | (refine is_guarded ?_; first | (refine lw_on rfl rfl (by first | assumption | exact decide_eq_true (by omega) | exact decide_eq_false (by omega) | exact dec_notT (by omega) | exact dec_notF (by omega)) ?_) | (refine lw_not rfl rfl rfl (by first | assumption | exact decide_eq_true (by omega) | exact decide_eq_false (by omega) | exact dec_notT (by omega) | exact dec_notF (by omega)) ?_) | (refine lw_gs_t rfl rfl rfl (fun hc => ?_) (fun hc => ?_) <;> (first | replace hc := of_decide_eq_true hc | replace hc := of_decide_eq_false hc | replace hc := dec_nT hc | replace hc := dec_nF hc | skip) <;> (try (exfalso; omega)))) | ((refine is_bin ?_; first | (refine lw_pure rfl (pv_leq rfl rfl) ?_) | (refine lw_pure rfl (pv_geq rfl rfl) ?_))) | (refine is_pk ?_; refine lw_pure rfl (pv_pick_t rfl (by first | assumption | exact decide_eq_true (by omega) | exact dec_notT (by omega)) rfl) ?_) | (refine is_pk ?_; refine lw_pure rfl (pv_pick_f rfl (by first | assumption | exact decide_eq_false (by omega) | exact dec_notF (by omega)) rfl) ?_))
  all_goals (refine qw_ret1 rfl rfl ⟨ret_bool ?_, hw⟩; first | rfl | (rw [decide_eq_decide]; omega) | (symm; rw [decide_eq_true_eq]; omega) | (symm; rw [decide_eq_false_iff_not]; omega))
set_option maxRecDepth 20000 in
theorem num1_c (n : Int) (w : World) : Calls Tryz.prog 100 #[.int .i64 n] w fun e w' => e = .returned (.bool (decide (1 ≤ n ∧ n ≤ 1099511627777))) ∧ Below w.heap.size w w' := by
  have hw := Below.refl w.heap.size w
  refine fn_enter 5 Tryz.func100 rfl rfl rfl ?_
  repeat' (first | (refine lw_pure rfl (pv_move rfl) ?_) | (refine lw_pure rfl (pv_assign rfl) ?_) | (refine lw_call (f := 101) (by kernel_rfl) rfl rfl (btw3_c _ _ _ _) ?_; rintro e w1 ⟨rfl, hb⟩; refine ⟨_, rfl, ?_⟩; replace hw := grow_trans hw hb; clear hb) | (refine is_cw ?_; first | (refine cw_seq ?_) | (refine cw_region ?_) | (refine cw_ret ?_)) | (refine is_qw ?_; first | (with_reducible refine qw_then ?_)) | (refine lw_nil ?_))
  exact qw_ret1 rfl rfl ⟨rfl, hw⟩
theorem num1_v (n : Int) (w : World) : Calls Tryz.prog 100 (#[] ++ [Value.int .i64 n].toArray ++ #[]) w fun e w' => e = .returned (.bool (decide (1 ≤ n ∧ n ≤ 1099511627777))) ∧ Below w.heap.size w w' := num1_c n w
set_option maxRecDepth 20000 in
set_option maxHeartbeats 2000000 in
theorem numbers_c {s : SttC} {t : Stt} {w : World} (hS : StR w s t) : Calls Tryz.prog 70 #[(.agg (encS s).toArray)] w fun e w' => e = .returned (.bool (numsB t)) ∧ Below w.heap.size w w' := by
  obtain ⟨n1, n2, n3, n4⟩ := hS.n
  unfold numsB
  rw [← n1, ← n2, ← n3, ← n4]
  have hE := Ext.refl w
  have hw := Below.refl w.heap.size w
  refine fn_enter 24 Tryz.func70 rfl rfl rfl ?_
  repeat' (first | (refine is_cw ?_; first | (refine cw_seq ?_) | (refine cw_region ?_)))
  refine lw_boxN rfl rfl (cs := encS s) rfl ?_; intro N2 wn hN2 HX hb; replace hN2 := Nat.le_trans hw.size hN2; replace hw := grow_trans hw hb; clear hb
  replace hE := hE.mono hw; clear hw; have hw := Below.refl wn.heap.size wn
  repeat' (first | (refine lw_pure rfl (pv_move rfl) ?_) | (refine lw_pure rfl (pv_assign rfl) ?_) | (refine lw_call (f := 101) (by kernel_rfl) rfl rfl (btw3_c _ _ _ _) ?_; rintro e w1 ⟨rfl, hb⟩; refine ⟨_, rfl, ?_⟩; replace hw := grow_trans hw hb; clear hb) | (refine lw_callv (f := 100) rfl (by kernel_rfl) rfl rfl (num1_v _ _) ?_; rintro e w1 ⟨rfl, hb⟩; refine ⟨_, rfl, ?_⟩; replace hw := grow_trans hw hb; clear hb) | (refine is_cw ?_; first | (refine cw_seq ?_) | (refine cw_region ?_) | (refine cw_ret ?_)) | (refine is_qw ?_; first | (with_reducible refine qw_then ?_)) | (refine lw_nil ?_) | (refine is_guarded ?_; first | (refine lw_not rfl rfl rfl rfl ?_) | (refine lw_on rfl rfl (by first | assumption | exact decide_eq_true (by omega) | exact decide_eq_false (by omega) | exact dec_notT (by omega) | exact dec_notF (by omega)) ?_) | (refine lw_not rfl rfl rfl (by first | assumption | exact decide_eq_true (by omega) | exact decide_eq_false (by omega) | exact dec_notT (by omega) | exact dec_notF (by omega)) ?_) | (refine lw_gs_t rfl rfl rfl (fun hc => ?_) (fun hc => ?_) <;> (first | replace hc := of_decide_eq_true hc | replace hc := of_decide_eq_false hc | replace hc := dec_nT hc | replace hc := dec_nF hc | skip) <;> (try (exfalso; omega)))) | ((refine is_load ?_; first | (refine lw_pure rfl (pv_load (t1 rfl) rfl (by first | exact PT.ld0 (HX.mono hw) rfl | exact PT.ld (HX.mono hw) rfl)) ?_))) | ((refine is_fa ?_; first | (refine lw_pure rfl (pv_fa (tF rfl) rfl) ?_))) | (refine is_pk ?_; refine lw_pure rfl (pv_pick_f rfl rfl rfl) ?_) | (refine is_pk ?_; refine lw_pure rfl (pv_pick_t rfl (by first | assumption | exact decide_eq_true (by omega) | exact dec_notT (by omega)) rfl) ?_) | (refine is_pk ?_; refine lw_pure rfl (pv_pick_f rfl (by first | assumption | exact decide_eq_false (by omega) | exact dec_notF (by omega)) rfl) ?_))
  all_goals (refine qw_ret1 rfl rfl ⟨ret_bool ?_, (hE.mono hw).b⟩; first | rfl | (rw [decide_eq_decide]; omega) | (symm; rw [decide_eq_true_eq]; omega) | (symm; rw [decide_eq_false_iff_not]; omega))
theorem open_e {s : SttC} {t : Stt} {a : Int} {b : Bool} {w : World} (h : openB t.accs a = b) (hS : StR w s t) : Calls Tryz.prog 104 #[(.agg (encS s).toArray), .int .i64 a] w fun e w' => e = .returned (.bool b) ∧ Below w.heap.size w w' := by
  subst h; exact open_c hS
theorem there_e {s : SttC} {t : Stt} {a : Int} {b : Bool} {w : World} (h : isB t.inss a = b) (hS : StR w s t) : Calls Tryz.prog 110 #[(.agg (encS s).toArray), .int .i64 a] w fun e w' => e = .returned (.bool b) ∧ Below w.heap.size w w' := by
  subst h; exact thereI_c hS
set_option maxRecDepth 20000 in
set_option maxHeartbeats 2000000 in
theorem rowsF_c {s : SttC} {t : Stt} {r : Row} {N : Nat} {w : World} (hS : StR w s t) (HP : PT w N 30 (encS s)) : Calls Tryz.prog 103 #[.agg (encR r).toArray, .pointer (some ⟨N, 0, none⟩)] w fun e w' => e = .returned (.bool (rowW t r)) ∧ Below w.heap.size w w' := by
  have hmi := hS.mi
  have hil := hS.I.le
  have him := hS.I.max
  have hE := Ext.refl w
  have hw := Below.refl w.heap.size w
  refine fn_enter 22 Tryz.func103 rfl rfl rfl ?_
  repeat' (first | (refine is_cw ?_; first | (refine cw_seq ?_) | (refine cw_region ?_)))
  refine lw_boxN rfl rfl (cs := encR r) rfl ?_; intro N2 wn hN2 HX hb; replace hN2 := Nat.le_trans hw.size hN2; replace hw := grow_trans hw hb; clear hb
  replace hE := hE.mono hw; replace hS := hS.mono hw; replace HP := HP.mono hw; clear hw; have hw := Below.refl wn.heap.size wn
  cases hO : openB t.accs r.acct <;> by_cases h0 : r.acct = 0 <;> by_cases hL : (t.inss.length : Int) < r.asset
  all_goals (repeat' (first | (refine lw_pure rfl (pv_move rfl) ?_) | (refine lw_pure rfl (pv_assign rfl) ?_) | (refine lw_call (f := 104) (by kernel_rfl) rfl rfl (open_e hO (hS.mono hw)) ?_; rintro e w1 ⟨rfl, hb⟩; refine ⟨_, rfl, ?_⟩; replace hw := grow_trans hw hb; clear hb) | (refine is_cw ?_; first | (refine cw_seq ?_) | (refine cw_region ?_) | (refine cw_ret ?_)) | (refine is_qw ?_; first | (with_reducible refine qw_then ?_)) | (refine lw_nil ?_) | (refine is_guarded ?_; first | (refine lw_not rfl rfl rfl rfl ?_) | (refine lw_on rfl rfl rfl ?_) | (refine lw_on rfl rfl (by first | assumption | exact decide_eq_true (by omega) | exact decide_eq_false (by omega) | exact dec_notT (by omega) | exact dec_notF (by omega)) ?_) | (refine lw_not rfl rfl rfl (by first | assumption | exact decide_eq_true (by omega) | exact decide_eq_false (by omega) | exact dec_notT (by omega) | exact dec_notF (by omega)) ?_)) | ((refine is_bin ?_; first | (refine lw_pure rfl (pv_neq rfl rfl) ?_) | (refine lw_pure rfl (pv_gtr rfl rfl) ?_))) | ((refine is_load ?_; first | (refine lw_pure rfl (pv_load (t1 rfl) rfl (by first | exact PT.ld0 (HX.mono hw) rfl | exact PT.ld (HX.mono hw) rfl | exact PT.ld0 (HP.mono hw) rfl | exact PT.ld (HP.mono hw) rfl)) ?_) | (refine lw_pure rfl (pv_loada (tA rfl) rfl (by first | exact PT.lda (HX.mono hw) | exact PT.lda (HP.mono hw)) (by rfl)) ?_))) | ((refine is_fa ?_; first | (refine lw_pure rfl (pv_fa (tF rfl) rfl) ?_))) | ((refine is_un ?_; first | (refine lw_pure rfl (pv_not rfl) ?_))) | ((refine is_bi ?_; first | (refine lw_pure rfl (pv_lenl (tS rfl) rfl) ?_))) | (refine is_pk ?_; refine lw_pure rfl (pv_pick_t rfl rfl rfl) ?_) | (refine is_pk ?_; refine lw_pure rfl (pv_pick_f rfl rfl rfl) ?_) | (refine is_pk ?_; refine lw_pure rfl (pv_pick_t rfl (by first | assumption | exact decide_eq_true (by omega) | exact dec_notT (by omega)) rfl) ?_) | (refine is_pk ?_; refine lw_pure rfl (pv_pick_f rfl (by first | assumption | exact decide_eq_false (by omega) | exact dec_notF (by omega)) rfl) ?_)))
  all_goals (refine qw_ret1 rfl rfl ⟨ret_bool ?_, (hE.mono hw).b⟩; unfold rowW; rw [hO])
  all_goals first | (simp [h0, hL]; done) | (simp [h0, hL, ← hmi]; done) | (simp [h0, hL, ← hmi]; omega)
set_option maxRecDepth 20000 in
theorem indexf_R {xs : List Row} {m : Nat} {ad : Option Addr} {cap : Nat} {w : World} (base : Nat) (p : Row → Bool) (F : FuncId) (caps : Array Value) (he : entersB Tryz.prog F = true) (hbw : base ≤ w.heap.size) (hF : ∀ x, x ∈ xs → ∀ w', Below base w w' → Calls Tryz.prog F (#[] ++ [Value.agg (encR x).toArray].toArray ++ caps) w' fun e w'' => e = .returned (.bool (p x)) ∧ Below w'.heap.size w' w'') (hm : xs.length = m) (HS : SlR encR 4 w ad cap xs) : Calls Tryz.prog 132 #[.slice ad m cap, .func (.func F) #[] caps] w fun e w' => (∃ i, e = .returned (.int .i64 i) ∧ ((i = -1 ∧ ∀ x ∈ xs, p x = false) ∨ ∃ (k : Nat) (r : Row), i = k ∧ xs[k]? = some r ∧ p r = true ∧ ∀ x ∈ xs.take k, p x = false)) ∧ Below w.heap.size w w' := by
  subst hm
  have hw := Below.refl w.heap.size w
  have hla := HS.le
  have hma := HS.max
  refine fn_enter 19 Tryz.func132 rfl rfl rfl ?_
  repeat' (first | (refine lw_pure rfl (pv_move rfl) ?_) | (refine lw_pure rfl (pv_assign rfl) ?_) | (refine is_cw ?_; first | (refine cw_seq ?_) | (refine cw_region ?_) | (refine cw_block ?_)) | (refine is_qw ?_; first | (with_reducible refine qw_then ?_)) | (refine lw_nil ?_) | ((refine is_bi ?_; first | (refine lw_pure rfl (pv_lenl (tS rfl) rfl) ?_))))
  refine cw_loop (σ := Nat) (fun k => [(0, .slice ad xs.length cap), (1, .func (.func F) #[] caps), (7, .int .i64 (xs.length : Nat)), (8, .int .i64 (k : Nat))]) (fun k wr => k ≤ xs.length ∧ Below w.heap.size w wr ∧ ∀ x ∈ xs.take k, p x = false) (fun k => xs.length - k) 0 (by repeat' (first | exact trivial | refine ⟨rfl, ?_⟩)) ⟨Nat.zero_le _, hw, by simp⟩ ?_
  clear hw
  rintro k wr ⟨hk, hw, hn⟩
  by_cases hlt : k < xs.length
  · have hxk : xs[k]? = some xs[k] := List.getElem?_eq_getElem hlt
    have hmem := List.getElem_mem hlt
    obtain ⟨ab, ao, rfl, -, -⟩ := HS.at (by intro h; rw [h] at hlt; simp at hlt)
    generalize xs[k] = x at hxk hmem
    repeat' (first | (refine lw_pure rfl (pv_move rfl) ?_) | (refine lw_pure rfl (pv_assign rfl) ?_) | (refine is_cw ?_; first | (refine cw_seq ?_) | (refine cw_region ?_) | (refine is_cd ?_; refine cw_true rfl (by first | assumption | exact decide_eq_true (by omega) | exact dec_notT (by omega)) ?_) | (refine cw_skip ?_) | (refine cw_block ?_)) | (refine is_qw ?_; first | (with_reducible refine qw_then ?_)) | (refine lw_nil ?_) | ((refine is_bin ?_; first | (refine lw_pure rfl (pv_lss rfl rfl) ?_))) | ((refine is_load ?_; first | (refine lw_pure rfl (pv_loada (tA rfl) rfl (by first | exact SlR.lda (HS.mono hw) hxk) (by rfl)) ?_))) | ((refine is_ia ?_; first | (refine lw_pure rfl (pv_ian (tS rfl) rfl rfl (by omega)) ?_))))
    refine lw_callv (f := F) rfl he rfl rfl (hF x hmem _ (hw.mono hbw)) ?_; rintro e w1 ⟨rfl, hb⟩; refine ⟨_, rfl, ?_⟩; replace hw := grow_trans hw hb; clear hb
    cases hp : p x with
    | true =>
      repeat' (first | (refine lw_pure rfl (pv_move rfl) ?_) | (refine lw_pure rfl (pv_assign rfl) ?_) | (refine is_cw ?_; first | (refine cw_seq ?_) | (refine cw_region ?_) | (refine cw_true rfl rfl ?_) | (refine cw_ret ?_)) | (refine is_qw ?_; first | (with_reducible refine qw_then ?_) | (with_reducible refine qw_then_ret ?_) | (with_reducible refine qw_in_ret ?_)) | (refine lw_nil ?_))
      exact qw_ret1 rfl rfl ⟨⟨_, rfl, Or.inr ⟨k, x, rfl, hxk, hp, hn⟩⟩, hw⟩
    | false =>
      repeat' (first | (refine lw_pure rfl (pv_move rfl) ?_) | (refine is_cw ?_; first | (refine cw_region ?_) | (refine cw_false rfl rfl ?_) | (refine cw_skip ?_)) | (refine is_qw ?_; first | (with_reducible refine qw_then ?_) | (with_reducible refine qw_in ?_)) | (refine lw_nil ?_) | ((refine is_bin ?_; first | (refine lw_pure rfl (pv_inc rfl rfl (by omega)) ?_))))
      refine qw_round (k + 1) (by repeat' (first | exact trivial | refine ⟨rfl, ?_⟩)) ⟨by omega, hw, ?_⟩ (by omega)
      intro y hy
      rw [List.take_add_one, hxk] at hy
      rcases List.mem_append.1 hy with hy | hy
      · exact hn y hy
      · simp at hy; subst hy; exact hp
  · have hkl : k = xs.length := by omega
    subst hkl
    rw [List.take_length] at hn
    repeat' (first | (refine lw_pure rfl (pv_assign rfl) ?_) | (refine is_cw ?_; first | (refine cw_seq ?_) | (refine cw_region ?_) | (refine is_cd ?_; refine cw_false rfl (by first | assumption | exact decide_eq_false (by omega) | exact dec_notF (by omega)) ?_) | (refine cw_exit ?_) | (refine cw_ret ?_)) | (refine is_qw ?_; first | (with_reducible refine qw_then ?_) | (with_reducible refine qw_in_hit ?_) | (with_reducible refine qw_then_exit ?_)) | (refine lw_nil ?_) | ((refine is_bin ?_; first | (refine lw_pure rfl (pv_lss rfl rfl) ?_))))
    exact qw_ret1 rfl rfl ⟨⟨_, rfl, Or.inl ⟨rfl, hn⟩⟩, hw⟩

set_option maxRecDepth 20000 in
theorem contf_R {xs : List Row} {m : Nat} {ad : Option Addr} {cap : Nat} {w : World} (base : Nat) (p : Row → Bool) (F : FuncId) (caps : Array Value) (he : entersB Tryz.prog F = true) (hbw : base ≤ w.heap.size) (hF : ∀ x, x ∈ xs → ∀ w', Below base w w' → Calls Tryz.prog F (#[] ++ [Value.agg (encR x).toArray].toArray ++ caps) w' fun e w'' => e = .returned (.bool (p x)) ∧ Below w'.heap.size w' w'') (hm : xs.length = m) (HS : SlR encR 4 w ad cap xs) : Calls Tryz.prog 106 #[.slice ad m cap, .func (.func F) #[] caps] w fun e w' => e = .returned (.bool (xs.any p)) ∧ Below w.heap.size w w' := by
  have hw := Below.refl w.heap.size w
  refine fn_enter 9 Tryz.func106 rfl rfl rfl ?_
  repeat' (first | (refine lw_pure rfl (pv_move rfl) ?_) | (refine lw_pure rfl (pv_assign rfl) ?_) | (refine is_cw ?_; first | (refine cw_seq ?_) | (refine cw_region ?_)) | (refine is_qw ?_; first | (with_reducible refine qw_then ?_)) | (refine lw_nil ?_))
  refine lw_call (f := 132) (by kernel_rfl) rfl rfl (indexf_R base p F caps he hbw hF hm HS) ?_; rintro e w1 ⟨⟨i, rfl, hi⟩, hb⟩; refine ⟨_, rfl, ?_⟩; replace hw := grow_trans hw hb; clear hb
  have hv : decide (i ≥ 0) = xs.any p := by
    rcases hi with ⟨rfl, h⟩ | ⟨k, r, rfl, hx, hp, -⟩
    · symm; rw [show decide ((-1 : Int) ≥ 0) = false by decide, List.any_eq_false]; intro x hx; rw [h x hx]; decide
    · symm; rw [decide_eq_true (by omega), List.any_eq_true]; exact ⟨r, List.mem_of_getElem? hx, hp⟩
  repeat' (first | (refine lw_pure rfl (pv_assign rfl) ?_) | (refine is_cw ?_; first | (refine cw_ret ?_)) | (refine is_qw ?_; first | (with_reducible refine qw_then ?_)) | (refine lw_nil ?_) | ((refine is_bin ?_; first | (refine lw_pure rfl (pv_geq rfl rfl) ?_))))
  exact qw_ret1 rfl rfl ⟨by rw [← hv], hw⟩

set_option maxRecDepth 20000 in
set_option maxHeartbeats 2000000 in
theorem rows_c {s : SttC} {t : Stt} {w : World} (hS : StR w s t) (hin : In64R t.rows) : Calls Tryz.prog 73 #[(.agg (encS s).toArray)] w fun e w' => e = .returned (.bool (rowsB t)) ∧ Below w.heap.size w w' := by
  unfold rowsB
  have hE := Ext.refl w
  have hw := Below.refl w.heap.size w
  refine fn_enter 15 Tryz.func73 rfl rfl rfl ?_
  repeat' (first | (refine is_cw ?_; first | (refine cw_seq ?_) | (refine cw_region ?_)))
  refine lw_boxN rfl rfl (cs := encS s) rfl ?_; intro N2 wn hN2 HX hb; replace hN2 := Nat.le_trans hw.size hN2; replace hw := grow_trans hw hb; clear hb
  replace hE := hE.mono hw; replace hS := hS.mono hw; clear hw; have hw := Below.refl wn.heap.size wn
  have hc := may_c (w := wn) hS.mr hS.R hin
  cases hM : mayR t.rows with
  | false =>
    rw [hM] at hc
    repeat' (first | (refine lw_pure rfl (pv_move rfl) ?_) | (refine lw_pure rfl (pv_assign rfl) ?_) | (refine lw_call (f := 105) (by kernel_rfl) rfl rfl (hc) ?_; rintro e w1 ⟨rfl, hb⟩; refine ⟨_, rfl, ?_⟩; replace hw := grow_trans hw hb; clear hb) | (refine is_cw ?_; first | (refine cw_seq ?_) | (refine cw_region ?_) | (refine cw_ret ?_)) | (refine is_qw ?_; first | (with_reducible refine qw_then ?_)) | (refine lw_nil ?_) | (refine is_guarded ?_; first | (refine lw_not rfl rfl rfl rfl ?_)) | ((refine is_load ?_; first | (refine lw_pure rfl (pv_load (t1 rfl) rfl (by first | exact PT.ld0 (HX.mono hw) rfl | exact PT.ld (HX.mono hw) rfl)) ?_))) | ((refine is_fa ?_; first | (refine lw_pure rfl (pv_fa (tF rfl) rfl) ?_))) | (refine is_pk ?_; refine lw_pure rfl (pv_pick_f rfl rfl rfl) ?_) | (refine lw_pure rfl (pv_makeFunc rfl rfl) ?_))
    exact qw_ret1 rfl rfl ⟨rfl, (hE.mono hw).b⟩
  | true =>
    rw [hM] at hc
    repeat' (first | (refine lw_pure rfl (pv_move rfl) ?_) | (refine lw_pure rfl (pv_assign rfl) ?_) | (refine lw_call (f := 105) (by kernel_rfl) rfl rfl (hc) ?_; rintro e w1 ⟨rfl, hb⟩; refine ⟨_, rfl, ?_⟩; replace hw := grow_trans hw hb; clear hb) | (refine lw_call (f := 106) (by kernel_rfl) rfl rfl (contf_R _ (rowW t) 103 #[.pointer (some ⟨N2, 0, none⟩)] (by kernel_rfl) (Nat.le_refl _) (fun r _ w' hb => rowsF_c ((hS.mono hw).mono hb) ((HX.mono hw).mono hb)) hS.mr (hS.R.mono hw)) ?_; rintro e w1 ⟨rfl, hb⟩; refine ⟨_, rfl, ?_⟩; replace hw := grow_trans hw hb; clear hb) | (refine is_cw ?_; first | (refine cw_seq ?_) | (refine cw_region ?_) | (refine cw_ret ?_)) | (refine is_qw ?_; first | (with_reducible refine qw_then ?_)) | (refine lw_nil ?_) | (refine is_guarded ?_; first | (refine lw_on rfl rfl rfl ?_)) | ((refine is_load ?_; first | (refine lw_pure rfl (pv_load (t1 rfl) rfl (by first | exact PT.ld0 (HX.mono hw) rfl | exact PT.ld (HX.mono hw) rfl)) ?_))) | ((refine is_fa ?_; first | (refine lw_pure rfl (pv_fa (tF rfl) rfl) ?_))) | ((refine is_un ?_; first | (refine lw_pure rfl (pv_not rfl) ?_))) | (refine is_pk ?_; refine lw_pure rfl (pv_pick_t rfl rfl rfl) ?_) | (refine lw_pure rfl (pv_makeFunc rfl rfl) ?_))
    exact qw_ret1 rfl rfl ⟨by simp, (hE.mono hw).b⟩
end Go.Proofs.YtekomjnjddhfmaaGreat
