/-
  Contracts of layer 15: compare, the tests that Get, Of and Post hand over. Conditions: none.
-/
import Derived.Test.YtchalebenpmnpaaSw
import Derived.Test.YtchalebenpmnpaaGa
namespace Go.Proofs.Ytchalebenpmnpaa
open Go.RowKit

theorem elemN : ElemT Try.prog 100 3 1 8 := elem_of Try.underlying100 (by kernel_rfl) (by omega)
/-- compare of two places -/
def compI (a s b t : Int) : Int := if cmpI a b = 0 then cmpI s t else cmpI a b
set_option maxRecDepth 20000 in
theorem compare_c (a s b t : Int) (w : World) : Calls Try.prog 43 #[.agg #[.int .i64 a, .int .i64 s], .agg #[.int .i64 b, .int .i64 t]] w fun e w' => e = .returned (.int .i64 (compI a s b t)) ∧ Below w.heap.size w w' := by
  have hE := Ext.refl w
  have hw := Below.refl w.heap.size w
  refine fn_enter 17 Try.func43 rfl rfl rfl ?_
  refine cw_seq (cw_region ?_)
  refine lw_boxN rfl rfl rfl ?_; intro N1 wn hN1 HA hb
  replace hw := grow_trans hw hb
  replace hE := hE.mono hw; clear hw; have hw := Below.refl wn.heap.size wn
  refine lw_boxN rfl rfl rfl ?_; intro N2 wm hN2 HB hb
  replace hw := grow_trans hw hb
  clear hb
  replace hE := hE.mono hw; replace HA := HA.mono hw; clear hw; have hw := Below.refl wm.heap.size wm
  repeat' (first | (refine lw_pure rfl (pv_move rfl) ?_) | (refine lw_pure rfl (pv_assign rfl) ?_) | (refine is_cw ?_; first | (refine cw_seq ?_) | (refine cw_region ?_) | (refine cw_ret ?_)) | (refine is_qw ?_; first | (with_reducible refine qw_then ?_) | (with_reducible refine qw_then_ret ?_)) | (refine lw_nil ?_) | ((refine is_load ?_; first | (refine lw_pure rfl (pv_load (t1 rfl) rfl (by first | exact PT.ld0 (HA.mono hw) rfl | exact PT.ld (HA.mono hw) rfl | exact PT.ld0 (HB.mono hw) rfl | exact PT.ld (HB.mono hw) rfl)) ?_) | (refine lw_pure rfl (pv_loada (tA rfl) rfl (by first | exact PT.lda (HA.mono hw) | exact PT.lda (HB.mono hw)) (by rfl)) ?_))) | ((refine is_fa ?_; first | (refine lw_pure rfl (pv_fa (tF rfl) rfl) ?_))))
  refine cw_drawn (fun w' => Below wm.heap.size wm w') (by kernel_rfl) (by repeat (first | exact NoPanic.body | with_reducible refine NoPanic.then ?_ | with_reducible refine NoPanic.inBlock ?_)) (fun hNP => ?_)
  have hS := hw.drew
  (refine aw_take 0 rfl (by kernel_rfl) (by kernel_rfl) (by kernel_rfl) hNP hS rfl (fun w' hq => pv_fa (tF rfl) rfl) ?_)
  first | (refine aw_take 1 rfl (by kernel_rfl) (by kernel_rfl) (by kernel_rfl) hNP hS rfl (fun w' hq => pv_load (t1 rfl) rfl (by first | exact PT.ld0 (HA.mono hq) rfl | exact PT.ld (HA.mono hq) rfl | exact PT.ld0 (HB.mono hq) rfl | exact PT.ld (HB.mono hq) rfl)) ?_) | (refine aw_take 1 rfl (by kernel_rfl) (by kernel_rfl) (by kernel_rfl) hNP hS rfl (fun w' hq => pv_loada (tA rfl) rfl (by first | exact PT.lda (HA.mono hq) | exact PT.lda (HB.mono hq)) (by rfl)) ?_)
  (refine aw_take 2 rfl (by kernel_rfl) (by kernel_rfl) (by kernel_rfl) hNP hS rfl (fun w' hq => pv_fa (tF rfl) rfl) ?_)
  first | (refine aw_take 3 rfl (by kernel_rfl) (by kernel_rfl) (by kernel_rfl) hNP hS rfl (fun w' hq => pv_load (t1 rfl) rfl (by first | exact PT.ld0 (HA.mono hq) rfl | exact PT.ld (HA.mono hq) rfl | exact PT.ld0 (HB.mono hq) rfl | exact PT.ld (HB.mono hq) rfl)) ?_) | (refine aw_take 3 rfl (by kernel_rfl) (by kernel_rfl) (by kernel_rfl) hNP hS rfl (fun w' hq => pv_loada (tA rfl) rfl (by first | exact PT.lda (HA.mono hq) | exact PT.lda (HB.mono hq)) (by rfl)) ?_)
  (refine aw_take 5 rfl (by kernel_rfl) (by kernel_rfl) (by kernel_rfl) hNP hS rfl (fun w' hq => pv_fa (tF rfl) rfl) ?_)
  first | (refine aw_take 6 rfl (by kernel_rfl) (by kernel_rfl) (by kernel_rfl) hNP hS rfl (fun w' hq => pv_load (t1 rfl) rfl (by first | exact PT.ld0 (HA.mono hq) rfl | exact PT.ld (HA.mono hq) rfl | exact PT.ld0 (HB.mono hq) rfl | exact PT.ld (HB.mono hq) rfl)) ?_) | (refine aw_take 6 rfl (by kernel_rfl) (by kernel_rfl) (by kernel_rfl) hNP hS rfl (fun w' hq => pv_loada (tA rfl) rfl (by first | exact PT.lda (HA.mono hq) | exact PT.lda (HB.mono hq)) (by rfl)) ?_)
  (refine aw_take 7 rfl (by kernel_rfl) (by kernel_rfl) (by kernel_rfl) hNP hS rfl (fun w' hq => pv_fa (tF rfl) rfl) ?_)
  first | (refine aw_take 8 rfl (by kernel_rfl) (by kernel_rfl) (by kernel_rfl) hNP hS rfl (fun w' hq => pv_load (t1 rfl) rfl (by first | exact PT.ld0 (HA.mono hq) rfl | exact PT.ld (HA.mono hq) rfl | exact PT.ld0 (HB.mono hq) rfl | exact PT.ld (HB.mono hq) rfl)) ?_) | (refine aw_take 8 rfl (by kernel_rfl) (by kernel_rfl) (by kernel_rfl) hNP hS rfl (fun w' hq => pv_loada (tA rfl) rfl (by first | exact PT.lda (HA.mono hq) | exact PT.lda (HB.mono hq)) (by rfl)) ?_)
  refine aw_act 4 (by kernel_rfl) rfl rfl rfl ?_
  refine act_call (f := 61) (by kernel_rfl) rfl (cmp_c _ _ _) ?_; rintro e w1 ⟨rfl, rfl⟩; refine ⟨_, rfl, hS, fun hS => ?_⟩
  refine aw_act 9 (by kernel_rfl) rfl rfl rfl ?_
  refine act_call (f := 61) (by kernel_rfl) rfl (cmp_c _ _ _) ?_; rintro e w1 ⟨rfl, rfl⟩; refine ⟨_, rfl, hS, fun hS => ?_⟩
  refine aw_act 10 (by kernel_rfl) rfl rfl rfl ?_
  refine act_bs (vs := [.int .i64 (cmpI a b), .int .i64 (cmpI s t)]) (cs := [.int .i64 (cmpI a b), .int .i64 (cmpI s t)]) elemN rfl rfl (by omega) (by omega) rfl (by simp [Value.cells]) ?_; intro wb HC hb; refine ⟨grow_trans hS hb, fun hS => ?_⟩
  refine aw_act 11 (by kernel_rfl) rfl rfl rfl ?_
  refine act_call (f := 60) (by kernel_rfl) rfl (or_c _ _ _ _ HC) ?_; rintro e w1 ⟨rfl, rfl⟩; refine ⟨_, rfl, hS, fun hS => ?_⟩
  (refine aw_take 12 rfl (by kernel_rfl) (by kernel_rfl) (by kernel_rfl) hNP hS rfl (fun w' hq => pv_assign rfl) ?_)
  refine aw_done (by kernel_rfl) ?_
  replace hw := hS; clear hS hNP
  repeat' (first | (refine lw_pure rfl (pv_move rfl) ?_) | (refine lw_pure rfl (pv_assign rfl) ?_) | (refine is_cw ?_; first | (refine cw_seq ?_) | (refine cw_region ?_) | (refine cw_ret ?_)) | (refine is_qw ?_; first | (with_reducible refine qw_then ?_) | (with_reducible refine qw_then_ret ?_)) | (refine lw_nil ?_) | ((refine is_load ?_; first | (refine lw_pure rfl (pv_load (t1 rfl) rfl (by first | fail)) ?_) | (refine lw_pure rfl (pv_loada (tA rfl) rfl (by first | fail) (by rfl)) ?_))) | ((refine is_fa ?_; first | (refine lw_pure rfl (pv_fa (tF rfl) rfl) ?_))))
  exact qw_ret1 rfl rfl ⟨rfl, (hE.mono hw).b⟩
set_option maxRecDepth 20000 in
theorem getF_c (r : Row) (a s : Int) (N1 N2 : Nat) (w : World) (h1 : PT w N1 3 [.int .i64 a]) (h2 : PT w N2 3 [.int .i64 s]) : Calls Try.prog 47 #[(.agg #[.int .i64 r.acct, .int .i64 r.asset, .int .i64 r.free, .int .i64 r.held]), .pointer (some ⟨N1, 0, none⟩), .pointer (some ⟨N2, 0, none⟩)] w fun e w' => e = .returned (.bool (decide (r.acct = a ∧ r.asset = s))) ∧ Below w.heap.size w w' := by
  have hE := Ext.refl w
  have hw := Below.refl w.heap.size w
  refine fn_enter 15 Try.func47 rfl rfl rfl ?_
  refine cw_seq (cw_region ?_)
  refine lw_boxN rfl rfl rfl ?_; intro N wn hN HA hb
  replace hw := grow_trans hw hb
  clear hb
  replace hE := hE.mono hw; replace h1 := h1.mono hw; replace h2 := h2.mono hw; clear hw; have hw := Below.refl wn.heap.size wn
  repeat' (first | (refine lw_pure rfl (pv_move rfl) ?_) | (refine lw_pure rfl (pv_assign rfl) ?_) | (refine is_cw ?_; first | (refine cw_seq ?_) | (refine cw_region ?_) | (refine cw_ret ?_)) | (refine is_qw ?_; first | (with_reducible refine qw_then ?_) | (with_reducible refine qw_then_ret ?_)) | (refine lw_nil ?_) | (refine is_guarded ?_; first | (refine lw_not rfl rfl rfl rfl ?_) | (refine lw_not_u rfl rfl rfl ?_) | (refine lw_on rfl rfl rfl ?_) | (refine lw_on rfl rfl (by first | assumption | exact decide_eq_true (by omega) | exact decide_eq_false (by omega) | exact dec_notT (by omega) | exact dec_notF (by omega)) ?_) | (refine lw_not rfl rfl rfl (by first | assumption | exact decide_eq_true (by omega) | exact decide_eq_false (by omega) | exact dec_notT (by omega) | exact dec_notF (by omega)) ?_) | (refine lw_gs_t rfl rfl rfl (fun hc => ?_) (fun hc => ?_) <;> (first | replace hc := of_decide_eq_true hc | replace hc := of_decide_eq_false hc | replace hc := dec_nT hc | replace hc := dec_nF hc | skip) <;> (try (exfalso; omega))) | (refine lw_gs_f rfl rfl rfl (fun hc => ?_) (fun hc => ?_) <;> (first | replace hc := of_decide_eq_true hc | replace hc := of_decide_eq_false hc | replace hc := dec_nT hc | replace hc := dec_nF hc | skip) <;> (try (exfalso; omega)))) | ((refine is_bin ?_; first | (refine lw_pure rfl (pv_eql rfl rfl) ?_))) | ((refine is_load ?_; first | (refine lw_pure rfl (pv_load (t1 rfl) rfl (by first | exact PT.ld0 (HA.mono hw) rfl | exact PT.ld (HA.mono hw) rfl | exact PT.ld0 (h1.mono hw) rfl | exact PT.ld (h1.mono hw) rfl | exact PT.ld0 (h2.mono hw) rfl | exact PT.ld (h2.mono hw) rfl)) ?_) | (refine lw_pure rfl (pv_loada (tA rfl) rfl (by first | exact PT.lda (HA.mono hw) | exact PT.lda (h1.mono hw) | exact PT.lda (h2.mono hw)) (by rfl)) ?_))) | ((refine is_fa ?_; first | (refine lw_pure rfl (pv_fa (tF rfl) rfl) ?_))) | (refine is_pk ?_; refine lw_pure rfl (pv_pick_t rfl rfl rfl) ?_) | (refine is_pk ?_; refine lw_pure rfl (pv_pick_f rfl rfl rfl) ?_) | (refine is_pk ?_; refine lw_pure rfl (pv_pick_t rfl (by first | assumption | exact decide_eq_true (by omega) | exact dec_notT (by omega)) rfl) ?_) | (refine is_pk ?_; refine lw_pure rfl (pv_pick_f rfl (by first | assumption | exact decide_eq_false (by omega) | exact dec_notF (by omega)) rfl) ?_) | (refine is_pk ?_; refine lw_pure rfl (pv_pick rfl rfl rfl) ?_) | (refine is_cw ?_; refine cw_split rfl (fun hc => ?_) (fun hc => ?_) <;> (first | replace hc := of_decide_eq_true hc | replace hc := of_decide_eq_false hc | replace hc := dec_nT hc | replace hc := dec_nF hc | skip) <;> (try (exfalso; omega))))
  all_goals (refine qw_ret1 rfl rfl ⟨ret_bool ?_, (hE.mono hw).b⟩; first | (simp [*]; done) | (simp; omega))
set_option maxRecDepth 20000 in
theorem ofF_c (r : Row) (a : Int) (N1 : Nat) (w : World) (h1 : PT w N1 3 [.int .i64 a]) : Calls Try.prog 55 #[(.agg #[.int .i64 r.acct, .int .i64 r.asset, .int .i64 r.free, .int .i64 r.held]), .pointer (some ⟨N1, 0, none⟩)] w fun e w' => e = .returned (.bool (decide (r.acct ≠ a))) ∧ Below w.heap.size w w' := by
  have hE := Ext.refl w
  have hw := Below.refl w.heap.size w
  refine fn_enter 8 Try.func55 rfl rfl rfl ?_
  refine cw_seq (cw_region ?_)
  refine lw_boxN rfl rfl rfl ?_; intro N wn hN HA hb
  replace hw := grow_trans hw hb
  clear hb
  replace hE := hE.mono hw; replace h1 := h1.mono hw; clear hw; have hw := Below.refl wn.heap.size wn
  repeat' (first | (refine lw_pure rfl (pv_move rfl) ?_) | (refine lw_pure rfl (pv_assign rfl) ?_) | (refine is_cw ?_; first | (refine cw_seq ?_) | (refine cw_region ?_) | (refine cw_ret ?_)) | (refine is_qw ?_; first | (with_reducible refine qw_then ?_) | (with_reducible refine qw_then_ret ?_)) | (refine lw_nil ?_) | ((refine is_bin ?_; first | (refine lw_pure rfl (pv_neq rfl rfl) ?_))) | ((refine is_load ?_; first | (refine lw_pure rfl (pv_load (t1 rfl) rfl (by first | exact PT.ld0 (HA.mono hw) rfl | exact PT.ld (HA.mono hw) rfl | exact PT.ld0 (h1.mono hw) rfl | exact PT.ld (h1.mono hw) rfl)) ?_) | (refine lw_pure rfl (pv_loada (tA rfl) rfl (by first | exact PT.lda (HA.mono hw) | exact PT.lda (h1.mono hw)) (by rfl)) ?_))) | ((refine is_fa ?_; first | (refine lw_pure rfl (pv_fa (tF rfl) rfl) ?_))) | (refine is_cw ?_; refine cw_split rfl (fun hc => ?_) (fun hc => ?_) <;> (first | replace hc := of_decide_eq_true hc | replace hc := of_decide_eq_false hc | replace hc := dec_nT hc | replace hc := dec_nF hc | skip) <;> (try (exfalso; omega))))
  all_goals (refine qw_ret1 rfl rfl ⟨ret_bool ?_, (hE.mono hw).b⟩; first | (simp [*]; done) | (simp; omega))
set_option maxRecDepth 20000 in
theorem postF_c (x y : Row) (w : World) : Calls Try.prog 42 #[(.agg #[.int .i64 x.acct, .int .i64 x.asset, .int .i64 x.free, .int .i64 x.held]), (.agg #[.int .i64 y.acct, .int .i64 y.asset, .int .i64 y.free, .int .i64 y.held])] w fun e w' => e = .returned (.int .i64 (compI x.acct x.asset y.acct y.asset)) ∧ Below w.heap.size w w' := by
  have hE := Ext.refl w
  have hw := Below.refl w.heap.size w
  refine fn_enter 10 Try.func42 rfl rfl rfl ?_
  refine cw_seq (cw_region ?_)
  refine lw_boxN rfl rfl (cs := [.int .i64 x.acct, .int .i64 x.asset, .int .i64 x.free, .int .i64 x.held]) rfl ?_; intro N1 wn hN1 HA hb
  replace hw := grow_trans hw hb
  replace hE := hE.mono hw; clear hw; have hw := Below.refl wn.heap.size wn
  refine lw_boxN rfl rfl (cs := [.int .i64 y.acct, .int .i64 y.asset, .int .i64 y.free, .int .i64 y.held]) rfl ?_; intro N2 wm hN2 HB hb
  replace hw := grow_trans hw hb
  clear hb
  replace hE := hE.mono hw; replace HA := HA.mono hw; clear hw; have hw := Below.refl wm.heap.size wm
  repeat' (first | (refine lw_pure rfl (pv_move rfl) ?_) | (refine lw_pure rfl (pv_assign rfl) ?_) | (refine is_cw ?_; first | (refine cw_seq ?_) | (refine cw_region ?_) | (refine cw_ret ?_)) | (refine is_qw ?_; first | (with_reducible refine qw_then ?_) | (with_reducible refine qw_then_ret ?_)) | (refine lw_nil ?_) | ((refine is_load ?_; first | (refine lw_pure rfl (pv_loadp (tA rfl) rfl (by first | exact PT.ldp (HA.mono hw) | exact PT.ldp (HB.mono hw)) (by first | (simp only [Nat.add_zero, List.drop_zero, List.take_succ_cons, List.take_zero]; rfl) | (simp only [Nat.zero_add, Nat.add_zero, List.drop_zero, List.drop_succ_cons, List.take_succ_cons, List.take_zero]; rfl) | (simp only [Nat.zero_add, List.drop_zero, List.drop_succ_cons, List.take_succ_cons, List.take_zero]; rfl)) rfl) ?_) | (refine lw_pure rfl (pv_load (t1 rfl) rfl (by first | exact PT.ld0 (HA.mono hw) rfl | exact PT.ld (HA.mono hw) rfl | exact PT.ld0 (HB.mono hw) rfl | exact PT.ld (HB.mono hw) rfl)) ?_) | (refine lw_pure rfl (pv_loada (tA rfl) rfl (by first | exact PT.lda (HA.mono hw) | exact PT.lda (HB.mono hw)) (by rfl)) ?_))) | ((refine is_fa ?_; first | (refine lw_pure rfl (pv_fa (tF rfl) rfl) ?_))))
  refine lw_call (f := 43) (by kernel_rfl) rfl rfl (compare_c x.acct x.asset y.acct y.asset _) ?_; rintro e w1 ⟨rfl, hb⟩; refine ⟨_, rfl, ?_⟩; replace hw := grow_trans hw hb; clear hb
  repeat' (first | (refine lw_pure rfl (pv_move rfl) ?_) | (refine lw_pure rfl (pv_assign rfl) ?_) | (refine is_cw ?_; first | (refine cw_seq ?_) | (refine cw_region ?_) | (refine cw_ret ?_)) | (refine is_qw ?_; first | (with_reducible refine qw_then ?_) | (with_reducible refine qw_then_ret ?_)) | (refine lw_nil ?_) | ((refine is_load ?_; first | (refine lw_pure rfl (pv_loadp (tA rfl) rfl (by first | exact PT.ldp (HA.mono hw) | exact PT.ldp (HB.mono hw)) (by first | (simp only [Nat.add_zero, List.drop_zero, List.take_succ_cons, List.take_zero]; rfl) | (simp only [Nat.zero_add, Nat.add_zero, List.drop_zero, List.drop_succ_cons, List.take_succ_cons, List.take_zero]; rfl) | (simp only [Nat.zero_add, List.drop_zero, List.drop_succ_cons, List.take_succ_cons, List.take_zero]; rfl)) rfl) ?_) | (refine lw_pure rfl (pv_load (t1 rfl) rfl (by first | exact PT.ld0 (HA.mono hw) rfl | exact PT.ld (HA.mono hw) rfl | exact PT.ld0 (HB.mono hw) rfl | exact PT.ld (HB.mono hw) rfl)) ?_) | (refine lw_pure rfl (pv_loada (tA rfl) rfl (by first | exact PT.lda (HA.mono hw) | exact PT.lda (HB.mono hw)) (by rfl)) ?_))) | ((refine is_fa ?_; first | (refine lw_pure rfl (pv_fa (tF rfl) rfl) ?_))))
  exact qw_ret1 rfl rfl ⟨rfl, (hE.mono hw).b⟩
end Go.Proofs.Ytchalebenpmnpaa
