/-
  Contracts of layer 15's comparison, with the tape's place: what the sort asks. Conditions: none.
-/
import Derived.Test.YtchalebenpmnpaaGp
namespace Go.Proofs.Ytchalebenpmnpaa
open Go.RowKit

set_option maxRecDepth 20000 in
theorem compare_d (a s b t : Int) (w : World) : Calls Try.prog 43 #[.agg #[.int .i64 a, .int .i64 s], .agg #[.int .i64 b, .int .i64 t]] w fun e w' => e = .returned (.int .i64 (compI a s b t)) ∧ BelowD w w' := by
  have hE := BelowD.refl w
  refine fn_enter 17 Try.func43 rfl rfl rfl ?_
  refine cw_seq (cw_region ?_)
  refine lw_boxD rfl rfl rfl ?_; intro N1 wn hN1 HA hb
  replace hE := hE.trans hb
  refine lw_boxD rfl rfl rfl ?_; intro N2 wm hN2 HB hb2
  replace HA := HA.mono hb2.b
  replace hE := hE.trans hb2
  have hd := BelowD.refl wm
  have hw := hd.b
  repeat' (first | (refine lw_pure rfl (pv_move rfl) ?_) | (refine lw_pure rfl (pv_assign rfl) ?_) | (refine is_cw ?_; first | (refine cw_seq ?_) | (refine cw_region ?_) | (refine cw_ret ?_)) | (refine is_qw ?_; first | (with_reducible refine qw_then ?_) | (with_reducible refine qw_then_ret ?_)) | (refine lw_nil ?_) | ((refine is_load ?_; first | (refine lw_pure rfl (pv_load (t1 rfl) rfl (by first | exact PT.ld0 (HA.mono hw) rfl | exact PT.ld (HA.mono hw) rfl | exact PT.ld0 (HB.mono hw) rfl | exact PT.ld (HB.mono hw) rfl)) ?_) | (refine lw_pure rfl (pv_loada (tA rfl) rfl (by first | exact PT.lda (HA.mono hw) | exact PT.lda (HB.mono hw)) (by rfl)) ?_))) | ((refine is_fa ?_; first | (refine lw_pure rfl (pv_fa (tF rfl) rfl) ?_))))
  refine cw_drawn (fun w' => BelowD wm w') (by kernel_rfl) (by repeat (first | exact NoPanic.body | with_reducible refine NoPanic.then ?_ | with_reducible refine NoPanic.inBlock ?_)) (fun hNP => ?_)
  have hS := hd.drew
  (refine aw_take 0 rfl (by kernel_rfl) (by kernel_rfl) (by kernel_rfl) hNP hS rfl (fun w' hq => pv_fa (tF rfl) rfl) ?_)
  first | (refine aw_take 1 rfl (by kernel_rfl) (by kernel_rfl) (by kernel_rfl) hNP hS rfl (fun w' hq => pv_load (t1 rfl) rfl (by first | exact PT.ld0 (HA.mono hq.b) rfl | exact PT.ld (HA.mono hq.b) rfl | exact PT.ld0 (HB.mono hq.b) rfl | exact PT.ld (HB.mono hq.b) rfl)) ?_) | (refine aw_take 1 rfl (by kernel_rfl) (by kernel_rfl) (by kernel_rfl) hNP hS rfl (fun w' hq => pv_loada (tA rfl) rfl (by first | exact PT.lda (HA.mono hq.b) | exact PT.lda (HB.mono hq.b)) (by rfl)) ?_)
  (refine aw_take 2 rfl (by kernel_rfl) (by kernel_rfl) (by kernel_rfl) hNP hS rfl (fun w' hq => pv_fa (tF rfl) rfl) ?_)
  first | (refine aw_take 3 rfl (by kernel_rfl) (by kernel_rfl) (by kernel_rfl) hNP hS rfl (fun w' hq => pv_load (t1 rfl) rfl (by first | exact PT.ld0 (HA.mono hq.b) rfl | exact PT.ld (HA.mono hq.b) rfl | exact PT.ld0 (HB.mono hq.b) rfl | exact PT.ld (HB.mono hq.b) rfl)) ?_) | (refine aw_take 3 rfl (by kernel_rfl) (by kernel_rfl) (by kernel_rfl) hNP hS rfl (fun w' hq => pv_loada (tA rfl) rfl (by first | exact PT.lda (HA.mono hq.b) | exact PT.lda (HB.mono hq.b)) (by rfl)) ?_)
  (refine aw_take 5 rfl (by kernel_rfl) (by kernel_rfl) (by kernel_rfl) hNP hS rfl (fun w' hq => pv_fa (tF rfl) rfl) ?_)
  first | (refine aw_take 6 rfl (by kernel_rfl) (by kernel_rfl) (by kernel_rfl) hNP hS rfl (fun w' hq => pv_load (t1 rfl) rfl (by first | exact PT.ld0 (HA.mono hq.b) rfl | exact PT.ld (HA.mono hq.b) rfl | exact PT.ld0 (HB.mono hq.b) rfl | exact PT.ld (HB.mono hq.b) rfl)) ?_) | (refine aw_take 6 rfl (by kernel_rfl) (by kernel_rfl) (by kernel_rfl) hNP hS rfl (fun w' hq => pv_loada (tA rfl) rfl (by first | exact PT.lda (HA.mono hq.b) | exact PT.lda (HB.mono hq.b)) (by rfl)) ?_)
  (refine aw_take 7 rfl (by kernel_rfl) (by kernel_rfl) (by kernel_rfl) hNP hS rfl (fun w' hq => pv_fa (tF rfl) rfl) ?_)
  first | (refine aw_take 8 rfl (by kernel_rfl) (by kernel_rfl) (by kernel_rfl) hNP hS rfl (fun w' hq => pv_load (t1 rfl) rfl (by first | exact PT.ld0 (HA.mono hq.b) rfl | exact PT.ld (HA.mono hq.b) rfl | exact PT.ld0 (HB.mono hq.b) rfl | exact PT.ld (HB.mono hq.b) rfl)) ?_) | (refine aw_take 8 rfl (by kernel_rfl) (by kernel_rfl) (by kernel_rfl) hNP hS rfl (fun w' hq => pv_loada (tA rfl) rfl (by first | exact PT.lda (HA.mono hq.b) | exact PT.lda (HB.mono hq.b)) (by rfl)) ?_)
  refine aw_act 4 (by kernel_rfl) rfl rfl rfl ?_
  refine act_call (f := 61) (by kernel_rfl) rfl (cmp_c _ _ _) ?_; rintro e w1 ⟨rfl, rfl⟩; refine ⟨_, rfl, hS, fun hS => ?_⟩
  refine aw_act 9 (by kernel_rfl) rfl rfl rfl ?_
  refine act_call (f := 61) (by kernel_rfl) rfl (cmp_c _ _ _) ?_; rintro e w1 ⟨rfl, rfl⟩; refine ⟨_, rfl, hS, fun hS => ?_⟩
  refine aw_act 10 (by kernel_rfl) rfl rfl rfl ?_
  refine act_bsD (vs := [.int .i64 (cmpI a b), .int .i64 (cmpI s t)]) (cs := [.int .i64 (cmpI a b), .int .i64 (cmpI s t)]) elemN rfl rfl (by omega) (by omega) rfl (by simp [Value.cells]) rfl ?_; intro wb HC hb; refine ⟨hS.trans hb, fun hS => ?_⟩
  refine aw_act 11 (by kernel_rfl) rfl rfl rfl ?_
  refine act_call (f := 60) (by kernel_rfl) rfl (or_c _ _ _ _ HC) ?_; rintro e w1 ⟨rfl, rfl⟩; refine ⟨_, rfl, hS, fun hS => ?_⟩
  (refine aw_take 12 rfl (by kernel_rfl) (by kernel_rfl) (by kernel_rfl) hNP hS rfl (fun w' hq => pv_assign rfl) ?_)
  refine aw_done (by kernel_rfl) ?_
  replace hd := hS; have hw := hd.b; clear hS hNP
  repeat' (first | (refine lw_pure rfl (pv_move rfl) ?_) | (refine lw_pure rfl (pv_assign rfl) ?_) | (refine is_cw ?_; first | (refine cw_seq ?_) | (refine cw_region ?_) | (refine cw_ret ?_)) | (refine is_qw ?_; first | (with_reducible refine qw_then ?_) | (with_reducible refine qw_then_ret ?_)) | (refine lw_nil ?_) | ((refine is_load ?_; first | (refine lw_pure rfl (pv_load (t1 rfl) rfl (by first | fail)) ?_) | (refine lw_pure rfl (pv_loada (tA rfl) rfl (by first | fail) (by rfl)) ?_))) | ((refine is_fa ?_; first | (refine lw_pure rfl (pv_fa (tF rfl) rfl) ?_))))
  exact qw_ret1 rfl rfl ⟨rfl, hE.trans hd⟩
set_option maxRecDepth 20000 in
theorem postF_d (x y : Row) (w : World) : Calls Try.prog 42 #[(.agg #[.int .i64 x.acct, .int .i64 x.asset, .int .i64 x.free, .int .i64 x.held]), (.agg #[.int .i64 y.acct, .int .i64 y.asset, .int .i64 y.free, .int .i64 y.held])] w fun e w' => e = .returned (.int .i64 (compI x.acct x.asset y.acct y.asset)) ∧ BelowD w w' := by
  have hE := BelowD.refl w
  refine fn_enter 10 Try.func42 rfl rfl rfl ?_
  refine cw_seq (cw_region ?_)
  refine lw_boxD rfl rfl (cs := [.int .i64 x.acct, .int .i64 x.asset, .int .i64 x.free, .int .i64 x.held]) rfl ?_; intro N1 wn hN1 HA hb
  replace hE := hE.trans hb
  refine lw_boxD rfl rfl (cs := [.int .i64 y.acct, .int .i64 y.asset, .int .i64 y.free, .int .i64 y.held]) rfl ?_; intro N2 wm hN2 HB hb2
  replace HA := HA.mono hb2.b
  replace hE := hE.trans hb2
  have hw := Below.refl wm.heap.size wm
  repeat' (first | (refine lw_pure rfl (pv_move rfl) ?_) | (refine lw_pure rfl (pv_assign rfl) ?_) | (refine is_cw ?_; first | (refine cw_seq ?_) | (refine cw_region ?_) | (refine cw_ret ?_)) | (refine is_qw ?_; first | (with_reducible refine qw_then ?_) | (with_reducible refine qw_then_ret ?_)) | (refine lw_nil ?_) | ((refine is_load ?_; first | (refine lw_pure rfl (pv_loadp (tA rfl) rfl (by first | exact PT.ldp (HA.mono hw) | exact PT.ldp (HB.mono hw)) (by first | (simp only [Nat.add_zero, List.drop_zero, List.take_succ_cons, List.take_zero]; rfl) | (simp only [Nat.zero_add, Nat.add_zero, List.drop_zero, List.drop_succ_cons, List.take_succ_cons, List.take_zero]; rfl) | (simp only [Nat.zero_add, List.drop_zero, List.drop_succ_cons, List.take_succ_cons, List.take_zero]; rfl)) rfl) ?_) | (refine lw_pure rfl (pv_load (t1 rfl) rfl (by first | exact PT.ld0 (HA.mono hw) rfl | exact PT.ld (HA.mono hw) rfl | exact PT.ld0 (HB.mono hw) rfl | exact PT.ld (HB.mono hw) rfl)) ?_) | (refine lw_pure rfl (pv_loada (tA rfl) rfl (by first | exact PT.lda (HA.mono hw) | exact PT.lda (HB.mono hw)) (by rfl)) ?_))) | ((refine is_fa ?_; first | (refine lw_pure rfl (pv_fa (tF rfl) rfl) ?_))))
  refine lw_call (f := 43) (by kernel_rfl) rfl rfl (compare_d x.acct x.asset y.acct y.asset _) ?_; rintro e w1 ⟨rfl, hb⟩; refine ⟨_, rfl, ?_⟩
  have hw := hb.b
  repeat' (first | (refine lw_pure rfl (pv_move rfl) ?_) | (refine lw_pure rfl (pv_assign rfl) ?_) | (refine is_cw ?_; first | (refine cw_seq ?_) | (refine cw_region ?_) | (refine cw_ret ?_)) | (refine is_qw ?_; first | (with_reducible refine qw_then ?_) | (with_reducible refine qw_then_ret ?_)) | (refine lw_nil ?_) | ((refine is_load ?_; first | (refine lw_pure rfl (pv_loadp (tA rfl) rfl (by first | exact PT.ldp (HA.mono hw) | exact PT.ldp (HB.mono hw)) (by first | (simp only [Nat.add_zero, List.drop_zero, List.take_succ_cons, List.take_zero]; rfl) | (simp only [Nat.zero_add, Nat.add_zero, List.drop_zero, List.drop_succ_cons, List.take_succ_cons, List.take_zero]; rfl) | (simp only [Nat.zero_add, List.drop_zero, List.drop_succ_cons, List.take_succ_cons, List.take_zero]; rfl)) rfl) ?_) | (refine lw_pure rfl (pv_load (t1 rfl) rfl (by first | exact PT.ld0 (HA.mono hw) rfl | exact PT.ld (HA.mono hw) rfl | exact PT.ld0 (HB.mono hw) rfl | exact PT.ld (HB.mono hw) rfl)) ?_) | (refine lw_pure rfl (pv_loada (tA rfl) rfl (by first | exact PT.lda (HA.mono hw) | exact PT.lda (HB.mono hw)) (by rfl)) ?_))) | ((refine is_fa ?_; first | (refine lw_pure rfl (pv_fa (tF rfl) rfl) ?_))))
  exact qw_ret1 rfl rfl ⟨rfl, hE.trans hb⟩
end Go.Proofs.Ytchalebenpmnpaa
