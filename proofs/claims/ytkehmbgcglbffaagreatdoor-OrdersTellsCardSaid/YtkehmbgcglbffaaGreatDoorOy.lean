/-
  Contract of the document's Event (layer 22), whole. Conditions: the slices read as lists; the texts' lengths are of 64 bits.
-/
import Derived.Test.YtkehmbgcglbffaaGreatDoorOx
namespace Go.Proofs.YtkehmbgcglbffaaGreatDoor
open Go.RowKit Go.PlainAid

set_option maxRecDepth 20000 in
set_option maxHeartbeats 8000000 in
theorem revN_c {p : List Opn} {t : List Lt} {e : Evt} {mp mt mn mx : Nat} {ap at_ an ax : Option Addr} {cp ct cn cx : Nat} {w : World} (hmp : p.length = mp) (hmt : t.length = mt) (hmn : e.nums.length = mn) (hmx : e.texts.length = mx) (HP : SlR encP 6 w ap cp p) (HL : SlR encL 4 w at_ ct t) (HN : SlR encI 1 w an cn e.nums) (HX : SlR encT 1 w ax cx e.texts) (hT : TxtIn e.texts) (hg1 : mayV p t = true) (hg2 : e.v = 3) (hg3 : mayE e = true) (k1 : ¬ e.kind = 11) (k2 : ¬ e.kind = 12) (k3 : ¬ e.kind = 13) (k4 : ¬ e.kind = 14) (k5 : ¬ e.kind = 16) (k6 : ¬ e.kind = 18) (k7 : ¬ e.kind = 19) : Calls Tryz.prog 11 #[.slice ap mp cp, .slice at_ mt ct, .agg #[.int .u8 e.v, .int .u8 e.kind, .slice an mn cn, .slice ax mx cx]] w fun e1 w' => RefR w' e1 ((p, t, 0)) ∧ Below w.heap.size w w' := by
  subst hmp hmt hmn hmx
  have hw := Below.refl w.heap.size w
  have hcn := HN.le
  have hcm := HN.max
  have hcp := HP.le
  have hcpm := HP.max
  have hct := HL.le
  have hctm := HL.max
  refine fn_enter 270 Tryz.func11 rfl rfl rfl ?_
  repeat' (first | (refine is_cw ?_; first | (refine cw_seq ?_) | (refine cw_region ?_)))
  refine lw_boxN rfl rfl (cs := [.int .u8 e.v, .int .u8 e.kind, .slice (an) e.nums.length cn, .slice ax e.texts.length cx]) rfl ?_; intro NE wE hNE H hb
  replace hw := grow_trans hw hb
  replace HP := HP.mono hw
  replace HL := HL.mono hw
  replace HN := HN.mono hw
  replace HX := HX.mono hw
  have hw0 := hw
  clear hw hb
  have hw := Below.refl wE.heap.size wE
  repeat' (first | (refine lw_pure rfl (pv_move rfl) ?_) | (refine lw_pure rfl (pv_assign rfl) ?_) | (refine lw_call (f := 9) (by kernel_rfl) rfl rfl (rmayV_e hg1 rfl rfl (HP.mono hw) (HL.mono hw)) ?_; rintro e w1 ⟨rfl, hb⟩; refine ⟨_, rfl, ?_⟩; replace hw := grow_trans hw hb; clear hb) | (refine lw_call (f := 36) (by kernel_rfl) rfl rfl (rmayE_e hg3 rfl rfl (HN.mono hw) (HX.mono hw) hT) ?_; rintro e w1 ⟨rfl, hb⟩; refine ⟨_, rfl, ?_⟩; replace hw := grow_trans hw hb; clear hb) | (refine is_cw ?_; first | (refine cw_seq ?_) | (refine cw_region ?_) | (refine cw_false rfl rfl ?_) | (refine cw_false rfl (by first | assumption | exact decide_eq_false (by omega) | exact dec_notF (by omega)) ?_) | (refine cw_skip ?_) | (refine cw_block ?_) | (refine cw_ret ?_)) | (refine is_qw ?_; first | (with_reducible refine qw_then ?_) | (with_reducible refine qw_in ?_)) | (refine lw_nil ?_) | (refine is_guarded ?_; first | (refine lw_on rfl rfl rfl ?_) | (refine lw_on rfl rfl (by first | assumption | exact decide_eq_true (by omega) | exact decide_eq_false (by omega) | exact dec_notT (by omega) | exact dec_notF (by omega)) ?_)) | ((refine is_bin ?_; first | (refine lw_pure rfl (pv_eql rfl rfl) ?_) | (refine lw_pure rfl (pv_neq rfl rfl) ?_))) | ((refine is_load ?_; first | (refine lw_pure rfl (pv_load (t1 rfl) rfl (by first | exact PT.ld0 (H.mono hw) rfl | exact PT.ld (H.mono hw) rfl)) ?_) | (refine lw_pure rfl (pv_loada (tA rfl) rfl (by first | exact PT.lda (H.mono hw)) (by rfl)) ?_))) | ((refine is_fa ?_; first | (refine lw_pure rfl (pv_fa (tF rfl) rfl) ?_))) | ((refine is_un ?_; first | (refine lw_pure rfl (pv_not rfl) ?_))) | (refine lw_pure rfl (pv_pick_f rfl rfl rfl) ?_) | (refine lw_pure rfl (pv_pick_f rfl (by first | assumption | exact decide_eq_false (by omega) | exact dec_notF (by omega)) rfl) ?_))
  skip
  exact qw_ret3 rfl rfl rfl rfl ⟨⟨_, _, _, _, rfl, HP.mono hw, HL.mono hw⟩, grow_trans hw0 hw⟩
set_option maxRecDepth 20000 in
set_option maxHeartbeats 8000000 in
theorem revX_c {p : List Opn} {t : List Lt} {e : Evt} {mp mt mn mx : Nat} {ap at_ an ax : Option Addr} {cp ct cn cx : Nat} {w : World} (hmp : p.length = mp) (hmt : t.length = mt) (hmn : e.nums.length = mn) (hmx : e.texts.length = mx) (HP : SlR encP 6 w ap cp p) (HL : SlR encL 4 w at_ ct t) (HN : SlR encI 1 w an cn e.nums) (HX : SlR encT 1 w ax cx e.texts) (hT : TxtIn e.texts) (hg : ¬ (mayV p t = true ∧ e.v = 3 ∧ mayE e = true)) : Calls Tryz.prog 11 #[.slice ap mp cp, .slice at_ mt ct, .agg #[.int .u8 e.v, .int .u8 e.kind, .slice an mn cn, .slice ax mx cx]] w fun e1 w' => RefR w' e1 (([], [], 4)) ∧ Below w.heap.size w w' := by
  subst hmp hmt hmn hmx
  have hw := Below.refl w.heap.size w
  have hcn := HN.le
  have hcm := HN.max
  have hcp := HP.le
  have hcpm := HP.max
  have hct := HL.le
  have hctm := HL.max
  refine fn_enter 270 Tryz.func11 rfl rfl rfl ?_
  repeat' (first | (refine is_cw ?_; first | (refine cw_seq ?_) | (refine cw_region ?_)))
  refine lw_boxN rfl rfl (cs := [.int .u8 e.v, .int .u8 e.kind, .slice (an) e.nums.length cn, .slice ax e.texts.length cx]) rfl ?_; intro NE wE hNE H hb
  replace hw := grow_trans hw hb
  replace HP := HP.mono hw
  replace HL := HL.mono hw
  replace HN := HN.mono hw
  replace HX := HX.mono hw
  have hw0 := hw
  clear hw hb
  have hw := Below.refl wE.heap.size wE
  cases hg1 : mayV p t with
  | false =>
    repeat' (first | (refine lw_pure rfl (pv_move rfl) ?_) | (refine lw_pure rfl (pv_assign rfl) ?_) | (refine lw_call (f := 9) (by kernel_rfl) rfl rfl (rmayV_e hg1 rfl rfl (HP.mono hw) (HL.mono hw)) ?_; rintro e w1 ⟨rfl, hb⟩; refine ⟨_, rfl, ?_⟩; replace hw := grow_trans hw hb; clear hb) | (refine is_cw ?_; first | (refine cw_seq ?_) | (refine cw_region ?_) | (refine cw_true rfl rfl ?_) | (refine cw_ret ?_)) | (refine is_qw ?_; first | (with_reducible refine qw_then ?_) | (with_reducible refine qw_then_ret ?_)) | (refine lw_nil ?_) | (refine is_guarded ?_; first | (refine lw_not rfl rfl rfl rfl ?_)) | ((refine is_un ?_; first | (refine lw_pure rfl (pv_not rfl) ?_))) | (refine lw_pure rfl (pv_pick_t rfl rfl rfl) ?_))
    all_goals exact qw_ret3 rfl rfl rfl rfl ⟨ref_nil _ _, grow_trans hw0 hw⟩
  | true =>
    by_cases hg2 : e.v = 3
    · have hg3 : mayE e = false := by rw [Bool.eq_false_iff]; exact fun h => hg ⟨hg1, hg2, h⟩
      repeat' (first | (refine lw_pure rfl (pv_move rfl) ?_) | (refine lw_pure rfl (pv_assign rfl) ?_) | (refine lw_call (f := 9) (by kernel_rfl) rfl rfl (rmayV_e hg1 rfl rfl (HP.mono hw) (HL.mono hw)) ?_; rintro e w1 ⟨rfl, hb⟩; refine ⟨_, rfl, ?_⟩; replace hw := grow_trans hw hb; clear hb) | (refine lw_call (f := 36) (by kernel_rfl) rfl rfl (rmayE_e hg3 rfl rfl (HN.mono hw) (HX.mono hw) hT) ?_; rintro e w1 ⟨rfl, hb⟩; refine ⟨_, rfl, ?_⟩; replace hw := grow_trans hw hb; clear hb) | (refine is_cw ?_; first | (refine cw_seq ?_) | (refine cw_region ?_) | (refine cw_true rfl rfl ?_) | (refine cw_ret ?_)) | (refine is_qw ?_; first | (with_reducible refine qw_then ?_) | (with_reducible refine qw_then_ret ?_)) | (refine lw_nil ?_) | (refine is_guarded ?_; first | (refine lw_on rfl rfl rfl ?_) | (refine lw_on rfl rfl (by first | assumption | exact decide_eq_true (by omega) | exact decide_eq_false (by omega) | exact dec_notT (by omega) | exact dec_notF (by omega)) ?_)) | ((refine is_bin ?_; first | (refine lw_pure rfl (pv_neq rfl rfl) ?_))) | ((refine is_load ?_; first | (refine lw_pure rfl (pv_load (t1 rfl) rfl (by first | exact PT.ld0 (H.mono hw) rfl | exact PT.ld (H.mono hw) rfl)) ?_) | (refine lw_pure rfl (pv_loada (tA rfl) rfl (by first | exact PT.lda (H.mono hw)) (by rfl)) ?_))) | ((refine is_fa ?_; first | (refine lw_pure rfl (pv_fa (tF rfl) rfl) ?_))) | ((refine is_un ?_; first | (refine lw_pure rfl (pv_not rfl) ?_))) | (refine lw_pure rfl (pv_pick_f rfl rfl rfl) ?_) | (refine lw_pure rfl (pv_pick_f rfl (by first | assumption | exact decide_eq_false (by omega) | exact dec_notF (by omega)) rfl) ?_))
      all_goals exact qw_ret3 rfl rfl rfl rfl ⟨ref_nil _ _, grow_trans hw0 hw⟩
    · repeat' (first | (refine lw_pure rfl (pv_move rfl) ?_) | (refine lw_pure rfl (pv_assign rfl) ?_) | (refine lw_call (f := 9) (by kernel_rfl) rfl rfl (rmayV_e hg1 rfl rfl (HP.mono hw) (HL.mono hw)) ?_; rintro e w1 ⟨rfl, hb⟩; refine ⟨_, rfl, ?_⟩; replace hw := grow_trans hw hb; clear hb) | (refine is_cw ?_; first | (refine cw_seq ?_) | (refine cw_region ?_) | (refine cw_true rfl rfl ?_) | (refine cw_ret ?_)) | (refine is_qw ?_; first | (with_reducible refine qw_then ?_) | (with_reducible refine qw_then_ret ?_)) | (refine lw_nil ?_) | (refine is_guarded ?_; first | (refine lw_on rfl rfl rfl ?_) | (refine lw_not rfl rfl rfl (by first | assumption | exact decide_eq_true (by omega) | exact decide_eq_false (by omega) | exact dec_notT (by omega) | exact dec_notF (by omega)) ?_)) | ((refine is_bin ?_; first | (refine lw_pure rfl (pv_neq rfl rfl) ?_))) | ((refine is_load ?_; first | (refine lw_pure rfl (pv_load (t1 rfl) rfl (by first | exact PT.ld0 (H.mono hw) rfl | exact PT.ld (H.mono hw) rfl)) ?_))) | ((refine is_fa ?_; first | (refine lw_pure rfl (pv_fa (tF rfl) rfl) ?_))) | ((refine is_un ?_; first | (refine lw_pure rfl (pv_not rfl) ?_))) | (refine lw_pure rfl (pv_pick_f rfl rfl rfl) ?_) | (refine lw_pure rfl (pv_pick_t rfl (by first | assumption | exact decide_eq_true (by omega) | exact dec_notT (by omega)) rfl) ?_))
      all_goals exact qw_ret3 rfl rfl rfl rfl ⟨ref_nil _ _, grow_trans hw0 hw⟩
theorem rev_c {p : List Opn} {t : List Lt} {e : Evt} {mp mt mn mx : Nat} {ap at_ an ax : Option Addr} {cp ct cn cx : Nat} {w : World} (hmp : p.length = mp) (hmt : t.length = mt) (hmn : e.nums.length = mn) (hmx : e.texts.length = mx) (HP : SlR encP 6 w ap cp p) (HL : SlR encL 4 w at_ ct t) (HN : SlR encI 1 w an cn e.nums) (HX : SlR encT 1 w ax cx e.texts) (hT : TxtIn e.texts) : Calls Tryz.prog 11 #[.slice ap mp cp, .slice at_ mt ct, .agg #[.int .u8 e.v, .int .u8 e.kind, .slice an mn cn, .slice ax mx cx]] w fun e1 w' => RefR w' e1 (eventR p t e) ∧ Below w.heap.size w w' := by
  by_cases hg : mayV p t = true ∧ e.v = 3 ∧ mayE e = true
  · rw [event_yes hg]
    obtain ⟨hg1, hg2, hg3⟩ := hg
    unfold doneR
    by_cases k1 : e.kind = 11
    · rw [if_pos k1]; exact rev11_c hmp hmt hmn hmx HP HL HN HX hT hg1 hg2 hg3 k1
    rw [if_neg k1]
    by_cases k2 : e.kind = 12
    · rw [if_pos k2]; exact rev12_c hmp hmt hmn hmx HP HL HN HX hT hg1 hg2 hg3 k2
    rw [if_neg k2]
    by_cases k3 : e.kind = 13
    · rw [if_pos k3]; exact rev13_c hmp hmt hmn hmx HP HL HN HX hT hg1 hg2 hg3 k3
    rw [if_neg k3]
    by_cases k4 : e.kind = 14
    · rw [if_pos (Or.inl k4)]; exact rev14_c hmp hmt hmn hmx HP HL HN HX hT hg1 hg2 hg3 k4
    by_cases k5 : e.kind = 16
    · rw [if_pos (Or.inr k5)]; exact rev16_c hmp hmt hmn hmx HP HL HN HX hT hg1 hg2 hg3 k5
    rw [if_neg (by omega)]
    by_cases k6 : e.kind = 18
    · rw [if_pos (Or.inl k6)]; exact rev18_c hmp hmt hmn hmx HP HL HN HX hT hg1 hg2 hg3 k6
    by_cases k7 : e.kind = 19
    · rw [if_pos (Or.inr k7)]; exact rev19_c hmp hmt hmn hmx HP HL HN HX hT hg1 hg2 hg3 k7
    rw [if_neg (by omega)]
    exact revN_c hmp hmt hmn hmx HP HL HN HX hT hg1 hg2 hg3 k1 k2 k3 k4 k5 k6 k7
  · rw [event_no hg]; exact revX_c hmp hmt hmn hmx HP HL HN HX hT hg
end Go.Proofs.YtkehmbgcglbffaaGreatDoor
