/-
  Part 2 of the texts of: DiskNames: its row and its card: whatever the input: true; the input reads as it did. Conditions: what the row prints (the table of functions reads as the program's text lays it).
-/
import Derived.Test.YtncicecmhibpcaaDoorZI1
import Derived.Sort.KeysCollected
import Derived.ChangeArms
import Derived.FnData
import Derived.LaidMore
import Derived.LaidOnce
import Derived.LaidHandle
import Derived.Lay
namespace Go.Proofs.YtncicecmhibpcaaDoor
open Go.RowKit Go.PlainAid

set_option maxRecDepth 20000 in
theorem dtrim_c {w : World} {N B : Nat} {d : Dsk} (h : DkW w N B d) {n : ByteArray} (hn : n.size ≤ 9223372036854775807) (k : Int) : Calls Tryd.prog 37 #[.pointer (some ⟨N, 0, none⟩), .string n, .int .i64 k] w fun e w' => e = .returned (.int .i64 (trimD d n k).1) ∧ DkW w' N B (trimD d n k).2 ∧ Gw N B w w' := by
  have hlt := h.lt
  have hw := Below.refl w.heap.size w
  refine fn_enter 31 Tryd.func37 rfl rfl rfl ?_
  repeat' (first | (refine is_cw ?_; first | (refine cw_seq ?_) | (refine cw_region ?_)))
  refine lw_boxN rfl rfl (cs := [.pointer (some ⟨N, 0, none⟩)]) rfl ?_; intro N2 w2 hN2 H2 hb; replace hw := grow_trans hw hb; clear hb
  refine lw_boxN rfl rfl (cs := [.string n]) rfl ?_; intro N3 w3 hN3 H3 hb; replace H2 := H2.mono hb; replace hN3 := Nat.le_trans hw.size hN3; replace hw := grow_trans hw hb; clear hb
  refine lw_boxN rfl rfl (cs := [.int .i64 k]) rfl ?_; intro N4 w4 hN4 H4 hb; (replace H2 := H2.mono hb; replace H3 := H3.mono hb); replace hN4 := Nat.le_trans hw.size hN4; replace hw := grow_trans hw hb; clear hb
  have hw0 := hw
  replace h := h.mono hw; clear hw; have hw := Below.refl w4.heap.size w4
  cases hk : d.dark with
  | true =>
    rw [show trimD d n k = (45, d) from by unfold trimD; rw [if_pos hk]]
    repeat' (first | (refine lw_pure rfl (pv_move rfl) ?_) | (refine lw_pure rfl (pv_assign rfl) ?_) | (refine lw_call (f := 45) (by kernel_rfl) rfl rfl (find45_c (h.mono hw) hk n) ?_; rintro e w1 ⟨rfl, hb⟩; refine ⟨_, rfl, ?_⟩; replace hw := grow_trans hw hb; clear hb) | (refine is_cw ?_; first | (refine cw_seq ?_) | (refine cw_region ?_)) | (refine is_qw ?_; first | (with_reducible refine qw_then ?_)) | (refine lw_nil ?_) | ((refine is_load ?_; first | (refine lw_pure rfl (pv_load (t1 rfl) rfl (by first | exact PT.ld0 (H2.mono hw) rfl | exact PT.ld (H2.mono hw) rfl | exact PT.ld0 (H3.mono hw) rfl | exact PT.ld (H3.mono hw) rfl)) ?_))) | (refine lw_pure rfl (pv_extract rfl rfl) ?_))
    refine lw_varN rfl (by first | exact tyv_28 | exact tyv_29 | exact tyv_34 | exact tyv_35 | exact tyv_43 | exact tyv_44 | exact tyv_77 | exact tyv_78 | exact tyv_80 | exact tyv_81 | exact tyv_86 | exact tyv_87 | exact tyv_126 | exact tyv_127) rfl (tZ rfl) (fun _ => rfl) rfl rfl ?_; intro N5 wn hN5 H5 hb; replace hN5 := Nat.le_trans hw.size hN5; replace hw := grow_trans hw hb; clear hb
    repeat' (first | (refine lw_pure rfl (pv_move rfl) ?_) | (refine lw_pure rfl (pv_assign rfl) ?_) | (refine is_cw ?_; first | (refine cw_seq ?_) | (refine cw_region ?_) | (refine cw_true rfl rfl ?_) | (refine cw_block ?_) | (refine cw_ret ?_)) | (refine is_qw ?_; first | (with_reducible refine qw_then ?_) | (with_reducible refine qw_then_ret ?_) | (with_reducible refine qw_in_ret ?_)) | (refine lw_nil ?_) | ((refine is_bin ?_; first | (refine lw_pure rfl (pv_neq rfl rfl) ?_))))
    exact qw_ret1 rfl rfl ⟨rfl, h.mono hw, Gw.of_below (grow_trans hw0 hw)⟩
  | false =>
    cases hg : getF d.fs n with
    | none =>
      rw [show trimD d n k = (5, d) from by unfold trimD; rw [hk, if_neg (by simp), hg]]
      repeat' (first | (refine lw_pure rfl (pv_move rfl) ?_) | (refine lw_pure rfl (pv_assign rfl) ?_) | (refine lw_call (f := 45) (by kernel_rfl) rfl rfl (find5_c (h.mono hw) hk hn hg) ?_; rintro e w1 ⟨rfl, hb⟩; refine ⟨_, rfl, ?_⟩; replace hw := grow_trans hw hb; clear hb) | (refine is_cw ?_; first | (refine cw_seq ?_) | (refine cw_region ?_)) | (refine is_qw ?_; first | (with_reducible refine qw_then ?_)) | (refine lw_nil ?_) | ((refine is_load ?_; first | (refine lw_pure rfl (pv_load (t1 rfl) rfl (by first | exact PT.ld0 (H2.mono hw) rfl | exact PT.ld (H2.mono hw) rfl | exact PT.ld0 (H3.mono hw) rfl | exact PT.ld (H3.mono hw) rfl)) ?_))) | (refine lw_pure rfl (pv_extract rfl rfl) ?_))
      refine lw_varN rfl (by first | exact tyv_28 | exact tyv_29 | exact tyv_34 | exact tyv_35 | exact tyv_43 | exact tyv_44 | exact tyv_77 | exact tyv_78 | exact tyv_80 | exact tyv_81 | exact tyv_86 | exact tyv_87 | exact tyv_126 | exact tyv_127) rfl (tZ rfl) (fun _ => rfl) rfl rfl ?_; intro N5 wn hN5 H5 hb; replace hN5 := Nat.le_trans hw.size hN5; replace hw := grow_trans hw hb; clear hb
      repeat' (first | (refine lw_pure rfl (pv_move rfl) ?_) | (refine lw_pure rfl (pv_assign rfl) ?_) | (refine is_cw ?_; first | (refine cw_seq ?_) | (refine cw_region ?_) | (refine cw_true rfl rfl ?_) | (refine cw_block ?_) | (refine cw_ret ?_)) | (refine is_qw ?_; first | (with_reducible refine qw_then ?_) | (with_reducible refine qw_then_ret ?_) | (with_reducible refine qw_in_ret ?_)) | (refine lw_nil ?_) | ((refine is_bin ?_; first | (refine lw_pure rfl (pv_neq rfl rfl) ?_))))
      exact qw_ret1 rfl rfl ⟨rfl, h.mono hw, Gw.of_below (grow_trans hw0 hw)⟩
    | some f =>
      have hsz := getF_sz h.ok hg
      have hzf : szF f = f.firm.size + f.pend.size := rfl
      repeat' (first | (refine lw_pure rfl (pv_move rfl) ?_) | (refine lw_pure rfl (pv_assign rfl) ?_) | (refine lw_call (f := 45) (by kernel_rfl) rfl rfl (find0_c (h.mono hw) hk hn hg) ?_; rintro e w1 ⟨rfl, hb⟩; refine ⟨_, rfl, ?_⟩; replace hw := grow_trans hw hb; clear hb) | (refine is_cw ?_; first | (refine cw_seq ?_) | (refine cw_region ?_)) | (refine is_qw ?_; first | (with_reducible refine qw_then ?_)) | (refine lw_nil ?_) | ((refine is_load ?_; first | (refine lw_pure rfl (pv_load (t1 rfl) rfl (by first | exact PT.ld0 (H2.mono hw) rfl | exact PT.ld (H2.mono hw) rfl | exact PT.ld0 (H3.mono hw) rfl | exact PT.ld (H3.mono hw) rfl)) ?_))) | (refine lw_pure rfl (pv_extract rfl rfl) ?_))
      refine lw_varN rfl (by first | exact tyv_28 | exact tyv_29 | exact tyv_34 | exact tyv_35 | exact tyv_43 | exact tyv_44 | exact tyv_77 | exact tyv_78 | exact tyv_80 | exact tyv_81 | exact tyv_86 | exact tyv_87 | exact tyv_126 | exact tyv_127) rfl (tZ rfl) (fun _ => rfl) rfl rfl ?_; intro N5 wn hN5 H5 hb; replace hN5 := Nat.le_trans hw.size hN5; replace hw := grow_trans hw hb; clear hb
      have hwB := hw
      have hN5' := Nat.le_trans hw0.size hN5
      replace h := h.mono hw; replace H2 := H2.mono hw; replace H3 := H3.mono hw; replace H4 := H4.mono hw; clear hw; have hw := Below.refl wn.heap.size wn
      replace hw0 := grow_trans hw0 hwB
      repeat' (first | (refine lw_pure rfl (pv_move rfl) ?_) | (refine lw_pure rfl (pv_assign rfl) ?_) | (refine is_cw ?_; first | (refine cw_seq ?_) | (refine cw_region ?_) | (refine cw_false rfl rfl ?_) | (refine cw_block ?_)) | (refine is_qw ?_; first | (with_reducible refine qw_then ?_)) | (refine lw_nil ?_) | ((refine is_bin ?_; first | (refine lw_pure rfl (pv_neq rfl rfl) ?_))))
      by_cases h1 : k < 0
      · rw [show trimD d n k = (1, d) from by unfold trimD; rw [hk, if_neg (by simp), hg]; dsimp only; rw [if_pos (Or.inl h1)]]
        refine cw_drawn (fun w' => Below wn.heap.size wn w') (by kernel_rfl) (by repeat (first | exact NoPanic.body | with_reducible refine NoPanic.then ?_ | with_reducible refine NoPanic.inBlock ?_)) (fun hNP => ?_)
        have hS := hw.drew
        all_goals (refine at0 0 rfl (fun w' hq => pv_load (t1 rfl) rfl (by first | exact PT.ld0 (H2.mono hq) rfl | exact PT.ld (H2.mono hq) rfl | exact PT.ld0 (H3.mono hq) rfl | exact PT.ld (H3.mono hq) rfl | exact PT.ld0 (H4.mono hq) rfl | exact PT.ld (H4.mono hq) rfl | exact PT.ld0 (H5.mono hq) rfl | exact PT.ld (H5.mono hq) rfl)) ?_)
        all_goals (refine at0 1 rfl (fun w' hq => pv_lss rfl rfl) ?_)
        all_goals (refine at0 2 rfl (fun w' hq => pv_move rfl) ?_)
        all_goals (refine an2 3 rfl rfl rfl ?_)
        all_goals (refine an2 4 rfl rfl rfl ?_)
        all_goals first | (refine an3 5 rfl rfl rfl ?_) | (refine an0 5 rfl rfl rfl ?_) | (refine aw_act_g 5 (by kernel_rfl) rfl rfl rfl (by first | rfl | assumption | exact decide_eq_true (by omega) | exact decide_eq_false (by omega) | exact dec_notT (by omega) | exact dec_notF (by omega)) rfl ?_; refine act_call (f := 49) (by kernel_rfl) rfl (size_c (a := f.firm) (b := f.pend) (by omega) _) ?_; rintro e w1 ⟨rfl, hb⟩; refine ⟨_, rfl, grow_trans hS hb, fun hS => ?_⟩)
        all_goals (refine an2 6 rfl rfl rfl ?_)
        all_goals (refine at0 7 rfl (fun w' hq => pv_pick_t rfl (by first | assumption | exact decide_eq_true (by omega) | exact dec_notT (by omega)) rfl) ?_)
        all_goals (refine at0 8 rfl (fun w' hq => pv_assign rfl) ?_)
        all_goals (refine aw_done (by kernel_rfl) ?_; replace hw := hS; clear hS hNP)
        repeat' (first | (refine lw_pure rfl (pv_assign rfl) ?_) | (refine is_cw ?_; first | (refine cw_seq ?_) | (refine cw_region ?_) | (refine cw_true rfl rfl ?_) | (refine cw_ret ?_)) | (refine is_qw ?_; first | (with_reducible refine qw_then ?_) | (with_reducible refine qw_then_ret ?_) | (with_reducible refine qw_in_ret ?_)) | (refine lw_nil ?_))
        exact qw_ret1 rfl rfl ⟨rfl, h.mono hw, Gw.of_below (grow_trans hw0 hw)⟩
      · by_cases h2 : (szF f : Int) < k
        · rw [show trimD d n k = (1, d) from by unfold trimD; rw [hk, if_neg (by simp), hg]; dsimp only; rw [if_pos (Or.inr h2)]]
          refine cw_drawn (fun w' => Below wn.heap.size wn w') (by kernel_rfl) (by repeat (first | exact NoPanic.body | with_reducible refine NoPanic.then ?_ | with_reducible refine NoPanic.inBlock ?_)) (fun hNP => ?_)
          have hS := hw.drew
          all_goals (refine at0 0 rfl (fun w' hq => pv_load (t1 rfl) rfl (by first | exact PT.ld0 (H2.mono hq) rfl | exact PT.ld (H2.mono hq) rfl | exact PT.ld0 (H3.mono hq) rfl | exact PT.ld (H3.mono hq) rfl | exact PT.ld0 (H4.mono hq) rfl | exact PT.ld (H4.mono hq) rfl | exact PT.ld0 (H5.mono hq) rfl | exact PT.ld (H5.mono hq) rfl)) ?_)
          all_goals (refine at0 1 rfl (fun w' hq => pv_lss rfl rfl) ?_)
          all_goals (refine at0 2 rfl (fun w' hq => pv_move rfl) ?_)
          all_goals (refine at2 3 rfl rfl rfl (fun w' hq => pv_load (t1 rfl) rfl (by first | exact PT.ld0 (H2.mono hq) rfl | exact PT.ld (H2.mono hq) rfl | exact PT.ld0 (H3.mono hq) rfl | exact PT.ld (H3.mono hq) rfl | exact PT.ld0 (H4.mono hq) rfl | exact PT.ld (H4.mono hq) rfl | exact PT.ld0 (H5.mono hq) rfl | exact PT.ld (H5.mono hq) rfl)) ?_)
          all_goals (refine at2 4 rfl rfl rfl (fun w' hq => pv_loada (tA rfl) rfl (by first | exact PT.lda (H2.mono hq) | exact PT.lda (H3.mono hq) | exact PT.lda (H4.mono hq) | exact PT.lda (H5.mono hq)) (by rfl)) ?_)
          all_goals first | (refine an3 5 rfl rfl rfl ?_) | (refine an0 5 rfl rfl rfl ?_) | (refine aw_act_g 5 (by kernel_rfl) rfl rfl rfl (by first | rfl | assumption | exact decide_eq_true (by omega) | exact decide_eq_false (by omega) | exact dec_notT (by omega) | exact dec_notF (by omega)) rfl ?_; refine act_call (f := 49) (by kernel_rfl) rfl (size_c (a := f.firm) (b := f.pend) (by omega) _) ?_; rintro e w1 ⟨rfl, hb⟩; refine ⟨_, rfl, grow_trans hS hb, fun hS => ?_⟩)
          all_goals (refine at2 6 rfl rfl rfl (fun w' hq => pv_gtr rfl rfl) ?_)
          all_goals (refine at0 7 rfl (fun w' hq => pv_pick_f rfl (by first | assumption | exact decide_eq_false (by omega) | exact dec_notF (by omega)) rfl) ?_)
          all_goals (refine at0 8 rfl (fun w' hq => pv_assign rfl) ?_)
          all_goals (refine aw_done (by kernel_rfl) ?_; replace hw := hS; clear hS hNP)
          repeat' (first | (refine lw_pure rfl (pv_assign rfl) ?_) | (refine is_cw ?_; first | (refine cw_seq ?_) | (refine cw_region ?_) | (refine cw_true rfl (by first | assumption | exact decide_eq_true (by omega) | exact dec_notT (by omega)) ?_) | (refine cw_ret ?_)) | (refine is_qw ?_; first | (with_reducible refine qw_then ?_) | (with_reducible refine qw_then_ret ?_) | (with_reducible refine qw_in_ret ?_)) | (refine lw_nil ?_))
          exact qw_ret1 rfl rfl ⟨rfl, h.mono hw, Gw.of_below (grow_trans hw0 hw)⟩
        · rw [show trimD d n k = doD d (putF d.fs ⟨n, (f.firm ++ f.pend).extract 0 k.toNat, emptyB⟩) from by unfold trimD; rw [hk, if_neg (by simp), hg]; dsimp only; rw [if_neg (by omega)]]
          refine cw_drawn (fun w' => Below wn.heap.size wn w') (by kernel_rfl) (by repeat (first | exact NoPanic.body | with_reducible refine NoPanic.then ?_ | with_reducible refine NoPanic.inBlock ?_)) (fun hNP => ?_)
          have hS := hw.drew
          all_goals (refine at0 0 rfl (fun w' hq => pv_load (t1 rfl) rfl (by first | exact PT.ld0 (H2.mono hq) rfl | exact PT.ld (H2.mono hq) rfl | exact PT.ld0 (H3.mono hq) rfl | exact PT.ld (H3.mono hq) rfl | exact PT.ld0 (H4.mono hq) rfl | exact PT.ld (H4.mono hq) rfl | exact PT.ld0 (H5.mono hq) rfl | exact PT.ld (H5.mono hq) rfl)) ?_)
          all_goals (refine at0 1 rfl (fun w' hq => pv_lss rfl rfl) ?_)
          all_goals (refine at0 2 rfl (fun w' hq => pv_move rfl) ?_)
          all_goals (refine at2 3 rfl rfl rfl (fun w' hq => pv_load (t1 rfl) rfl (by first | exact PT.ld0 (H2.mono hq) rfl | exact PT.ld (H2.mono hq) rfl | exact PT.ld0 (H3.mono hq) rfl | exact PT.ld (H3.mono hq) rfl | exact PT.ld0 (H4.mono hq) rfl | exact PT.ld (H4.mono hq) rfl | exact PT.ld0 (H5.mono hq) rfl | exact PT.ld (H5.mono hq) rfl)) ?_)
          all_goals (refine at2 4 rfl rfl rfl (fun w' hq => pv_loada (tA rfl) rfl (by first | exact PT.lda (H2.mono hq) | exact PT.lda (H3.mono hq) | exact PT.lda (H4.mono hq) | exact PT.lda (H5.mono hq)) (by rfl)) ?_)
          all_goals first | (refine an3 5 rfl rfl rfl ?_) | (refine an0 5 rfl rfl rfl ?_) | (refine aw_act_g 5 (by kernel_rfl) rfl rfl rfl (by first | rfl | assumption | exact decide_eq_true (by omega) | exact decide_eq_false (by omega) | exact dec_notT (by omega) | exact dec_notF (by omega)) rfl ?_; refine act_call (f := 49) (by kernel_rfl) rfl (size_c (a := f.firm) (b := f.pend) (by omega) _) ?_; rintro e w1 ⟨rfl, hb⟩; refine ⟨_, rfl, grow_trans hS hb, fun hS => ?_⟩)
          all_goals (refine at2 6 rfl rfl rfl (fun w' hq => pv_gtr rfl rfl) ?_)
          all_goals (refine at0 7 rfl (fun w' hq => pv_pick_f rfl (by first | assumption | exact decide_eq_false (by omega) | exact dec_notF (by omega)) rfl) ?_)
          all_goals (refine at0 8 rfl (fun w' hq => pv_assign rfl) ?_)
          all_goals (refine aw_done (by kernel_rfl) ?_; replace hw := hS; clear hS hNP)
          repeat' (first | (refine is_cw ?_; first | (refine cw_seq ?_) | (refine cw_region ?_) | (refine cw_false rfl (by first | assumption | exact decide_eq_false (by omega) | exact dec_notF (by omega)) ?_) | (refine cw_skip ?_)) | (refine is_qw ?_; first | (with_reducible refine qw_then ?_) | (with_reducible refine qw_in ?_)) | ((refine is_load ?_; first | (refine lw_pure rfl (pv_load (t1 rfl) rfl (by first | exact PT.ld0 (H2.mono hw) rfl | exact PT.ld (H2.mono hw) rfl | exact PT.ld0 (H3.mono hw) rfl | exact PT.ld (H3.mono hw) rfl | exact PT.ld0 (H4.mono hw) rfl | exact PT.ld (H4.mono hw) rfl)) ?_))) | (refine lw_pure rfl (pv_makeFunc rfl rfl) ?_))
          have hwa := grow_trans hw0 hw
          refine lw_call (f := 50) (by kernel_rfl) rfl rfl (do_c (g := 54) (caps := #[.pointer (some ⟨N5, 0, none⟩), .pointer (some ⟨N4, 0, none⟩), .pointer (some ⟨N2, 0, none⟩), .pointer (some ⟨N3, 0, none⟩)]) (fs := putF d.fs ⟨n, (f.firm ++ f.pend).extract 0 k.toNat, emptyB⟩) (h.mono hw) (h.ok.swap hg rfl (by unfold szF; dsimp only; rw [size_extract0, size_append, size_empty]; omega)) (by kernel_rfl) (fun w1 d1 hD hf hG => by rw [← hf]; exact trim1_c hD hn (by omega) ⟨by omega, by rw [size_append]; omega⟩ ((H5.mono hw).gw hG (by omega) (by omega)) ((H4.mono hw).gw hG (by omega) (by omega)) ((H2.mono hw).gw hG (by omega) (by omega)) ((H3.mono hw).gw hG (by omega) (by omega)))) ?_
          rintro e1 w9 ⟨rfl, hD, hG⟩; refine ⟨_, rfl, ?_⟩
          clear hw
          have hw := Below.refl w9.heap.size w9
          repeat' (first | (refine lw_pure rfl (pv_assign rfl) ?_) | (refine is_cw ?_; first | (refine cw_ret ?_)) | (refine is_qw ?_; first | (with_reducible refine qw_then ?_)) | (refine lw_nil ?_))
          exact qw_ret1 rfl rfl ⟨rfl, hD, (Gw.of_below hwa).trans hG⟩
set_option maxRecDepth 20000 in
theorem append_c {w : World} {N B : Nat} {d : Dsk} (h : DkW w N B d) {n b : ByteArray} (hn : n.size ≤ 9223372036854775807) : Calls Tryd.prog 34 #[.pointer (some ⟨N, 0, none⟩), .string n, .string b] w fun e w' => e = .returned (.int .i64 (appendD d n b).1) ∧ DkW w' N B (appendD d n b).2 ∧ Gw N B w w' := by
  have hlt := h.lt
  have hw := Below.refl w.heap.size w
  have hw0 := hw
  refine fn_enter 52 Tryd.func34 rfl rfl rfl ?_
  cases hk : d.dark with
  | true =>
    rw [show appendD d n b = (45, d) from by unfold appendD; rw [if_pos hk]]
    repeat' (first | (refine lw_pure rfl (pv_move rfl) ?_) | (refine lw_pure rfl (pv_assign rfl) ?_) | (refine lw_call (f := 45) (by kernel_rfl) rfl rfl (find45_c (h.mono hw) hk n) ?_; rintro e w1 ⟨rfl, hb⟩; refine ⟨_, rfl, ?_⟩; replace hw := grow_trans hw hb; clear hb) | (refine is_cw ?_; first | (refine cw_seq ?_) | (refine cw_region ?_)) | (refine is_qw ?_; first | (with_reducible refine qw_then ?_)) | (refine lw_nil ?_) | (refine lw_pure rfl (pv_extract rfl rfl) ?_))
    refine lw_varN rfl (by first | exact tyv_28 | exact tyv_29 | exact tyv_34 | exact tyv_35 | exact tyv_43 | exact tyv_44 | exact tyv_77 | exact tyv_78 | exact tyv_80 | exact tyv_81 | exact tyv_86 | exact tyv_87 | exact tyv_126 | exact tyv_127) rfl (tZ rfl) (fun _ => rfl) rfl rfl ?_; intro N5 wn hN5 H5 hb; replace hN5 := Nat.le_trans hw.size hN5; replace hw := grow_trans hw hb; clear hb
    repeat' (first | (refine lw_pure rfl (pv_move rfl) ?_) | (refine lw_pure rfl (pv_assign rfl) ?_) | (refine is_cw ?_; first | (refine cw_seq ?_) | (refine cw_region ?_) | (refine cw_true rfl rfl ?_) | (refine cw_block ?_) | (refine cw_ret ?_)) | (refine is_qw ?_; first | (with_reducible refine qw_then ?_) | (with_reducible refine qw_then_ret ?_) | (with_reducible refine qw_in_ret ?_)) | (refine lw_nil ?_) | ((refine is_bin ?_; first | (refine lw_pure rfl (pv_neq rfl rfl) ?_))))
    exact qw_ret1 rfl rfl ⟨rfl, h.mono hw, Gw.of_below (grow_trans hw0 hw)⟩
  | false =>
    cases hg : getF d.fs n with
    | none =>
      rw [show appendD d n b = (5, d) from by unfold appendD; rw [hk, if_neg (by simp), hg]]
      repeat' (first | (refine lw_pure rfl (pv_move rfl) ?_) | (refine lw_pure rfl (pv_assign rfl) ?_) | (refine lw_call (f := 45) (by kernel_rfl) rfl rfl (find5_c (h.mono hw) hk hn hg) ?_; rintro e w1 ⟨rfl, hb⟩; refine ⟨_, rfl, ?_⟩; replace hw := grow_trans hw hb; clear hb) | (refine is_cw ?_; first | (refine cw_seq ?_) | (refine cw_region ?_)) | (refine is_qw ?_; first | (with_reducible refine qw_then ?_)) | (refine lw_nil ?_) | (refine lw_pure rfl (pv_extract rfl rfl) ?_))
      refine lw_varN rfl (by first | exact tyv_28 | exact tyv_29 | exact tyv_34 | exact tyv_35 | exact tyv_43 | exact tyv_44 | exact tyv_77 | exact tyv_78 | exact tyv_80 | exact tyv_81 | exact tyv_86 | exact tyv_87 | exact tyv_126 | exact tyv_127) rfl (tZ rfl) (fun _ => rfl) rfl rfl ?_; intro N5 wn hN5 H5 hb; replace hN5 := Nat.le_trans hw.size hN5; replace hw := grow_trans hw hb; clear hb
      repeat' (first | (refine lw_pure rfl (pv_move rfl) ?_) | (refine lw_pure rfl (pv_assign rfl) ?_) | (refine is_cw ?_; first | (refine cw_seq ?_) | (refine cw_region ?_) | (refine cw_true rfl rfl ?_) | (refine cw_block ?_) | (refine cw_ret ?_)) | (refine is_qw ?_; first | (with_reducible refine qw_then ?_) | (with_reducible refine qw_then_ret ?_) | (with_reducible refine qw_in_ret ?_)) | (refine lw_nil ?_) | ((refine is_bin ?_; first | (refine lw_pure rfl (pv_neq rfl rfl) ?_))))
      exact qw_ret1 rfl rfl ⟨rfl, h.mono hw, Gw.of_below (grow_trans hw0 hw)⟩
    | some f =>
      have hsz := getF_sz h.ok hg
      have hzf : szF f = f.firm.size + f.pend.size := rfl
      have hus := h.ok.used
      have hcp := h.ok.cap
      repeat' (first | (refine lw_pure rfl (pv_move rfl) ?_) | (refine lw_pure rfl (pv_assign rfl) ?_) | (refine lw_call (f := 45) (by kernel_rfl) rfl rfl (find0_c (h.mono hw) hk hn hg) ?_; rintro e w1 ⟨rfl, hb⟩; refine ⟨_, rfl, ?_⟩; replace hw := grow_trans hw hb; clear hb) | (refine is_cw ?_; first | (refine cw_seq ?_) | (refine cw_region ?_)) | (refine is_qw ?_; first | (with_reducible refine qw_then ?_)) | (refine lw_nil ?_) | (refine lw_pure rfl (pv_extract rfl rfl) ?_))
      refine lw_varN rfl (by first | exact tyv_28 | exact tyv_29 | exact tyv_34 | exact tyv_35 | exact tyv_43 | exact tyv_44 | exact tyv_77 | exact tyv_78 | exact tyv_80 | exact tyv_81 | exact tyv_86 | exact tyv_87 | exact tyv_126 | exact tyv_127) rfl (tZ rfl) (fun _ => rfl) rfl rfl ?_; intro N5 wn hN5 H5 hb; replace hN5 := Nat.le_trans hw.size hN5; replace hw := grow_trans hw hb; clear hb
      have hwB := hw
      have hN5' := Nat.le_trans hw0.size hN5
      replace h := h.mono hw; clear hw; have hw := Below.refl wn.heap.size wn
      replace hw0 := grow_trans hw0 hwB
      have H := h.obj
      repeat' (first | (refine lw_pure rfl (pv_move rfl) ?_) | (refine lw_pure rfl (pv_assign rfl) ?_) | (refine is_cw ?_; first | (refine cw_seq ?_) | (refine cw_region ?_) | (refine cw_false rfl rfl ?_) | (refine cw_block ?_)) | (refine is_qw ?_; first | (with_reducible refine qw_then ?_)) | (refine lw_nil ?_) | ((refine is_bin ?_; first | (refine lw_pure rfl (pv_neq rfl rfl) ?_))))
      by_cases h1 : 1048576 < szF f + b.size
      · rw [show appendD d n b = (44, d) from by unfold appendD; rw [hk, if_neg (by simp), hg]; dsimp only; rw [if_pos (Or.inl h1)]]
        refine cw_drawn (fun w' => Below wn.heap.size wn w') (by kernel_rfl) (by repeat (first | exact NoPanic.body | with_reducible refine NoPanic.then ?_ | with_reducible refine NoPanic.inBlock ?_)) (fun hNP => ?_)
        have hS := hw.drew
        all_goals (refine at0 0 rfl (fun w' hq => pv_move rfl) ?_)
        all_goals (refine at0 1 rfl (fun w' hq => pv_lens (tStr rfl) rfl) ?_)
        all_goals (refine at0 2 rfl (fun w' hq => pv_loada (tA rfl) rfl (by first | exact PT.lda (H.mono hq) | exact PT.lda (H5.mono hq)) (by rfl)) ?_)
        all_goals (refine aw_act 3 (by kernel_rfl) rfl rfl rfl ?_; refine act_call (f := 49) (by kernel_rfl) rfl (size_c (a := f.firm) (b := f.pend) (by omega) _) ?_; rintro e w1 ⟨rfl, hb⟩; refine ⟨_, rfl, grow_trans hS hb, fun hS => ?_⟩)
        all_goals (refine at0 4 rfl (fun w' hq => pv_sub rfl rfl (by omega)) ?_)
        all_goals (refine at0 5 rfl (fun w' hq => pv_gtr rfl rfl) ?_)
        all_goals (refine at0 6 rfl (fun w' hq => pv_move rfl) ?_)
        all_goals (refine an2 7 rfl rfl rfl ?_)
        all_goals (refine an2 8 rfl rfl rfl ?_)
        all_goals (refine an2 9 rfl rfl rfl ?_)
        all_goals (refine an2 10 rfl rfl rfl ?_)
        all_goals (refine an2 11 rfl rfl rfl ?_)
        all_goals (refine an2 12 rfl rfl rfl ?_)
        all_goals (refine an2 13 rfl rfl rfl ?_)
        all_goals first | (refine an3 14 rfl rfl rfl ?_) | (refine an0 14 rfl rfl rfl ?_) | (refine aw_act_g 14 (by kernel_rfl) rfl rfl rfl (by first | rfl | assumption | exact decide_eq_true (by omega) | exact decide_eq_false (by omega) | exact dec_notT (by omega) | exact dec_notF (by omega)) rfl ?_; refine act_call (f := 32) (by kernel_rfl) rfl (used_c (h.mono hS)) ?_; rintro e w1 ⟨rfl, hb⟩; refine ⟨_, rfl, grow_trans hS hb, fun hS => ?_⟩)
        all_goals (refine an2 15 rfl rfl rfl ?_)
        all_goals (refine an2 16 rfl rfl rfl ?_)
        all_goals (refine at0 17 rfl (fun w' hq => pv_pick_t rfl (by first | assumption | exact decide_eq_true (by omega) | exact dec_notT (by omega)) rfl) ?_)
        all_goals (refine at0 18 rfl (fun w' hq => pv_assign rfl) ?_)
        all_goals (refine aw_done (by kernel_rfl) ?_; replace hw := hS; clear hS hNP)
        repeat' (first | (refine lw_pure rfl (pv_assign rfl) ?_) | (refine is_cw ?_; first | (refine cw_seq ?_) | (refine cw_region ?_) | (refine cw_true rfl rfl ?_) | (refine cw_ret ?_)) | (refine is_qw ?_; first | (with_reducible refine qw_then ?_) | (with_reducible refine qw_then_ret ?_) | (with_reducible refine qw_in_ret ?_)) | (refine lw_nil ?_))
        exact qw_ret1 rfl rfl ⟨rfl, h.mono hw, Gw.of_below (grow_trans hw0 hw)⟩
      · by_cases h2 : d.cap < (usedF d.fs : Int) + b.size
        · rw [show appendD d n b = (44, d) from by unfold appendD; rw [hk, if_neg (by simp), hg]; dsimp only; rw [if_pos (Or.inr h2)]]
          refine cw_drawn (fun w' => Below wn.heap.size wn w') (by kernel_rfl) (by repeat (first | exact NoPanic.body | with_reducible refine NoPanic.then ?_ | with_reducible refine NoPanic.inBlock ?_)) (fun hNP => ?_)
          have hS := hw.drew
          all_goals (refine at0 0 rfl (fun w' hq => pv_move rfl) ?_)
          all_goals (refine at0 1 rfl (fun w' hq => pv_lens (tStr rfl) rfl) ?_)
          all_goals (refine at0 2 rfl (fun w' hq => pv_loada (tA rfl) rfl (by first | exact PT.lda (H.mono hq) | exact PT.lda (H5.mono hq)) (by rfl)) ?_)
          all_goals (refine aw_act 3 (by kernel_rfl) rfl rfl rfl ?_; refine act_call (f := 49) (by kernel_rfl) rfl (size_c (a := f.firm) (b := f.pend) (by omega) _) ?_; rintro e w1 ⟨rfl, hb⟩; refine ⟨_, rfl, grow_trans hS hb, fun hS => ?_⟩)
          all_goals (refine at0 4 rfl (fun w' hq => pv_sub rfl rfl (by omega)) ?_)
          all_goals (refine at0 5 rfl (fun w' hq => pv_gtr rfl rfl) ?_)
          all_goals (refine at0 6 rfl (fun w' hq => pv_move rfl) ?_)
          all_goals (refine at2 7 rfl rfl rfl (fun w' hq => pv_move rfl) ?_)
          all_goals (refine at2 8 rfl rfl rfl (fun w' hq => pv_lens (tStr rfl) rfl) ?_)
          all_goals (refine at2 9 rfl rfl rfl (fun w' hq => pv_move rfl) ?_)
          all_goals (refine at2 10 rfl rfl rfl (fun w' hq => pv_nilp rfl) ?_)
          all_goals (refine at2 11 rfl rfl rfl (fun w' hq => pv_fa (tF rfl) rfl) ?_)
          all_goals (refine at2 12 rfl rfl rfl (fun w' hq => pv_load (t1 rfl) rfl (by first | exact PT.ld0 (H.mono hq) rfl | exact PT.ld (H.mono hq) rfl | exact PT.ld0 (H5.mono hq) rfl | exact PT.ld (H5.mono hq) rfl)) ?_)
          all_goals (refine at2 13 rfl rfl rfl (fun w' hq => pv_move rfl) ?_)
          all_goals first | (refine an3 14 rfl rfl rfl ?_) | (refine an0 14 rfl rfl rfl ?_) | (refine aw_act_g 14 (by kernel_rfl) rfl rfl rfl (by first | rfl | assumption | exact decide_eq_true (by omega) | exact decide_eq_false (by omega) | exact dec_notT (by omega) | exact dec_notF (by omega)) rfl ?_; refine act_call (f := 32) (by kernel_rfl) rfl (used_c (h.mono hS)) ?_; rintro e w1 ⟨rfl, hb⟩; refine ⟨_, rfl, grow_trans hS hb, fun hS => ?_⟩)
          all_goals (refine at2 15 rfl rfl rfl (fun w' hq => pv_sub rfl rfl (by omega)) ?_)
          all_goals (refine at2 16 rfl rfl rfl (fun w' hq => pv_gtr rfl rfl) ?_)
          all_goals (refine at0 17 rfl (fun w' hq => pv_pick_f rfl (by first | assumption | exact decide_eq_false (by omega) | exact dec_notF (by omega)) rfl) ?_)
          all_goals (refine at0 18 rfl (fun w' hq => pv_assign rfl) ?_)
          all_goals (refine aw_done (by kernel_rfl) ?_; replace hw := hS; clear hS hNP)
          repeat' (first | (refine lw_pure rfl (pv_assign rfl) ?_) | (refine is_cw ?_; first | (refine cw_seq ?_) | (refine cw_region ?_) | (refine cw_true rfl (by first | assumption | exact decide_eq_true (by omega) | exact dec_notT (by omega)) ?_) | (refine cw_ret ?_)) | (refine is_qw ?_; first | (with_reducible refine qw_then ?_) | (with_reducible refine qw_then_ret ?_) | (with_reducible refine qw_in_ret ?_)) | (refine lw_nil ?_))
          exact qw_ret1 rfl rfl ⟨rfl, h.mono hw, Gw.of_below (grow_trans hw0 hw)⟩
        · have hok := h.ok.append n b
          have e : appendD d n b = ((doD d d.fs).1, { (doD d d.fs).2 with fs := putF d.fs ⟨n, f.firm, f.pend ++ b⟩ }) := by unfold appendD; rw [hk, if_neg (by simp), hg]; dsimp only; rw [if_neg (by omega)]
          rw [e] at hok ⊢
          refine cw_drawn (fun w' => Below wn.heap.size wn w') (by kernel_rfl) (by repeat (first | exact NoPanic.body | with_reducible refine NoPanic.then ?_ | with_reducible refine NoPanic.inBlock ?_)) (fun hNP => ?_)
          have hS := hw.drew
          all_goals (refine at0 0 rfl (fun w' hq => pv_move rfl) ?_)
          all_goals (refine at0 1 rfl (fun w' hq => pv_lens (tStr rfl) rfl) ?_)
          all_goals (refine at0 2 rfl (fun w' hq => pv_loada (tA rfl) rfl (by first | exact PT.lda (H.mono hq) | exact PT.lda (H5.mono hq)) (by rfl)) ?_)
          all_goals (refine aw_act 3 (by kernel_rfl) rfl rfl rfl ?_; refine act_call (f := 49) (by kernel_rfl) rfl (size_c (a := f.firm) (b := f.pend) (by omega) _) ?_; rintro e w1 ⟨rfl, hb⟩; refine ⟨_, rfl, grow_trans hS hb, fun hS => ?_⟩)
          all_goals (refine at0 4 rfl (fun w' hq => pv_sub rfl rfl (by omega)) ?_)
          all_goals (refine at0 5 rfl (fun w' hq => pv_gtr rfl rfl) ?_)
          all_goals (refine at0 6 rfl (fun w' hq => pv_move rfl) ?_)
          all_goals (refine at2 7 rfl rfl rfl (fun w' hq => pv_move rfl) ?_)
          all_goals (refine at2 8 rfl rfl rfl (fun w' hq => pv_lens (tStr rfl) rfl) ?_)
          all_goals (refine at2 9 rfl rfl rfl (fun w' hq => pv_move rfl) ?_)
          all_goals (refine at2 10 rfl rfl rfl (fun w' hq => pv_nilp rfl) ?_)
          all_goals (refine at2 11 rfl rfl rfl (fun w' hq => pv_fa (tF rfl) rfl) ?_)
          all_goals (refine at2 12 rfl rfl rfl (fun w' hq => pv_load (t1 rfl) rfl (by first | exact PT.ld0 (H.mono hq) rfl | exact PT.ld (H.mono hq) rfl | exact PT.ld0 (H5.mono hq) rfl | exact PT.ld (H5.mono hq) rfl)) ?_)
          all_goals (refine at2 13 rfl rfl rfl (fun w' hq => pv_move rfl) ?_)
          all_goals first | (refine an3 14 rfl rfl rfl ?_) | (refine an0 14 rfl rfl rfl ?_) | (refine aw_act_g 14 (by kernel_rfl) rfl rfl rfl (by first | rfl | assumption | exact decide_eq_true (by omega) | exact decide_eq_false (by omega) | exact dec_notT (by omega) | exact dec_notF (by omega)) rfl ?_; refine act_call (f := 32) (by kernel_rfl) rfl (used_c (h.mono hS)) ?_; rintro e w1 ⟨rfl, hb⟩; refine ⟨_, rfl, grow_trans hS hb, fun hS => ?_⟩)
          all_goals (refine at2 15 rfl rfl rfl (fun w' hq => pv_sub rfl rfl (by omega)) ?_)
          all_goals (refine at2 16 rfl rfl rfl (fun w' hq => pv_gtr rfl rfl) ?_)
          all_goals (refine at0 17 rfl (fun w' hq => pv_pick_f rfl (by first | assumption | exact decide_eq_false (by omega) | exact dec_notF (by omega)) rfl) ?_)
          all_goals (refine at0 18 rfl (fun w' hq => pv_assign rfl) ?_)
          all_goals (refine aw_done (by kernel_rfl) ?_; replace hw := hS; clear hS hNP)
          have hc : f.pend.size + b.size ≤ 9223372036854775807 := by omega
          repeat' (first | (refine lw_pure rfl (pv_move rfl) ?_) | (refine is_cw ?_; first | (refine cw_seq ?_) | (refine cw_region ?_) | (refine cw_false rfl (by first | assumption | exact decide_eq_false (by omega) | exact dec_notF (by omega)) ?_) | (refine cw_skip ?_)) | (refine is_qw ?_; first | (with_reducible refine qw_then ?_) | (with_reducible refine qw_in ?_)) | ((refine is_bin ?_; first | (refine lw_pure rfl (pv_cat rfl rfl hc) ?_))) | ((refine is_load ?_; first | (refine lw_pure rfl (pv_load (t1 rfl) rfl (by first | exact PT.ld0 (H5.mono hw) rfl | exact PT.ld (H5.mono hw) rfl)) ?_))) | ((refine is_fa ?_; first | (refine lw_pure rfl (pv_fa (tF rfl) rfl) ?_))))
          have hwC := hw
          refine lw_store (H5.mono hw) (tZ rfl) rfl rfl rfl (by simp) ?_; intro w6 H6 hg6 hz6
          have hG6 := (Gw.of_below (a := N5) (b := N5) hw).trans (Gw.of_a hg6)
          replace h := h.gw hG6 ⟨by omega, by omega⟩ ⟨by omega, by omega⟩
          replace hw0 := st_hw (grow_trans hw0 hw) hg6 hN5'
          clear hw H H5 hg6 hz6 hG6
          have hw := Below.refl w6.heap.size w6
          repeat' (first | (refine lw_pure rfl (pv_move rfl) ?_) | (refine is_cw ?_; first | (refine cw_seq ?_) | (refine cw_region ?_)) | (refine is_qw ?_; first | (with_reducible refine qw_then ?_)) | (refine lw_nil ?_))
          have hwa := grow_trans hw0 hw
          refine lw_call (f := 50) (by kernel_rfl) rfl rfl (do_c (g := 51) (caps := #[]) (fs := d.fs) (h.mono hw) h.ok (by kernel_rfl) (fun w1 d1 hD hf hG => (append1_c w1).mono fun e w' he => ⟨he.1, by rw [he.2]; obtain ⟨m, h5, h6⟩ := hD.mp; exact ⟨m, h5, by rw [← hf]; exact h6⟩, by rw [he.2]; exact Gw.of_below (Below.refl _ _)⟩)) ?_
          rintro e1 w9 ⟨rfl, hD, hG⟩; refine ⟨_, rfl, ?_⟩
          clear hw
          have hw := Below.refl w9.heap.size w9
          have H7 := H6.gw hG (by omega) (by omega)
          obtain ⟨m, hm, hp⟩ := hD.mp
          rw [doD_fs] at hp
          have H := hD.obj
          have hs := h.ok.srt
          repeat' (first | (refine lw_pure rfl (pv_assign rfl) ?_) | (refine is_cw ?_; first | (refine cw_seq ?_)) | (refine is_qw ?_; first | (with_reducible refine qw_then ?_)) | (refine lw_nil ?_))
          refine cw_drawnF 6 (fun w' => Below w9.heap.size w9 w' ∧ True) (by kernel_rfl) (by repeat (first | exact NoPanic.body | with_reducible refine NoPanic.then ?_ | with_reducible refine NoPanic.inBlock ?_)) (fun hNP => ?_)
          have hU := And.intro hw.drew trivial
          first | (refine fw_take 0 rfl (by kernel_rfl) rfl rfl (by kernel_rfl) (by kernel_rfl) (by kernel_rfl) hNP hU rfl (fun w' hq => pv_move rfl) ?_)
          first | (refine fw_take 1 rfl (by kernel_rfl) rfl rfl (by kernel_rfl) (by kernel_rfl) (by kernel_rfl) hNP hU rfl (fun w' hq => pv_nilp rfl) ?_)
          first | (refine fw_take 2 rfl (by kernel_rfl) rfl rfl (by kernel_rfl) (by kernel_rfl) (by kernel_rfl) hNP hU rfl (fun w' hq => pv_fa (tF rfl) rfl) ?_)
          first | (refine fw_take 3 rfl (by kernel_rfl) rfl rfl (by kernel_rfl) (by kernel_rfl) (by kernel_rfl) hNP hU rfl (fun w' hq => pv_load (t1 rfl) rfl (by first | exact PT.ld0 hq.2 rfl | exact PT.ld hq.2 rfl)) ?_) | (refine fw_take 3 rfl (by kernel_rfl) rfl rfl (by kernel_rfl) (by kernel_rfl) (by kernel_rfl) hNP hU rfl (fun w' hq => pv_loada (tA rfl) rfl (by first | exact PT.lda hq.2) (by rfl)) ?_) | (refine fw_take 3 rfl (by kernel_rfl) rfl rfl (by kernel_rfl) (by kernel_rfl) (by kernel_rfl) hNP hU rfl (fun w' hq => pv_load (t1 rfl) rfl (by first | exact PT.ld0 (H7.mono hq.1) rfl | exact PT.ld (H7.mono hq.1) rfl | exact PT.ld0 (H.mono hq.1) rfl | exact PT.ld (H.mono hq.1) rfl)) ?_) | (refine fw_take 3 rfl (by kernel_rfl) rfl rfl (by kernel_rfl) (by kernel_rfl) (by kernel_rfl) hNP hU rfl (fun w' hq => pv_loada (tA rfl) rfl (by first | exact PT.lda (H7.mono hq.1) | exact PT.lda (H.mono hq.1)) (by rfl)) ?_)
          first | (refine fw_take 4 rfl (by kernel_rfl) rfl rfl (by kernel_rfl) (by kernel_rfl) (by kernel_rfl) hNP hU rfl (fun w' hq => pv_move rfl) ?_)
          first | (refine fw_take 5 rfl (by kernel_rfl) rfl rfl (by kernel_rfl) (by kernel_rfl) (by kernel_rfl) hNP hU rfl (fun w' hq => pv_load (t1 rfl) rfl (by first | exact PT.ld0 hq.2 rfl | exact PT.ld hq.2 rfl)) ?_) | (refine fw_take 5 rfl (by kernel_rfl) rfl rfl (by kernel_rfl) (by kernel_rfl) (by kernel_rfl) hNP hU rfl (fun w' hq => pv_loada (tA rfl) rfl (by first | exact PT.lda hq.2) (by rfl)) ?_) | (refine fw_take 5 rfl (by kernel_rfl) rfl rfl (by kernel_rfl) (by kernel_rfl) (by kernel_rfl) hNP hU rfl (fun w' hq => pv_load (t1 rfl) rfl (by first | exact PT.ld0 (H7.mono hq.1) rfl | exact PT.ld (H7.mono hq.1) rfl | exact PT.ld0 (H.mono hq.1) rfl | exact PT.ld (H.mono hq.1) rfl)) ?_) | (refine fw_take 5 rfl (by kernel_rfl) rfl rfl (by kernel_rfl) (by kernel_rfl) (by kernel_rfl) hNP hU rfl (fun w' hq => pv_loada (tA rfl) rfl (by first | exact PT.lda (H7.mono hq.1) | exact PT.lda (H.mono hq.1)) (by rfl)) ?_)
          refine fw_last (by kernel_rfl) rfl rfl rfl rfl (by kernel_rfl) ?_
          obtain ⟨hw, -⟩ := hU; clear hNP
          refine act_svs (some_updB (k := n) (v := (f.firm, f.pend ++ b)) Tryd.underlying79 keyS hn rfl rfl rfl (hm.mono hw)) ?_; rintro w8 ⟨hm8, hg8, hz8⟩
          have hne := hD.ne
          have hG8 := (Gw.of_below (a := N) (b := B) hw).trans (Gw.of_b hg8)
          have H8 := (hD.obj.mono hw).grown hg8 (by intro e; injection e with e; exact hne e.symm)
          clear hw
          have hw := Below.refl w8.heap.size w8
          repeat' (first | (refine lw_pure rfl (pv_move rfl) ?_) | (refine lw_pure rfl (pv_assign rfl) ?_) | (refine is_cw ?_; first | (refine cw_seq ?_) | (refine cw_region ?_) | (refine cw_ret ?_)) | (refine is_qw ?_; first | (with_reducible refine qw_then ?_)) | (refine lw_nil ?_))
          exact qw_ret1 rfl rfl ⟨rfl, ⟨H8, ⟨_, hm8, perm_put (φ := fun f => (f.firm, f.pend)) hp hs ⟨n, f.firm, f.pend ++ b⟩⟩, hok⟩, ((Gw.of_below hwa).trans hG).trans hG8⟩
set_option maxRecDepth 20000 in
theorem up_c {w : World} {N B : Nat} {d : Dsk} (h : DkW w N B d) : Calls Tryd.prog 30 #[.pointer (some ⟨N, 0, none⟩)] w fun e w' => e = .returned (.bool (!d.dark)) ∧ Below w.heap.size w w' := by
  have H := h.obj
  have hw := Below.refl w.heap.size w
  refine fn_enter 12 Tryd.func30 rfl rfl rfl ?_
  repeat' (first | (refine lw_pure rfl (pv_move rfl) ?_) | (refine lw_pure rfl (pv_assign rfl) ?_) | (refine is_cw ?_; first | (refine cw_seq ?_) | (refine cw_region ?_) | (refine cw_ret ?_)) | (refine is_qw ?_; first | (with_reducible refine qw_then ?_)) | (refine lw_nil ?_) | (refine is_guarded ?_; first | (refine lw_on rfl rfl rfl ?_)) | ((refine is_bin ?_; first | (refine lw_pure rfl (pv_pnnil tpD rfl rfl) ?_))) | ((refine is_load ?_; first | (refine lw_pure rfl (pv_load (t1 rfl) rfl (by first | exact PT.ld0 (H.mono hw) rfl | exact PT.ld (H.mono hw) rfl)) ?_))) | ((refine is_fa ?_; first | (refine lw_pure rfl (pv_fa (tF rfl) rfl) ?_))) | ((refine is_un ?_; first | (refine lw_pure rfl (pv_not rfl) ?_))) | (refine lw_pure rfl (pv_pick_t rfl rfl rfl) ?_) | (refine lw_pure rfl (pv_nilp rfl) ?_))
  exact qw_ret1 rfl rfl ⟨rfl, hw⟩
set_option maxRecDepth 20000 in
theorem upn_c (w : World) : Calls Tryd.prog 30 #[.pointer none] w fun e w' => e = .returned (.bool false) ∧ Below w.heap.size w w' := by
  have hw := Below.refl w.heap.size w
  refine fn_enter 12 Tryd.func30 rfl rfl rfl ?_
  repeat' (first | (refine lw_pure rfl (pv_move rfl) ?_) | (refine lw_pure rfl (pv_assign rfl) ?_) | (refine is_cw ?_; first | (refine cw_seq ?_) | (refine cw_region ?_) | (refine cw_ret ?_)) | (refine is_qw ?_; first | (with_reducible refine qw_then ?_)) | (refine lw_nil ?_) | (refine is_guarded ?_; first | (refine lw_not rfl rfl rfl rfl ?_)) | ((refine is_bin ?_; first | (refine lw_pure rfl (pv_pnnil tpD rfl rfl) ?_))) | (refine lw_pure rfl (pv_pick_f rfl rfl rfl) ?_))
  exact qw_ret1 rfl rfl ⟨rfl, hw⟩
set_option maxRecDepth 20000 in
theorem cap_c {w : World} {N B : Nat} {d : Dsk} (h : DkW w N B d) : Calls Tryd.prog 33 #[.pointer (some ⟨N, 0, none⟩)] w fun e w' => e = .returned (.int .i64 d.cap) ∧ Below w.heap.size w w' := by
  have H := h.obj
  have hw := Below.refl w.heap.size w
  refine fn_enter 9 Tryd.func33 rfl rfl rfl ?_
  repeat' (first | (refine lw_pure rfl (pv_move rfl) ?_) | (refine lw_pure rfl (pv_assign rfl) ?_) | (refine is_cw ?_; first | (refine cw_seq ?_) | (refine cw_region ?_) | (refine cw_false rfl rfl ?_) | (refine cw_skip ?_) | (refine cw_ret ?_)) | (refine is_qw ?_; first | (with_reducible refine qw_then ?_)) | (refine lw_nil ?_) | ((refine is_bin ?_; first | (refine lw_pure rfl (pv_pnil tpD rfl rfl) ?_))) | ((refine is_load ?_; first | (refine lw_pure rfl (pv_load (t1 rfl) rfl (by first | exact PT.ld0 (H.mono hw) rfl | exact PT.ld (H.mono hw) rfl)) ?_))) | ((refine is_fa ?_; first | (refine lw_pure rfl (pv_fa (tF rfl) rfl) ?_))) | (refine lw_pure rfl (pv_nilp rfl) ?_))
  exact qw_ret1 rfl rfl ⟨rfl, hw⟩
set_option maxRecDepth 20000 in
theorem capn_c (w : World) : Calls Tryd.prog 33 #[.pointer none] w fun e w' => e = .returned (.int .i64 0) ∧ Below w.heap.size w w' := by
  have hw := Below.refl w.heap.size w
  refine fn_enter 9 Tryd.func33 rfl rfl rfl ?_
  repeat' (first | (refine lw_pure rfl (pv_move rfl) ?_) | (refine lw_pure rfl (pv_assign rfl) ?_) | (refine is_cw ?_; first | (refine cw_seq ?_) | (refine cw_region ?_) | (refine cw_true rfl rfl ?_) | (refine cw_ret ?_)) | (refine is_qw ?_; first | (with_reducible refine qw_then ?_) | (with_reducible refine qw_then_ret ?_)) | (refine lw_nil ?_) | ((refine is_bin ?_; first | (refine lw_pure rfl (pv_pnil tpD rfl rfl) ?_))))
  exact qw_ret1 rfl rfl ⟨rfl, hw⟩
set_option maxRecDepth 20000 in
theorem room_c {w : World} {N B : Nat} {d : Dsk} (h : DkW w N B d) : Calls Tryd.prog 31 #[.pointer (some ⟨N, 0, none⟩)] w fun e w' => e = .returned (if d.dark then .tuple #[.int .i64 0, .int .i64 0, .int .i64 45] else .tuple #[.int .i64 (d.cap - usedF d.fs), .int .i64 (64 - (d.fs.length : Nat)), .int .i64 0]) ∧ Below w.heap.size w w' := by
  have H := h.obj
  obtain ⟨m, hm, hp⟩ := h.mp
  have hml := perm_len hp
  have hus := h.ok.used
  have hcp := h.ok.cap
  have hct := h.ok.cnt
  have hw := Below.refl w.heap.size w
  refine fn_enter 24 Tryd.func31 rfl rfl rfl ?_
  cases hk : d.dark with
  | true =>
    repeat' (first | (refine lw_pure rfl (pv_move rfl) ?_) | (refine lw_pure rfl (pv_assign rfl) ?_) | (refine lw_call (f := 44) (by kernel_rfl) rfl rfl (down1_c (h.mono hw) hk) ?_; rintro e w1 ⟨rfl, hb⟩; refine ⟨_, rfl, ?_⟩; replace hw := grow_trans hw hb; clear hb) | (refine is_cw ?_; first | (refine cw_seq ?_) | (refine cw_region ?_) | (refine cw_true rfl rfl ?_) | (refine cw_ret ?_)) | (refine is_qw ?_; first | (with_reducible refine qw_then ?_) | (with_reducible refine qw_then_ret ?_)) | (refine lw_nil ?_) | ((refine is_bin ?_; first | (refine lw_pure rfl (pv_neq rfl rfl) ?_))))
    exact qw_ret3 rfl rfl rfl rfl ⟨rfl, hw⟩
  | false =>
    rw [← hml]
    repeat' (first | (refine lw_pure rfl (pv_move rfl) ?_) | (refine lw_pure rfl (pv_assign rfl) ?_) | (refine lw_call (f := 44) (by kernel_rfl) rfl rfl (down0_c (h.mono hw) hk) ?_; rintro e w1 ⟨rfl, hb⟩; refine ⟨_, rfl, ?_⟩; replace hw := grow_trans hw hb; clear hb) | (refine is_cw ?_; first | (refine cw_seq ?_) | (refine cw_region ?_) | (refine cw_false rfl rfl ?_) | (refine cw_skip ?_)) | (refine is_qw ?_; first | (with_reducible refine qw_then ?_)) | (refine lw_nil ?_) | ((refine is_bin ?_; first | (refine lw_pure rfl (pv_neq rfl rfl) ?_))))
    refine cw_drawn (fun w' => Below w.heap.size w w') (by kernel_rfl) (by repeat (first | exact NoPanic.body | with_reducible refine NoPanic.then ?_ | with_reducible refine NoPanic.inBlock ?_)) (fun hNP => ?_)
    have hS := hw.drew
    (refine at0 0 rfl (fun w' hq => pv_move rfl) ?_)
    (refine at0 1 rfl (fun w' hq => pv_nilp rfl) ?_)
    (refine at0 2 rfl (fun w' hq => pv_fa (tF rfl) rfl) ?_)
    (refine at0 3 rfl (fun w' hq => pv_load (t1 rfl) rfl (by first | exact PT.ld0 (H.mono hq) rfl | exact PT.ld (H.mono hq) rfl)) ?_)
    (refine at0 4 rfl (fun w' hq => pv_move rfl) ?_)
    (refine at0 7 rfl (fun w' hq => pv_move rfl) ?_)
    (refine at0 8 rfl (fun w' hq => pv_nilp rfl) ?_)
    (refine at0 9 rfl (fun w' hq => pv_fa (tF rfl) rfl) ?_)
    (refine at0 10 rfl (fun w' hq => pv_load (t1 rfl) rfl (by first | exact PT.ld0 (H.mono hq) rfl | exact PT.ld (H.mono hq) rfl)) ?_)
    refine aw_act 5 (by kernel_rfl) rfl rfl rfl ?_
    refine act_call (f := 32) (by kernel_rfl) rfl (used_c (h.mono hS)) ?_; rintro e w1 ⟨rfl, hb⟩; refine ⟨_, rfl, grow_trans hS hb, fun hS => ?_⟩
    (refine at0 6 rfl (fun w' hq => pv_sub rfl rfl (by omega)) ?_)
    (refine at0 11 rfl (fun w' hq => pv_lenB rfl Tryd.underlying79 rfl (hm.mono hq)) ?_)
    (refine at0 12 rfl (fun w' hq => pv_sub rfl rfl (by omega)) ?_)
    (refine at0 13 rfl (fun w' hq => pv_assign rfl) ?_)
    (refine at0 14 rfl (fun w' hq => pv_assign rfl) ?_)
    (refine at0 15 rfl (fun w' hq => pv_assign rfl) ?_)
    refine aw_done (by kernel_rfl) ?_
    replace hw := hS; clear hS hNP
    repeat' (first | (refine is_cw ?_; first | (refine cw_ret ?_)) | (refine is_qw ?_; first | (with_reducible refine qw_then ?_)))
    exact qw_ret3 rfl rfl rfl rfl ⟨rfl, hw⟩
end Go.Proofs.YtncicecmhibpcaaDoor
namespace Go.Proofs.YtncicecmhibpcaaDoor
open Go.RowKit Go.PlainAid Go.Maps Go.Sort Go.Shelf Go.WideShapes

def anyR (_ : Value) : Option (DataW Unit × List MemPlace) := some (.lit (.bool true), [])
theorem rd_ent (e : Nm × (ByteArray × ByteArray) × Nat) : WideElems.rd Tryd.prog 9 anyR (entE ekS evF e) = some (.string e.1.1.data.toList, .lit (.bool true)) :=
  WideElems.rd_mk (key := ekS e.1) (val := evF e.2.1) (yv := (.lit (.bool true), [])) (born := e.2.2) (WideMaps.keyOf_string_mk Tryd.underlying9 (by simpa [maxLen] using e.1.2)) rfl
set_option maxRecDepth 20000 in
theorem Mp.owns {w : World} {B : Nat} {m' : List (Nm × (ByteArray × ByteArray))} (h : Mp ekS evF w B m') (hl : m'.length ≤ 1000) : ∃ D : DataW Unit, w.ownsMap Tryd.prog 9 anyR B m'.length D ∧ (strKeys D).Perm (m'.map fun e => e.1.1.data.toList) ∧ Maps.size D = m'.length := by
  obtain ⟨es, clk, hE, rfl⟩ := h
  have hlen : (es.map prj).length = es.length := by simp
  have hsz : ((es.map (entE ekS evF)).toArray).size = es.length := by rw [List.size_toArray, List.length_map]
  have hrd : ((es.map (entE ekS evF)).toArray.toList.map (WideElems.rg Tryd.prog 9 anyR)) = es.map fun e => (.string e.1.1.data.toList, .lit (.bool true)) := by
    rw [show (es.map (entE ekS evF)).toArray.toList = es.map (entE ekS evF) from rfl, List.map_map]
    refine List.map_congr_left fun e _ => ?_
    show WideElems.rg Tryd.prog 9 anyR (entE ekS evF e) = (.string e.1.1.data.toList, .lit (.bool true))
    exact WideElems.rg_of (rd_ent e)
  refine ⟨_, ⟨_, clk, hE.heap, ⟨?_, ?_, ?_⟩, ?_, rfl⟩, ?_, ?_⟩
  · rw [hsz]; rw [hlen] at hl; show es.length ≤ 9223372036854775807; omega
  · refine ⟨fun x hx => ?_, ?_, ?_⟩
    · simp only [List.mem_map] at hx
      obtain ⟨e, he, rfl⟩ := hx
      exact hE.lt e he
    · have := hE.born
      simp only [List.map_map]
      exact this
    · have := hE.keys
      simp only [List.map_map]
      have h2 : (es.map ((fun x : MapEntry => x.key) ∘ entE ekS evF)) = (es.map (·.1)).map ekS := by rw [List.map_map]; rfl
      rw [h2]
      unfold List.Nodup at this ⊢
      rw [List.pairwise_map]
      exact this.imp fun h1 e => h1 (keyS.inj _ _ e)
  · intro x hx
    simp only [List.mem_map] at hx
    obtain ⟨e, _, rfl⟩ := hx
    exact ⟨_, rd_ent e⟩
  · rw [hsz, hlen]; exact Nat.le_refl _
  · rw [hrd]
    show (List.map _ _).Perm _
    refine ((sorted_perm _).map _).trans ?_
    rw [List.map_map, List.map_map]
    exact List.Perm.of_eq rfl
  · show List.length _ = _
    rw [(sorted_perm _).length_eq, List.length_map, List.length_map]
    simp
theorem sortsZ (m : Nat) : AnyZ.SortsIn Tryd.prog Tryd.sortedZ_ren Fence.wide m :=
  ⟨fun blk off cap ss W hH hblk hsz => callsIn_wide.2 (AnyM.slices_Sort_string Tryd.sortM blk off cap ss W hH hblk hsz),
   fun p cap W => callsIn_wide.2 (AnyM.slices_Sort_string_none Tryd.sortM p cap W)⟩
theorem keys_c (mb : Option Nat) (W : World) : Calls Tryd.prog 58 #[.map mb] W fun e w' => e = .returned (.func (.func 69) #[] #[.pointer (some ⟨W.heap.size, 0, none⟩)]) ∧ w' = W.alloc (.cells #[.map mb] 79) :=
  (callsIn_wide (n := 5)).1 (AnyZ.keys_in Tryd.keysZ Fence.wide 5 trivial rfl mb W)
theorem names_sorted {l : List Fil} (h : SortF l) {ss : List (List UInt8)} (hp : ss.Perm (l.map fun f => f.name.data.toList)) : ss.mergeSort (fun x y => decide (x ≤ y)) = l.map fun f => f.name.data.toList := by
  have tr : ∀ a b c : List UInt8, decide (a ≤ b) = true → decide (b ≤ c) = true → decide (a ≤ c) = true := fun a b c h1 h2 => by simp only [decide_eq_true_eq] at *; exact List.le_trans h1 h2
  have to : ∀ a b : List UInt8, (decide (a ≤ b) || decide (b ≤ a)) = true := fun a b => by simp only [Bool.or_eq_true, decide_eq_true_eq]; exact List.le_total a b
  refine List.Perm.eq_of_pairwise (le := fun a b => decide (a ≤ b) = true) (fun a b _ _ h1 h2 => ?_) (List.pairwise_mergeSort tr to ss) ?_ ((List.mergeSort_perm ss _).trans hp)
  · simp only [decide_eq_true_eq] at h1 h2
    exact List.le_antisymm h1 h2
  · rw [List.pairwise_map]
    exact h.imp fun h1 => decide_eq_true (List.le_of_lt h1)
theorem sorted_c {w : World} {N B : Nat} {d : Dsk} (h : DkW w N B d) : Calls Tryd.prog 57 #[.func (.func 69) #[] #[.pointer (some ⟨w.heap.size, 0, none⟩)]] (w.alloc (.cells #[.map (some B)] 79)) fun e w' => (∃ v, e = .returned v ∧ Own encT 1 9 w.heap.size w' v (d.fs.map (·.name))) ∧ Below (w.alloc (.cells #[.map (some B)] 79)).heap.size (w.alloc (.cells #[.map (some B)] 79)) w' := by
  obtain ⟨m, ⟨m', hm, rfl⟩, hp⟩ := h.mp
  have hlen : m'.length = d.fs.length := by have := perm_len hp; rwa [List.length_map] at this
  have hct := h.ok.cnt
  obtain ⟨D, hown, hk, hsz⟩ := hm.owns (by omega)
  have hbl := hown.lt
  have hseq : SeqGives Fence.wide 2 Tryd.prog 69 #[.pointer (some ⟨w.heap.size, 0, none⟩)] encStr (fun ss => ss.Perm (strKeys D)) (Maps.size D) (w.alloc (.cells #[.map (some B)] 79)) :=
    AnyZ.keys_gives (ρ := Tryd.keysZ_ren) { Tryd.keysZ with } Fence.wide _ trivial rfl (by omega) w.heap.size B m'.length D _ (by simp) (by simp) (by
      obtain ⟨es, clock, hb, Ft, hs, hD⟩ := hown
      exact ⟨es, clock, (Below.heap_alloc _ _ B hbl).trans hb, Ft, hs, hD⟩)
  have cS := AnyZ.sorted_in Tryd.sortedZ Fence.wide 5 trivial trivial trivial trivial rfl (by omega) (sortsZ _) (enters_of Tryd.func68 (by kernel_rfl) rfl) 69 #[.pointer (some ⟨w.heap.size, 0, none⟩)] trivial (enters_of Tryd.func69 (by kernel_rfl) rfl) _ _ (by rw [hsz, hlen]; show d.fs.length ≤ 9223372036854775807; omega) (by rw [hsz, hlen]; omega) _ hseq
  refine ((callsIn_wide (n := 5)).1 cS).mono ?_
  rintro e w' ⟨v, ss, rfl, hS, hrow, hnil, hb⟩
  have hperm : ss.Perm (d.fs.map fun f => f.name.data.toList) := by
    refine (hS.trans hk).trans ?_
    have h2 := hp.map fun e => e.1.data.toList
    rw [List.map_map] at h2
    unfold mapF mapG at h2
    rw [List.map_map] at h2
    exact h2
  have hss := names_sorted h.ok.srt hperm
  have hln : ss.length = d.fs.length := by have := hperm.length_eq; simpa using this
  refine ⟨⟨v, rfl, ?_⟩, hb⟩
  rw [hss, hln] at hrow
  unfold Own
  have e : ((d.fs.map fun f => f.name.data.toList).map encStr) = (d.fs.map (·.name)).flatMap encT := by
    rw [List.map_map, List.flatMap_map]
    generalize d.fs = l
    induction l with
    | nil => rfl
    | cons f r ih => rw [List.map_cons, List.flatMap_cons, ih]; rfl
  rw [e] at hrow
  rw [List.length_map]
  exact ownsRow_base_a hrow (by simp)
set_option maxRecDepth 20000 in
theorem names_c {w : World} {N B : Nat} {d : Dsk} (h : DkW w N B d) : Calls Tryd.prog 42 #[.pointer (some ⟨N, 0, none⟩)] w fun e w' => (∃ v, e = .returned v ∧ Own encT 1 9 w.heap.size w' v (d.fs.map (·.name))) ∧ Below w.heap.size w w' := by
  have H := h.obj
  have hw := Below.refl w.heap.size w
  refine fn_enter 9 Tryd.func42 rfl rfl rfl ?_
  repeat' (first | (refine lw_pure rfl (pv_move rfl) ?_) | (refine lw_pure rfl (pv_assign rfl) ?_) | (refine is_cw ?_; first | (refine cw_seq ?_) | (refine cw_region ?_) | (refine cw_ret ?_)) | (refine is_qw ?_; first | (with_reducible refine qw_then ?_) | (with_reducible refine qw_then_ret ?_)) | (refine lw_nil ?_) | ((refine is_load ?_; first | (refine lw_pure rfl (pv_load (t1 rfl) rfl (by first | exact PT.ld0 (H.mono hw) rfl | exact PT.ld (H.mono hw) rfl)) ?_) | (refine lw_pure rfl (pv_loada (tA rfl) rfl (by first | exact PT.lda (H.mono hw)) (by rfl)) ?_))) | ((refine is_fa ?_; first | (refine lw_pure rfl (pv_fa (tF rfl) rfl) ?_))) | (refine lw_pure rfl (pv_nilp rfl) ?_) | (refine lw_pure0 (pv_nilp rfl) ?_))
  refine lw_call (f := 58) (by kernel_rfl) rfl rfl (keys_c (some B) w) ?_; rintro e w1 ⟨rfl, rfl⟩; refine ⟨_, rfl, ?_⟩
  repeat' (first | (refine lw_pure rfl (pv_move rfl) ?_) | (refine lw_pure rfl (pv_assign rfl) ?_) | (refine is_cw ?_; first | (refine cw_seq ?_) | (refine cw_region ?_) | (refine cw_ret ?_)) | (refine is_qw ?_; first | (with_reducible refine qw_then ?_) | (with_reducible refine qw_then_ret ?_)) | (refine lw_nil ?_) | ((refine is_load ?_; first | (refine lw_pure rfl (pv_load (t1 rfl) rfl (by first | fail)) ?_) | (refine lw_pure rfl (pv_loada (tA rfl) rfl (by first | fail) (by rfl)) ?_))) | ((refine is_fa ?_; first | (refine lw_pure rfl (pv_fa (tF rfl) rfl) ?_))) | (refine lw_pure rfl (pv_nilp rfl) ?_) | (refine lw_pure0 (pv_nilp rfl) ?_))
  refine lw_call (f := 57) (by kernel_rfl) rfl rfl (sorted_c h) ?_; rintro e w2 ⟨⟨v, rfl, hO⟩, hb⟩; refine ⟨_, rfl, ?_⟩
  repeat' (first | (refine lw_pure rfl (pv_move rfl) ?_) | (refine lw_pure rfl (pv_assign rfl) ?_) | (refine is_cw ?_; first | (refine cw_seq ?_) | (refine cw_region ?_) | (refine cw_ret ?_)) | (refine is_qw ?_; first | (with_reducible refine qw_then ?_) | (with_reducible refine qw_then_ret ?_)) | (refine lw_nil ?_) | ((refine is_load ?_; first | (refine lw_pure rfl (pv_load (t1 rfl) rfl (by first | fail)) ?_) | (refine lw_pure rfl (pv_loada (tA rfl) rfl (by first | fail) (by rfl)) ?_))) | ((refine is_fa ?_; first | (refine lw_pure rfl (pv_fa (tF rfl) rfl) ?_))) | (refine lw_pure rfl (pv_nilp rfl) ?_) | (refine lw_pure0 (pv_nilp rfl) ?_))
  exact qw_ret1 rfl rfl ⟨⟨v, rfl, hO⟩, (below_alloc w _).trans (hb.mono (by simp))⟩
set_option maxRecDepth 20000 in
theorem list_c {w : World} {N B : Nat} {d : Dsk} (h : DkW w N B d) (hk : d.dark = false) : Calls Tryd.prog 19 #[.pointer (some ⟨N, 0, none⟩)] w fun e w' => (∃ v, e = .returned (.tuple #[v, .int .i64 0]) ∧ Own encT 1 9 w.heap.size w' v (d.fs.map (·.name))) ∧ Below w.heap.size w w' := by
  have hw := Below.refl w.heap.size w
  refine fn_enter 12 Tryd.func19 rfl rfl rfl ?_
  repeat' (first | (refine lw_pure rfl (pv_move rfl) ?_) | (refine lw_pure rfl (pv_assign rfl) ?_) | (refine lw_call (f := 44) (by kernel_rfl) rfl rfl (down0_c (h.mono hw) hk) ?_; rintro e w1 ⟨rfl, hb⟩; refine ⟨_, rfl, ?_⟩; replace hw := grow_trans hw hb; clear hb) | (refine is_cw ?_; first | (refine cw_seq ?_) | (refine cw_region ?_) | (refine cw_true rfl rfl ?_) | (refine cw_false rfl rfl ?_) | (refine cw_true rfl (by first | assumption | exact decide_eq_true (by omega) | exact dec_notT (by omega)) ?_) | (refine cw_false rfl (by first | assumption | exact decide_eq_false (by omega) | exact dec_notF (by omega)) ?_) | (refine cw_skip ?_) | (refine cw_ret ?_)) | (refine is_qw ?_; first | (with_reducible refine qw_then ?_) | (with_reducible refine qw_then_ret ?_)) | (refine lw_nil ?_) | ((refine is_bin ?_; first | (refine lw_pure rfl (pv_neq rfl rfl) ?_))))
  refine lw_call (f := 42) (by kernel_rfl) rfl rfl (names_c (h.mono hw)) ?_; rintro e w2 ⟨⟨v, rfl, hO⟩, hb⟩; refine ⟨_, rfl, ?_⟩
  have hs := hw.size
  replace hw := grow_trans hw hb
  repeat' (first | (refine lw_pure rfl (pv_move rfl) ?_) | (refine lw_pure rfl (pv_assign rfl) ?_) | (refine is_cw ?_; first | (refine cw_seq ?_) | (refine cw_region ?_) | (refine cw_true rfl rfl ?_) | (refine cw_false rfl rfl ?_) | (refine cw_true rfl (by first | assumption | exact decide_eq_true (by omega) | exact dec_notT (by omega)) ?_) | (refine cw_false rfl (by first | assumption | exact decide_eq_false (by omega) | exact dec_notF (by omega)) ?_) | (refine cw_skip ?_) | (refine cw_ret ?_)) | (refine is_qw ?_; first | (with_reducible refine qw_then ?_) | (with_reducible refine qw_then_ret ?_)) | (refine lw_nil ?_) | ((refine is_bin ?_; first | (refine lw_pure rfl (pv_neq rfl rfl) ?_))))
  exact qw_ret2 rfl rfl rfl ⟨⟨v, rfl, hO.weaken hs⟩, hw⟩
set_option maxRecDepth 20000 in
theorem list45_c {w : World} {N B : Nat} {d : Dsk} (h : DkW w N B d) (hk : d.dark = true) : Calls Tryd.prog 19 #[.pointer (some ⟨N, 0, none⟩)] w fun e w' => e = .returned (.tuple #[.slice none 0 0, .int .i64 45]) ∧ Below w.heap.size w w' := by
  have hw := Below.refl w.heap.size w
  refine fn_enter 12 Tryd.func19 rfl rfl rfl ?_
  repeat' (first | (refine lw_pure rfl (pv_move rfl) ?_) | (refine lw_pure rfl (pv_assign rfl) ?_) | (refine lw_call (f := 44) (by kernel_rfl) rfl rfl (down1_c (h.mono hw) hk) ?_; rintro e w1 ⟨rfl, hb⟩; refine ⟨_, rfl, ?_⟩; replace hw := grow_trans hw hb; clear hb) | (refine is_cw ?_; first | (refine cw_seq ?_) | (refine cw_region ?_) | (refine cw_true rfl rfl ?_) | (refine cw_false rfl rfl ?_) | (refine cw_true rfl (by first | assumption | exact decide_eq_true (by omega) | exact dec_notT (by omega)) ?_) | (refine cw_false rfl (by first | assumption | exact decide_eq_false (by omega) | exact dec_notF (by omega)) ?_) | (refine cw_skip ?_) | (refine cw_ret ?_)) | (refine is_qw ?_; first | (with_reducible refine qw_then ?_) | (with_reducible refine qw_then_ret ?_)) | (refine lw_nil ?_) | ((refine is_bin ?_; first | (refine lw_pure rfl (pv_neq rfl rfl) ?_))))
  exact qw_ret2 rfl rfl rfl ⟨rfl, hw⟩
end Go.Proofs.YtncicecmhibpcaaDoor
namespace Go.Proofs.YtncicecmhibpcaaDoor
open Go.RowKit Go.PlainAid

def encV2 (v : ByteArray × ByteArray) : List Value := [.string v.1, .string v.2]
theorem neq_V (x y : ByteArray × ByteArray) (w : World) : (binOp .neq 78 (.agg (encV2 x).toArray) (.agg (encV2 y).toArray)).run Tryd.prog w = .ok (.bool (!decide (x = y))) w := by
  have hS : (Tryd.prog).underlying 78 = some (.struct ((Tryd.prog).fieldsOf 78)) := by kernel_rfl
  have hp : (Tryd.prog).stoodInHeld 78 = false := by kernel_rfl
  unfold encV2
  rw [run_neq_struct, show (10000 : Nat) = 9999 + 1 from rfl, run_equalIn_agg w 9999 78 _ _ hS hp]
  have h : (decide (x = y)) = (x.1.toList == y.1.toList && x.2.toList == y.2.toList) := by
    rw [Bool.eq_iff_iff]
    cases x; cases y; simp [beq_str]
  rw [h]
  simp only [Program.fieldsOf, Tryd.underlying78]
  go_simp
  by_cases h1 : x.1.toList = y.1.toList <;> by_cases h2 : x.2.toList = y.2.toList <;> simp [*]
theorem eql_V (x y : ByteArray × ByteArray) (w : World) : (binOp .eql 78 (.agg (encV2 x).toArray) (.agg (encV2 y).toArray)).run Tryd.prog w = .ok (.bool (decide (x = y))) w := by
  have hS : (Tryd.prog).underlying 78 = some (.struct ((Tryd.prog).fieldsOf 78)) := by kernel_rfl
  have hp : (Tryd.prog).stoodInHeld 78 = false := by kernel_rfl
  unfold encV2
  rw [run_eql_struct, show (10000 : Nat) = 9999 + 1 from rfl, run_equalIn_agg w 9999 78 _ _ hS hp]
  have h : (decide (x = y)) = (x.1.toList == y.1.toList && x.2.toList == y.2.toList) := by
    rw [Bool.eq_iff_iff]
    cases x; cases y; simp [beq_str]
  rw [h]
  simp only [Program.fieldsOf, Tryd.underlying78]
  go_simp
  by_cases h1 : x.1.toList = y.1.toList <;> by_cases h2 : x.2.toList = y.2.toList <;> simp [*]
theorem pv_neqV {n : Nat} {l : Fr} {w : World} {d : Option Nat} {t' ty : TypeId} {x y : Operand} {pos : String} {af : Array Edge} {g : Option (Nat × Bool)} (a b : ByteArray × ByteArray) (hx : ev l x = some (.agg (encV2 a).toArray)) (hy : ev l y = some (.agg (encV2 b).toArray)) : Pv Tryd.prog n l ⟨d, .binOp .neq 78 x y t', ty, pos, af, g⟩ (.bool (!decide (a = b))) w := ⟨fun A hA => by
  have h1 : (eqGuard .neq 78 x y (.agg (encV2 a).toArray) (.agg (encV2 b).toArray)).run Tryd.prog w = .ok () w := run_eqGuard_agg w .neq 78 x y _ _ (by kernel_rfl)
  have h2 := neq_V a b w
  simp [execOp, hA.ev hx, hA.ev hy, h1, h2]⟩
theorem pv_eqlV {n : Nat} {l : Fr} {w : World} {d : Option Nat} {t' ty : TypeId} {x y : Operand} {pos : String} {af : Array Edge} {g : Option (Nat × Bool)} (a b : ByteArray × ByteArray) (hx : ev l x = some (.agg (encV2 a).toArray)) (hy : ev l y = some (.agg (encV2 b).toArray)) : Pv Tryd.prog n l ⟨d, .binOp .eql 78 x y t', ty, pos, af, g⟩ (.bool (decide (a = b))) w := ⟨fun A hA => by
  have h1 : (eqGuard .eql 78 x y (.agg (encV2 a).toArray) (.agg (encV2 b).toArray)).run Tryd.prog w = .ok () w := run_eqGuard_agg w .eql 78 x y _ _ (by kernel_rfl)
  have h2 := eql_V a b w
  simp [execOp, hA.ev hx, hA.ev hy, h1, h2]⟩

theorem neq_F (x y : Fil) (w : World) : (binOp .neq 35 (.agg (encF x).toArray) (.agg (encF y).toArray)).run Tryd.prog w = .ok (.bool (!decide (x = y))) w := by
  have hS : (Tryd.prog).underlying 35 = some (.struct ((Tryd.prog).fieldsOf 35)) := by kernel_rfl
  have hp : (Tryd.prog).stoodInHeld 35 = false := by kernel_rfl
  unfold encF
  rw [run_neq_struct, show (10000 : Nat) = 9999 + 1 from rfl, run_equalIn_agg w 9999 35 _ _ hS hp]
  have h : (decide (x = y)) = (x.name.toList == y.name.toList && (x.firm.toList == y.firm.toList && x.pend.toList == y.pend.toList)) := by
    rw [Bool.eq_iff_iff]
    cases x; cases y; simp [beq_str]
  rw [h]
  simp only [Program.fieldsOf, Tryd.underlying35]
  go_simp
  by_cases h1 : x.name.toList = y.name.toList <;> by_cases h2 : x.firm.toList = y.firm.toList <;> by_cases h3 : x.pend.toList = y.pend.toList <;> simp [*]
theorem eql_F (x y : Fil) (w : World) : (binOp .eql 35 (.agg (encF x).toArray) (.agg (encF y).toArray)).run Tryd.prog w = .ok (.bool (decide (x = y))) w := by
  have hS : (Tryd.prog).underlying 35 = some (.struct ((Tryd.prog).fieldsOf 35)) := by kernel_rfl
  have hp : (Tryd.prog).stoodInHeld 35 = false := by kernel_rfl
  unfold encF
  rw [run_eql_struct, show (10000 : Nat) = 9999 + 1 from rfl, run_equalIn_agg w 9999 35 _ _ hS hp]
  have h : (decide (x = y)) = (x.name.toList == y.name.toList && (x.firm.toList == y.firm.toList && x.pend.toList == y.pend.toList)) := by
    rw [Bool.eq_iff_iff]
    cases x; cases y; simp [beq_str]
  rw [h]
  simp only [Program.fieldsOf, Tryd.underlying35]
  go_simp
  by_cases h1 : x.name.toList = y.name.toList <;> by_cases h2 : x.firm.toList = y.firm.toList <;> by_cases h3 : x.pend.toList = y.pend.toList <;> simp [*]
theorem pv_neqF {n : Nat} {l : Fr} {w : World} {d : Option Nat} {t' ty : TypeId} {x y : Operand} {pos : String} {af : Array Edge} {g : Option (Nat × Bool)} (a b : Fil) (hx : ev l x = some (.agg (encF a).toArray)) (hy : ev l y = some (.agg (encF b).toArray)) : Pv Tryd.prog n l ⟨d, .binOp .neq 35 x y t', ty, pos, af, g⟩ (.bool (!decide (a = b))) w := ⟨fun A hA => by
  have h1 : (eqGuard .neq 35 x y (.agg (encF a).toArray) (.agg (encF b).toArray)).run Tryd.prog w = .ok () w := run_eqGuard_agg w .neq 35 x y _ _ (by kernel_rfl)
  have h2 := neq_F a b w
  simp [execOp, hA.ev hx, hA.ev hy, h1, h2]⟩
theorem pv_eqlF {n : Nat} {l : Fr} {w : World} {d : Option Nat} {t' ty : TypeId} {x y : Operand} {pos : String} {af : Array Edge} {g : Option (Nat × Bool)} (a b : Fil) (hx : ev l x = some (.agg (encF a).toArray)) (hy : ev l y = some (.agg (encF b).toArray)) : Pv Tryd.prog n l ⟨d, .binOp .eql 35 x y t', ty, pos, af, g⟩ (.bool (decide (a = b))) w := ⟨fun A hA => by
  have h1 : (eqGuard .eql 35 x y (.agg (encF a).toArray) (.agg (encF b).toArray)).run Tryd.prog w = .ok () w := run_eqGuard_agg w .eql 35 x y _ _ (by kernel_rfl)
  have h2 := eql_F a b w
  simp [execOp, hA.ev hx, hA.ev hy, h1, h2]⟩

theorem SortF.get {l : List Fil} (h : SortF l) {i : Nat} {f : Fil} (hi : l[i]? = some f) : getF l f.name = some f := (getF_iff h).2 ⟨List.mem_of_getElem? hi, rfl⟩
set_option maxRecDepth 20000 in
theorem files_c {w : World} {N B : Nat} {d : Dsk} (h : DkW w N B d) : Calls Tryd.prog 13 #[.pointer (some ⟨N, 0, none⟩)] w fun e w' => (∃ v, e = .returned v ∧ Own encF 3 35 w.heap.size w' v d.fs) ∧ Below w.heap.size w w' := by
  have H := h.obj
  obtain ⟨m, hm, hp⟩ := h.mp
  have hs := h.ok.srt
  have hct := h.ok.cnt
  have hw := Below.refl w.heap.size w
  refine fn_enter 33 Tryd.func13 rfl rfl rfl ?_
  repeat' (first | (refine lw_pure rfl (pv_move rfl) ?_) | (refine lw_pure rfl (pv_assign rfl) ?_) | (refine is_cw ?_; first | (refine cw_seq ?_) | (refine cw_region ?_) | (refine cw_true rfl rfl ?_) | (refine cw_false rfl rfl ?_) | (refine cw_true rfl (by first | assumption | exact decide_eq_true (by omega) | exact dec_notT (by omega)) ?_) | (refine cw_false rfl (by first | assumption | exact decide_eq_false (by omega) | exact dec_notF (by omega)) ?_) | (refine cw_skip ?_) | (refine cw_block ?_) | (refine cw_exit ?_) | (refine cw_ret ?_)) | (refine is_qw ?_; first | (with_reducible refine qw_then ?_) | (with_reducible refine qw_in ?_) | (with_reducible refine qw_in_hit ?_) | (refine qw_in_miss rfl ?_) | (with_reducible refine qw_then_exit ?_) | (with_reducible refine qw_then_ret ?_) | (with_reducible refine qw_in_ret ?_)) | (refine lw_nil ?_) | ((refine is_bin ?_; first | (refine lw_pure rfl (pv_pnil tpD rfl rfl) ?_) | (refine lw_pure rfl (pv_lss rfl rfl) ?_) | (refine lw_pure rfl (pv_eql rfl rfl) ?_) | (refine lw_pure rfl (pv_inc rfl rfl (by omega)) ?_) | (refine lw_pure rfl (pv_add rfl rfl (by omega)) ?_))) | ((refine is_load ?_; first | (refine lw_pure rfl (pv_load (t1 rfl) rfl (by first | exact PT.ld0 (H.mono hw) rfl | exact PT.ld (H.mono hw) rfl)) ?_) | (refine lw_pure rfl (pv_loada (tA rfl) rfl (by first | exact PT.lda (H.mono hw)) (by rfl)) ?_))) | ((refine is_fa ?_; first | (refine lw_pure rfl (pv_fa (tF rfl) rfl) ?_))) | ((refine is_ia ?_; first | (refine lw_pure rfl (pv_ian (tS rfl) rfl rfl (by omega)) ?_) | (refine lw_pure rfl (pv_ia (tS rfl) rfl rfl (by omega)) ?_))) | ((refine is_bi ?_; first | (refine lw_pure rfl (pv_lenl (tS rfl) rfl) ?_) | (refine lw_pure rfl (pv_lens (tStr rfl) rfl) ?_))) | ((refine is_bd ?_; first | (refine lw_pure rfl (tyB_35 rfl rfl rfl) ?_))) | (refine lw_pure rfl (pv_nilp rfl) ?_) | (refine lw_pure0 (pv_nilp rfl) ?_))
  refine lw_call (f := 42) (by kernel_rfl) rfl rfl (names_c (h.mono hw)) ?_; rintro e w2 ⟨⟨nv, rfl, hO⟩, hb⟩; refine ⟨_, rfl, ?_⟩
  replace hw := grow_trans hw hb
  clear hb
  have hw0 := hw
  obtain ⟨na, nc, rfl, HN, -⟩ := Own.slR encT_len hO
  rw [List.length_map]
  replace h := h.mono hw; replace H := H.mono hw; replace hm := hm.mono hw; clear hw; have hw := Below.refl w2.heap.size w2
  repeat' (first | (refine lw_pure rfl (pv_move rfl) ?_) | (refine lw_pure rfl (pv_assign rfl) ?_) | (refine is_cw ?_; first | (refine cw_seq ?_) | (refine cw_region ?_) | (refine cw_true rfl rfl ?_) | (refine cw_false rfl rfl ?_) | (refine cw_true rfl (by first | assumption | exact decide_eq_true (by omega) | exact dec_notT (by omega)) ?_) | (refine cw_false rfl (by first | assumption | exact decide_eq_false (by omega) | exact dec_notF (by omega)) ?_) | (refine cw_skip ?_) | (refine cw_block ?_) | (refine cw_exit ?_) | (refine cw_ret ?_)) | (refine is_qw ?_; first | (with_reducible refine qw_then ?_) | (with_reducible refine qw_in ?_) | (with_reducible refine qw_in_hit ?_) | (refine qw_in_miss rfl ?_) | (with_reducible refine qw_then_exit ?_) | (with_reducible refine qw_then_ret ?_) | (with_reducible refine qw_in_ret ?_)) | (refine lw_nil ?_) | ((refine is_bin ?_; first | (refine lw_pure rfl (pv_lss rfl rfl) ?_) | (refine lw_pure rfl (pv_eql rfl rfl) ?_) | (refine lw_pure rfl (pv_inc rfl rfl (by omega)) ?_) | (refine lw_pure rfl (pv_add rfl rfl (by omega)) ?_))) | ((refine is_load ?_; first | (refine lw_pure rfl (pv_load (t1 rfl) rfl (by first | fail)) ?_) | (refine lw_pure rfl (pv_loada (tA rfl) rfl (by first | fail) (by rfl)) ?_))) | ((refine is_fa ?_; first | (refine lw_pure rfl (pv_fa (tF rfl) rfl) ?_))) | ((refine is_ia ?_; first | (refine lw_pure rfl (pv_ian (tS rfl) rfl rfl (by omega)) ?_) | (refine lw_pure rfl (pv_ia (tS rfl) rfl rfl (by omega)) ?_))) | ((refine is_bi ?_; first | (refine lw_pure rfl (pv_lenl (tS rfl) rfl) ?_) | (refine lw_pure rfl (pv_lens (tStr rfl) rfl) ?_))) | ((refine is_bd ?_; first | (refine lw_pure rfl (tyB_35 rfl rfl rfl) ?_))) | (refine lw_pure rfl (pv_nilp rfl) ?_) | (refine lw_pure0 (pv_nilp rfl) ?_))
  refine cw_loop (σ := Nat × Value) (fun s => [(0, .pointer (some ⟨N, 0, none⟩)), (3, s.2), (10, .slice na d.fs.length nc), (11, .int .i64 (d.fs.length : Nat)), (12, .int .i64 (s.1 : Nat))]) (fun s wr => s.1 ≤ d.fs.length ∧ Below w2.heap.size w2 wr ∧ Own encF 3 35 w2.heap.size wr s.2 (d.fs.take s.1)) (fun s => d.fs.length - s.1) (0, .slice none 0 0) (by repeat' (first | exact trivial | refine ⟨rfl, ?_⟩)) ⟨Nat.zero_le _, hw, Own.nil _⟩ ?_
  clear hw
  rintro ⟨k, v⟩ wr ⟨hk, hw, hO2⟩
  replace hk : k ≤ d.fs.length := hk
  replace hO2 : Own encF 3 35 w2.heap.size wr v (d.fs.take k) := hO2
  by_cases hlt : k < d.fs.length
  · have hxk : d.fs[k]? = some d.fs[k] := List.getElem?_eq_getElem hlt
    generalize d.fs[k] = f at hxk
    have hnk : (d.fs.map (·.name))[k]? = some f.name := by rw [List.getElem?_map, hxk]; rfl
    have hg := hs.get hxk
    have hsz := getF_sz h.ok hg
    have hn : f.name.size ≤ 9223372036854775807 := by omega
    have hpg : getM m f.name = some (f.firm, f.pend) := by rw [perm_get (φ := fun f => (f.firm, f.pend)) hp hs, hg]; rfl
    have htl : (d.fs.take k).length ≤ k := by rw [List.length_take]; omega
    obtain ⟨ab, ao, rfl, -, -⟩ := HN.at (by intro h; rw [h] at hnk; simp at hnk)
    repeat' (first | (refine lw_pure rfl (pv_move rfl) ?_) | (refine lw_pure rfl (pv_assign rfl) ?_) | (refine lw_pure rfl (pv_look (k := f.name) Tryd.underlying79 keyS zF hn hpg rfl rfl (hm.mono hw)) ?_) | (refine is_cw ?_; first | (refine cw_seq ?_) | (refine cw_region ?_) | (refine cw_true rfl rfl ?_) | (refine cw_false rfl rfl ?_) | (refine cw_true rfl (by first | assumption | exact decide_eq_true (by omega) | exact dec_notT (by omega)) ?_) | (refine cw_false rfl (by first | assumption | exact decide_eq_false (by omega) | exact dec_notF (by omega)) ?_) | (refine cw_skip ?_) | (refine cw_block ?_) | (refine cw_exit ?_) | (refine cw_ret ?_)) | (refine is_qw ?_; first | (with_reducible refine qw_then ?_) | (with_reducible refine qw_in ?_) | (with_reducible refine qw_in_hit ?_) | (refine qw_in_miss rfl ?_) | (with_reducible refine qw_then_exit ?_) | (with_reducible refine qw_then_ret ?_) | (with_reducible refine qw_in_ret ?_)) | (refine lw_nil ?_) | ((refine is_bin ?_; first | (refine lw_pure rfl (pv_lss rfl rfl) ?_) | (refine lw_pure rfl (pv_eql rfl rfl) ?_) | (refine lw_pure rfl (pv_inc rfl rfl (by omega)) ?_) | (refine lw_pure rfl (pv_add rfl rfl (by omega)) ?_))) | ((refine is_load ?_; first | (refine lw_pure rfl (pv_load (t1 rfl) rfl (by first | exact SlR.ld (HN.mono hw) hnk rfl | exact SlR.ld1 (HN.mono hw) hnk rfl | exact PT.ld0 (H.mono hw) rfl | exact PT.ld (H.mono hw) rfl)) ?_) | (refine lw_pure rfl (pv_loada (tA rfl) rfl (by first | exact SlR.lda (HN.mono hw) hnk | exact PT.lda (H.mono hw)) (by rfl)) ?_))) | ((refine is_fa ?_; first | (refine lw_pure rfl (pv_fa (tF rfl) rfl) ?_))) | ((refine is_ia ?_; first | (refine lw_pure rfl (pv_ian (tS rfl) rfl rfl (by omega)) ?_) | (refine lw_pure rfl (pv_ia (tS rfl) rfl rfl (by omega)) ?_))) | ((refine is_bi ?_; first | (refine lw_pure rfl (pv_lenl (tS rfl) rfl) ?_) | (refine lw_pure rfl (pv_lens (tStr rfl) rfl) ?_))) | ((refine is_bd ?_; first | (refine lw_pure rfl (tyB_35 rfl rfl rfl) ?_))) | (refine lw_pure rfl (pv_nilp rfl) ?_) | (refine lw_pure0 (pv_nilp rfl) ?_))
    refine lw_varN rfl (by first | exact tyv_28 | exact tyv_29 | exact tyv_34 | exact tyv_35 | exact tyv_43 | exact tyv_44 | exact tyv_77 | exact tyv_78 | exact tyv_80 | exact tyv_81 | exact tyv_86 | exact tyv_87 | exact tyv_126 | exact tyv_127) rfl (tZ rfl) (fun _ => rfl) rfl rfl ?_; intro N6 w6 hN6 H6 hb
    replace hO2 := hO2.mono hb
    replace hw := grow_trans hw hb
    clear hb
    repeat' (first | (refine lw_pure rfl (pv_move rfl) ?_) | (refine lw_pure rfl (pv_assign rfl) ?_) | (refine is_cw ?_; first | (refine cw_seq ?_) | (refine cw_region ?_) | (refine cw_true rfl rfl ?_) | (refine cw_false rfl rfl ?_) | (refine cw_true rfl (by first | assumption | exact decide_eq_true (by omega) | exact dec_notT (by omega)) ?_) | (refine cw_false rfl (by first | assumption | exact decide_eq_false (by omega) | exact dec_notF (by omega)) ?_) | (refine cw_skip ?_) | (refine cw_block ?_) | (refine cw_exit ?_) | (refine cw_ret ?_)) | (refine is_qw ?_; first | (with_reducible refine qw_then ?_) | (with_reducible refine qw_in ?_) | (with_reducible refine qw_in_hit ?_) | (refine qw_in_miss rfl ?_) | (with_reducible refine qw_then_exit ?_) | (with_reducible refine qw_then_ret ?_) | (with_reducible refine qw_in_ret ?_)) | (refine lw_nil ?_) | ((refine is_bin ?_; first | (refine lw_pure rfl (pv_lss rfl rfl) ?_) | (refine lw_pure rfl (pv_eql rfl rfl) ?_) | (refine lw_pure rfl (pv_inc rfl rfl (by omega)) ?_) | (refine lw_pure rfl (pv_add rfl rfl (by omega)) ?_))) | ((refine is_load ?_; first | (refine lw_pure rfl (pv_load (t1 rfl) rfl (by first | exact PT.ld0 H6 rfl | exact PT.ld H6 rfl)) ?_) | (refine lw_pure rfl (pv_loada (tA rfl) rfl (by first | exact PT.lda H6) (by rfl)) ?_))) | ((refine is_fa ?_; first | (refine lw_pure rfl (pv_fa (tF rfl) rfl) ?_))) | ((refine is_ia ?_; first | (refine lw_pure rfl (pv_ian (tS rfl) rfl rfl (by omega)) ?_) | (refine lw_pure rfl (pv_ia (tS rfl) rfl rfl (by omega)) ?_))) | ((refine is_bi ?_; first | (refine lw_pure rfl (pv_lenl (tS rfl) rfl) ?_) | (refine lw_pure rfl (pv_lens (tStr rfl) rfl) ?_))) | ((refine is_bd ?_; first | (refine lw_pure rfl (tyB_35 rfl rfl rfl) ?_))) | (refine lw_pure rfl (pv_nilp rfl) ?_) | (refine lw_pure0 (pv_nilp rfl) ?_))
    refine lw_bs1 elemF rfl rfl (cs := encF f) rfl rfl (by omega) ?_; intro wb HB hb hz
    have hbs := (grow_trans hw hb).size
    refine lw_app elemF encF_len encF_one rfl rfl rfl (hO2.mono hb) (HB.slR (xs := [f]) encF_len rfl (by omega)) rfl hbs (by simp; omega) (by simp [maxLen]; omega) ?_; intro v9 w9 hO9 hg9 hb9
    replace hw := (grow_trans hw hb).trans hb9
    repeat' (first | (refine lw_pure rfl (pv_move rfl) ?_) | (refine lw_pure rfl (pv_assign rfl) ?_) | (refine is_cw ?_; first | (refine cw_seq ?_) | (refine cw_region ?_) | (refine cw_true rfl rfl ?_) | (refine cw_false rfl rfl ?_) | (refine cw_true rfl (by first | assumption | exact decide_eq_true (by omega) | exact dec_notT (by omega)) ?_) | (refine cw_false rfl (by first | assumption | exact decide_eq_false (by omega) | exact dec_notF (by omega)) ?_) | (refine cw_skip ?_) | (refine cw_block ?_) | (refine cw_exit ?_) | (refine cw_ret ?_)) | (refine is_qw ?_; first | (with_reducible refine qw_then ?_) | (with_reducible refine qw_in ?_) | (with_reducible refine qw_in_hit ?_) | (refine qw_in_miss rfl ?_) | (with_reducible refine qw_then_exit ?_) | (with_reducible refine qw_then_ret ?_) | (with_reducible refine qw_in_ret ?_)) | (refine lw_nil ?_) | ((refine is_bin ?_; first | (refine lw_pure rfl (pv_lss rfl rfl) ?_) | (refine lw_pure rfl (pv_eql rfl rfl) ?_) | (refine lw_pure rfl (pv_inc rfl rfl (by omega)) ?_) | (refine lw_pure rfl (pv_add rfl rfl (by omega)) ?_))) | ((refine is_load ?_; first | (refine lw_pure rfl (pv_load (t1 rfl) rfl (by first | fail)) ?_) | (refine lw_pure rfl (pv_loada (tA rfl) rfl (by first | fail) (by rfl)) ?_))) | ((refine is_fa ?_; first | (refine lw_pure rfl (pv_fa (tF rfl) rfl) ?_))) | ((refine is_ia ?_; first | (refine lw_pure rfl (pv_ian (tS rfl) rfl rfl (by omega)) ?_) | (refine lw_pure rfl (pv_ia (tS rfl) rfl rfl (by omega)) ?_))) | ((refine is_bi ?_; first | (refine lw_pure rfl (pv_lenl (tS rfl) rfl) ?_) | (refine lw_pure rfl (pv_lens (tStr rfl) rfl) ?_))) | ((refine is_bd ?_; first | (refine lw_pure rfl (tyB_35 rfl rfl rfl) ?_))) | (refine lw_pure rfl (pv_nilp rfl) ?_) | (refine lw_pure0 (pv_nilp rfl) ?_))
    refine qw_round (k + 1, v9) (by repeat' (first | exact trivial | refine ⟨rfl, ?_⟩)) ⟨by show k + 1 ≤ _; omega, hw, ?_⟩ (by show d.fs.length - (k + 1) < d.fs.length - k; omega)
    show Own encF 3 _ _ _ _ (d.fs.take (k + 1))
    rw [List.take_add_one, hxk]; exact hO9
  · have hkl : k = d.fs.length := by omega
    subst hkl
    rw [List.take_length] at hO2
    repeat' (first | (refine lw_pure rfl (pv_move rfl) ?_) | (refine lw_pure rfl (pv_assign rfl) ?_) | (refine is_cw ?_; first | (refine cw_seq ?_) | (refine cw_region ?_) | (refine cw_true rfl rfl ?_) | (refine cw_false rfl rfl ?_) | (refine cw_true rfl (by first | assumption | exact decide_eq_true (by omega) | exact dec_notT (by omega)) ?_) | (refine cw_false rfl (by first | assumption | exact decide_eq_false (by omega) | exact dec_notF (by omega)) ?_) | (refine cw_skip ?_) | (refine cw_block ?_) | (refine cw_exit ?_) | (refine cw_ret ?_)) | (refine is_qw ?_; first | (with_reducible refine qw_then ?_) | (with_reducible refine qw_in ?_) | (with_reducible refine qw_in_hit ?_) | (refine qw_in_miss rfl ?_) | (with_reducible refine qw_then_exit ?_) | (with_reducible refine qw_then_ret ?_) | (with_reducible refine qw_in_ret ?_)) | (refine lw_nil ?_) | ((refine is_bin ?_; first | (refine lw_pure rfl (pv_lss rfl rfl) ?_) | (refine lw_pure rfl (pv_eql rfl rfl) ?_) | (refine lw_pure rfl (pv_inc rfl rfl (by omega)) ?_) | (refine lw_pure rfl (pv_add rfl rfl (by omega)) ?_))) | ((refine is_load ?_; first | (refine lw_pure rfl (pv_load (t1 rfl) rfl (by first | fail)) ?_) | (refine lw_pure rfl (pv_loada (tA rfl) rfl (by first | fail) (by rfl)) ?_))) | ((refine is_fa ?_; first | (refine lw_pure rfl (pv_fa (tF rfl) rfl) ?_))) | ((refine is_ia ?_; first | (refine lw_pure rfl (pv_ian (tS rfl) rfl rfl (by omega)) ?_) | (refine lw_pure rfl (pv_ia (tS rfl) rfl rfl (by omega)) ?_))) | ((refine is_bi ?_; first | (refine lw_pure rfl (pv_lenl (tS rfl) rfl) ?_) | (refine lw_pure rfl (pv_lens (tStr rfl) rfl) ?_))) | ((refine is_bd ?_; first | (refine lw_pure rfl (tyB_35 rfl rfl rfl) ?_))) | (refine lw_pure rfl (pv_nilp rfl) ?_) | (refine lw_pure0 (pv_nilp rfl) ?_))
    exact qw_ret1 rfl rfl ⟨⟨_, rfl, hO2.weaken hw0.size⟩, grow_trans hw0 hw⟩
set_option maxRecDepth 20000 in
theorem filesn_c (w : World) : Calls Tryd.prog 13 #[.pointer none] w fun e w' => e = .returned (.slice none 0 0) ∧ Below w.heap.size w w' := by
  have hw := Below.refl w.heap.size w
  refine fn_enter 33 Tryd.func13 rfl rfl rfl ?_
  repeat' (first | (refine lw_pure rfl (pv_move rfl) ?_) | (refine lw_pure rfl (pv_assign rfl) ?_) | (refine is_cw ?_; first | (refine cw_seq ?_) | (refine cw_region ?_) | (refine cw_true rfl rfl ?_) | (refine cw_false rfl rfl ?_) | (refine cw_true rfl (by first | assumption | exact decide_eq_true (by omega) | exact dec_notT (by omega)) ?_) | (refine cw_false rfl (by first | assumption | exact decide_eq_false (by omega) | exact dec_notF (by omega)) ?_) | (refine cw_skip ?_) | (refine cw_block ?_) | (refine cw_exit ?_) | (refine cw_ret ?_)) | (refine is_qw ?_; first | (with_reducible refine qw_then ?_) | (with_reducible refine qw_in ?_) | (with_reducible refine qw_in_hit ?_) | (refine qw_in_miss rfl ?_) | (with_reducible refine qw_then_exit ?_) | (with_reducible refine qw_then_ret ?_) | (with_reducible refine qw_in_ret ?_)) | (refine lw_nil ?_) | ((refine is_bin ?_; first | (refine lw_pure rfl (pv_pnil tpD rfl rfl) ?_) | (refine lw_pure rfl (pv_lss rfl rfl) ?_) | (refine lw_pure rfl (pv_eql rfl rfl) ?_) | (refine lw_pure rfl (pv_inc rfl rfl (by omega)) ?_) | (refine lw_pure rfl (pv_add rfl rfl (by omega)) ?_))) | ((refine is_load ?_; first | (refine lw_pure rfl (pv_load (t1 rfl) rfl (by first | fail)) ?_) | (refine lw_pure rfl (pv_loada (tA rfl) rfl (by first | fail) (by rfl)) ?_))) | ((refine is_fa ?_; first | (refine lw_pure rfl (pv_fa (tF rfl) rfl) ?_))) | ((refine is_ia ?_; first | (refine lw_pure rfl (pv_ian (tS rfl) rfl rfl (by omega)) ?_) | (refine lw_pure rfl (pv_ia (tS rfl) rfl rfl (by omega)) ?_))) | ((refine is_bi ?_; first | (refine lw_pure rfl (pv_lenl (tS rfl) rfl) ?_) | (refine lw_pure rfl (pv_lens (tStr rfl) rfl) ?_))) | ((refine is_bd ?_; first | (refine lw_pure rfl (tyB_35 rfl rfl rfl) ?_))) | (refine lw_pure rfl (pv_nilp rfl) ?_) | (refine lw_pure0 (pv_nilp rfl) ?_))
  exact qw_ret1 rfl rfl ⟨rfl, hw⟩
theorem clone_c {w : World} {B : Nat} {m : List (ByteArray × (ByteArray × ByteArray))} (h : MpB evF w B m) : Calls Tryd.prog 48 #[.map (some B)] w fun e w' => (∃ B', e = .returned (.map (some B')) ∧ w.heap.size ≤ B' ∧ MpB evF w' B' m) ∧ Below w.heap.size w w' := by
  obtain ⟨m', ⟨es, clk, hE, rfl⟩, rfl⟩ := h
  refine (AnyW.maps_Clone Tryd.cloneW B _ clk w hE.heap).mono ?_
  rintro e w' ⟨rfl, rfl⟩
  exact ⟨⟨_, rfl, Nat.le_refl _, ⟨_, ⟨es, clk, ⟨heap_alloc_new w _, hE.keys, hE.born, hE.lt⟩, rfl⟩, rfl⟩⟩, below_alloc _ _⟩
set_option maxRecDepth 20000 in
theorem copy_c {w : World} {N B : Nat} {d : Dsk} (h : DkW w N B d) : Calls Tryd.prog 28 #[.pointer (some ⟨N, 0, none⟩)] w fun e w' => (∃ N' B', e = .returned (.pointer (some ⟨N', 0, none⟩)) ∧ w.heap.size ≤ N' ∧ w.heap.size ≤ B' ∧ DkW w' N' B' d) ∧ Below w.heap.size w w' := by
  have H := h.obj
  obtain ⟨m, hm, hp⟩ := h.mp
  have hw := Below.refl w.heap.size w
  refine fn_enter 15 Tryd.func28 rfl rfl rfl ?_
  repeat' (first | (refine lw_pure rfl (pv_move rfl) ?_) | (refine lw_pure rfl (pv_assign rfl) ?_) | (refine is_cw ?_; first | (refine cw_seq ?_) | (refine cw_region ?_) | (refine cw_true rfl rfl ?_) | (refine cw_false rfl rfl ?_) | (refine cw_true rfl (by first | assumption | exact decide_eq_true (by omega) | exact dec_notT (by omega)) ?_) | (refine cw_false rfl (by first | assumption | exact decide_eq_false (by omega) | exact dec_notF (by omega)) ?_) | (refine cw_skip ?_) | (refine cw_ret ?_)) | (refine is_qw ?_; first | (with_reducible refine qw_then ?_) | (with_reducible refine qw_then_ret ?_)) | (refine lw_nil ?_) | ((refine is_bin ?_; first | (refine lw_pure rfl (pv_pnil tpD rfl rfl) ?_) | (refine lw_pure rfl (pv_eql rfl rfl) ?_))) | ((refine is_load ?_; first | (refine lw_pure rfl (pv_load (t1 rfl) rfl (by first | exact PT.ld0 (H.mono hw) rfl | exact PT.ld (H.mono hw) rfl)) ?_) | (refine lw_pure rfl (pv_loada (tA rfl) rfl (by first | exact PT.lda (H.mono hw)) (by rfl)) ?_))) | ((refine is_fa ?_; first | (refine lw_pure rfl (pv_fa (tF rfl) rfl) ?_))) | (refine lw_pure rfl (pv_nilp rfl) ?_) | (refine lw_pure0 (pv_nilp rfl) ?_))
  refine lw_varN rfl (by first | exact tyv_28 | exact tyv_29 | exact tyv_34 | exact tyv_35 | exact tyv_43 | exact tyv_44 | exact tyv_77 | exact tyv_78 | exact tyv_80 | exact tyv_81 | exact tyv_86 | exact tyv_87 | exact tyv_126 | exact tyv_127) rfl (tZ rfl) (fun _ => rfl) rfl rfl ?_; intro N3 wn hN3 H3 hb; replace hN3 := Nat.le_trans hw.size hN3; replace hw := grow_trans hw hb; clear hb
  have hw0 := hw
  replace h := h.mono hw; replace H := H.mono hw; replace hm := hm.mono hw; clear hw; have hw := Below.refl wn.heap.size wn
  repeat' (first | (refine lw_pure rfl (pv_move rfl) ?_) | (refine lw_pure rfl (pv_assign rfl) ?_) | (refine is_cw ?_; first | (refine cw_seq ?_) | (refine cw_region ?_) | (refine cw_true rfl rfl ?_) | (refine cw_false rfl rfl ?_) | (refine cw_true rfl (by first | assumption | exact decide_eq_true (by omega) | exact dec_notT (by omega)) ?_) | (refine cw_false rfl (by first | assumption | exact decide_eq_false (by omega) | exact dec_notF (by omega)) ?_) | (refine cw_skip ?_) | (refine cw_ret ?_)) | (refine is_qw ?_; first | (with_reducible refine qw_then ?_) | (with_reducible refine qw_then_ret ?_)) | (refine lw_nil ?_) | ((refine is_bin ?_; first | (refine lw_pure rfl (pv_eql rfl rfl) ?_))) | ((refine is_load ?_; first | (refine lw_pure rfl (pv_load (t1 rfl) rfl (by first | exact PT.ld0 (H.mono hw) rfl | exact PT.ld (H.mono hw) rfl)) ?_) | (refine lw_pure rfl (pv_loada (tA rfl) rfl (by first | exact PT.lda (H.mono hw)) (by rfl)) ?_))) | ((refine is_fa ?_; first | (refine lw_pure rfl (pv_fa (tF rfl) rfl) ?_))) | (refine lw_pure rfl (pv_nilp rfl) ?_) | (refine lw_pure0 (pv_nilp rfl) ?_))
  refine lw_call (f := 48) (by kernel_rfl) rfl rfl (clone_c (hm.mono hw)) ?_; rintro e w4 ⟨⟨B4, rfl, hB4, hm4⟩, hb⟩; refine ⟨_, rfl, ?_⟩
  replace hB4 := Nat.le_trans hw.size hB4
  replace hw := grow_trans hw hb
  clear hb
  repeat' (first | (refine lw_pure rfl (pv_move rfl) ?_) | (refine lw_pure rfl (pv_assign rfl) ?_) | (refine is_cw ?_; first | (refine cw_seq ?_) | (refine cw_region ?_) | (refine cw_true rfl rfl ?_) | (refine cw_false rfl rfl ?_) | (refine cw_true rfl (by first | assumption | exact decide_eq_true (by omega) | exact dec_notT (by omega)) ?_) | (refine cw_false rfl (by first | assumption | exact decide_eq_false (by omega) | exact dec_notF (by omega)) ?_) | (refine cw_skip ?_) | (refine cw_ret ?_)) | (refine is_qw ?_; first | (with_reducible refine qw_then ?_) | (with_reducible refine qw_then_ret ?_)) | (refine lw_nil ?_) | ((refine is_bin ?_; first | (refine lw_pure rfl (pv_eql rfl rfl) ?_))) | ((refine is_load ?_; first | (refine lw_pure rfl (pv_load (t1 rfl) rfl (by first | fail)) ?_) | (refine lw_pure rfl (pv_loada (tA rfl) rfl (by first | fail) (by rfl)) ?_))) | ((refine is_fa ?_; first | (refine lw_pure rfl (pv_fa (tF rfl) rfl) ?_))) | (refine lw_pure rfl (pv_nilp rfl) ?_) | (refine lw_pure0 (pv_nilp rfl) ?_))
  refine lw_store (H3.mono hw) (tZ rfl) rfl rfl rfl (by simp) ?_; intro w5 H5 hg5 hz5
  have hne := hm4.ne (H3.mono hw)
  have hm5 := hm4.gw (a := N3) (b := N3) (Gw.of_a hg5) hne.symm hne.symm
  replace hw := st_hw (grow_trans hw0 hw) hg5 hN3
  repeat' (first | (refine lw_pure rfl (pv_move rfl) ?_) | (refine lw_pure rfl (pv_assign rfl) ?_) | (refine is_cw ?_; first | (refine cw_seq ?_) | (refine cw_region ?_) | (refine cw_true rfl rfl ?_) | (refine cw_false rfl rfl ?_) | (refine cw_true rfl (by first | assumption | exact decide_eq_true (by omega) | exact dec_notT (by omega)) ?_) | (refine cw_false rfl (by first | assumption | exact decide_eq_false (by omega) | exact dec_notF (by omega)) ?_) | (refine cw_skip ?_) | (refine cw_ret ?_)) | (refine is_qw ?_; first | (with_reducible refine qw_then ?_) | (with_reducible refine qw_then_ret ?_)) | (refine lw_nil ?_) | ((refine is_bin ?_; first | (refine lw_pure rfl (pv_eql rfl rfl) ?_))) | ((refine is_load ?_; first | (refine lw_pure rfl (pv_load (t1 rfl) rfl (by first | fail)) ?_) | (refine lw_pure rfl (pv_loada (tA rfl) rfl (by first | fail) (by rfl)) ?_))) | ((refine is_fa ?_; first | (refine lw_pure rfl (pv_fa (tF rfl) rfl) ?_))) | (refine lw_pure rfl (pv_nilp rfl) ?_) | (refine lw_pure0 (pv_nilp rfl) ?_))
  exact qw_ret1 rfl rfl ⟨⟨N3, B4, rfl, hN3, Nat.le_trans hw0.size hB4, ⟨H5, ⟨m, hm5, hp⟩, h.ok⟩⟩, hw⟩
set_option maxRecDepth 20000 in
theorem copyn_c (w : World) : Calls Tryd.prog 28 #[.pointer none] w fun e w' => e = .returned (.pointer none) ∧ Below w.heap.size w w' := by
  have hw := Below.refl w.heap.size w
  refine fn_enter 15 Tryd.func28 rfl rfl rfl ?_
  repeat' (first | (refine lw_pure rfl (pv_move rfl) ?_) | (refine lw_pure rfl (pv_assign rfl) ?_) | (refine is_cw ?_; first | (refine cw_seq ?_) | (refine cw_region ?_) | (refine cw_true rfl rfl ?_) | (refine cw_false rfl rfl ?_) | (refine cw_true rfl (by first | assumption | exact decide_eq_true (by omega) | exact dec_notT (by omega)) ?_) | (refine cw_false rfl (by first | assumption | exact decide_eq_false (by omega) | exact dec_notF (by omega)) ?_) | (refine cw_skip ?_) | (refine cw_ret ?_)) | (refine is_qw ?_; first | (with_reducible refine qw_then ?_) | (with_reducible refine qw_then_ret ?_)) | (refine lw_nil ?_) | ((refine is_bin ?_; first | (refine lw_pure rfl (pv_pnil tpD rfl rfl) ?_) | (refine lw_pure rfl (pv_eql rfl rfl) ?_))) | ((refine is_load ?_; first | (refine lw_pure rfl (pv_load (t1 rfl) rfl (by first | fail)) ?_) | (refine lw_pure rfl (pv_loada (tA rfl) rfl (by first | fail) (by rfl)) ?_))) | ((refine is_fa ?_; first | (refine lw_pure rfl (pv_fa (tF rfl) rfl) ?_))) | (refine lw_pure rfl (pv_nilp rfl) ?_) | (refine lw_pure0 (pv_nilp rfl) ?_))
  exact qw_ret1 rfl rfl ⟨rfl, hw⟩
theorem SortF.eq_of_sub : ∀ {a b : List Fil}, SortF a → SortF b → (∀ f ∈ a, f ∈ b) → a.Sublist b
  | [], _, _, _, _ => List.nil_sublist _
  | x :: r, [], _, _, h => by have := h x (by simp); simp at this
  | x :: r, y :: s, ha, hb, h => by
    have ha' := ha
    have hb' := hb
    unfold SortF at ha hb
    rw [List.pairwise_cons] at ha hb
    rcases List.mem_cons.1 (h x (by simp)) with rfl | hx
    · refine List.Sublist.cons_cons _ (SortF.eq_of_sub ha.2 hb.2 fun f hf => ?_)
      rcases List.mem_cons.1 (h f (List.mem_cons_of_mem _ hf)) with rfl | h2
      · exact absurd (ha.1 f hf) (ltN_irr _)
      · exact h2
    · refine List.Sublist.cons _ (SortF.eq_of_sub ha' hb.2 fun f hf => ?_)
      rcases List.mem_cons.1 (h f hf) with rfl | h2
      · have h3 := hb.1 x hx
        rcases List.mem_cons.1 hf with rfl | h4
        · exact absurd h3 (ltN_irr _)
        · exact absurd (ltN_trans h3 (ha.1 _ h4)) (ltN_irr _)
      · exact h2
theorem eq_of_maps {a b : List Fil} {m : List (ByteArray × (ByteArray × ByteArray))} (ha : SortF a) (hb : SortF b) (hl : a.length = b.length) (hp : m.Perm (mapF a)) (h : ∀ e ∈ m, (getF b e.1).map (fun f => (f.firm, f.pend)) = some e.2) : a = b := by
  refine (SortF.eq_of_sub ha hb fun f hf => ?_).eq_of_length hl
  have h1 : (f.name, (f.firm, f.pend)) ∈ m := hp.mem_iff.2 (List.mem_map.2 ⟨f, hf, rfl⟩)
  have h2 := h _ h1
  cases hg : getF b f.name with
  | none => rw [hg] at h2; simp at h2
  | some g =>
    rw [hg] at h2
    simp only [Option.map_some, Option.some.injEq, Prod.mk.injEq] at h2
    obtain ⟨h3, h4⟩ := getF_some hg
    have : g = f := by cases g; cases f; simp only at h2 h4; rw [h4, h2.1, h2.2]
    exact this ▸ h3
set_option maxRecDepth 20000 in
theorem equal_c {w : World} {B1 B2 : Nat} {m1 m2 : List (ByteArray × (ByteArray × ByteArray))} {a b : List Fil} (h1 : MpB evF w B1 m1) (h2 : MpB evF w B2 m2) (hp1 : m1.Perm (mapF a)) (hp2 : m2.Perm (mapF b)) (ha : SortF a) (hb : SortF b) : Calls Tryd.prog 47 #[.map (some B1), .map (some B2)] w fun e w' => e = .returned (.bool (decide (a = b))) ∧ Below w.heap.size w w' := by
  have hl1 := perm_len hp1
  have hl2 := perm_len hp2
  have hw := Below.refl w.heap.size w
  refine fn_enter 34 Tryd.func47 rfl rfl rfl ?_
  by_cases hl : m1.length = m2.length
  · repeat' (first | (refine lw_pure rfl (pv_move rfl) ?_) | (refine lw_pure rfl (pv_assign rfl) ?_) | (refine lw_pure rfl (pv_lenB rfl Tryd.underlying79 rfl (h1.mono hw)) ?_) | (refine lw_pure rfl (pv_lenB rfl Tryd.underlying79 rfl (h2.mono hw)) ?_) | (refine is_cw ?_; first | (refine cw_seq ?_) | (refine cw_region ?_) | (refine cw_true rfl rfl ?_) | (refine cw_false rfl rfl ?_) | (refine cw_true rfl (by first | assumption | exact decide_eq_true (by omega) | exact dec_notT (by omega)) ?_) | (refine cw_false rfl (by first | assumption | exact decide_eq_false (by omega) | exact dec_notF (by omega)) ?_) | (refine cw_skip ?_) | (refine cw_block ?_) | (refine cw_exit ?_) | (refine cw_ret ?_)) | (refine is_qw ?_; first | (with_reducible refine qw_then ?_) | (with_reducible refine qw_in ?_) | (with_reducible refine qw_in_hit ?_) | (refine qw_in_miss rfl ?_) | (with_reducible refine qw_then_exit ?_) | (with_reducible refine qw_then_ret ?_) | (with_reducible refine qw_in_ret ?_)) | (refine lw_nil ?_) | (refine is_guarded ?_; first | (refine lw_not rfl rfl rfl rfl ?_) | (refine lw_not_u rfl rfl rfl ?_) | (refine lw_on rfl rfl rfl ?_)) | ((refine is_bin ?_; first | (refine lw_pure rfl (pv_neq rfl rfl) ?_))) | ((refine is_load ?_; first | (refine lw_pure rfl (pv_load (t1 rfl) rfl (by first | fail)) ?_) | (refine lw_pure rfl (pv_loada (tA rfl) rfl (by first | fail) (by rfl)) ?_))) | ((refine is_un ?_; first | (refine lw_pure rfl (pv_not rfl) ?_))) | ((refine is_bi ?_; first | (refine lw_pure rfl (pv_lenl (tS rfl) rfl) ?_) | (refine lw_pure rfl (pv_lens (tStr rfl) rfl) ?_))) | (refine lw_pure rfl (pv_pick_t rfl rfl rfl) ?_) | (refine lw_pure rfl (pv_pick_f rfl rfl rfl) ?_) | (refine lw_pure rfl (pv_pick_t rfl (by first | assumption | exact decide_eq_true (by omega) | exact dec_notT (by omega)) rfl) ?_) | (refine lw_pure rfl (pv_pick_f rfl (by first | assumption | exact decide_eq_false (by omega) | exact dec_notF (by omega)) rfl) ?_) | (refine lw_pure rfl (pv_pick rfl rfl rfl) ?_) | (refine lw_pure rfl (pv_extract rfl rfl) ?_))
    obtain ⟨m', hm, rfl⟩ := h1
    refine lw_rangeM Tryd.underlying79 rfl rfl (hm.mono hw) ?_; intro I w1 hI HI hb'
    replace hI := Nat.le_trans hw.size hI
    replace hw := grow_trans hw hb'
    clear hb'
    repeat' (first | (refine lw_pure rfl (pv_move rfl) ?_) | (refine lw_pure rfl (pv_assign rfl) ?_) | (refine is_cw ?_; first | (refine cw_seq ?_) | (refine cw_region ?_) | (refine cw_true rfl rfl ?_) | (refine cw_false rfl rfl ?_) | (refine cw_true rfl (by first | assumption | exact decide_eq_true (by omega) | exact dec_notT (by omega)) ?_) | (refine cw_false rfl (by first | assumption | exact decide_eq_false (by omega) | exact dec_notF (by omega)) ?_) | (refine cw_skip ?_) | (refine cw_block ?_) | (refine cw_exit ?_) | (refine cw_ret ?_)) | (refine is_qw ?_; first | (with_reducible refine qw_then ?_) | (with_reducible refine qw_in ?_) | (with_reducible refine qw_in_hit ?_) | (refine qw_in_miss rfl ?_) | (with_reducible refine qw_then_exit ?_) | (with_reducible refine qw_then_ret ?_) | (with_reducible refine qw_in_ret ?_)) | (refine lw_nil ?_) | (refine is_guarded ?_; first | (refine lw_not rfl rfl rfl rfl ?_) | (refine lw_not_u rfl rfl rfl ?_) | (refine lw_on rfl rfl rfl ?_)) | ((refine is_bin ?_; first | (refine lw_pure rfl (pv_neq rfl rfl) ?_))) | ((refine is_load ?_; first | (refine lw_pure rfl (pv_load (t1 rfl) rfl (by first | fail)) ?_) | (refine lw_pure rfl (pv_loada (tA rfl) rfl (by first | fail) (by rfl)) ?_))) | ((refine is_un ?_; first | (refine lw_pure rfl (pv_not rfl) ?_))) | ((refine is_bi ?_; first | (refine lw_pure rfl (pv_lenl (tS rfl) rfl) ?_) | (refine lw_pure rfl (pv_lens (tStr rfl) rfl) ?_))) | (refine lw_pure rfl (pv_pick_t rfl rfl rfl) ?_) | (refine lw_pure rfl (pv_pick_f rfl rfl rfl) ?_) | (refine lw_pure rfl (pv_pick_t rfl (by first | assumption | exact decide_eq_true (by omega) | exact dec_notT (by omega)) rfl) ?_) | (refine lw_pure rfl (pv_pick_f rfl (by first | assumption | exact decide_eq_false (by omega) | exact dec_notF (by omega)) rfl) ?_) | (refine lw_pure rfl (pv_pick rfl rfl rfl) ?_) | (refine lw_pure rfl (pv_extract rfl rfl) ?_))
    refine cw_loop (σ := List (Nm × (ByteArray × ByteArray))) (fun _ => [(0, .map (some B1)), (1, .map (some B2)), (15, .pointer (some ⟨I, 0, none⟩))]) (fun s wr => Below w.heap.size w wr ∧ (∃ cur, It ekS evF wr I B1 m' s cur) ∧ (∀ e ∈ s, e ∈ m') ∧ ∀ e ∈ m', e ∈ s ∨ (getF b e.1.1).map (fun f => (f.firm, f.pend)) = some e.2) (fun s => s.length) m' (by repeat' (first | exact trivial | refine ⟨rfl, ?_⟩)) ⟨hw, ⟨_, HI⟩, fun e he => he, fun e he => Or.inl he⟩ ?_
    clear hw HI
    rintro rest wr ⟨hw, ⟨cur, HI⟩, hsub, hall⟩
    repeat' (first | (refine lw_pure rfl (pv_move rfl) ?_) | (refine lw_pure rfl (pv_assign rfl) ?_) | (refine is_cw ?_; first | (refine cw_seq ?_) | (refine cw_region ?_) | (refine cw_true rfl rfl ?_) | (refine cw_false rfl rfl ?_) | (refine cw_true rfl (by first | assumption | exact decide_eq_true (by omega) | exact dec_notT (by omega)) ?_) | (refine cw_false rfl (by first | assumption | exact decide_eq_false (by omega) | exact dec_notF (by omega)) ?_) | (refine cw_skip ?_) | (refine cw_block ?_) | (refine cw_exit ?_) | (refine cw_ret ?_)) | (refine is_qw ?_; first | (with_reducible refine qw_then ?_) | (with_reducible refine qw_in ?_) | (with_reducible refine qw_in_hit ?_) | (refine qw_in_miss rfl ?_) | (with_reducible refine qw_then_exit ?_) | (with_reducible refine qw_then_ret ?_) | (with_reducible refine qw_in_ret ?_)) | (refine lw_nil ?_) | (refine is_guarded ?_; first | (refine lw_not rfl rfl rfl rfl ?_) | (refine lw_not_u rfl rfl rfl ?_) | (refine lw_on rfl rfl rfl ?_)) | ((refine is_bin ?_; first | (refine lw_pure rfl (pv_neq rfl rfl) ?_))) | ((refine is_load ?_; first | (refine lw_pure rfl (pv_load (t1 rfl) rfl (by first | fail)) ?_) | (refine lw_pure rfl (pv_loada (tA rfl) rfl (by first | fail) (by rfl)) ?_))) | ((refine is_un ?_; first | (refine lw_pure rfl (pv_not rfl) ?_))) | ((refine is_bi ?_; first | (refine lw_pure rfl (pv_lenl (tS rfl) rfl) ?_) | (refine lw_pure rfl (pv_lens (tStr rfl) rfl) ?_))) | (refine lw_pure rfl (pv_pick_t rfl rfl rfl) ?_) | (refine lw_pure rfl (pv_pick_f rfl rfl rfl) ?_) | (refine lw_pure rfl (pv_pick_t rfl (by first | assumption | exact decide_eq_true (by omega) | exact dec_notT (by omega)) rfl) ?_) | (refine lw_pure rfl (pv_pick_f rfl (by first | assumption | exact decide_eq_false (by omega) | exact dec_notF (by omega)) rfl) ?_) | (refine lw_pure rfl (pv_pick rfl rfl rfl) ?_) | (refine lw_pure rfl (pv_extract rfl rfl) ?_))
    refine lw_nextM rfl rfl HI (fun hr => ?_) (fun q v rest' w2 hq HI2 hg hz9 => ?_)
    · subst hr
      repeat' (first | (refine lw_pure rfl (pv_move rfl) ?_) | (refine lw_pure rfl (pv_assign rfl) ?_) | (refine is_cw ?_; first | (refine cw_seq ?_) | (refine cw_region ?_) | (refine cw_true rfl rfl ?_) | (refine cw_false rfl rfl ?_) | (refine cw_true rfl (by first | assumption | exact decide_eq_true (by omega) | exact dec_notT (by omega)) ?_) | (refine cw_false rfl (by first | assumption | exact decide_eq_false (by omega) | exact dec_notF (by omega)) ?_) | (refine cw_skip ?_) | (refine cw_block ?_) | (refine cw_exit ?_) | (refine cw_ret ?_)) | (refine is_qw ?_; first | (with_reducible refine qw_then ?_) | (with_reducible refine qw_in ?_) | (with_reducible refine qw_in_hit ?_) | (refine qw_in_miss rfl ?_) | (with_reducible refine qw_then_exit ?_) | (with_reducible refine qw_then_ret ?_) | (with_reducible refine qw_in_ret ?_)) | (refine lw_nil ?_) | (refine is_guarded ?_; first | (refine lw_not rfl rfl rfl rfl ?_) | (refine lw_not_u rfl rfl rfl ?_) | (refine lw_on rfl rfl rfl ?_)) | ((refine is_bin ?_; first | (refine lw_pure rfl (pv_neq rfl rfl) ?_))) | ((refine is_load ?_; first | (refine lw_pure rfl (pv_load (t1 rfl) rfl (by first | fail)) ?_) | (refine lw_pure rfl (pv_loada (tA rfl) rfl (by first | fail) (by rfl)) ?_))) | ((refine is_un ?_; first | (refine lw_pure rfl (pv_not rfl) ?_))) | ((refine is_bi ?_; first | (refine lw_pure rfl (pv_lenl (tS rfl) rfl) ?_) | (refine lw_pure rfl (pv_lens (tStr rfl) rfl) ?_))) | (refine lw_pure rfl (pv_pick_t rfl rfl rfl) ?_) | (refine lw_pure rfl (pv_pick_f rfl rfl rfl) ?_) | (refine lw_pure rfl (pv_pick_t rfl (by first | assumption | exact decide_eq_true (by omega) | exact dec_notT (by omega)) rfl) ?_) | (refine lw_pure rfl (pv_pick_f rfl (by first | assumption | exact decide_eq_false (by omega) | exact dec_notF (by omega)) rfl) ?_) | (refine lw_pure rfl (pv_pick rfl rfl rfl) ?_) | (refine lw_pure rfl (pv_extract rfl rfl) ?_))
      have e : a = b := eq_of_maps ha hb (by rw [← hl1, ← hl2]; exact hl) hp1 fun e he => by
        obtain ⟨e', he', rfl⟩ := List.mem_map.1 he
        rcases hall e' he' with h3 | h3
        · cases h3
        · exact h3
      exact qw_ret1 rfl rfl ⟨by rw [decide_eq_true e], hw⟩
    · have hwB := st_hw hw hg hI
      clear hw
      have hw := Below.refl w2.heap.size w2
      have h2' := h2.gw (a := I) (b := I) ((Gw.of_below (Below.refl _ _) : Gw I I w w)) (by have := h2.bound; omega) (by have := h2.bound; omega)
      replace h2 := h2.mono hwB
      have hmem := hsub (q, v) (hq.mem_iff.2 (by simp))
      have hqn : q.1.size ≤ 9223372036854775807 := q.2
      have hlk := perm_get (φ := fun f => (f.firm, f.pend)) hp2 hb q.1
      have hlr := hq.length_eq
      rw [List.length_cons] at hlr
      cases hg2 : getM m2 q.1 with
      | none =>
        have hne : ¬ a = b := fun e => by
          subst e
          have h5 : (q.1, v) ∈ mapF a := hp1.mem_iff.1 (List.mem_map.2 ⟨(q, v), hmem, rfl⟩)
          obtain ⟨f, hf, e5⟩ := List.mem_map.1 h5
          rw [hlk, (getF_iff ha).2 ⟨hf, congrArg Prod.fst e5⟩] at hg2
          cases hg2
        rw [decide_eq_false hne]
        repeat' (first | (refine lw_pure rfl (pv_move rfl) ?_) | (refine lw_pure rfl (pv_assign rfl) ?_) | (refine lw_pure rfl (pv_entryM rfl HI2) ?_) | (refine is_cw ?_; first | (refine cw_seq ?_) | (refine cw_region ?_) | (refine cw_true rfl rfl ?_) | (refine cw_false rfl rfl ?_) | (refine cw_true rfl (by first | assumption | exact decide_eq_true (by omega) | exact dec_notT (by omega)) ?_) | (refine cw_false rfl (by first | assumption | exact decide_eq_false (by omega) | exact dec_notF (by omega)) ?_) | (refine cw_skip ?_) | (refine cw_block ?_) | (refine cw_exit ?_) | (refine cw_ret ?_)) | (refine is_qw ?_; first | (with_reducible refine qw_then ?_) | (with_reducible refine qw_in ?_) | (with_reducible refine qw_in_hit ?_) | (refine qw_in_miss rfl ?_) | (with_reducible refine qw_then_exit ?_) | (with_reducible refine qw_then_ret ?_) | (with_reducible refine qw_in_ret ?_)) | (refine lw_nil ?_) | (refine is_guarded ?_; first | (refine lw_not rfl rfl rfl rfl ?_) | (refine lw_not_u rfl rfl rfl ?_) | (refine lw_on rfl rfl rfl ?_)) | ((refine is_bin ?_; first | (refine lw_pure rfl (pv_neq rfl rfl) ?_))) | ((refine is_load ?_; first | (refine lw_pure rfl (pv_load (t1 rfl) rfl (by first | fail)) ?_) | (refine lw_pure rfl (pv_loada (tA rfl) rfl (by first | fail) (by rfl)) ?_))) | ((refine is_un ?_; first | (refine lw_pure rfl (pv_not rfl) ?_))) | ((refine is_bi ?_; first | (refine lw_pure rfl (pv_lenl (tS rfl) rfl) ?_) | (refine lw_pure rfl (pv_lens (tStr rfl) rfl) ?_))) | (refine lw_pure rfl (pv_pick_t rfl rfl rfl) ?_) | (refine lw_pure rfl (pv_pick_f rfl rfl rfl) ?_) | (refine lw_pure rfl (pv_pick_t rfl (by first | assumption | exact decide_eq_true (by omega) | exact dec_notT (by omega)) rfl) ?_) | (refine lw_pure rfl (pv_pick_f rfl (by first | assumption | exact decide_eq_false (by omega) | exact dec_notF (by omega)) rfl) ?_) | (refine lw_pure rfl (pv_pick rfl rfl rfl) ?_) | (refine lw_pure rfl (pv_extract rfl rfl) ?_))
        refine lw_allocN rfl (by first | exact tyv_28 | exact tyv_29 | exact tyv_34 | exact tyv_35 | exact tyv_43 | exact tyv_44 | exact tyv_77 | exact tyv_78 | exact tyv_80 | exact tyv_81 | exact tyv_86 | exact tyv_87 | exact tyv_126 | exact tyv_127) rfl ?_; intro N6 w6 hN6 H6 hb6
        replace hw := grow_trans hw hb6
        clear hb6
        repeat' (first | (refine lw_pure rfl (pv_move rfl) ?_) | (refine lw_pure rfl (pv_assign rfl) ?_) | (refine is_cw ?_; first | (refine cw_seq ?_) | (refine cw_region ?_) | (refine cw_true rfl rfl ?_) | (refine cw_false rfl rfl ?_) | (refine cw_true rfl (by first | assumption | exact decide_eq_true (by omega) | exact dec_notT (by omega)) ?_) | (refine cw_false rfl (by first | assumption | exact decide_eq_false (by omega) | exact dec_notF (by omega)) ?_) | (refine cw_skip ?_) | (refine cw_block ?_) | (refine cw_exit ?_) | (refine cw_ret ?_)) | (refine is_qw ?_; first | (with_reducible refine qw_then ?_) | (with_reducible refine qw_in ?_) | (with_reducible refine qw_in_hit ?_) | (refine qw_in_miss rfl ?_) | (with_reducible refine qw_then_exit ?_) | (with_reducible refine qw_then_ret ?_) | (with_reducible refine qw_in_ret ?_)) | (refine lw_nil ?_) | (refine is_guarded ?_; first | (refine lw_not rfl rfl rfl rfl ?_) | (refine lw_not_u rfl rfl rfl ?_) | (refine lw_on rfl rfl rfl ?_)) | ((refine is_bin ?_; first | (refine lw_pure rfl (pv_neq rfl rfl) ?_))) | ((refine is_load ?_; first | (refine lw_pure rfl (pv_load (t1 rfl) rfl (by first | fail)) ?_) | (refine lw_pure rfl (pv_loada (tA rfl) rfl (by first | fail) (by rfl)) ?_))) | ((refine is_un ?_; first | (refine lw_pure rfl (pv_not rfl) ?_))) | ((refine is_bi ?_; first | (refine lw_pure rfl (pv_lenl (tS rfl) rfl) ?_) | (refine lw_pure rfl (pv_lens (tStr rfl) rfl) ?_))) | (refine lw_pure rfl (pv_pick_t rfl rfl rfl) ?_) | (refine lw_pure rfl (pv_pick_f rfl rfl rfl) ?_) | (refine lw_pure rfl (pv_pick_t rfl (by first | assumption | exact decide_eq_true (by omega) | exact dec_notT (by omega)) rfl) ?_) | (refine lw_pure rfl (pv_pick_f rfl (by first | assumption | exact decide_eq_false (by omega) | exact dec_notF (by omega)) rfl) ?_) | (refine lw_pure rfl (pv_pick rfl rfl rfl) ?_) | (refine lw_pure rfl (pv_extract rfl rfl) ?_))
        refine lw_storea (vs := encV2 v) H6 (tZ rfl) rfl rfl rfl rfl (by intro u hu; simp [encV2] at hu; rcases hu with rfl | rfl <;> rfl) ?_; intro w7 H7 hg7 hz7
        replace hw := st_hw hw hg7 hN6
        repeat' (first | (refine lw_pure rfl (pv_move rfl) ?_) | (refine lw_pure rfl (pv_assign rfl) ?_) | (refine lw_pure rfl (pv_look0 (k := q.1) Tryd.underlying79 keyS zF hqn hg2 rfl rfl (h2.mono hw)) ?_) | (refine is_cw ?_; first | (refine cw_seq ?_) | (refine cw_region ?_) | (refine cw_true rfl rfl ?_) | (refine cw_false rfl rfl ?_) | (refine cw_true rfl (by first | assumption | exact decide_eq_true (by omega) | exact dec_notT (by omega)) ?_) | (refine cw_false rfl (by first | assumption | exact decide_eq_false (by omega) | exact dec_notF (by omega)) ?_) | (refine cw_skip ?_) | (refine cw_block ?_) | (refine cw_exit ?_) | (refine cw_ret ?_)) | (refine is_qw ?_; first | (with_reducible refine qw_then ?_) | (with_reducible refine qw_in ?_) | (with_reducible refine qw_in_hit ?_) | (refine qw_in_miss rfl ?_) | (with_reducible refine qw_then_exit ?_) | (with_reducible refine qw_then_ret ?_) | (with_reducible refine qw_in_ret ?_)) | (refine lw_nil ?_) | (refine is_guarded ?_; first | (refine lw_not rfl rfl rfl rfl ?_) | (refine lw_not_u rfl rfl rfl ?_) | (refine lw_on rfl rfl rfl ?_)) | ((refine is_bin ?_; first | (refine lw_pure rfl (pv_neq rfl rfl) ?_))) | ((refine is_load ?_; first | (refine lw_pure rfl (pv_load (t1 rfl) rfl (by first | fail)) ?_) | (refine lw_pure rfl (pv_loada (tA rfl) rfl (by first | fail) (by rfl)) ?_))) | ((refine is_un ?_; first | (refine lw_pure rfl (pv_not rfl) ?_))) | ((refine is_bi ?_; first | (refine lw_pure rfl (pv_lenl (tS rfl) rfl) ?_) | (refine lw_pure rfl (pv_lens (tStr rfl) rfl) ?_))) | (refine lw_pure rfl (pv_pick_t rfl rfl rfl) ?_) | (refine lw_pure rfl (pv_pick_f rfl rfl rfl) ?_) | (refine lw_pure rfl (pv_pick_t rfl (by first | assumption | exact decide_eq_true (by omega) | exact dec_notT (by omega)) rfl) ?_) | (refine lw_pure rfl (pv_pick_f rfl (by first | assumption | exact decide_eq_false (by omega) | exact dec_notF (by omega)) rfl) ?_) | (refine lw_pure rfl (pv_pick rfl rfl rfl) ?_) | (refine lw_pure rfl (pv_extract rfl rfl) ?_))
        refine lw_varN rfl (by first | exact tyv_28 | exact tyv_29 | exact tyv_34 | exact tyv_35 | exact tyv_43 | exact tyv_44 | exact tyv_77 | exact tyv_78 | exact tyv_80 | exact tyv_81 | exact tyv_86 | exact tyv_87 | exact tyv_126 | exact tyv_127) rfl (tZ rfl) (fun _ => rfl) rfl rfl ?_; intro N8 wn hN8 H8 hb; replace hN8 := Nat.le_trans hw.size hN8; replace hw := grow_trans hw hb; clear hb
        repeat' (first | (refine lw_pure rfl (pv_move rfl) ?_) | (refine lw_pure rfl (pv_assign rfl) ?_) | (refine is_cw ?_; first | (refine cw_seq ?_) | (refine cw_region ?_) | (refine cw_true rfl rfl ?_) | (refine cw_false rfl rfl ?_) | (refine cw_true rfl (by first | assumption | exact decide_eq_true (by omega) | exact dec_notT (by omega)) ?_) | (refine cw_false rfl (by first | assumption | exact decide_eq_false (by omega) | exact dec_notF (by omega)) ?_) | (refine cw_skip ?_) | (refine cw_block ?_) | (refine cw_exit ?_) | (refine cw_ret ?_)) | (refine is_qw ?_; first | (with_reducible refine qw_then ?_) | (with_reducible refine qw_in ?_) | (with_reducible refine qw_in_hit ?_) | (refine qw_in_miss rfl ?_) | (with_reducible refine qw_then_exit ?_) | (with_reducible refine qw_then_ret ?_) | (with_reducible refine qw_in_ret ?_)) | (refine lw_nil ?_) | (refine is_guarded ?_; first | (refine lw_not rfl rfl rfl rfl ?_) | (refine lw_not_u rfl rfl rfl ?_) | (refine lw_on rfl rfl rfl ?_)) | ((refine is_bin ?_; first | (refine lw_pure rfl (pv_neq rfl rfl) ?_))) | ((refine is_load ?_; first | (refine lw_pure rfl (pv_load (t1 rfl) rfl (by first | fail)) ?_) | (refine lw_pure rfl (pv_loada (tA rfl) rfl (by first | fail) (by rfl)) ?_))) | ((refine is_un ?_; first | (refine lw_pure rfl (pv_not rfl) ?_))) | ((refine is_bi ?_; first | (refine lw_pure rfl (pv_lenl (tS rfl) rfl) ?_) | (refine lw_pure rfl (pv_lens (tStr rfl) rfl) ?_))) | (refine lw_pure rfl (pv_pick_t rfl rfl rfl) ?_) | (refine lw_pure rfl (pv_pick_f rfl rfl rfl) ?_) | (refine lw_pure rfl (pv_pick_t rfl (by first | assumption | exact decide_eq_true (by omega) | exact dec_notT (by omega)) rfl) ?_) | (refine lw_pure rfl (pv_pick_f rfl (by first | assumption | exact decide_eq_false (by omega) | exact dec_notF (by omega)) rfl) ?_) | (refine lw_pure rfl (pv_pick rfl rfl rfl) ?_) | (refine lw_pure rfl (pv_extract rfl rfl) ?_))
        exact qw_ret1 rfl rfl ⟨rfl, grow_trans hwB hw⟩
      | some u =>
        repeat' (first | (refine lw_pure rfl (pv_move rfl) ?_) | (refine lw_pure rfl (pv_assign rfl) ?_) | (refine lw_pure rfl (pv_entryM rfl HI2) ?_) | (refine is_cw ?_; first | (refine cw_seq ?_) | (refine cw_region ?_) | (refine cw_true rfl rfl ?_) | (refine cw_false rfl rfl ?_) | (refine cw_true rfl (by first | assumption | exact decide_eq_true (by omega) | exact dec_notT (by omega)) ?_) | (refine cw_false rfl (by first | assumption | exact decide_eq_false (by omega) | exact dec_notF (by omega)) ?_) | (refine cw_skip ?_) | (refine cw_block ?_) | (refine cw_exit ?_) | (refine cw_ret ?_)) | (refine is_qw ?_; first | (with_reducible refine qw_then ?_) | (with_reducible refine qw_in ?_) | (with_reducible refine qw_in_hit ?_) | (refine qw_in_miss rfl ?_) | (with_reducible refine qw_then_exit ?_) | (with_reducible refine qw_then_ret ?_) | (with_reducible refine qw_in_ret ?_)) | (refine lw_nil ?_) | (refine is_guarded ?_; first | (refine lw_not rfl rfl rfl rfl ?_) | (refine lw_not_u rfl rfl rfl ?_) | (refine lw_on rfl rfl rfl ?_)) | ((refine is_bin ?_; first | (refine lw_pure rfl (pv_neq rfl rfl) ?_))) | ((refine is_load ?_; first | (refine lw_pure rfl (pv_load (t1 rfl) rfl (by first | fail)) ?_) | (refine lw_pure rfl (pv_loada (tA rfl) rfl (by first | fail) (by rfl)) ?_))) | ((refine is_un ?_; first | (refine lw_pure rfl (pv_not rfl) ?_))) | ((refine is_bi ?_; first | (refine lw_pure rfl (pv_lenl (tS rfl) rfl) ?_) | (refine lw_pure rfl (pv_lens (tStr rfl) rfl) ?_))) | (refine lw_pure rfl (pv_pick_t rfl rfl rfl) ?_) | (refine lw_pure rfl (pv_pick_f rfl rfl rfl) ?_) | (refine lw_pure rfl (pv_pick_t rfl (by first | assumption | exact decide_eq_true (by omega) | exact dec_notT (by omega)) rfl) ?_) | (refine lw_pure rfl (pv_pick_f rfl (by first | assumption | exact decide_eq_false (by omega) | exact dec_notF (by omega)) rfl) ?_) | (refine lw_pure rfl (pv_pick rfl rfl rfl) ?_) | (refine lw_pure rfl (pv_extract rfl rfl) ?_))
        refine lw_allocN rfl (by first | exact tyv_28 | exact tyv_29 | exact tyv_34 | exact tyv_35 | exact tyv_43 | exact tyv_44 | exact tyv_77 | exact tyv_78 | exact tyv_80 | exact tyv_81 | exact tyv_86 | exact tyv_87 | exact tyv_126 | exact tyv_127) rfl ?_; intro N6 w6 hN6 H6 hb6
        replace hw := grow_trans hw hb6
        clear hb6
        repeat' (first | (refine lw_pure rfl (pv_move rfl) ?_) | (refine lw_pure rfl (pv_assign rfl) ?_) | (refine is_cw ?_; first | (refine cw_seq ?_) | (refine cw_region ?_) | (refine cw_true rfl rfl ?_) | (refine cw_false rfl rfl ?_) | (refine cw_true rfl (by first | assumption | exact decide_eq_true (by omega) | exact dec_notT (by omega)) ?_) | (refine cw_false rfl (by first | assumption | exact decide_eq_false (by omega) | exact dec_notF (by omega)) ?_) | (refine cw_skip ?_) | (refine cw_block ?_) | (refine cw_exit ?_) | (refine cw_ret ?_)) | (refine is_qw ?_; first | (with_reducible refine qw_then ?_) | (with_reducible refine qw_in ?_) | (with_reducible refine qw_in_hit ?_) | (refine qw_in_miss rfl ?_) | (with_reducible refine qw_then_exit ?_) | (with_reducible refine qw_then_ret ?_) | (with_reducible refine qw_in_ret ?_)) | (refine lw_nil ?_) | (refine is_guarded ?_; first | (refine lw_not rfl rfl rfl rfl ?_) | (refine lw_not_u rfl rfl rfl ?_) | (refine lw_on rfl rfl rfl ?_)) | ((refine is_bin ?_; first | (refine lw_pure rfl (pv_neq rfl rfl) ?_))) | ((refine is_load ?_; first | (refine lw_pure rfl (pv_load (t1 rfl) rfl (by first | fail)) ?_) | (refine lw_pure rfl (pv_loada (tA rfl) rfl (by first | fail) (by rfl)) ?_))) | ((refine is_un ?_; first | (refine lw_pure rfl (pv_not rfl) ?_))) | ((refine is_bi ?_; first | (refine lw_pure rfl (pv_lenl (tS rfl) rfl) ?_) | (refine lw_pure rfl (pv_lens (tStr rfl) rfl) ?_))) | (refine lw_pure rfl (pv_pick_t rfl rfl rfl) ?_) | (refine lw_pure rfl (pv_pick_f rfl rfl rfl) ?_) | (refine lw_pure rfl (pv_pick_t rfl (by first | assumption | exact decide_eq_true (by omega) | exact dec_notT (by omega)) rfl) ?_) | (refine lw_pure rfl (pv_pick_f rfl (by first | assumption | exact decide_eq_false (by omega) | exact dec_notF (by omega)) rfl) ?_) | (refine lw_pure rfl (pv_pick rfl rfl rfl) ?_) | (refine lw_pure rfl (pv_extract rfl rfl) ?_))
        refine lw_storea (vs := encV2 v) H6 (tZ rfl) rfl rfl rfl rfl (by intro u hu; simp [encV2] at hu; rcases hu with rfl | rfl <;> rfl) ?_; intro w7 H7 hg7 hz7
        replace hw := st_hw hw hg7 hN6
        repeat' (first | (refine lw_pure rfl (pv_move rfl) ?_) | (refine lw_pure rfl (pv_assign rfl) ?_) | (refine lw_pure rfl (pv_look1 (k := q.1) Tryd.underlying79 keyS zF hqn hg2 rfl rfl (h2.mono hw)) ?_) | (refine is_cw ?_; first | (refine cw_seq ?_) | (refine cw_region ?_) | (refine cw_true rfl rfl ?_) | (refine cw_false rfl rfl ?_) | (refine cw_true rfl (by first | assumption | exact decide_eq_true (by omega) | exact dec_notT (by omega)) ?_) | (refine cw_false rfl (by first | assumption | exact decide_eq_false (by omega) | exact dec_notF (by omega)) ?_) | (refine cw_skip ?_) | (refine cw_block ?_) | (refine cw_exit ?_) | (refine cw_ret ?_)) | (refine is_qw ?_; first | (with_reducible refine qw_then ?_) | (with_reducible refine qw_in ?_) | (with_reducible refine qw_in_hit ?_) | (refine qw_in_miss rfl ?_) | (with_reducible refine qw_then_exit ?_) | (with_reducible refine qw_then_ret ?_) | (with_reducible refine qw_in_ret ?_)) | (refine lw_nil ?_) | (refine is_guarded ?_; first | (refine lw_not rfl rfl rfl rfl ?_) | (refine lw_not_u rfl rfl rfl ?_) | (refine lw_on rfl rfl rfl ?_)) | ((refine is_bin ?_; first | (refine lw_pure rfl (pv_neq rfl rfl) ?_))) | ((refine is_load ?_; first | (refine lw_pure rfl (pv_load (t1 rfl) rfl (by first | fail)) ?_) | (refine lw_pure rfl (pv_loada (tA rfl) rfl (by first | fail) (by rfl)) ?_))) | ((refine is_un ?_; first | (refine lw_pure rfl (pv_not rfl) ?_))) | ((refine is_bi ?_; first | (refine lw_pure rfl (pv_lenl (tS rfl) rfl) ?_) | (refine lw_pure rfl (pv_lens (tStr rfl) rfl) ?_))) | (refine lw_pure rfl (pv_pick_t rfl rfl rfl) ?_) | (refine lw_pure rfl (pv_pick_f rfl rfl rfl) ?_) | (refine lw_pure rfl (pv_pick_t rfl (by first | assumption | exact decide_eq_true (by omega) | exact dec_notT (by omega)) rfl) ?_) | (refine lw_pure rfl (pv_pick_f rfl (by first | assumption | exact decide_eq_false (by omega) | exact dec_notF (by omega)) rfl) ?_) | (refine lw_pure rfl (pv_pick rfl rfl rfl) ?_) | (refine lw_pure rfl (pv_extract rfl rfl) ?_))
        refine lw_varN rfl (by first | exact tyv_28 | exact tyv_29 | exact tyv_34 | exact tyv_35 | exact tyv_43 | exact tyv_44 | exact tyv_77 | exact tyv_78 | exact tyv_80 | exact tyv_81 | exact tyv_86 | exact tyv_87 | exact tyv_126 | exact tyv_127) rfl (tZ rfl) (fun _ => rfl) rfl rfl ?_; intro N8 w8 hN8 H8 hb8
        replace H7 := H7.mono hb8
        replace hw := grow_trans hw hb8
        clear hb8
        by_cases hvu : v = u
        · have hE : (!decide (v = u)) = false := by rw [decide_eq_true hvu]; rfl
          repeat' (first | (refine lw_pure rfl (pv_move rfl) ?_) | (refine lw_pure rfl (pv_assign rfl) ?_) | (refine is_cw ?_; first | (refine cw_seq ?_) | (refine cw_region ?_) | (refine cw_true rfl rfl ?_) | (refine cw_false rfl rfl ?_) | (refine cw_true rfl (by first | assumption | exact decide_eq_true (by omega) | exact dec_notT (by omega)) ?_) | (refine cw_false rfl (by first | assumption | exact decide_eq_false (by omega) | exact dec_notF (by omega)) ?_) | (refine cw_skip ?_) | (refine cw_block ?_) | (refine cw_exit ?_) | (refine cw_ret ?_)) | (refine is_qw ?_; first | (with_reducible refine qw_then ?_) | (with_reducible refine qw_in ?_) | (with_reducible refine qw_in_hit ?_) | (refine qw_in_miss rfl ?_) | (with_reducible refine qw_then_exit ?_) | (with_reducible refine qw_then_ret ?_) | (with_reducible refine qw_in_ret ?_)) | (refine lw_nil ?_) | (refine is_guarded ?_; first | (refine lw_not rfl rfl rfl rfl ?_) | (refine lw_not_u rfl rfl rfl ?_) | (refine lw_on rfl rfl rfl ?_)) | ((refine is_bin ?_; first | (refine lw_pure rfl (pv_neqV v u rfl rfl) ?_) | (refine lw_pure rfl (pv_neq rfl rfl) ?_))) | ((refine is_load ?_; first | (refine lw_pure rfl (pv_load (t1 rfl) rfl (by first | exact PT.ld0 H7 rfl | exact PT.ld H7 rfl | exact PT.ld0 H8 rfl | exact PT.ld H8 rfl)) ?_) | (refine lw_pure rfl (pv_loada (tA rfl) rfl (by first | exact PT.lda H7 | exact PT.lda H8) (by rfl)) ?_))) | ((refine is_un ?_; first | (refine lw_pure rfl (pv_not rfl) ?_))) | ((refine is_bi ?_; first | (refine lw_pure rfl (pv_lenl (tS rfl) rfl) ?_) | (refine lw_pure rfl (pv_lens (tStr rfl) rfl) ?_))) | (refine lw_pure rfl (pv_pick_t rfl rfl rfl) ?_) | (refine lw_pure rfl (pv_pick_f rfl rfl rfl) ?_) | (refine lw_pure rfl (pv_pick_t rfl (by first | assumption | exact decide_eq_true (by omega) | exact dec_notT (by omega)) rfl) ?_) | (refine lw_pure rfl (pv_pick_f rfl (by first | assumption | exact decide_eq_false (by omega) | exact dec_notF (by omega)) rfl) ?_) | (refine lw_pure rfl (pv_pick rfl rfl rfl) ?_) | (refine lw_pure rfl (pv_extract rfl rfl) ?_))
          refine qw_round rest' (by repeat' (first | exact trivial | refine ⟨rfl, ?_⟩)) ⟨grow_trans hwB hw, ⟨_, HI2.mono hw⟩, fun e he => hsub e (hq.mem_iff.2 (by simp [he])), fun e he => ?_⟩ (by omega)
          rcases hall e he with h3 | h3
          · rcases List.mem_cons.1 (hq.mem_iff.1 h3) with rfl | h4
            · refine Or.inr ?_
              rw [← hlk, hg2, hvu]
            · exact Or.inl h4
          · exact Or.inr h3
        · have hE : (!decide (v = u)) = true := by rw [decide_eq_false hvu]; rfl
          have hne : ¬ a = b := fun e => by
            subst e
            have h5 : (q.1, v) ∈ mapF a := hp1.mem_iff.1 (List.mem_map.2 ⟨(q, v), hmem, rfl⟩)
            obtain ⟨f, hf, e5⟩ := List.mem_map.1 h5
            rw [hlk, (getF_iff ha).2 ⟨hf, congrArg Prod.fst e5⟩] at hg2
            simp only [Option.map_some, Option.some.injEq] at hg2
            exact hvu ((congrArg Prod.snd e5).symm.trans hg2)
          rw [decide_eq_false hne]
          repeat' (first | (refine lw_pure rfl (pv_move rfl) ?_) | (refine lw_pure rfl (pv_assign rfl) ?_) | (refine is_cw ?_; first | (refine cw_seq ?_) | (refine cw_region ?_) | (refine cw_true rfl rfl ?_) | (refine cw_false rfl rfl ?_) | (refine cw_true rfl (by first | assumption | exact decide_eq_true (by omega) | exact dec_notT (by omega)) ?_) | (refine cw_false rfl (by first | assumption | exact decide_eq_false (by omega) | exact dec_notF (by omega)) ?_) | (refine cw_skip ?_) | (refine cw_block ?_) | (refine cw_exit ?_) | (refine cw_ret ?_)) | (refine is_qw ?_; first | (with_reducible refine qw_then ?_) | (with_reducible refine qw_in ?_) | (with_reducible refine qw_in_hit ?_) | (refine qw_in_miss rfl ?_) | (with_reducible refine qw_then_exit ?_) | (with_reducible refine qw_then_ret ?_) | (with_reducible refine qw_in_ret ?_)) | (refine lw_nil ?_) | (refine is_guarded ?_; first | (refine lw_not rfl rfl rfl rfl ?_) | (refine lw_not_u rfl rfl rfl ?_) | (refine lw_on rfl rfl rfl ?_)) | ((refine is_bin ?_; first | (refine lw_pure rfl (pv_neqV v u rfl rfl) ?_) | (refine lw_pure rfl (pv_neq rfl rfl) ?_))) | ((refine is_load ?_; first | (refine lw_pure rfl (pv_load (t1 rfl) rfl (by first | exact PT.ld0 H7 rfl | exact PT.ld H7 rfl | exact PT.ld0 H8 rfl | exact PT.ld H8 rfl)) ?_) | (refine lw_pure rfl (pv_loada (tA rfl) rfl (by first | exact PT.lda H7 | exact PT.lda H8) (by rfl)) ?_))) | ((refine is_un ?_; first | (refine lw_pure rfl (pv_not rfl) ?_))) | ((refine is_bi ?_; first | (refine lw_pure rfl (pv_lenl (tS rfl) rfl) ?_) | (refine lw_pure rfl (pv_lens (tStr rfl) rfl) ?_))) | (refine lw_pure rfl (pv_pick_t rfl rfl rfl) ?_) | (refine lw_pure rfl (pv_pick_f rfl rfl rfl) ?_) | (refine lw_pure rfl (pv_pick_t rfl (by first | assumption | exact decide_eq_true (by omega) | exact dec_notT (by omega)) rfl) ?_) | (refine lw_pure rfl (pv_pick_f rfl (by first | assumption | exact decide_eq_false (by omega) | exact dec_notF (by omega)) rfl) ?_) | (refine lw_pure rfl (pv_pick rfl rfl rfl) ?_) | (refine lw_pure rfl (pv_extract rfl rfl) ?_))
          exact qw_ret1 rfl rfl ⟨rfl, grow_trans hwB hw⟩
  · repeat' (first | (refine lw_pure rfl (pv_move rfl) ?_) | (refine lw_pure rfl (pv_assign rfl) ?_) | (refine lw_pure rfl (pv_lenB rfl Tryd.underlying79 rfl (h1.mono hw)) ?_) | (refine lw_pure rfl (pv_lenB rfl Tryd.underlying79 rfl (h2.mono hw)) ?_) | (refine is_cw ?_; first | (refine cw_seq ?_) | (refine cw_region ?_) | (refine cw_true rfl rfl ?_) | (refine cw_false rfl rfl ?_) | (refine cw_true rfl (by first | assumption | exact decide_eq_true (by omega) | exact dec_notT (by omega)) ?_) | (refine cw_false rfl (by first | assumption | exact decide_eq_false (by omega) | exact dec_notF (by omega)) ?_) | (refine cw_skip ?_) | (refine cw_block ?_) | (refine cw_exit ?_) | (refine cw_ret ?_)) | (refine is_qw ?_; first | (with_reducible refine qw_then ?_) | (with_reducible refine qw_in ?_) | (with_reducible refine qw_in_hit ?_) | (refine qw_in_miss rfl ?_) | (with_reducible refine qw_then_exit ?_) | (with_reducible refine qw_then_ret ?_) | (with_reducible refine qw_in_ret ?_)) | (refine lw_nil ?_) | (refine is_guarded ?_; first | (refine lw_not rfl rfl rfl rfl ?_) | (refine lw_not_u rfl rfl rfl ?_) | (refine lw_on rfl rfl rfl ?_)) | ((refine is_bin ?_; first | (refine lw_pure rfl (pv_neq rfl rfl) ?_))) | ((refine is_load ?_; first | (refine lw_pure rfl (pv_load (t1 rfl) rfl (by first | fail)) ?_) | (refine lw_pure rfl (pv_loada (tA rfl) rfl (by first | fail) (by rfl)) ?_))) | ((refine is_un ?_; first | (refine lw_pure rfl (pv_not rfl) ?_))) | ((refine is_bi ?_; first | (refine lw_pure rfl (pv_lenl (tS rfl) rfl) ?_) | (refine lw_pure rfl (pv_lens (tStr rfl) rfl) ?_))) | (refine lw_pure rfl (pv_pick_t rfl rfl rfl) ?_) | (refine lw_pure rfl (pv_pick_f rfl rfl rfl) ?_) | (refine lw_pure rfl (pv_pick_t rfl (by first | assumption | exact decide_eq_true (by omega) | exact dec_notT (by omega)) rfl) ?_) | (refine lw_pure rfl (pv_pick_f rfl (by first | assumption | exact decide_eq_false (by omega) | exact dec_notF (by omega)) rfl) ?_) | (refine lw_pure rfl (pv_pick rfl rfl rfl) ?_) | (refine lw_pure rfl (pv_extract rfl rfl) ?_))
    have hne : ¬ a = b := fun e => hl (by rw [hl1, hl2, e])
    exact qw_ret1 rfl rfl ⟨by rw [decide_eq_false hne], hw⟩

theorem dsk_ext {a b : Dsk} : a = b ↔ a.fs = b.fs ∧ a.cap = b.cap ∧ a.left = b.left ∧ a.dark = b.dark := by cases a; cases b; simp
set_option maxRecDepth 20000 in
theorem same_c {w : World} {N1 B1 N2 B2 : Nat} {a b : Dsk} (h1 : DkW w N1 B1 a) (h2 : DkW w N2 B2 b) : Calls Tryd.prog 26 #[.pointer (some ⟨N1, 0, none⟩), .pointer (some ⟨N2, 0, none⟩)] w fun e w' => e = .returned (.bool (decide (a = b))) ∧ Below w.heap.size w w' := by
  have H1 := h1.obj
  have H2 := h2.obj
  obtain ⟨m1, hm1, hp1⟩ := h1.mp
  obtain ⟨m2, hm2, hp2⟩ := h2.mp
  have hw := Below.refl w.heap.size w
  refine fn_enter 56 Tryd.func26 rfl rfl rfl ?_
  repeat' (first | (refine lw_pure rfl (pv_move rfl) ?_) | (refine lw_pure rfl (pv_assign rfl) ?_) | (refine is_cw ?_; first | (refine cw_seq ?_) | (refine cw_region ?_) | (refine cw_false rfl rfl ?_) | (refine cw_skip ?_)) | (refine is_qw ?_; first | (with_reducible refine qw_then ?_)) | (refine lw_nil ?_) | (refine is_guarded ?_; first | (refine lw_on rfl rfl rfl ?_)) | ((refine is_bin ?_; first | (refine lw_pure rfl (pv_pnil tpD rfl rfl) ?_))) | (refine lw_pure rfl (pv_pick_f rfl rfl rfl) ?_))
  by_cases hc : a.cap = b.cap
  · by_cases hl : a.left = b.left
    · cases hd : (a.dark == b.dark) with
      | true =>
        have hd2 : a.dark = b.dark := by simpa using hd
        have e : decide (a = b) = decide (a.fs = b.fs) := by rw [decide_eq_decide, dsk_ext]; exact ⟨fun h => h.1, fun h => ⟨h, hc, hl, hd2⟩⟩
        rw [e]
        refine cw_drawn (fun w' => Below w.heap.size w w') (by kernel_rfl) (by repeat (first | exact NoPanic.body | with_reducible refine NoPanic.then ?_ | with_reducible refine NoPanic.inBlock ?_)) (fun hNP => ?_)
        have hS := hw.drew
        all_goals (refine at0 0 rfl (fun w' hq => pv_move rfl) ?_)
        all_goals (refine at0 1 rfl (fun w' hq => pv_nilp rfl) ?_)
        all_goals (refine at0 2 rfl (fun w' hq => pv_fa (tF rfl) rfl) ?_)
        all_goals (refine at0 3 rfl (fun w' hq => pv_load (t1 rfl) rfl (by first | exact PT.ld0 (H1.mono hq) rfl | exact PT.ld (H1.mono hq) rfl | exact PT.ld0 (H2.mono hq) rfl | exact PT.ld (H2.mono hq) rfl)) ?_)
        all_goals (refine at0 4 rfl (fun w' hq => pv_move rfl) ?_)
        all_goals (refine at0 5 rfl (fun w' hq => pv_nilp rfl) ?_)
        all_goals (refine at0 6 rfl (fun w' hq => pv_fa (tF rfl) rfl) ?_)
        all_goals (refine at0 7 rfl (fun w' hq => pv_load (t1 rfl) rfl (by first | exact PT.ld0 (H1.mono hq) rfl | exact PT.ld (H1.mono hq) rfl | exact PT.ld0 (H2.mono hq) rfl | exact PT.ld (H2.mono hq) rfl)) ?_)
        all_goals (refine at0 8 rfl (fun w' hq => pv_eql rfl rfl) ?_)
        all_goals (refine at0 9 rfl (fun w' hq => pv_move rfl) ?_)
        all_goals (refine at2 10 rfl rfl rfl (fun w' hq => pv_move rfl) ?_)
        all_goals (refine at2 11 rfl rfl rfl (fun w' hq => pv_nilp rfl) ?_)
        all_goals (refine at2 12 rfl rfl rfl (fun w' hq => pv_fa (tF rfl) rfl) ?_)
        all_goals (refine at2 13 rfl rfl rfl (fun w' hq => pv_load (t1 rfl) rfl (by first | exact PT.ld0 (H1.mono hq) rfl | exact PT.ld (H1.mono hq) rfl | exact PT.ld0 (H2.mono hq) rfl | exact PT.ld (H2.mono hq) rfl)) ?_)
        all_goals (refine at2 14 rfl rfl rfl (fun w' hq => pv_move rfl) ?_)
        all_goals (refine at2 15 rfl rfl rfl (fun w' hq => pv_nilp rfl) ?_)
        all_goals (refine at2 16 rfl rfl rfl (fun w' hq => pv_fa (tF rfl) rfl) ?_)
        all_goals (refine at2 17 rfl rfl rfl (fun w' hq => pv_load (t1 rfl) rfl (by first | exact PT.ld0 (H1.mono hq) rfl | exact PT.ld (H1.mono hq) rfl | exact PT.ld0 (H2.mono hq) rfl | exact PT.ld (H2.mono hq) rfl)) ?_)
        all_goals (refine at2 18 rfl rfl rfl (fun w' hq => pv_eql rfl rfl) ?_)
        all_goals (refine at0 19 rfl (fun w' hq => pv_pick_t rfl (by first | assumption | exact decide_eq_true (by omega) | exact dec_notT (by omega)) rfl) ?_)
        all_goals (refine at0 20 rfl (fun w' hq => pv_move rfl) ?_)
        all_goals (refine at2 21 rfl rfl rfl (fun w' hq => pv_move rfl) ?_)
        all_goals (refine at2 22 rfl rfl rfl (fun w' hq => pv_nilp rfl) ?_)
        all_goals (refine at2 23 rfl rfl rfl (fun w' hq => pv_fa (tF rfl) rfl) ?_)
        all_goals (refine at2 24 rfl rfl rfl (fun w' hq => pv_load (t1 rfl) rfl (by first | exact PT.ld0 (H1.mono hq) rfl | exact PT.ld (H1.mono hq) rfl | exact PT.ld0 (H2.mono hq) rfl | exact PT.ld (H2.mono hq) rfl)) ?_)
        all_goals (refine at2 25 rfl rfl rfl (fun w' hq => pv_move rfl) ?_)
        all_goals (refine at2 26 rfl rfl rfl (fun w' hq => pv_nilp rfl) ?_)
        all_goals (refine at2 27 rfl rfl rfl (fun w' hq => pv_fa (tF rfl) rfl) ?_)
        all_goals (refine at2 28 rfl rfl rfl (fun w' hq => pv_load (t1 rfl) rfl (by first | exact PT.ld0 (H1.mono hq) rfl | exact PT.ld (H1.mono hq) rfl | exact PT.ld0 (H2.mono hq) rfl | exact PT.ld (H2.mono hq) rfl)) ?_)
        all_goals (refine at2 29 rfl rfl rfl (fun w' hq => pv_beql (tBo rfl) rfl rfl) ?_)
        all_goals (refine at0 30 rfl (fun w' hq => pv_pick_t rfl (by first | assumption | exact decide_eq_true (by omega) | exact dec_notT (by omega)) rfl) ?_)
        all_goals (refine at0 31 rfl (fun w' hq => pv_move rfl) ?_)
        all_goals (refine at2 32 rfl rfl rfl (fun w' hq => pv_move rfl) ?_)
        all_goals (refine at2 33 rfl rfl rfl (fun w' hq => pv_nilp rfl) ?_)
        all_goals (refine at2 34 rfl rfl rfl (fun w' hq => pv_fa (tF rfl) rfl) ?_)
        all_goals (refine at2 35 rfl rfl rfl (fun w' hq => pv_load (t1 rfl) rfl (by first | exact PT.ld0 (H1.mono hq) rfl | exact PT.ld (H1.mono hq) rfl | exact PT.ld0 (H2.mono hq) rfl | exact PT.ld (H2.mono hq) rfl)) ?_)
        all_goals (refine at2 36 rfl rfl rfl (fun w' hq => pv_move rfl) ?_)
        all_goals (refine at2 37 rfl rfl rfl (fun w' hq => pv_nilp rfl) ?_)
        all_goals (refine at2 38 rfl rfl rfl (fun w' hq => pv_fa (tF rfl) rfl) ?_)
        all_goals (refine at2 39 rfl rfl rfl (fun w' hq => pv_load (t1 rfl) rfl (by first | exact PT.ld0 (H1.mono hq) rfl | exact PT.ld (H1.mono hq) rfl | exact PT.ld0 (H2.mono hq) rfl | exact PT.ld (H2.mono hq) rfl)) ?_)
        all_goals first | (refine an3 40 rfl rfl rfl ?_) | (refine an0 40 rfl rfl rfl ?_) | (refine aw_act_g 40 (by kernel_rfl) rfl rfl rfl (by first | rfl | assumption | exact decide_eq_true (by omega) | exact decide_eq_false (by omega) | exact dec_notT (by omega) | exact dec_notF (by omega)) rfl ?_; refine act_call (f := 47) (by kernel_rfl) rfl (equal_c (hm1.mono hS) (hm2.mono hS) hp1 hp2 h1.ok.srt h2.ok.srt) ?_; rintro e w1 ⟨rfl, hb⟩; refine ⟨_, rfl, grow_trans hS hb, fun hS => ?_⟩)
        all_goals (refine at0 41 rfl (fun w' hq => pv_pick_t rfl (by first | assumption | exact decide_eq_true (by omega) | exact dec_notT (by omega)) rfl) ?_)
        all_goals (refine at0 42 rfl (fun w' hq => pv_assign rfl) ?_)
        all_goals (refine aw_done (by kernel_rfl) ?_; replace hw := hS; clear hS hNP)
        repeat' (first | (refine is_cw ?_; first | (refine cw_ret ?_)) | (refine is_qw ?_; first | (with_reducible refine qw_then ?_)))
        exact qw_ret1 rfl rfl ⟨rfl, hw⟩
      | false =>
        have hne : ¬ a = b := fun e => by rw [e] at hd; simp at hd
        rw [decide_eq_false hne]
        refine cw_drawn (fun w' => Below w.heap.size w w') (by kernel_rfl) (by repeat (first | exact NoPanic.body | with_reducible refine NoPanic.then ?_ | with_reducible refine NoPanic.inBlock ?_)) (fun hNP => ?_)
        have hS := hw.drew
        all_goals (refine at0 0 rfl (fun w' hq => pv_move rfl) ?_)
        all_goals (refine at0 1 rfl (fun w' hq => pv_nilp rfl) ?_)
        all_goals (refine at0 2 rfl (fun w' hq => pv_fa (tF rfl) rfl) ?_)
        all_goals (refine at0 3 rfl (fun w' hq => pv_load (t1 rfl) rfl (by first | exact PT.ld0 (H1.mono hq) rfl | exact PT.ld (H1.mono hq) rfl | exact PT.ld0 (H2.mono hq) rfl | exact PT.ld (H2.mono hq) rfl)) ?_)
        all_goals (refine at0 4 rfl (fun w' hq => pv_move rfl) ?_)
        all_goals (refine at0 5 rfl (fun w' hq => pv_nilp rfl) ?_)
        all_goals (refine at0 6 rfl (fun w' hq => pv_fa (tF rfl) rfl) ?_)
        all_goals (refine at0 7 rfl (fun w' hq => pv_load (t1 rfl) rfl (by first | exact PT.ld0 (H1.mono hq) rfl | exact PT.ld (H1.mono hq) rfl | exact PT.ld0 (H2.mono hq) rfl | exact PT.ld (H2.mono hq) rfl)) ?_)
        all_goals (refine at0 8 rfl (fun w' hq => pv_eql rfl rfl) ?_)
        all_goals (refine at0 9 rfl (fun w' hq => pv_move rfl) ?_)
        all_goals (refine at2 10 rfl rfl rfl (fun w' hq => pv_move rfl) ?_)
        all_goals (refine at2 11 rfl rfl rfl (fun w' hq => pv_nilp rfl) ?_)
        all_goals (refine at2 12 rfl rfl rfl (fun w' hq => pv_fa (tF rfl) rfl) ?_)
        all_goals (refine at2 13 rfl rfl rfl (fun w' hq => pv_load (t1 rfl) rfl (by first | exact PT.ld0 (H1.mono hq) rfl | exact PT.ld (H1.mono hq) rfl | exact PT.ld0 (H2.mono hq) rfl | exact PT.ld (H2.mono hq) rfl)) ?_)
        all_goals (refine at2 14 rfl rfl rfl (fun w' hq => pv_move rfl) ?_)
        all_goals (refine at2 15 rfl rfl rfl (fun w' hq => pv_nilp rfl) ?_)
        all_goals (refine at2 16 rfl rfl rfl (fun w' hq => pv_fa (tF rfl) rfl) ?_)
        all_goals (refine at2 17 rfl rfl rfl (fun w' hq => pv_load (t1 rfl) rfl (by first | exact PT.ld0 (H1.mono hq) rfl | exact PT.ld (H1.mono hq) rfl | exact PT.ld0 (H2.mono hq) rfl | exact PT.ld (H2.mono hq) rfl)) ?_)
        all_goals (refine at2 18 rfl rfl rfl (fun w' hq => pv_eql rfl rfl) ?_)
        all_goals (refine at0 19 rfl (fun w' hq => pv_pick_t rfl (by first | assumption | exact decide_eq_true (by omega) | exact dec_notT (by omega)) rfl) ?_)
        all_goals (refine at0 20 rfl (fun w' hq => pv_move rfl) ?_)
        all_goals (refine at2 21 rfl rfl rfl (fun w' hq => pv_move rfl) ?_)
        all_goals (refine at2 22 rfl rfl rfl (fun w' hq => pv_nilp rfl) ?_)
        all_goals (refine at2 23 rfl rfl rfl (fun w' hq => pv_fa (tF rfl) rfl) ?_)
        all_goals (refine at2 24 rfl rfl rfl (fun w' hq => pv_load (t1 rfl) rfl (by first | exact PT.ld0 (H1.mono hq) rfl | exact PT.ld (H1.mono hq) rfl | exact PT.ld0 (H2.mono hq) rfl | exact PT.ld (H2.mono hq) rfl)) ?_)
        all_goals (refine at2 25 rfl rfl rfl (fun w' hq => pv_move rfl) ?_)
        all_goals (refine at2 26 rfl rfl rfl (fun w' hq => pv_nilp rfl) ?_)
        all_goals (refine at2 27 rfl rfl rfl (fun w' hq => pv_fa (tF rfl) rfl) ?_)
        all_goals (refine at2 28 rfl rfl rfl (fun w' hq => pv_load (t1 rfl) rfl (by first | exact PT.ld0 (H1.mono hq) rfl | exact PT.ld (H1.mono hq) rfl | exact PT.ld0 (H2.mono hq) rfl | exact PT.ld (H2.mono hq) rfl)) ?_)
        all_goals (refine at2 29 rfl rfl rfl (fun w' hq => pv_beql (tBo rfl) rfl rfl) ?_)
        all_goals (refine at0 30 rfl (fun w' hq => pv_pick_t rfl (by first | assumption | exact decide_eq_true (by omega) | exact dec_notT (by omega)) rfl) ?_)
        all_goals (refine at0 31 rfl (fun w' hq => pv_move rfl) ?_)
        all_goals (refine an2 32 rfl rfl rfl ?_)
        all_goals (refine an2 33 rfl rfl rfl ?_)
        all_goals (refine an2 34 rfl rfl rfl ?_)
        all_goals (refine an2 35 rfl rfl rfl ?_)
        all_goals (refine an2 36 rfl rfl rfl ?_)
        all_goals (refine an2 37 rfl rfl rfl ?_)
        all_goals (refine an2 38 rfl rfl rfl ?_)
        all_goals (refine an2 39 rfl rfl rfl ?_)
        all_goals first | (refine an3 40 rfl rfl rfl ?_) | (refine an0 40 rfl rfl rfl ?_) | (refine aw_act_g 40 (by kernel_rfl) rfl rfl rfl (by first | rfl | assumption | exact decide_eq_true (by omega) | exact decide_eq_false (by omega) | exact dec_notT (by omega) | exact dec_notF (by omega)) rfl ?_; refine act_call (f := 47) (by kernel_rfl) rfl (equal_c (hm1.mono hS) (hm2.mono hS) hp1 hp2 h1.ok.srt h2.ok.srt) ?_; rintro e w1 ⟨rfl, hb⟩; refine ⟨_, rfl, grow_trans hS hb, fun hS => ?_⟩)
        all_goals (refine at0 41 rfl (fun w' hq => pv_pick_f rfl (by first | assumption | exact decide_eq_false (by omega) | exact dec_notF (by omega)) rfl) ?_)
        all_goals (refine at0 42 rfl (fun w' hq => pv_assign rfl) ?_)
        all_goals (refine aw_done (by kernel_rfl) ?_; replace hw := hS; clear hS hNP)
        repeat' (first | (refine is_cw ?_; first | (refine cw_ret ?_)) | (refine is_qw ?_; first | (with_reducible refine qw_then ?_)))
        exact qw_ret1 rfl rfl ⟨rfl, hw⟩
    · have hne : ¬ a = b := fun e => hl (by rw [e])
      rw [decide_eq_false hne]
      refine cw_drawn (fun w' => Below w.heap.size w w') (by kernel_rfl) (by repeat (first | exact NoPanic.body | with_reducible refine NoPanic.then ?_ | with_reducible refine NoPanic.inBlock ?_)) (fun hNP => ?_)
      have hS := hw.drew
      all_goals (refine at0 0 rfl (fun w' hq => pv_move rfl) ?_)
      all_goals (refine at0 1 rfl (fun w' hq => pv_nilp rfl) ?_)
      all_goals (refine at0 2 rfl (fun w' hq => pv_fa (tF rfl) rfl) ?_)
      all_goals (refine at0 3 rfl (fun w' hq => pv_load (t1 rfl) rfl (by first | exact PT.ld0 (H1.mono hq) rfl | exact PT.ld (H1.mono hq) rfl | exact PT.ld0 (H2.mono hq) rfl | exact PT.ld (H2.mono hq) rfl)) ?_)
      all_goals (refine at0 4 rfl (fun w' hq => pv_move rfl) ?_)
      all_goals (refine at0 5 rfl (fun w' hq => pv_nilp rfl) ?_)
      all_goals (refine at0 6 rfl (fun w' hq => pv_fa (tF rfl) rfl) ?_)
      all_goals (refine at0 7 rfl (fun w' hq => pv_load (t1 rfl) rfl (by first | exact PT.ld0 (H1.mono hq) rfl | exact PT.ld (H1.mono hq) rfl | exact PT.ld0 (H2.mono hq) rfl | exact PT.ld (H2.mono hq) rfl)) ?_)
      all_goals (refine at0 8 rfl (fun w' hq => pv_eql rfl rfl) ?_)
      all_goals (refine at0 9 rfl (fun w' hq => pv_move rfl) ?_)
      all_goals (refine at2 10 rfl rfl rfl (fun w' hq => pv_move rfl) ?_)
      all_goals (refine at2 11 rfl rfl rfl (fun w' hq => pv_nilp rfl) ?_)
      all_goals (refine at2 12 rfl rfl rfl (fun w' hq => pv_fa (tF rfl) rfl) ?_)
      all_goals (refine at2 13 rfl rfl rfl (fun w' hq => pv_load (t1 rfl) rfl (by first | exact PT.ld0 (H1.mono hq) rfl | exact PT.ld (H1.mono hq) rfl | exact PT.ld0 (H2.mono hq) rfl | exact PT.ld (H2.mono hq) rfl)) ?_)
      all_goals (refine at2 14 rfl rfl rfl (fun w' hq => pv_move rfl) ?_)
      all_goals (refine at2 15 rfl rfl rfl (fun w' hq => pv_nilp rfl) ?_)
      all_goals (refine at2 16 rfl rfl rfl (fun w' hq => pv_fa (tF rfl) rfl) ?_)
      all_goals (refine at2 17 rfl rfl rfl (fun w' hq => pv_load (t1 rfl) rfl (by first | exact PT.ld0 (H1.mono hq) rfl | exact PT.ld (H1.mono hq) rfl | exact PT.ld0 (H2.mono hq) rfl | exact PT.ld (H2.mono hq) rfl)) ?_)
      all_goals (refine at2 18 rfl rfl rfl (fun w' hq => pv_eql rfl rfl) ?_)
      all_goals (refine at0 19 rfl (fun w' hq => pv_pick_t rfl (by first | assumption | exact decide_eq_true (by omega) | exact dec_notT (by omega)) rfl) ?_)
      all_goals (refine at0 20 rfl (fun w' hq => pv_move rfl) ?_)
      all_goals (refine an2 21 rfl rfl rfl ?_)
      all_goals (refine an2 22 rfl rfl rfl ?_)
      all_goals (refine an2 23 rfl rfl rfl ?_)
      all_goals (refine an2 24 rfl rfl rfl ?_)
      all_goals (refine an2 25 rfl rfl rfl ?_)
      all_goals (refine an2 26 rfl rfl rfl ?_)
      all_goals (refine an2 27 rfl rfl rfl ?_)
      all_goals (refine an2 28 rfl rfl rfl ?_)
      all_goals (refine an2 29 rfl rfl rfl ?_)
      all_goals (refine at0 30 rfl (fun w' hq => pv_pick_f rfl (by first | assumption | exact decide_eq_false (by omega) | exact dec_notF (by omega)) rfl) ?_)
      all_goals (refine at0 31 rfl (fun w' hq => pv_move rfl) ?_)
      all_goals (refine an1 32 rfl rfl rfl rfl ?_)
      all_goals (refine an1 33 rfl rfl rfl rfl ?_)
      all_goals (refine an1 34 rfl rfl rfl rfl ?_)
      all_goals (refine an1 35 rfl rfl rfl rfl ?_)
      all_goals (refine an1 36 rfl rfl rfl rfl ?_)
      all_goals (refine an1 37 rfl rfl rfl rfl ?_)
      all_goals (refine an1 38 rfl rfl rfl rfl ?_)
      all_goals (refine an1 39 rfl rfl rfl rfl ?_)
      all_goals first | (refine an3 40 rfl rfl rfl ?_) | (refine an0 40 rfl rfl rfl ?_) | (refine aw_act_g 40 (by kernel_rfl) rfl rfl rfl (by first | rfl | assumption | exact decide_eq_true (by omega) | exact decide_eq_false (by omega) | exact dec_notT (by omega) | exact dec_notF (by omega)) rfl ?_; refine act_call (f := 47) (by kernel_rfl) rfl (equal_c (hm1.mono hS) (hm2.mono hS) hp1 hp2 h1.ok.srt h2.ok.srt) ?_; rintro e w1 ⟨rfl, hb⟩; refine ⟨_, rfl, grow_trans hS hb, fun hS => ?_⟩)
      all_goals (refine at0 41 rfl (fun w' hq => pv_pick_f rfl rfl rfl) ?_)
      all_goals (refine at0 42 rfl (fun w' hq => pv_assign rfl) ?_)
      all_goals (refine aw_done (by kernel_rfl) ?_; replace hw := hS; clear hS hNP)
      repeat' (first | (refine is_cw ?_; first | (refine cw_ret ?_)) | (refine is_qw ?_; first | (with_reducible refine qw_then ?_)))
      exact qw_ret1 rfl rfl ⟨rfl, hw⟩
  · have hne : ¬ a = b := fun e => hc (by rw [e])
    rw [decide_eq_false hne]
    refine cw_drawn (fun w' => Below w.heap.size w w') (by kernel_rfl) (by repeat (first | exact NoPanic.body | with_reducible refine NoPanic.then ?_ | with_reducible refine NoPanic.inBlock ?_)) (fun hNP => ?_)
    have hS := hw.drew
    all_goals (refine at0 0 rfl (fun w' hq => pv_move rfl) ?_)
    all_goals (refine at0 1 rfl (fun w' hq => pv_nilp rfl) ?_)
    all_goals (refine at0 2 rfl (fun w' hq => pv_fa (tF rfl) rfl) ?_)
    all_goals (refine at0 3 rfl (fun w' hq => pv_load (t1 rfl) rfl (by first | exact PT.ld0 (H1.mono hq) rfl | exact PT.ld (H1.mono hq) rfl | exact PT.ld0 (H2.mono hq) rfl | exact PT.ld (H2.mono hq) rfl)) ?_)
    all_goals (refine at0 4 rfl (fun w' hq => pv_move rfl) ?_)
    all_goals (refine at0 5 rfl (fun w' hq => pv_nilp rfl) ?_)
    all_goals (refine at0 6 rfl (fun w' hq => pv_fa (tF rfl) rfl) ?_)
    all_goals (refine at0 7 rfl (fun w' hq => pv_load (t1 rfl) rfl (by first | exact PT.ld0 (H1.mono hq) rfl | exact PT.ld (H1.mono hq) rfl | exact PT.ld0 (H2.mono hq) rfl | exact PT.ld (H2.mono hq) rfl)) ?_)
    all_goals (refine at0 8 rfl (fun w' hq => pv_eql rfl rfl) ?_)
    all_goals (refine at0 9 rfl (fun w' hq => pv_move rfl) ?_)
    all_goals (refine an2 10 rfl rfl rfl ?_)
    all_goals (refine an2 11 rfl rfl rfl ?_)
    all_goals (refine an2 12 rfl rfl rfl ?_)
    all_goals (refine an2 13 rfl rfl rfl ?_)
    all_goals (refine an2 14 rfl rfl rfl ?_)
    all_goals (refine an2 15 rfl rfl rfl ?_)
    all_goals (refine an2 16 rfl rfl rfl ?_)
    all_goals (refine an2 17 rfl rfl rfl ?_)
    all_goals (refine an2 18 rfl rfl rfl ?_)
    all_goals (refine at0 19 rfl (fun w' hq => pv_pick_f rfl (by first | assumption | exact decide_eq_false (by omega) | exact dec_notF (by omega)) rfl) ?_)
    all_goals (refine at0 20 rfl (fun w' hq => pv_move rfl) ?_)
    all_goals (refine an1 21 rfl rfl rfl rfl ?_)
    all_goals (refine an1 22 rfl rfl rfl rfl ?_)
    all_goals (refine an1 23 rfl rfl rfl rfl ?_)
    all_goals (refine an1 24 rfl rfl rfl rfl ?_)
    all_goals (refine an1 25 rfl rfl rfl rfl ?_)
    all_goals (refine an1 26 rfl rfl rfl rfl ?_)
    all_goals (refine an1 27 rfl rfl rfl rfl ?_)
    all_goals (refine an1 28 rfl rfl rfl rfl ?_)
    all_goals (refine an1 29 rfl rfl rfl rfl ?_)
    all_goals (refine at0 30 rfl (fun w' hq => pv_pick_f rfl rfl rfl) ?_)
    all_goals (refine at0 31 rfl (fun w' hq => pv_move rfl) ?_)
    all_goals (refine an1 32 rfl rfl rfl rfl ?_)
    all_goals (refine an1 33 rfl rfl rfl rfl ?_)
    all_goals (refine an1 34 rfl rfl rfl rfl ?_)
    all_goals (refine an1 35 rfl rfl rfl rfl ?_)
    all_goals (refine an1 36 rfl rfl rfl rfl ?_)
    all_goals (refine an1 37 rfl rfl rfl rfl ?_)
    all_goals (refine an1 38 rfl rfl rfl rfl ?_)
    all_goals (refine an1 39 rfl rfl rfl rfl ?_)
    all_goals first | (refine an3 40 rfl rfl rfl ?_) | (refine an0 40 rfl rfl rfl ?_) | (refine aw_act_g 40 (by kernel_rfl) rfl rfl rfl (by first | rfl | assumption | exact decide_eq_true (by omega) | exact decide_eq_false (by omega) | exact dec_notT (by omega) | exact dec_notF (by omega)) rfl ?_; refine act_call (f := 47) (by kernel_rfl) rfl (equal_c (hm1.mono hS) (hm2.mono hS) hp1 hp2 h1.ok.srt h2.ok.srt) ?_; rintro e w1 ⟨rfl, hb⟩; refine ⟨_, rfl, grow_trans hS hb, fun hS => ?_⟩)
    all_goals (refine at0 41 rfl (fun w' hq => pv_pick_f rfl rfl rfl) ?_)
    all_goals (refine at0 42 rfl (fun w' hq => pv_assign rfl) ?_)
    all_goals (refine aw_done (by kernel_rfl) ?_; replace hw := hS; clear hS hNP)
    repeat' (first | (refine is_cw ?_; first | (refine cw_ret ?_)) | (refine is_qw ?_; first | (with_reducible refine qw_then ?_)))
    exact qw_ret1 rfl rfl ⟨rfl, hw⟩
theorem pv_pnil2 {P : Program} {n : Nat} {l : Fr} {w : World} {d : Option Nat} {ty : TypeId} {pos : String} {af : Array Edge} {g : Option (Nat × Bool)} {t t' : TypeId} {x y : Operand} {a : Option Addr} (ht : isT P t (fun x => x matches .pointer _) = true) (hx : ev l x = some (.pointer none)) (hy : ev l y = some (.pointer a)) : Pv P n l ⟨d, .binOp .eql t x y t', ty, pos, af, g⟩ (.bool a.isNone) w := ⟨fun A hA => by
  obtain ⟨u, hu, h2⟩ := isT_of ht
  obtain ⟨e, rfl⟩ : ∃ e, u = .pointer e := by cases u <;> first | exact ⟨_, rfl⟩ | (simp at h2; done)
  have h8 : ∀ k, (Op.equalIn (k + 1) t (.pointer none) (.pointer a)).run P w = .ok a.isNone w := fun k => by cases a <;> simp [Op.equalIn, run_underlying hu]
  have h7 : (Op.equal t (.pointer none) (.pointer a)).run P w = .ok a.isNone w := h8 9999
  have h9 : (binOp .eql t (.pointer none) (.pointer a)).run P w = .ok (.bool a.isNone) w := by
    simp only [binOp]
    simp [h7]
  simp [execOp, hA.ev hx, hA.ev hy, eqGuard, h9]⟩
set_option maxRecDepth 20000 in
theorem same00_c (w : World) : Calls Tryd.prog 26 #[.pointer none, .pointer none] w fun e w' => e = .returned (.bool true) ∧ Below w.heap.size w w' := by
  have hw := Below.refl w.heap.size w
  refine fn_enter 56 Tryd.func26 rfl rfl rfl ?_
  repeat' (first | (refine lw_pure rfl (pv_move rfl) ?_) | (refine lw_pure rfl (pv_assign rfl) ?_) | (refine is_cw ?_; first | (refine cw_seq ?_) | (refine cw_region ?_) | (refine cw_true rfl rfl ?_) | (refine cw_ret ?_)) | (refine is_qw ?_; first | (with_reducible refine qw_then ?_) | (with_reducible refine qw_then_ret ?_)) | (refine lw_nil ?_) | (refine is_guarded ?_; first | (refine lw_not rfl rfl rfl rfl ?_)) | ((refine is_bin ?_; first | (refine lw_pure rfl (pv_pnil tpD rfl rfl) ?_))) | (refine lw_pure rfl (pv_pick_t rfl rfl rfl) ?_))
  exact qw_ret1 rfl rfl ⟨rfl, hw⟩
set_option maxRecDepth 20000 in
theorem same10_c (N : Nat) (w : World) : Calls Tryd.prog 26 #[.pointer (some ⟨N, 0, none⟩), .pointer none] w fun e w' => e = .returned (.bool false) ∧ Below w.heap.size w w' := by
  have hw := Below.refl w.heap.size w
  refine fn_enter 56 Tryd.func26 rfl rfl rfl ?_
  repeat' (first | (refine lw_pure rfl (pv_move rfl) ?_) | (refine lw_pure rfl (pv_assign rfl) ?_) | (refine is_cw ?_; first | (refine cw_seq ?_) | (refine cw_region ?_) | (refine cw_true rfl rfl ?_) | (refine cw_ret ?_)) | (refine is_qw ?_; first | (with_reducible refine qw_then ?_) | (with_reducible refine qw_then_ret ?_)) | (refine lw_nil ?_) | (refine is_guarded ?_; first | (refine lw_on rfl rfl rfl ?_)) | ((refine is_bin ?_; first | (refine lw_pure rfl (pv_pnil tpD rfl rfl) ?_))) | (refine lw_pure rfl (pv_pick_f rfl rfl rfl) ?_))
  exact qw_ret1 rfl rfl ⟨rfl, hw⟩
set_option maxRecDepth 20000 in
theorem same01_c (N : Nat) (w : World) : Calls Tryd.prog 26 #[.pointer none, .pointer (some ⟨N, 0, none⟩)] w fun e w' => e = .returned (.bool false) ∧ Below w.heap.size w w' := by
  have hw := Below.refl w.heap.size w
  refine fn_enter 56 Tryd.func26 rfl rfl rfl ?_
  repeat' (first | (refine lw_pure rfl (pv_move rfl) ?_) | (refine lw_pure rfl (pv_assign rfl) ?_) | (refine is_cw ?_; first | (refine cw_seq ?_) | (refine cw_region ?_) | (refine cw_true rfl rfl ?_) | (refine cw_ret ?_)) | (refine is_qw ?_; first | (with_reducible refine qw_then ?_) | (with_reducible refine qw_then_ret ?_)) | (refine lw_nil ?_) | (refine is_guarded ?_; first | (refine lw_not rfl rfl rfl rfl ?_)) | ((refine is_bin ?_; first | (refine lw_pure rfl (pv_pnil tpD rfl rfl) ?_) | (refine lw_pure rfl (pv_pnil2 tpD rfl rfl) ?_))) | (refine lw_pure rfl (pv_pick_t rfl rfl rfl) ?_))
  exact qw_ret1 rfl rfl ⟨rfl, hw⟩
theorem SortF.snoc {xs : List Fil} {f : Fil} (h : SortF xs) (hl : ∀ g ∈ xs, ltN g.name f.name) : SortF (xs ++ [f]) := by
  unfold SortF
  rw [List.pairwise_append]
  exact ⟨h, List.pairwise_singleton _ _, fun a ha b hb => by rw [List.mem_singleton] at hb; subst hb; exact hl a ha⟩
theorem putF_snoc {xs : List Fil} {f : Fil} (hl : ∀ g ∈ xs, ltN g.name f.name) : putF xs f = xs ++ [f] := by
  unfold putF
  rw [List.filter_eq_self.2 (fun g hg => by simpa using hl g hg), List.filter_eq_nil_iff.2 (fun g hg => by simpa using ltN_asymm (hl g hg))]
theorem SortF.last {l : List Fil} {i : Nat} (h : SortF (l.take (i + 1))) {g : Fil} (hi : l[i]? = some g) {n : ByteArray} (hn : ltN g.name n) : ∀ x ∈ l.take (i + 1), ltN x.name n := by
  rw [List.take_add_one, hi] at h ⊢
  unfold SortF at h
  rw [List.pairwise_append] at h
  intro x hx
  rcases List.mem_append.1 hx with h1 | h1
  · exact ltN_trans (h.2.2 x h1 g (by simp)) hn
  · simp at h1; subst h1; exact hn
theorem nameF_ne {s : ByteArray} (h : nameF s = true) : ltN emptyB s := by
  unfold nameF at h
  simp only [Bool.and_eq_true, decide_eq_true_eq] at h
  show ([] : List UInt8) < s.data.toList
  have h1 : 1 ≤ s.data.toList.length := by rw [Array.length_toList]; exact h.1.1
  cases hs : s.data.toList with
  | nil => rw [hs] at h1; simp at h1
  | cons a r => exact List.Lex.nil
structure Good (l : List Fil) (i : Nat) (last : ByteArray) : Prop where
  srt : SortF (l.take i)
  names : ∀ f ∈ l.take i, nameF f.name = true
  sizes : ∀ f ∈ l.take i, szF f ≤ 1048576
  cnt : 0 < i → l.length ≤ 64
  last : (i = 0 ∧ last = emptyB) ∨ ∃ k g, i = k + 1 ∧ l[k]? = some g ∧ last = g.name
theorem Good.lt {l : List Fil} {i : Nat} {last : ByteArray} (h : Good l i last) {n : ByteArray} (hn : ltN last n) : ∀ x ∈ l.take i, ltN x.name n := by
  rcases h.last with ⟨rfl, _⟩ | ⟨k, g, rfl, h1, rfl⟩
  · intro x hx; simp at hx
  · exact h.srt.last h1 hn
theorem Good.bad {l : List Fil} {i : Nat} {last : ByteArray} (h : Good l i last) {f : Fil} (hf : l[i]? = some f) (hn : nameF f.name = true) (hl : ¬ ltN last f.name) : ¬ SortF l := by
  intro hs
  rcases h.last with ⟨_, rfl⟩ | ⟨k, g, rfl, h1, rfl⟩
  · exact hl (nameF_ne hn)
  · obtain ⟨l1, e1⟩ := List.getElem?_eq_some_iff.1 h1
    obtain ⟨l2, e2⟩ := List.getElem?_eq_some_iff.1 hf
    have := (List.pairwise_iff_getElem.1 hs) k (k + 1) l1 l2 (by omega)
    rw [e1, e2] at this
    exact hl this
theorem Good.step {l : List Fil} {i : Nat} {last : ByteArray} (h : Good l i last) {f : Fil} (hf : l[i]? = some f) (hn : nameF f.name = true) (hl : ltN last f.name) (hs : szF f ≤ 1048576) (hc : l.length ≤ 64) : Good l (i + 1) f.name ∧ putF (l.take i) f = l.take (i + 1) := by
  have e : l.take (i + 1) = l.take i ++ [f] := by rw [List.take_add_one, hf]; rfl
  have hlt := h.lt hl
  refine ⟨⟨by rw [e]; exact h.srt.snoc hlt, ?_, ?_, fun _ => hc, Or.inr ⟨i, f, rfl, hf, rfl⟩⟩, by rw [e]; exact putF_snoc hlt⟩
  · rw [e]; intro g hg
    rcases List.mem_append.1 hg with h1 | h1
    · exact h.names g h1
    · simp at h1; subst h1; exact hn
  · rw [e]; intro g hg
    rcases List.mem_append.1 hg with h1 | h1
    · exact h.sizes g h1
    · simp at h1; subst h1; exact hs
theorem badF_name {l : List Fil} {f : Fil} (hf : f ∈ l) (hn : nameF f.name = false) : badF l = true := by
  unfold badF
  simp only [Bool.or_eq_true, List.any_eq_true]
  exact Or.inl (Or.inr ⟨f, hf, by rw [hn]; simp⟩)
theorem badF_size {l : List Fil} {f : Fil} (hf : f ∈ l) (hn : 1048576 < szF f) : badF l = true := by
  unfold badF
  simp only [Bool.or_eq_true, List.any_eq_true]
  exact Or.inl (Or.inr ⟨f, hf, Or.inr (by simpa using hn)⟩)
theorem badF_len {l : List Fil} (hn : 64 < l.length) : badF l = true := by
  unfold badF
  rw [decide_eq_true hn]; rfl
theorem badF_srt {l : List Fil} (hn : ¬ SortF l) : badF l = true := by
  unfold badF
  rw [decide_eq_false hn]; simp
theorem Good.ok {l : List Fil} {last : ByteArray} (h : Good l l.length last) : badF l = false := by
  have h1 := h.srt
  have h2 := h.names
  have h3 := h.sizes
  rw [List.take_length] at h1 h2 h3
  unfold badF
  rw [decide_eq_true h1]
  have h4 : l.length ≤ 64 := by
    by_cases h0 : 0 < l.length
    · exact h.cnt h0
    · omega
  rw [decide_eq_false (by omega)]
  simp only [Bool.false_or, Bool.not_true, Bool.or_false]
  rw [List.any_eq_false]
  intro f hf
  rw [h2 f hf]
  have := h3 f hf
  simp; omega
theorem used_le {l : List Fil} (h : ∀ f ∈ l, szF f ≤ 1048576) : usedF l ≤ l.length * 1048576 := by
  induction l with
  | nil => simp [usedF]
  | cons a r ih =>
    rw [usedF_cons, List.length_cons]
    have := ih fun f hf => h f (List.mem_cons_of_mem _ hf)
    have := h a (by simp)
    omega
def Loaded (w w' : World) (cap : Int) (l : List Fil) (e : Ending) : Prop := ((loadD cap l).1 ≠ 0 ∧ e = .returned (.tuple #[.pointer none, .int .i64 (loadD cap l).1])) ∨ ((loadD cap l).1 = 0 ∧ ∃ N B, e = .returned (.tuple #[.pointer (some ⟨N, 0, none⟩), .int .i64 0]) ∧ w.heap.size ≤ N ∧ w.heap.size ≤ B ∧ DkW w' N B ⟨l, cap, -1, false⟩)
set_option maxRecDepth 20000 in
set_option maxHeartbeats 1000000 in
theorem load_c {l : List Fil} {cap : Int} {n : Nat} {a : Option Addr} {ca : Nat} {w : World} (hn : l.length = n) (hcap : cap ≤ 9223372036854775807) (hsz : ∀ f ∈ l, f.name.size ≤ 4611686018427387903 ∧ f.firm.size ≤ 4611686018427387903 ∧ f.pend.size ≤ 4611686018427387903) (HS : SlR encF 3 w a ca l) : Calls Tryd.prog 21 #[.int .i64 cap, .slice a n ca] w fun e w' => Loaded w w' cap l e ∧ Below w.heap.size w w' := by
  subst hn
  have hle := HS.le
  have hmx := HS.max
  have hw := Below.refl w.heap.size w
  refine fn_enter 66 Tryd.func21 rfl rfl rfl ?_
  by_cases hc : cap < 0
  · have e1 : (loadD cap l).1 = 1 := by unfold loadD; rw [if_pos hc]
    repeat' (first | (refine lw_pure rfl (pv_move rfl) ?_) | (refine lw_pure rfl (pv_assign rfl) ?_) | (refine is_cw ?_; first | (refine cw_seq ?_) | (refine cw_region ?_) | (refine cw_true rfl (by first | assumption | exact decide_eq_true (by omega) | exact dec_notT (by omega)) ?_) | (refine cw_ret ?_)) | (refine is_qw ?_; first | (with_reducible refine qw_then ?_) | (with_reducible refine qw_then_ret ?_)) | (refine lw_nil ?_) | ((refine is_bin ?_; first | (refine lw_pure rfl (pv_lss rfl rfl) ?_))))
    exact qw_ret2 rfl rfl rfl ⟨Or.inl ⟨by rw [e1]; decide, by rw [e1]⟩, hw⟩
  · repeat' (first | (refine lw_pure rfl (pv_move rfl) ?_) | (refine lw_pure rfl (pv_assign rfl) ?_) | (refine is_cw ?_; first | (refine cw_seq ?_) | (refine cw_region ?_) | (refine cw_false rfl (by first | assumption | exact decide_eq_false (by omega) | exact dec_notF (by omega)) ?_) | (refine cw_skip ?_)) | (refine is_qw ?_; first | (with_reducible refine qw_then ?_)) | (refine lw_nil ?_) | ((refine is_bin ?_; first | (refine lw_pure rfl (pv_lss rfl rfl) ?_))))
    refine lw_makeMap ekS evF rfl ?_; intro B w1 hB HM hb
    replace hw := grow_trans hw hb
    clear hb
    repeat' (first | (refine lw_pure rfl (pv_move rfl) ?_) | ((refine is_bd ?_; first | (refine lw_pure rfl (tyB_81 rfl rfl rfl) ?_))))
    refine lw_boxN rfl rfl (cs := [.map (some B), .int .i64 cap, .int .i64 (-1), .bool false]) rfl ?_; intro N w2 hN H hb
    replace HM := HM.mono hb
    replace hN := Nat.le_trans hw.size hN
    replace hw := grow_trans hw hb
    clear hb
    have hne : N ≠ B := MpB.ne (eV := evF) (m := []) ⟨[], HM, rfl⟩ H
    repeat' (first | (refine lw_pure rfl (pv_move rfl) ?_) | (refine lw_pure rfl (pv_assign rfl) ?_) | (refine is_cw ?_; first | (refine cw_seq ?_) | (refine cw_region ?_) | (refine cw_block ?_)) | (refine is_qw ?_; first | (with_reducible refine qw_then ?_)) | (refine lw_nil ?_) | ((refine is_bi ?_; first | (refine lw_pure rfl (pv_lenl (tS rfl) rfl) ?_))))
    refine cw_loop (σ := Nat × ByteArray) (fun s => [(0, .int .i64 cap), (1, .slice a l.length ca), (6, .pointer (some ⟨N, 0, none⟩)), (7, .string s.2), (16, .slice a l.length ca), (17, .int .i64 (l.length : Nat)), (18, .int .i64 (s.1 : Nat))]) (fun s wr => s.1 ≤ l.length ∧ Below w.heap.size w wr ∧ Good l s.1 s.2 ∧ PT wr N 81 [.map (some B), .int .i64 cap, .int .i64 (-1), .bool false] ∧ ∃ m, MpB evF wr B m ∧ m.Perm (mapF (l.take s.1))) (fun s => l.length - s.1) (0, emptyB) (by repeat' (first | exact trivial | refine ⟨rfl, ?_⟩)) ⟨Nat.zero_le _, hw, ⟨List.Pairwise.nil, fun f hf => by simp at hf, fun f hf => by simp at hf, fun h => absurd h (by omega), Or.inl ⟨rfl, rfl⟩⟩, H, ⟨[], ⟨[], HM, rfl⟩, by simp [mapF, mapG]⟩⟩ ?_
    clear hw HM H
    rintro ⟨k, last⟩ wr ⟨hk, hw, hgd, H, ⟨m, hm, hp⟩⟩
    replace hk : k ≤ l.length := hk
    replace hgd : Good l k last := hgd
    replace hp : m.Perm (mapF (l.take k)) := hp
    have hwB := hw
    replace HS := HS.mono hw
    clear hw
    have hw := Below.refl wr.heap.size wr
    by_cases hlt : k < l.length
    · have hxk : l[k]? = some l[k] := List.getElem?_eq_getElem hlt
      generalize l[k] = f at hxk
      have hfm := List.mem_of_getElem? hxk
      obtain ⟨hz1, hz2, hz3⟩ := hsz f hfm
      have hzf : szF f = f.firm.size + f.pend.size := rfl
      have hnz : f.name.size ≤ 9223372036854775807 := by omega
      obtain ⟨ab, ao, rfl, -, -⟩ := HS.at (by intro h; rw [h] at hlt; simp at hlt)
      repeat' (first | (refine is_cw ?_; first | (refine cw_seq ?_) | (refine cw_region ?_) | (refine cw_true rfl (by first | assumption | exact decide_eq_true (by omega) | exact dec_notT (by omega)) ?_) | (refine cw_skip ?_) | (refine cw_block ?_)) | (refine is_qw ?_; first | (with_reducible refine qw_then ?_)) | (refine lw_nil ?_) | ((refine is_bin ?_; first | (refine lw_pure rfl (pv_lss rfl rfl) ?_))) | ((refine is_load ?_; first | (refine lw_pure rfl (pv_loada (tA rfl) rfl (by first | exact SlR.lda (HS.mono hw) hxk) (by rfl)) ?_))) | ((refine is_ia ?_; first | (refine lw_pure rfl (pv_ian (tS rfl) rfl rfl (by omega)) ?_))))
      refine lw_varN rfl (by first | exact tyv_28 | exact tyv_29 | exact tyv_34 | exact tyv_35 | exact tyv_43 | exact tyv_44 | exact tyv_77 | exact tyv_78 | exact tyv_80 | exact tyv_81 | exact tyv_86 | exact tyv_87 | exact tyv_126 | exact tyv_127) rfl (tZ rfl) (fun _ => rfl) rfl rfl ?_; intro N9 wn hN9 H9 hb; replace hN9 := Nat.le_trans hw.size hN9; replace hw := grow_trans hw hb; clear hb
      have hwC := hw
      replace hwB := grow_trans hwB hw
      replace H := H.mono hw; replace hm := hm.mono hw; replace HS := HS.mono hw; clear hw; have hw := Below.refl wn.heap.size wn
      clear hN9
      cases hq : nameF f.name with
      | false =>
        have e4 : (loadD cap l).1 = 4 := by unfold loadD; rw [if_neg hc, if_pos (badF_name hfm hq)]
        repeat' (first | (refine lw_pure rfl (pv_move rfl) ?_) | (refine lw_pure rfl (pv_assign rfl) ?_) | (refine lw_call (f := 18) (by kernel_rfl) rfl rfl (name_is hnz hq _) ?_; rintro e w1 ⟨rfl, hb⟩; refine ⟨_, rfl, ?_⟩; replace hw := grow_trans hw hb; clear hb) | (refine is_cw ?_; first | (refine cw_seq ?_) | (refine cw_region ?_) | (refine cw_true rfl rfl ?_) | (refine cw_ret ?_)) | (refine is_qw ?_; first | (with_reducible refine qw_then ?_) | (with_reducible refine qw_then_ret ?_) | (with_reducible refine qw_in_ret ?_)) | (refine lw_nil ?_) | (refine is_guarded ?_; first | (refine lw_not rfl rfl rfl rfl ?_)) | ((refine is_load ?_; first | (refine lw_pure rfl (pv_load (t1 rfl) rfl (by first | exact PT.ld0 (H9.mono hw) rfl | exact PT.ld (H9.mono hw) rfl)) ?_))) | ((refine is_fa ?_; first | (refine lw_pure rfl (pv_fa (tF rfl) rfl) ?_))) | ((refine is_un ?_; first | (refine lw_pure rfl (pv_not rfl) ?_))) | (refine lw_pure rfl (pv_pick_t rfl rfl rfl) ?_))
        exact qw_ret2 rfl rfl rfl ⟨Or.inl ⟨by rw [e4]; decide, by rw [e4]⟩, grow_trans hwB hw⟩
      | true =>
        by_cases hlast : ltN last f.name
        · have hE : decide (¬ ltN last f.name) = false := decide_eq_false (fun h => h hlast)
          by_cases hs : 1048576 < szF f
          · have e4 : (loadD cap l).1 = 4 := by unfold loadD; rw [if_neg hc, if_pos (badF_size hfm hs)]
            repeat' (first | (refine lw_pure rfl (pv_move rfl) ?_) | (refine lw_pure rfl (pv_assign rfl) ?_) | (refine lw_call (f := 18) (by kernel_rfl) rfl rfl (name_is hnz hq _) ?_; rintro e w1 ⟨rfl, hb⟩; refine ⟨_, rfl, ?_⟩; replace hw := grow_trans hw hb; clear hb) | (refine is_cw ?_; first | (refine cw_seq ?_) | (refine cw_region ?_) | (refine cw_true rfl rfl ?_) | (refine cw_ret ?_)) | (refine is_qw ?_; first | (with_reducible refine qw_then ?_) | (with_reducible refine qw_then_ret ?_) | (with_reducible refine qw_in_ret ?_)) | (refine lw_nil ?_) | (refine is_guarded ?_; first | (refine lw_on rfl rfl rfl ?_) | (refine lw_on rfl rfl (by first | assumption | exact decide_eq_true (by omega) | exact decide_eq_false (by omega) | exact dec_notT (by omega) | exact dec_notF (by omega)) ?_) | (refine lw_not rfl rfl rfl (by first | assumption | exact decide_eq_true (by omega) | exact decide_eq_false (by omega) | exact dec_notT (by omega) | exact dec_notF (by omega)) ?_)) | ((refine is_bin ?_; first | (refine lw_pure rfl (pv_sleq rfl rfl) ?_) | (refine lw_pure rfl (pv_gtr rfl rfl) ?_) | (refine lw_pure rfl (pv_add rfl rfl (by omega)) ?_))) | ((refine is_load ?_; first | (refine lw_pure rfl (pv_load (t1 rfl) rfl (by first | exact PT.ld0 (H9.mono hw) rfl | exact PT.ld (H9.mono hw) rfl)) ?_))) | ((refine is_fa ?_; first | (refine lw_pure rfl (pv_fa (tF rfl) rfl) ?_))) | ((refine is_un ?_; first | (refine lw_pure rfl (pv_not rfl) ?_))) | ((refine is_bi ?_; first | (refine lw_pure rfl (pv_lens (tStr rfl) rfl) ?_))) | (refine lw_pure rfl (pv_pick_f rfl rfl rfl) ?_) | (refine lw_pure rfl (pv_pick_t rfl (by first | assumption | exact decide_eq_true (by omega) | exact dec_notT (by omega)) rfl) ?_) | (refine lw_pure rfl (pv_pick_f rfl (by first | assumption | exact decide_eq_false (by omega) | exact dec_notF (by omega)) rfl) ?_))
            exact qw_ret2 rfl rfl rfl ⟨Or.inl ⟨by rw [e4]; decide, by rw [e4]⟩, grow_trans hwB hw⟩
          · by_cases h64 : 64 < l.length
            · have e4 : (loadD cap l).1 = 4 := by unfold loadD; rw [if_neg hc, if_pos (badF_len h64)]
              repeat' (first | (refine lw_pure rfl (pv_move rfl) ?_) | (refine lw_pure rfl (pv_assign rfl) ?_) | (refine lw_call (f := 18) (by kernel_rfl) rfl rfl (name_is hnz hq _) ?_; rintro e w1 ⟨rfl, hb⟩; refine ⟨_, rfl, ?_⟩; replace hw := grow_trans hw hb; clear hb) | (refine is_cw ?_; first | (refine cw_seq ?_) | (refine cw_region ?_) | (refine cw_true rfl (by first | assumption | exact decide_eq_true (by omega) | exact dec_notT (by omega)) ?_) | (refine cw_ret ?_)) | (refine is_qw ?_; first | (with_reducible refine qw_then ?_) | (with_reducible refine qw_then_ret ?_) | (with_reducible refine qw_in_ret ?_)) | (refine lw_nil ?_) | (refine is_guarded ?_; first | (refine lw_on rfl rfl rfl ?_) | (refine lw_on rfl rfl (by first | assumption | exact decide_eq_true (by omega) | exact decide_eq_false (by omega) | exact dec_notT (by omega) | exact dec_notF (by omega)) ?_)) | ((refine is_bin ?_; first | (refine lw_pure rfl (pv_sleq rfl rfl) ?_) | (refine lw_pure rfl (pv_gtr rfl rfl) ?_) | (refine lw_pure rfl (pv_add rfl rfl (by omega)) ?_))) | ((refine is_load ?_; first | (refine lw_pure rfl (pv_load (t1 rfl) rfl (by first | exact PT.ld0 (H9.mono hw) rfl | exact PT.ld (H9.mono hw) rfl)) ?_))) | ((refine is_fa ?_; first | (refine lw_pure rfl (pv_fa (tF rfl) rfl) ?_))) | ((refine is_un ?_; first | (refine lw_pure rfl (pv_not rfl) ?_))) | ((refine is_bi ?_; first | (refine lw_pure rfl (pv_lenl (tS rfl) rfl) ?_) | (refine lw_pure rfl (pv_lens (tStr rfl) rfl) ?_))) | (refine lw_pure rfl (pv_pick_f rfl rfl rfl) ?_) | (refine lw_pure rfl (pv_pick_f rfl (by first | assumption | exact decide_eq_false (by omega) | exact dec_notF (by omega)) rfl) ?_))
              exact qw_ret2 rfl rfl rfl ⟨Or.inl ⟨by rw [e4]; decide, by rw [e4]⟩, grow_trans hwB hw⟩
            · repeat' (first | (refine lw_pure rfl (pv_move rfl) ?_) | (refine lw_pure rfl (pv_assign rfl) ?_) | (refine lw_call (f := 18) (by kernel_rfl) rfl rfl (name_is hnz hq _) ?_; rintro e w1 ⟨rfl, hb⟩; refine ⟨_, rfl, ?_⟩; replace hw := grow_trans hw hb; clear hb) | (refine is_cw ?_; first | (refine cw_seq ?_) | (refine cw_region ?_) | (refine cw_false rfl (by first | assumption | exact decide_eq_false (by omega) | exact dec_notF (by omega)) ?_) | (refine cw_skip ?_)) | (refine is_qw ?_; first | (with_reducible refine qw_then ?_)) | (refine lw_nil ?_) | (refine is_guarded ?_; first | (refine lw_on rfl rfl rfl ?_) | (refine lw_on rfl rfl (by first | assumption | exact decide_eq_true (by omega) | exact decide_eq_false (by omega) | exact dec_notT (by omega) | exact dec_notF (by omega)) ?_)) | ((refine is_bin ?_; first | (refine lw_pure rfl (pv_sleq rfl rfl) ?_) | (refine lw_pure rfl (pv_gtr rfl rfl) ?_) | (refine lw_pure rfl (pv_add rfl rfl (by omega)) ?_))) | ((refine is_load ?_; first | (refine lw_pure rfl (pv_load (t1 rfl) rfl (by first | exact PT.ld0 (H9.mono hw) rfl | exact PT.ld (H9.mono hw) rfl)) ?_))) | ((refine is_fa ?_; first | (refine lw_pure rfl (pv_fa (tF rfl) rfl) ?_))) | ((refine is_un ?_; first | (refine lw_pure rfl (pv_not rfl) ?_))) | ((refine is_bi ?_; first | (refine lw_pure rfl (pv_lenl (tS rfl) rfl) ?_) | (refine lw_pure rfl (pv_lens (tStr rfl) rfl) ?_))) | (refine lw_pure rfl (pv_pick_f rfl rfl rfl) ?_) | (refine lw_pure rfl (pv_pick_f rfl (by first | assumption | exact decide_eq_false (by omega) | exact dec_notF (by omega)) rfl) ?_))
              refine cw_drawnF 11 (fun w' => Below wn.heap.size wn w' ∧ True) (by kernel_rfl) (by repeat (first | exact NoPanic.body | with_reducible refine NoPanic.then ?_ | with_reducible refine NoPanic.inBlock ?_)) (fun hNP => ?_)
              have hU := And.intro hw.drew trivial
              first | (refine fw_take 0 rfl (by kernel_rfl) rfl rfl (by kernel_rfl) (by kernel_rfl) (by kernel_rfl) hNP hU rfl (fun w' hq => pv_move rfl) ?_)
              first | (refine fw_take 1 rfl (by kernel_rfl) rfl rfl (by kernel_rfl) (by kernel_rfl) (by kernel_rfl) hNP hU rfl (fun w' hq => pv_nilp rfl) ?_)
              first | (refine fw_take 2 rfl (by kernel_rfl) rfl rfl (by kernel_rfl) (by kernel_rfl) (by kernel_rfl) hNP hU rfl (fun w' hq => pv_fa (tF rfl) rfl) ?_)
              first | (refine fw_take 3 rfl (by kernel_rfl) rfl rfl (by kernel_rfl) (by kernel_rfl) (by kernel_rfl) hNP hU rfl (fun w' hq => pv_load (t1 rfl) rfl (by first | exact PT.ld0 hq.2 rfl | exact PT.ld hq.2 rfl)) ?_) | (refine fw_take 3 rfl (by kernel_rfl) rfl rfl (by kernel_rfl) (by kernel_rfl) (by kernel_rfl) hNP hU rfl (fun w' hq => pv_loada (tA rfl) rfl (by first | exact PT.lda hq.2) (by rfl)) ?_) | (refine fw_take 3 rfl (by kernel_rfl) rfl rfl (by kernel_rfl) (by kernel_rfl) (by kernel_rfl) hNP hU rfl (fun w' hq => pv_load (t1 rfl) rfl (by first | exact PT.ld0 (H9.mono hq.1) rfl | exact PT.ld (H9.mono hq.1) rfl | exact PT.ld0 (H.mono hq.1) rfl | exact PT.ld (H.mono hq.1) rfl)) ?_) | (refine fw_take 3 rfl (by kernel_rfl) rfl rfl (by kernel_rfl) (by kernel_rfl) (by kernel_rfl) hNP hU rfl (fun w' hq => pv_loada (tA rfl) rfl (by first | exact PT.lda (H9.mono hq.1) | exact PT.lda (H.mono hq.1)) (by rfl)) ?_)
              first | (refine fw_take 4 rfl (by kernel_rfl) rfl rfl (by kernel_rfl) (by kernel_rfl) (by kernel_rfl) hNP hU rfl (fun w' hq => pv_fa (tF rfl) rfl) ?_)
              first | (refine fw_take 5 rfl (by kernel_rfl) rfl rfl (by kernel_rfl) (by kernel_rfl) (by kernel_rfl) hNP hU rfl (fun w' hq => pv_load (t1 rfl) rfl (by first | exact PT.ld0 hq.2 rfl | exact PT.ld hq.2 rfl)) ?_) | (refine fw_take 5 rfl (by kernel_rfl) rfl rfl (by kernel_rfl) (by kernel_rfl) (by kernel_rfl) hNP hU rfl (fun w' hq => pv_loada (tA rfl) rfl (by first | exact PT.lda hq.2) (by rfl)) ?_) | (refine fw_take 5 rfl (by kernel_rfl) rfl rfl (by kernel_rfl) (by kernel_rfl) (by kernel_rfl) hNP hU rfl (fun w' hq => pv_load (t1 rfl) rfl (by first | exact PT.ld0 (H9.mono hq.1) rfl | exact PT.ld (H9.mono hq.1) rfl | exact PT.ld0 (H.mono hq.1) rfl | exact PT.ld (H.mono hq.1) rfl)) ?_) | (refine fw_take 5 rfl (by kernel_rfl) rfl rfl (by kernel_rfl) (by kernel_rfl) (by kernel_rfl) hNP hU rfl (fun w' hq => pv_loada (tA rfl) rfl (by first | exact PT.lda (H9.mono hq.1) | exact PT.lda (H.mono hq.1)) (by rfl)) ?_)
              first | (refine fw_take 6 rfl (by kernel_rfl) rfl rfl (by kernel_rfl) (by kernel_rfl) (by kernel_rfl) hNP hU rfl (fun w' hq => pv_fa (tF rfl) rfl) ?_)
              first | (refine fw_take 7 rfl (by kernel_rfl) rfl rfl (by kernel_rfl) (by kernel_rfl) (by kernel_rfl) hNP hU rfl (fun w' hq => pv_load (t1 rfl) rfl (by first | exact PT.ld0 hq.2 rfl | exact PT.ld hq.2 rfl)) ?_) | (refine fw_take 7 rfl (by kernel_rfl) rfl rfl (by kernel_rfl) (by kernel_rfl) (by kernel_rfl) hNP hU rfl (fun w' hq => pv_loada (tA rfl) rfl (by first | exact PT.lda hq.2) (by rfl)) ?_) | (refine fw_take 7 rfl (by kernel_rfl) rfl rfl (by kernel_rfl) (by kernel_rfl) (by kernel_rfl) hNP hU rfl (fun w' hq => pv_load (t1 rfl) rfl (by first | exact PT.ld0 (H9.mono hq.1) rfl | exact PT.ld (H9.mono hq.1) rfl | exact PT.ld0 (H.mono hq.1) rfl | exact PT.ld (H.mono hq.1) rfl)) ?_) | (refine fw_take 7 rfl (by kernel_rfl) rfl rfl (by kernel_rfl) (by kernel_rfl) (by kernel_rfl) hNP hU rfl (fun w' hq => pv_loada (tA rfl) rfl (by first | exact PT.lda (H9.mono hq.1) | exact PT.lda (H.mono hq.1)) (by rfl)) ?_)
              first | (refine fw_take 8 rfl (by kernel_rfl) rfl rfl (by kernel_rfl) (by kernel_rfl) (by kernel_rfl) hNP hU rfl (fun w' hq => pv_fa (tF rfl) rfl) ?_)
              first | (refine fw_take 9 rfl (by kernel_rfl) rfl rfl (by kernel_rfl) (by kernel_rfl) (by kernel_rfl) hNP hU rfl (fun w' hq => pv_load (t1 rfl) rfl (by first | exact PT.ld0 hq.2 rfl | exact PT.ld hq.2 rfl)) ?_) | (refine fw_take 9 rfl (by kernel_rfl) rfl rfl (by kernel_rfl) (by kernel_rfl) (by kernel_rfl) hNP hU rfl (fun w' hq => pv_loada (tA rfl) rfl (by first | exact PT.lda hq.2) (by rfl)) ?_) | (refine fw_take 9 rfl (by kernel_rfl) rfl rfl (by kernel_rfl) (by kernel_rfl) (by kernel_rfl) hNP hU rfl (fun w' hq => pv_load (t1 rfl) rfl (by first | exact PT.ld0 (H9.mono hq.1) rfl | exact PT.ld (H9.mono hq.1) rfl | exact PT.ld0 (H.mono hq.1) rfl | exact PT.ld (H.mono hq.1) rfl)) ?_) | (refine fw_take 9 rfl (by kernel_rfl) rfl rfl (by kernel_rfl) (by kernel_rfl) (by kernel_rfl) hNP hU rfl (fun w' hq => pv_loada (tA rfl) rfl (by first | exact PT.lda (H9.mono hq.1) | exact PT.lda (H.mono hq.1)) (by rfl)) ?_)
              first | (refine fw_take 10 rfl (by kernel_rfl) rfl rfl (by kernel_rfl) (by kernel_rfl) (by kernel_rfl) hNP hU rfl (fun w' hq => tyB_78 rfl rfl rfl) ?_) | (refine fw_take 10 rfl (by kernel_rfl) rfl rfl (by kernel_rfl) (by kernel_rfl) (by kernel_rfl) hNP hU rfl (fun w' hq => tyB_81 rfl rfl rfl) ?_)
              refine fw_last (by kernel_rfl) rfl rfl rfl rfl (by kernel_rfl) ?_
              obtain ⟨hw, -⟩ := hU; clear hNP
              refine act_svs (some_updB (k := f.name) (v := (f.firm, f.pend)) Tryd.underlying79 keyS hnz rfl rfl rfl (hm.mono hw)) ?_; rintro w8 ⟨hm8, hg8, hz8⟩
              obtain ⟨hgd2, hput⟩ := hgd.step hxk hq hlast (by omega) (by omega)
              have hp8 := perm_put (φ := fun f => (f.firm, f.pend)) hp hgd.srt f
              rw [hput] at hp8
              have hG8 := (H.mono hw).grown hg8 (by intro e; injection e with e; exact hne e.symm)
              have hw8 := st_hw (grow_trans hwB hw) hg8 hB
              clear hw
              have hw := Below.refl w8.heap.size w8
              repeat' (first | (refine lw_pure rfl (pv_move rfl) ?_) | (refine is_cw ?_; first | (refine cw_region ?_)) | (refine is_qw ?_; first | (with_reducible refine qw_then ?_) | (with_reducible refine qw_in ?_)) | (refine lw_nil ?_) | ((refine is_bin ?_; first | (refine lw_pure rfl (pv_inc rfl rfl (by omega)) ?_))))
              exact qw_round (k + 1, f.name) (by repeat' (first | exact trivial | refine ⟨rfl, ?_⟩)) ⟨by show k + 1 ≤ _; omega, hw8, hgd2, hG8, ⟨_, hm8, hp8⟩⟩ (by show l.length - (k + 1) < l.length - k; omega)
        · have hE : decide (¬ ltN last f.name) = true := decide_eq_true hlast
          have e4 : (loadD cap l).1 = 4 := by unfold loadD; rw [if_neg hc, if_pos (badF_srt (hgd.bad hxk hq hlast))]
          repeat' (first | (refine lw_pure rfl (pv_move rfl) ?_) | (refine lw_pure rfl (pv_assign rfl) ?_) | (refine lw_call (f := 18) (by kernel_rfl) rfl rfl (name_is hnz hq _) ?_; rintro e w1 ⟨rfl, hb⟩; refine ⟨_, rfl, ?_⟩; replace hw := grow_trans hw hb; clear hb) | (refine is_cw ?_; first | (refine cw_seq ?_) | (refine cw_region ?_) | (refine cw_true rfl rfl ?_) | (refine cw_ret ?_)) | (refine is_qw ?_; first | (with_reducible refine qw_then ?_) | (with_reducible refine qw_then_ret ?_) | (with_reducible refine qw_in_ret ?_)) | (refine lw_nil ?_) | (refine is_guarded ?_; first | (refine lw_not rfl rfl rfl rfl ?_) | (refine lw_on rfl rfl rfl ?_) | (refine lw_not rfl rfl rfl (by first | assumption | exact decide_eq_true (by omega) | exact decide_eq_false (by omega) | exact dec_notT (by omega) | exact dec_notF (by omega)) ?_)) | ((refine is_bin ?_; first | (refine lw_pure rfl (pv_sleq rfl rfl) ?_))) | ((refine is_load ?_; first | (refine lw_pure rfl (pv_load (t1 rfl) rfl (by first | exact PT.ld0 (H9.mono hw) rfl | exact PT.ld (H9.mono hw) rfl)) ?_))) | ((refine is_fa ?_; first | (refine lw_pure rfl (pv_fa (tF rfl) rfl) ?_))) | ((refine is_un ?_; first | (refine lw_pure rfl (pv_not rfl) ?_))) | (refine lw_pure rfl (pv_pick_t rfl rfl rfl) ?_) | (refine lw_pure rfl (pv_pick_f rfl rfl rfl) ?_) | (refine lw_pure rfl (pv_pick_t rfl (by first | assumption | exact decide_eq_true (by omega) | exact dec_notT (by omega)) rfl) ?_))
          exact qw_ret2 rfl rfl rfl ⟨Or.inl ⟨by rw [e4]; decide, by rw [e4]⟩, grow_trans hwB hw⟩
    · have hkl : k = l.length := by omega
      subst hkl
      have hok := hgd.ok
      have h1 := hgd.srt
      have h2 := hgd.names
      have h3 := hgd.sizes
      rw [List.take_length] at h1 h2 h3 hp
      have h64 : l.length ≤ 64 := by
        by_cases h0 : 0 < l.length
        · exact hgd.cnt h0
        · omega
      have hul := used_le h3
      repeat' (first | (refine lw_pure rfl (pv_move rfl) ?_) | (refine lw_call (f := 32) (by kernel_rfl) rfl rfl (used0_c (H.mono hw) ⟨m, hm.mono hw, hp⟩ (by omega)) ?_; rintro e w1 ⟨rfl, hb⟩; refine ⟨_, rfl, ?_⟩; replace hw := grow_trans hw hb; clear hb) | (refine is_cw ?_; first | (refine cw_seq ?_) | (refine cw_region ?_) | (refine cw_false rfl (by first | assumption | exact decide_eq_false (by omega) | exact dec_notF (by omega)) ?_) | (refine cw_exit ?_)) | (refine is_qw ?_; first | (with_reducible refine qw_then ?_) | (with_reducible refine qw_in_hit ?_) | (with_reducible refine qw_then_exit ?_)) | (refine lw_nil ?_) | ((refine is_bin ?_; first | (refine lw_pure rfl (pv_lss rfl rfl) ?_) | (refine lw_pure rfl (pv_gtr rfl rfl) ?_))))
      by_cases hu : cap < usedF l
      · have e4 : (loadD cap l).1 = 44 := by unfold loadD; rw [if_neg hc, hok, if_neg (by simp), if_pos hu]
        repeat' (first | (refine lw_pure rfl (pv_assign rfl) ?_) | (refine is_cw ?_; first | (refine cw_seq ?_) | (refine cw_region ?_) | (refine cw_true rfl (by first | assumption | exact decide_eq_true (by omega) | exact dec_notT (by omega)) ?_) | (refine cw_ret ?_)) | (refine is_qw ?_; first | (with_reducible refine qw_then ?_) | (with_reducible refine qw_then_ret ?_)) | (refine lw_nil ?_))
        exact qw_ret2 rfl rfl rfl ⟨Or.inl ⟨by rw [e4]; decide, by rw [e4]⟩, grow_trans hwB hw⟩
      · have e0 : (loadD cap l).1 = 0 := by unfold loadD; rw [if_neg hc, hok, if_neg (by simp), if_neg hu]
        repeat' (first | (refine lw_pure rfl (pv_move rfl) ?_) | (refine lw_pure rfl (pv_assign rfl) ?_) | (refine is_cw ?_; first | (refine cw_seq ?_) | (refine cw_region ?_) | (refine cw_false rfl (by first | assumption | exact decide_eq_false (by omega) | exact dec_notF (by omega)) ?_) | (refine cw_skip ?_) | (refine cw_ret ?_)) | (refine is_qw ?_; first | (with_reducible refine qw_then ?_)) | (refine lw_nil ?_))
        exact qw_ret2 rfl rfl rfl ⟨Or.inr ⟨e0, N, B, rfl, hN, hB, ⟨H.mono hw, ⟨m, hm.mono hw, hp⟩, ⟨h1, h2, h3, h64, by show (usedF l : Int) ≤ cap; omega, hcap, by show (-1 : Int) ≤ -1; omega, by show (-1 : Int) ≤ _; omega⟩⟩⟩, grow_trans hwB hw⟩
set_option maxRecDepth 20000 in
theorem new_c {cap : Int} (hcap : cap ≤ 9223372036854775807) (w : World) : Calls Tryd.prog 40 #[.int .i64 cap] w fun e w' => Loaded w w' cap [] e ∧ Below w.heap.size w w' := by
  have hw := Below.refl w.heap.size w
  refine fn_enter 8 Tryd.func40 rfl rfl rfl ?_
  repeat' (first | (refine lw_pure rfl (pv_move rfl) ?_) | (refine lw_pure rfl (pv_assign rfl) ?_) | (refine is_cw ?_; first | (refine cw_seq ?_) | (refine cw_region ?_)) | (refine is_qw ?_; first | (with_reducible refine qw_then ?_)) | (refine lw_nil ?_))
  refine lw_call (f := 21) (by kernel_rfl) rfl rfl (load_c (l := []) rfl hcap (fun f hf => by cases hf) (SlR.nil _)) ?_; rintro e w2 ⟨hL, hb⟩
  rcases hL with ⟨h1, rfl⟩ | ⟨h1, N, B, rfl, hN, hB, hD⟩
  · refine ⟨_, rfl, ?_⟩
    replace hw := grow_trans hw hb
    repeat' (first | (refine lw_pure rfl (pv_assign rfl) ?_) | (refine is_cw ?_; first | (refine cw_ret ?_)) | (refine is_qw ?_; first | (with_reducible refine qw_then ?_)) | (refine lw_nil ?_) | (refine lw_pure rfl (pv_extract rfl rfl) ?_))
    exact qw_ret2 rfl rfl rfl ⟨Or.inl ⟨h1, rfl⟩, hw⟩
  · refine ⟨_, rfl, ?_⟩
    have hs := hw.size
    replace hw := grow_trans hw hb
    repeat' (first | (refine lw_pure rfl (pv_assign rfl) ?_) | (refine is_cw ?_; first | (refine cw_ret ?_)) | (refine is_qw ?_; first | (with_reducible refine qw_then ?_)) | (refine lw_nil ?_) | (refine lw_pure rfl (pv_extract rfl rfl) ?_))
    exact qw_ret2 rfl rfl rfl ⟨Or.inr ⟨h1, N, B, rfl, Nat.le_trans hs hN, Nat.le_trans hs hB, hD⟩, hw⟩

section
variable {P : Program} {n : Nat} {l : Fr} {w : World} {d : Option Nat} {ty : TypeId} {pos : String} {af : Array Edge} {g : Option (Nat × Bool)} {t t' : TypeId} {x y : Operand} {a b : Int} {k : IntKind}
theorem pv_convm (ht : cvB P t t' .u64 = true) (hx : ev l x = some (.int k a)) : Pv P n l ⟨d, .convert t t' x, ty, pos, af, g⟩ (.int .u64 (a % 18446744073709551616)) w := by
  have := pv_conv_w (P := P) (n := n) (w := w) (d := d) (ty := ty) (pos := pos) (af := af) (g := g) ht hx
  rwa [IntKind.wrap_u64] at this
theorem pv_remu (hx : ev l x = some (.int .u64 a)) (hy : ev l y = some (.int .u64 b)) (h : 0 ≤ a ∧ 0 < b) : Pv P n l ⟨d, .binOp .rem t x y t', ty, pos, af, g⟩ (.int .u64 (a % b)) w := ⟨fun A hA => by
  have hb : b ≠ 0 := by omega
  rw [← Int.tmod_eq_emod_of_nonneg h.1]
  simp [execOp, hA.ev hx, hA.ev hy, eqGuard, binOp, Op.intDiv, hb]⟩
end
theorem SlR.cutn {α : Type} {enc : α → List Value} {k : Nat} {w : World} {a : Option Addr} {c : Nat} {xs : List α} (h : SlR enc k w a c xs) (i : Nat) (hi : i ≤ xs.length) : SlR enc k w (if c = i then a else a.map (·.add (i * k))) (c - i) (xs.drop i) := by
  have hle := h.le
  by_cases hc : c = i
  · rw [if_pos hc]
    have e : xs.drop i = [] := by rw [List.drop_eq_nil_iff]; omega
    rw [e]
    exact ⟨by simp, by have := h.max; omega, fun hn => ⟨rfl, by have := (h.ofNone hn).2; omega⟩, fun ad had h0 => by omega⟩
  · rw [if_neg hc]
    cases a with
    | none =>
      obtain ⟨rfl, rfl⟩ := h.ofNone rfl
      simp at hi; omega
    | some ad =>
      obtain ⟨b, o, sp⟩ := ad
      have hsp := (h.ofSome _ rfl (by omega)).1
      simp only at hsp; subst hsp
      have := h.tail i hi
      simpa only [Option.map_some, Addr.add_lit] using this
theorem cut_ne {B i k c : Nat} {a : Option Addr} (h : ∀ x, a = some x → x.block ≠ B ∧ x.block ≠ B) : ∀ x, (if c = i then a else a.map (·.add (i * k))) = some x → x.block ≠ B ∧ x.block ≠ B := by
  intro x hx
  by_cases h1 : c = i
  · rw [if_pos h1] at hx; exact h x hx
  · rw [if_neg h1] at hx
    cases a with
    | none => cases hx
    | some y =>
      have e : y.add (i * k) = x := by injection hx
      have e2 : (y.add (i * k)).block = y.block := by unfold Addr.add; split <;> rfl
      rw [← e, e2]
      exact h y rfl
theorem putF_mid {a r : List Fil} {f g : Fil} (h : SortF (a ++ f :: r)) (hn : g.name = f.name) : putF (a ++ f :: r) g = a ++ g :: r := by
  unfold SortF at h
  rw [List.pairwise_append, List.pairwise_cons] at h
  obtain ⟨h1, ⟨h2, h3⟩, h4⟩ := h
  have ha : ∀ x ∈ a, ltN x.name g.name := fun x hx => by rw [hn]; exact h4 x hx f (by simp)
  have hr : ∀ x ∈ r, ltN g.name x.name := fun x hx => by rw [hn]; exact h2 x hx
  have hf : ¬ ltN f.name g.name := by rw [hn]; exact ltN_irr _
  have hf2 : ¬ ltN g.name f.name := by rw [hn]; exact ltN_irr _
  have e1 : a.filter (fun x => decide (ltN x.name g.name)) = a := List.filter_eq_self.2 fun x hx => by simpa using ha x hx
  have e2 : a.filter (fun x => decide (ltN g.name x.name)) = [] := List.filter_eq_nil_iff.2 fun x hx => by simpa using ltN_asymm (ha x hx)
  have e3 : r.filter (fun x => decide (ltN x.name g.name)) = [] := List.filter_eq_nil_iff.2 fun x hx => by simpa using ltN_asymm (hr x hx)
  have e4 : r.filter (fun x => decide (ltN g.name x.name)) = r := List.filter_eq_self.2 fun x hx => by simpa using hr x hx
  unfold putF
  rw [List.filter_append, List.filter_append, e1, e2, List.filter_cons_of_neg (by simpa using hf), List.filter_cons_of_neg (by simpa using hf2), e3, e4]
  simp
set_option maxRecDepth 20000 in
theorem crashn_c (ka : Option Addr) (kn kc : Nat) (w : World) : Calls Tryd.prog 17 #[.pointer none, .slice ka kn kc] w fun e w' => e = .returned (.int .i64 2) ∧ Below w.heap.size w w' := by
  have hw := Below.refl w.heap.size w
  refine fn_enter 62 Tryd.func17 rfl rfl rfl ?_
  repeat' (first | (refine lw_pure rfl (pv_move rfl) ?_) | (refine lw_pure rfl (pv_assign rfl) ?_) | (refine is_cw ?_; first | (refine cw_seq ?_) | (refine cw_region ?_) | (refine cw_true rfl rfl ?_) | (refine cw_false rfl rfl ?_) | (refine cw_true rfl (by first | assumption | exact decide_eq_true (by omega) | exact dec_notT (by omega)) ?_) | (refine cw_false rfl (by first | assumption | exact decide_eq_false (by omega) | exact dec_notF (by omega)) ?_) | (refine cw_skip ?_) | (refine cw_block ?_) | (refine cw_exit ?_) | (refine cw_ret ?_)) | (refine is_qw ?_; first | (with_reducible refine qw_then ?_) | (with_reducible refine qw_in ?_) | (with_reducible refine qw_in_hit ?_) | (refine qw_in_miss rfl ?_) | (with_reducible refine qw_then_exit ?_) | (with_reducible refine qw_then_ret ?_) | (with_reducible refine qw_in_ret ?_)) | (refine lw_nil ?_) | ((refine is_bin ?_; first | (refine lw_pure rfl (pv_pnil tpD rfl rfl) ?_) | (refine lw_pure rfl (pv_lss rfl rfl) ?_) | (refine lw_pure rfl (pv_eql rfl rfl) ?_) | (refine lw_pure rfl (pv_gtr rfl rfl) ?_) | (refine lw_pure rfl (pv_inc rfl rfl (by omega)) ?_) | (refine lw_pure rfl (pv_add rfl rfl (by omega)) ?_) | (refine lw_pure rfl (pv_seqlD rfl rfl) ?_))) | ((refine is_load ?_; first | (refine lw_pure rfl (pv_load (t1 rfl) rfl (by first | fail)) ?_) | (refine lw_pure rfl (pv_loada (tA rfl) rfl (by first | fail) (by rfl)) ?_))) | ((refine is_fa ?_; first | (refine lw_pure rfl (pv_fa (tF rfl) rfl) ?_))) | ((refine is_ia ?_; first | (refine lw_pure rfl (pv_ian (tS rfl) rfl rfl (by omega)) ?_) | (refine lw_pure rfl (pv_ia (tS rfl) rfl rfl (by omega)) ?_))) | ((refine is_bi ?_; first | (refine lw_pure rfl (pv_lenl (tS rfl) rfl) ?_) | (refine lw_pure rfl (pv_lens (tStr rfl) rfl) ?_))) | ((refine is_bd ?_; first | (refine lw_pure rfl (tyB_78 rfl rfl rfl) ?_))) | (refine lw_pure rfl (pv_conv (tCv rfl rfl) rfl (by omega)) ?_) | (refine lw_pure rfl (pv_nilp rfl) ?_) | (refine lw_pure rfl (pv_slice_l (tS rfl) rfl rfl (by omega)) ?_) | (refine lw_pure rfl (pv_slice_h (tS rfl) rfl rfl (by omega)) ?_) | (refine lw_pure rfl (pv_slice_lh (tS rfl) rfl rfl rfl (by omega)) ?_) | (refine lw_pure0 (pv_nilp rfl) ?_))
  exact qw_ret1 rfl rfl ⟨rfl, hw⟩
theorem crash_skip {f : Fil} {r : List Fil} {kp : List Int} (hp : f.pend.size = 0) : crashF (f :: r) kp = f :: crashF r kp := by rw [crashF, if_pos hp]
theorem crash_do {f : Fil} {r : List Fil} {kp : List Int} (hp : f.pend.size ≠ 0) : crashF (f :: r) kp = firmF f kp :: crashF r kp.tail := by rw [crashF, if_neg hp]
structure CrR (w2 wr : World) (N B : Nat) (d : Dsk) (keep : List Int) (na : Option Addr) (nc : Nat) (k : Nat) (pre rest : List Fil) (kp : List Int) (ka : Option Addr) (kc : Nat) : Prop where
  dk : DkW wr N B { d with fs := pre ++ rest }
  gw : Gw B B w2 wr
  nm : SlR encT 1 wr na nc (d.fs.map (·.name))
  ks : SlR encI 1 wr ka kc kp
  kn : ∀ x, ka = some x → x.block ≠ B ∧ x.block ≠ B
  nn : ∀ x, na = some x → x.block ≠ B ∧ x.block ≠ B
  len : k = pre.length
  names : (pre ++ rest).map (·.name) = d.fs.map (·.name)
  fs : pre ++ crashF rest kp = crashF d.fs keep
theorem CrR.name {w2 wr : World} {N B : Nat} {d : Dsk} {keep : List Int} {na : Option Addr} {nc k : Nat} {pre r : List Fil} {f : Fil} {kp : List Int} {ka : Option Addr} {kc : Nat} (h : CrR w2 wr N B d keep na nc k pre (f :: r) kp ka kc) : (d.fs.map (·.name))[k]? = some f.name := by
  rw [← h.names, h.len, List.map_append, List.getElem?_append_right (by simp)]
  simp
theorem CrR.all {w2 wr : World} {N B : Nat} {d : Dsk} {keep : List Int} {na : Option Addr} {nc k : Nat} {pre r : List Fil} {kp : List Int} {ka : Option Addr} {kc : Nat} (h : CrR w2 wr N B d keep na nc k pre r kp ka kc) : k + r.length = d.fs.length := by
  have := congrArg List.length h.names
  rw [List.length_map, List.length_map, List.length_append] at this
  rw [h.len]; exact this
theorem CrR.step {w2 wr w8 : World} {N B : Nat} {d : Dsk} {keep : List Int} {na : Option Addr} {nc k : Nat} {pre r : List Fil} {f : Fil} {kp kp2 : List Int} {ka ka2 : Option Addr} {kc kc2 : Nat} (h : CrR w2 wr N B d keep na nc k pre (f :: r) kp ka kc) (hg : Gw B B wr w8) (hp : f.pend.size ≠ 0) (h2 : kp2 = kp.tail)
    (hm : ∃ m, MpB evF w8 B m ∧ m.Perm (mapF (putF (pre ++ f :: r) (firmF f kp)))) (hk : SlR encI 1 wr ka2 kc2 kp2) (hkn : ∀ x, ka2 = some x → x.block ≠ B ∧ x.block ≠ B) : CrR w2 w8 N B d keep na nc (k + 1) (pre ++ [firmF f kp]) r kp2 ka2 kc2 := by
  have hs := h.dk.ok.srt
  have hgf : getF (pre ++ f :: r) f.name = some f := (getF_iff hs).2 ⟨by simp, rfl⟩
  have hmid : putF (pre ++ f :: r) (firmF f kp) = pre ++ firmF f kp :: r := putF_mid hs rfl
  have hok := h.dk.ok.swap (g := firmF f kp) hgf rfl (firmF_sz f kp)
  rw [hmid] at hm
  have hok2 : DskOk { d with fs := pre ++ firmF f kp :: r } := by rw [← hmid]; exact hok
  have hne := h.dk.ne
  have e : pre ++ [firmF f kp] ++ r = pre ++ firmF f kp :: r := by simp
  refine ⟨?_, h.gw.trans hg, h.nm.gw hg h.nn, hk.gw hg hkn, hkn, h.nn, by rw [h.len, List.length_append]; rfl, ?_, ?_⟩
  · rw [e]
    exact ⟨h.dk.obj.gw hg hne hne, hm, hok2⟩
  · rw [e, ← h.names]; simp [firmF]
  · have := h.fs
    rw [crash_do hp] at this
    rw [h2, ← this]; simp
theorem CrR.skip {w2 wr w8 : World} {N B : Nat} {d : Dsk} {keep : List Int} {na : Option Addr} {nc k : Nat} {pre r : List Fil} {f : Fil} {kp : List Int} {ka : Option Addr} {kc : Nat} (h : CrR w2 wr N B d keep na nc k pre (f :: r) kp ka kc) (hb : Below wr.heap.size wr w8) (hp : f.pend.size = 0) : CrR w2 w8 N B d keep na nc (k + 1) (pre ++ [f]) r kp ka kc := by
  have e : pre ++ [f] ++ r = pre ++ f :: r := by simp
  refine ⟨by rw [e]; exact h.dk.mono hb, h.gw.trans (Gw.of_below hb), h.nm.mono hb, h.ks.mono hb, h.kn, h.nn, by rw [h.len, List.length_append]; rfl, by rw [e]; exact h.names, ?_⟩
  have := h.fs
  rw [crash_skip hp] at this
  rw [← this]; simp
set_option maxRecDepth 20000 in
set_option maxHeartbeats 1000000 in
theorem crash_c {w : World} {N B : Nat} {d : Dsk} {keep : List Int} {kn kc : Nat} {ka : Option Addr} (h : DkW w N B d) (hkl : keep.length = kn) (HK : SlR encI 1 w ka kc keep) (hka : ∀ x, ka = some x → x.block ≠ B) : Calls Tryd.prog 17 #[.pointer (some ⟨N, 0, none⟩), .slice ka kn kc] w fun e w' => e = .returned (.int .i64 0) ∧ DkW w' N B (crashD d keep) ∧ Gw N B w w' := by
  subst hkl
  have hlt := h.lt
  have hmx := HK.max
  have hle := HK.le
  have hw := Below.refl w.heap.size w
  refine fn_enter 62 Tryd.func17 rfl rfl rfl ?_
  repeat' (first | (refine lw_pure rfl (pv_move rfl) ?_) | (refine lw_pure rfl (pv_assign rfl) ?_) | (refine is_cw ?_; first | (refine cw_seq ?_) | (refine cw_region ?_) | (refine cw_true rfl rfl ?_) | (refine cw_false rfl rfl ?_) | (refine cw_true rfl (by first | assumption | exact decide_eq_true (by omega) | exact dec_notT (by omega)) ?_) | (refine cw_false rfl (by first | assumption | exact decide_eq_false (by omega) | exact dec_notF (by omega)) ?_) | (refine cw_skip ?_) | (refine cw_block ?_) | (refine cw_exit ?_) | (refine cw_ret ?_)) | (refine is_qw ?_; first | (with_reducible refine qw_then ?_) | (with_reducible refine qw_in ?_) | (with_reducible refine qw_in_hit ?_) | (refine qw_in_miss rfl ?_) | (with_reducible refine qw_then_exit ?_) | (with_reducible refine qw_then_ret ?_) | (with_reducible refine qw_in_ret ?_)) | (refine lw_nil ?_) | ((refine is_bin ?_; first | (refine lw_pure rfl (pv_pnil tpD rfl rfl) ?_) | (refine lw_pure rfl (pv_lss rfl rfl) ?_) | (refine lw_pure rfl (pv_eql rfl rfl) ?_) | (refine lw_pure rfl (pv_gtr rfl rfl) ?_) | (refine lw_pure rfl (pv_inc rfl rfl (by omega)) ?_) | (refine lw_pure rfl (pv_add rfl rfl (by omega)) ?_) | (refine lw_pure rfl (pv_seqlD rfl rfl) ?_))) | ((refine is_load ?_; first | (refine lw_pure rfl (pv_load (t1 rfl) rfl (by first | fail)) ?_) | (refine lw_pure rfl (pv_loada (tA rfl) rfl (by first | fail) (by rfl)) ?_))) | ((refine is_fa ?_; first | (refine lw_pure rfl (pv_fa (tF rfl) rfl) ?_))) | ((refine is_ia ?_; first | (refine lw_pure rfl (pv_ian (tS rfl) rfl rfl (by omega)) ?_) | (refine lw_pure rfl (pv_ia (tS rfl) rfl rfl (by omega)) ?_))) | ((refine is_bi ?_; first | (refine lw_pure rfl (pv_lenl (tS rfl) rfl) ?_) | (refine lw_pure rfl (pv_lens (tStr rfl) rfl) ?_))) | ((refine is_bd ?_; first | (refine lw_pure rfl (tyB_78 rfl rfl rfl) ?_))) | (refine lw_pure rfl (pv_conv (tCv rfl rfl) rfl (by omega)) ?_) | (refine lw_pure rfl (pv_nilp rfl) ?_) | (refine lw_pure rfl (pv_slice_l (tS rfl) rfl rfl (by omega)) ?_) | (refine lw_pure rfl (pv_slice_h (tS rfl) rfl rfl (by omega)) ?_) | (refine lw_pure rfl (pv_slice_lh (tS rfl) rfl rfl rfl (by omega)) ?_) | (refine lw_pure0 (pv_nilp rfl) ?_))
  refine lw_call (f := 42) (by kernel_rfl) rfl rfl (names_c (h.mono hw)) ?_; rintro e w2 ⟨⟨nv, rfl, hO⟩, hb⟩; refine ⟨_, rfl, ?_⟩
  replace hw := grow_trans hw hb
  clear hb
  obtain ⟨na, nc, rfl, HN, hnb⟩ := Own.slR encT_len hO
  rw [List.length_map]
  have hw0 := hw
  repeat' (first | (refine lw_pure rfl (pv_move rfl) ?_) | (refine lw_pure rfl (pv_assign rfl) ?_) | (refine is_cw ?_; first | (refine cw_seq ?_) | (refine cw_region ?_) | (refine cw_true rfl rfl ?_) | (refine cw_false rfl rfl ?_) | (refine cw_true rfl (by first | assumption | exact decide_eq_true (by omega) | exact dec_notT (by omega)) ?_) | (refine cw_false rfl (by first | assumption | exact decide_eq_false (by omega) | exact dec_notF (by omega)) ?_) | (refine cw_skip ?_) | (refine cw_block ?_) | (refine cw_exit ?_) | (refine cw_ret ?_)) | (refine is_qw ?_; first | (with_reducible refine qw_then ?_) | (with_reducible refine qw_in ?_) | (with_reducible refine qw_in_hit ?_) | (refine qw_in_miss rfl ?_) | (with_reducible refine qw_then_exit ?_) | (with_reducible refine qw_then_ret ?_) | (with_reducible refine qw_in_ret ?_)) | (refine lw_nil ?_) | ((refine is_bin ?_; first | (refine lw_pure rfl (pv_lss rfl rfl) ?_) | (refine lw_pure rfl (pv_eql rfl rfl) ?_) | (refine lw_pure rfl (pv_gtr rfl rfl) ?_) | (refine lw_pure rfl (pv_inc rfl rfl (by omega)) ?_) | (refine lw_pure rfl (pv_add rfl rfl (by omega)) ?_) | (refine lw_pure rfl (pv_seqlD rfl rfl) ?_))) | ((refine is_load ?_; first | (refine lw_pure rfl (pv_load (t1 rfl) rfl (by first | fail)) ?_) | (refine lw_pure rfl (pv_loada (tA rfl) rfl (by first | fail) (by rfl)) ?_))) | ((refine is_fa ?_; first | (refine lw_pure rfl (pv_fa (tF rfl) rfl) ?_))) | ((refine is_ia ?_; first | (refine lw_pure rfl (pv_ian (tS rfl) rfl rfl (by omega)) ?_) | (refine lw_pure rfl (pv_ia (tS rfl) rfl rfl (by omega)) ?_))) | ((refine is_bi ?_; first | (refine lw_pure rfl (pv_lenl (tS rfl) rfl) ?_) | (refine lw_pure rfl (pv_lens (tStr rfl) rfl) ?_))) | ((refine is_bd ?_; first | (refine lw_pure rfl (tyB_78 rfl rfl rfl) ?_))) | (refine lw_pure rfl (pv_conv (tCv rfl rfl) rfl (by omega)) ?_) | (refine lw_pure rfl (pv_nilp rfl) ?_) | (refine lw_pure rfl (pv_slice_l (tS rfl) rfl rfl (by omega)) ?_) | (refine lw_pure rfl (pv_slice_h (tS rfl) rfl rfl (by omega)) ?_) | (refine lw_pure rfl (pv_slice_lh (tS rfl) rfl rfl rfl (by omega)) ?_) | (refine lw_pure0 (pv_nilp rfl) ?_))
  refine cw_loop (σ := Nat × List Fil × List Fil × List Int × Option Addr × Nat) (fun s => [(0, .pointer (some ⟨N, 0, none⟩)), (1, .slice s.2.2.2.2.1 s.2.2.2.1.length s.2.2.2.2.2), (12, .slice na d.fs.length nc), (13, .int .i64 (d.fs.length : Nat)), (14, .int .i64 (s.1 : Nat))]) (fun s wr => CrR w2 wr N B d keep na nc s.1 s.2.1 s.2.2.1 s.2.2.2.1 s.2.2.2.2.1 s.2.2.2.2.2) (fun s => s.2.2.1.length) (0, [], d.fs, keep, ka, kc) (by repeat' (first | exact trivial | refine ⟨rfl, ?_⟩)) ⟨h.mono hw, Gw.of_below (Below.refl _ _), HN, HK.mono hw, fun x hx => ⟨hka x hx, hka x hx⟩, fun x hx => by have := (hnb x hx).1; have := hlt.2; omega, rfl, rfl, rfl⟩ ?_
  clear hw
  rintro ⟨k, pre, rest, kp, ka2, kc2⟩ wr hR
  replace hR : CrR w2 wr N B d keep na nc k pre rest kp ka2 kc2 := hR
  have hall := hR.all
  have H := hR.dk.obj
  obtain ⟨m, hm, hp⟩ := hR.dk.mp
  have hw := Below.refl wr.heap.size wr
  have HN2 := hR.nm
  have HK2 := hR.ks
  have hct := h.ok.cnt
  cases rest with
  | nil =>
    rw [List.length_nil] at hall
    repeat' (first | (refine lw_pure rfl (pv_move rfl) ?_) | (refine lw_pure rfl (pv_assign rfl) ?_) | (refine is_cw ?_; first | (refine cw_seq ?_) | (refine cw_region ?_) | (refine cw_true rfl rfl ?_) | (refine cw_false rfl rfl ?_) | (refine cw_true rfl (by first | assumption | exact decide_eq_true (by omega) | exact dec_notT (by omega)) ?_) | (refine cw_false rfl (by first | assumption | exact decide_eq_false (by omega) | exact dec_notF (by omega)) ?_) | (refine cw_skip ?_) | (refine cw_block ?_) | (refine cw_exit ?_) | (refine cw_ret ?_)) | (refine is_qw ?_; first | (with_reducible refine qw_then ?_) | (with_reducible refine qw_in ?_) | (with_reducible refine qw_in_hit ?_) | (refine qw_in_miss rfl ?_) | (with_reducible refine qw_then_exit ?_) | (with_reducible refine qw_then_ret ?_) | (with_reducible refine qw_in_ret ?_)) | (refine lw_nil ?_) | ((refine is_bin ?_; first | (refine lw_pure rfl (pv_lss rfl rfl) ?_) | (refine lw_pure rfl (pv_eql rfl rfl) ?_) | (refine lw_pure rfl (pv_gtr rfl rfl) ?_) | (refine lw_pure rfl (pv_inc rfl rfl (by omega)) ?_) | (refine lw_pure rfl (pv_add rfl rfl (by omega)) ?_) | (refine lw_pure rfl (pv_seqlD rfl rfl) ?_))) | ((refine is_load ?_; first | (refine lw_pure rfl (pv_load (t1 rfl) rfl (by first | exact PT.ld0 (H.mono hw) rfl | exact PT.ld (H.mono hw) rfl)) ?_) | (refine lw_pure rfl (pv_loada (tA rfl) rfl (by first | exact PT.lda (H.mono hw)) (by rfl)) ?_))) | ((refine is_fa ?_; first | (refine lw_pure rfl (pv_fa (tF rfl) rfl) ?_))) | ((refine is_ia ?_; first | (refine lw_pure rfl (pv_ian (tS rfl) rfl rfl (by omega)) ?_) | (refine lw_pure rfl (pv_ia (tS rfl) rfl rfl (by omega)) ?_))) | ((refine is_bi ?_; first | (refine lw_pure rfl (pv_lenl (tS rfl) rfl) ?_) | (refine lw_pure rfl (pv_lens (tStr rfl) rfl) ?_))) | ((refine is_bd ?_; first | (refine lw_pure rfl (tyB_78 rfl rfl rfl) ?_))) | (refine lw_pure rfl (pv_conv (tCv rfl rfl) rfl (by omega)) ?_) | (refine lw_pure rfl (pv_nilp rfl) ?_) | (refine lw_pure rfl (pv_slice_l (tS rfl) rfl rfl (by omega)) ?_) | (refine lw_pure rfl (pv_slice_h (tS rfl) rfl rfl (by omega)) ?_) | (refine lw_pure rfl (pv_slice_lh (tS rfl) rfl rfl rfl (by omega)) ?_) | (refine lw_pure0 (pv_nilp rfl) ?_))
    refine lw_store (H.mono hw) (tZ rfl) rfl rfl rfl (by simp) ?_; intro w5 H5 hg5 hz5
    have G5 := (Gw.of_below (a := N) (b := B) hw).trans (Gw.of_a hg5)
    clear hw
    have hw := Below.refl w5.heap.size w5
    repeat' (first | (refine lw_pure rfl (pv_move rfl) ?_) | (refine lw_pure rfl (pv_assign rfl) ?_) | (refine is_cw ?_; first | (refine cw_seq ?_) | (refine cw_region ?_) | (refine cw_true rfl rfl ?_) | (refine cw_false rfl rfl ?_) | (refine cw_true rfl (by first | assumption | exact decide_eq_true (by omega) | exact dec_notT (by omega)) ?_) | (refine cw_false rfl (by first | assumption | exact decide_eq_false (by omega) | exact dec_notF (by omega)) ?_) | (refine cw_skip ?_) | (refine cw_block ?_) | (refine cw_exit ?_) | (refine cw_ret ?_)) | (refine is_qw ?_; first | (with_reducible refine qw_then ?_) | (with_reducible refine qw_in ?_) | (with_reducible refine qw_in_hit ?_) | (refine qw_in_miss rfl ?_) | (with_reducible refine qw_then_exit ?_) | (with_reducible refine qw_then_ret ?_) | (with_reducible refine qw_in_ret ?_)) | (refine lw_nil ?_) | ((refine is_bin ?_; first | (refine lw_pure rfl (pv_lss rfl rfl) ?_) | (refine lw_pure rfl (pv_eql rfl rfl) ?_) | (refine lw_pure rfl (pv_gtr rfl rfl) ?_) | (refine lw_pure rfl (pv_inc rfl rfl (by omega)) ?_) | (refine lw_pure rfl (pv_add rfl rfl (by omega)) ?_) | (refine lw_pure rfl (pv_seqlD rfl rfl) ?_))) | ((refine is_load ?_; first | (refine lw_pure rfl (pv_load (t1 rfl) rfl (by first | fail)) ?_) | (refine lw_pure rfl (pv_loada (tA rfl) rfl (by first | fail) (by rfl)) ?_))) | ((refine is_fa ?_; first | (refine lw_pure rfl (pv_fa (tF rfl) rfl) ?_))) | ((refine is_ia ?_; first | (refine lw_pure rfl (pv_ian (tS rfl) rfl rfl (by omega)) ?_) | (refine lw_pure rfl (pv_ia (tS rfl) rfl rfl (by omega)) ?_))) | ((refine is_bi ?_; first | (refine lw_pure rfl (pv_lenl (tS rfl) rfl) ?_) | (refine lw_pure rfl (pv_lens (tStr rfl) rfl) ?_))) | ((refine is_bd ?_; first | (refine lw_pure rfl (tyB_78 rfl rfl rfl) ?_))) | (refine lw_pure rfl (pv_conv (tCv rfl rfl) rfl (by omega)) ?_) | (refine lw_pure rfl (pv_nilp rfl) ?_) | (refine lw_pure rfl (pv_slice_l (tS rfl) rfl rfl (by omega)) ?_) | (refine lw_pure rfl (pv_slice_h (tS rfl) rfl rfl (by omega)) ?_) | (refine lw_pure rfl (pv_slice_lh (tS rfl) rfl rfl rfl (by omega)) ?_) | (refine lw_pure0 (pv_nilp rfl) ?_))
    refine lw_store H5 (tZ rfl) rfl rfl rfl (by simp) ?_; intro w6 H6 hg6 hz6
    have G6 := G5.trans (Gw.of_a hg6)
    clear hw
    have hw := Below.refl w6.heap.size w6
    repeat' (first | (refine lw_pure rfl (pv_move rfl) ?_) | (refine lw_pure rfl (pv_assign rfl) ?_) | (refine is_cw ?_; first | (refine cw_seq ?_) | (refine cw_region ?_) | (refine cw_true rfl rfl ?_) | (refine cw_false rfl rfl ?_) | (refine cw_true rfl (by first | assumption | exact decide_eq_true (by omega) | exact dec_notT (by omega)) ?_) | (refine cw_false rfl (by first | assumption | exact decide_eq_false (by omega) | exact dec_notF (by omega)) ?_) | (refine cw_skip ?_) | (refine cw_block ?_) | (refine cw_exit ?_) | (refine cw_ret ?_)) | (refine is_qw ?_; first | (with_reducible refine qw_then ?_) | (with_reducible refine qw_in ?_) | (with_reducible refine qw_in_hit ?_) | (refine qw_in_miss rfl ?_) | (with_reducible refine qw_then_exit ?_) | (with_reducible refine qw_then_ret ?_) | (with_reducible refine qw_in_ret ?_)) | (refine lw_nil ?_) | ((refine is_bin ?_; first | (refine lw_pure rfl (pv_lss rfl rfl) ?_) | (refine lw_pure rfl (pv_eql rfl rfl) ?_) | (refine lw_pure rfl (pv_gtr rfl rfl) ?_) | (refine lw_pure rfl (pv_inc rfl rfl (by omega)) ?_) | (refine lw_pure rfl (pv_add rfl rfl (by omega)) ?_) | (refine lw_pure rfl (pv_seqlD rfl rfl) ?_))) | ((refine is_load ?_; first | (refine lw_pure rfl (pv_load (t1 rfl) rfl (by first | fail)) ?_) | (refine lw_pure rfl (pv_loada (tA rfl) rfl (by first | fail) (by rfl)) ?_))) | ((refine is_fa ?_; first | (refine lw_pure rfl (pv_fa (tF rfl) rfl) ?_))) | ((refine is_ia ?_; first | (refine lw_pure rfl (pv_ian (tS rfl) rfl rfl (by omega)) ?_) | (refine lw_pure rfl (pv_ia (tS rfl) rfl rfl (by omega)) ?_))) | ((refine is_bi ?_; first | (refine lw_pure rfl (pv_lenl (tS rfl) rfl) ?_) | (refine lw_pure rfl (pv_lens (tStr rfl) rfl) ?_))) | ((refine is_bd ?_; first | (refine lw_pure rfl (tyB_78 rfl rfl rfl) ?_))) | (refine lw_pure rfl (pv_conv (tCv rfl rfl) rfl (by omega)) ?_) | (refine lw_pure rfl (pv_nilp rfl) ?_) | (refine lw_pure rfl (pv_slice_l (tS rfl) rfl rfl (by omega)) ?_) | (refine lw_pure rfl (pv_slice_h (tS rfl) rfl rfl (by omega)) ?_) | (refine lw_pure rfl (pv_slice_lh (tS rfl) rfl rfl rfl (by omega)) ?_) | (refine lw_pure0 (pv_nilp rfl) ?_))
    have hne := hR.dk.ne
    have hfs : pre = crashF d.fs keep := by have := hR.fs; simpa [crashF] using this
    have hm6 := (hm.gw ((Gw.of_below (a := N) (b := N) (Below.refl _ wr)).trans (Gw.of_a hg5)) hne.symm hne.symm).gw (Gw.of_a (a := N) (b := N) hg6) hne.symm hne.symm
    refine qw_ret1 rfl rfl ⟨rfl, ⟨H6, ⟨m, hm6, ?_⟩, h.ok.crash keep⟩, (Gw.of_below hw0).trans ((hR.gw.wide N).swap.trans G6)⟩
    rw [List.append_nil] at hp
    rw [show (crashD d keep).fs = crashF d.fs keep from rfl, ← hfs]; exact hp
  | cons f r =>
    rw [List.length_cons] at hall
    have hnk := hR.name
    have hs := hR.dk.ok.srt
    have hg : getF (pre ++ f :: r) f.name = some f := (getF_iff hs).2 ⟨by simp, rfl⟩
    have hsz := getF_sz hR.dk.ok hg
    have hn : f.name.size ≤ 9223372036854775807 := by omega
    have hpg : getM m f.name = some (f.firm, f.pend) := by rw [perm_get (φ := fun f => (f.firm, f.pend)) hp hs, hg]; rfl
    obtain ⟨nab, nao, rfl, -, -⟩ := HN2.at (by intro h; rw [h] at hnk; simp at hnk)
    repeat' (first | (refine lw_pure rfl (pv_move rfl) ?_) | (refine lw_pure rfl (pv_assign rfl) ?_) | (refine lw_pure rfl (pv_look (k := f.name) Tryd.underlying79 keyS zF hn hpg rfl rfl (hm.mono hw)) ?_) | (refine is_cw ?_; first | (refine cw_seq ?_) | (refine cw_region ?_) | (refine cw_true rfl rfl ?_) | (refine cw_false rfl rfl ?_) | (refine cw_true rfl (by first | assumption | exact decide_eq_true (by omega) | exact dec_notT (by omega)) ?_) | (refine cw_false rfl (by first | assumption | exact decide_eq_false (by omega) | exact dec_notF (by omega)) ?_) | (refine cw_skip ?_) | (refine cw_block ?_) | (refine cw_exit ?_) | (refine cw_ret ?_)) | (refine is_qw ?_; first | (with_reducible refine qw_then ?_) | (with_reducible refine qw_in ?_) | (with_reducible refine qw_in_hit ?_) | (refine qw_in_miss rfl ?_) | (with_reducible refine qw_then_exit ?_) | (with_reducible refine qw_then_ret ?_) | (with_reducible refine qw_in_ret ?_)) | (refine lw_nil ?_) | ((refine is_bin ?_; first | (refine lw_pure rfl (pv_lss rfl rfl) ?_) | (refine lw_pure rfl (pv_eql rfl rfl) ?_) | (refine lw_pure rfl (pv_gtr rfl rfl) ?_) | (refine lw_pure rfl (pv_inc rfl rfl (by omega)) ?_) | (refine lw_pure rfl (pv_add rfl rfl (by omega)) ?_) | (refine lw_pure rfl (pv_seqlD rfl rfl) ?_))) | ((refine is_load ?_; first | (refine lw_pure rfl (pv_load (t1 rfl) rfl (by first | exact SlR.ld (HN2.mono hw) hnk rfl | exact SlR.ld1 (HN2.mono hw) hnk rfl | exact PT.ld0 (H.mono hw) rfl | exact PT.ld (H.mono hw) rfl)) ?_) | (refine lw_pure rfl (pv_loada (tA rfl) rfl (by first | exact SlR.lda (HN2.mono hw) hnk | exact PT.lda (H.mono hw)) (by rfl)) ?_))) | ((refine is_fa ?_; first | (refine lw_pure rfl (pv_fa (tF rfl) rfl) ?_))) | ((refine is_ia ?_; first | (refine lw_pure rfl (pv_ian (tS rfl) rfl rfl (by omega)) ?_) | (refine lw_pure rfl (pv_ia (tS rfl) rfl rfl (by omega)) ?_))) | ((refine is_bi ?_; first | (refine lw_pure rfl (pv_lenl (tS rfl) rfl) ?_) | (refine lw_pure rfl (pv_lens (tStr rfl) rfl) ?_))) | ((refine is_bd ?_; first | (refine lw_pure rfl (tyB_78 rfl rfl rfl) ?_))) | (refine lw_pure rfl (pv_conv (tCv rfl rfl) rfl (by omega)) ?_) | (refine lw_pure rfl (pv_nilp rfl) ?_) | (refine lw_pure rfl (pv_slice_l (tS rfl) rfl rfl (by omega)) ?_) | (refine lw_pure rfl (pv_slice_h (tS rfl) rfl rfl (by omega)) ?_) | (refine lw_pure rfl (pv_slice_lh (tS rfl) rfl rfl rfl (by omega)) ?_) | (refine lw_pure0 (pv_nilp rfl) ?_))
    refine lw_varN rfl (by first | exact tyv_28 | exact tyv_29 | exact tyv_34 | exact tyv_35 | exact tyv_43 | exact tyv_44 | exact tyv_77 | exact tyv_78 | exact tyv_80 | exact tyv_81 | exact tyv_86 | exact tyv_87 | exact tyv_126 | exact tyv_127) rfl (tZ rfl) (fun _ => rfl) rfl rfl ?_; intro N7 wn hN7 H7 hb; replace hN7 := Nat.le_trans hw.size hN7; replace hw := grow_trans hw hb; clear hb
    replace H7 : PT wn N7 78 [.string f.firm, .string f.pend] := H7
    have hwB := hw
    replace H := H.mono hw; replace hm := hm.mono hw; replace HK2 := HK2.mono hw; clear hw; have hw := Below.refl wn.heap.size wn
    by_cases hp0 : f.pend.size = 0
    · have hE : decide (f.pend = (⟨#[]⟩ : ByteArray)) = true := decide_eq_true (by cases hf : f.pend with | mk a => rw [hf] at hp0; rw [show a = #[] from Array.eq_empty_of_size_eq_zero hp0])
      repeat' (first | (refine lw_pure rfl (pv_move rfl) ?_) | (refine lw_pure rfl (pv_assign rfl) ?_) | (refine is_cw ?_; first | (refine cw_seq ?_) | (refine cw_region ?_) | (refine cw_true rfl rfl ?_) | (refine cw_false rfl rfl ?_) | (refine cw_true rfl (by first | assumption | exact decide_eq_true (by omega) | exact dec_notT (by omega)) ?_) | (refine cw_false rfl (by first | assumption | exact decide_eq_false (by omega) | exact dec_notF (by omega)) ?_) | (refine cw_skip ?_) | (refine cw_block ?_) | (refine cw_exit ?_) | (refine cw_ret ?_)) | (refine is_qw ?_; first | (with_reducible refine qw_then ?_) | (with_reducible refine qw_in ?_) | (with_reducible refine qw_in_hit ?_) | (refine qw_in_miss rfl ?_) | (with_reducible refine qw_then_exit ?_) | (with_reducible refine qw_then_ret ?_) | (with_reducible refine qw_in_ret ?_)) | (refine lw_nil ?_) | ((refine is_bin ?_; first | (refine lw_pure rfl (pv_lss rfl rfl) ?_) | (refine lw_pure rfl (pv_eql rfl rfl) ?_) | (refine lw_pure rfl (pv_gtr rfl rfl) ?_) | (refine lw_pure rfl (pv_inc rfl rfl (by omega)) ?_) | (refine lw_pure rfl (pv_add rfl rfl (by omega)) ?_) | (refine lw_pure rfl (pv_seqlD rfl rfl) ?_))) | ((refine is_load ?_; first | (refine lw_pure rfl (pv_load (t1 rfl) rfl (by first | exact PT.ld0 (H7.mono hw) rfl | exact PT.ld (H7.mono hw) rfl)) ?_) | (refine lw_pure rfl (pv_loada (tA rfl) rfl (by first | exact PT.lda (H7.mono hw)) (by rfl)) ?_))) | ((refine is_fa ?_; first | (refine lw_pure rfl (pv_fa (tF rfl) rfl) ?_))) | ((refine is_ia ?_; first | (refine lw_pure rfl (pv_ian (tS rfl) rfl rfl (by omega)) ?_) | (refine lw_pure rfl (pv_ia (tS rfl) rfl rfl (by omega)) ?_))) | ((refine is_bi ?_; first | (refine lw_pure rfl (pv_lenl (tS rfl) rfl) ?_) | (refine lw_pure rfl (pv_lens (tStr rfl) rfl) ?_))) | ((refine is_bd ?_; first | (refine lw_pure rfl (tyB_78 rfl rfl rfl) ?_))) | (refine lw_pure rfl (pv_conv (tCv rfl rfl) rfl (by omega)) ?_) | (refine lw_pure rfl (pv_nilp rfl) ?_) | (refine lw_pure rfl (pv_slice_l (tS rfl) rfl rfl (by omega)) ?_) | (refine lw_pure rfl (pv_slice_h (tS rfl) rfl rfl (by omega)) ?_) | (refine lw_pure rfl (pv_slice_lh (tS rfl) rfl rfl rfl (by omega)) ?_) | (refine lw_pure0 (pv_nilp rfl) ?_))
      exact qw_round (k + 1, pre ++ [f], r, kp, ka2, kc2) (by repeat' (first | exact trivial | refine ⟨rfl, ?_⟩)) (hR.skip (grow_trans hwB hw) hp0) (by show r.length < (f :: r).length; simp)
    · have hE : decide (f.pend = (⟨#[]⟩ : ByteArray)) = false := decide_eq_false (fun e => hp0 (by rw [e]; rfl))
      cases kp with
      | nil =>
        have hk : 0 ≤ (0 : Int) ∧ (0 : Int) ≤ f.pend.size := by omega
        have hc : f.firm.size + (f.pend.extract 0 (0 : Int).toNat).size ≤ 9223372036854775807 := by rw [size_extract0]; omega
        repeat' (first | (refine lw_pure rfl (pv_move rfl) ?_) | (refine lw_pure rfl (pv_assign rfl) ?_) | (refine is_cw ?_; first | (refine cw_seq ?_) | (refine cw_region ?_) | (refine cw_true rfl rfl ?_) | (refine cw_false rfl rfl ?_) | (refine cw_true rfl (by first | assumption | exact decide_eq_true (by omega) | exact dec_notT (by omega)) ?_) | (refine cw_false rfl (by first | assumption | exact decide_eq_false (by omega) | exact dec_notF (by omega)) ?_) | (refine cw_skip ?_) | (refine cw_block ?_) | (refine cw_exit ?_) | (refine cw_ret ?_)) | (refine is_qw ?_; first | (with_reducible refine qw_then ?_) | (with_reducible refine qw_in ?_) | (with_reducible refine qw_in_hit ?_) | (refine qw_in_miss rfl ?_) | (with_reducible refine qw_then_exit ?_) | (with_reducible refine qw_then_ret ?_) | (with_reducible refine qw_in_ret ?_)) | (refine lw_nil ?_) | ((refine is_bin ?_; first | (refine lw_pure rfl (pv_lss rfl rfl) ?_) | (refine lw_pure rfl (pv_eql rfl rfl) ?_) | (refine lw_pure rfl (pv_gtr rfl rfl) ?_) | (refine lw_pure rfl (pv_inc rfl rfl (by omega)) ?_) | (refine lw_pure rfl (pv_add rfl rfl (by omega)) ?_) | (refine lw_pure rfl (pv_seqlD rfl rfl) ?_))) | ((refine is_load ?_; first | (refine lw_pure rfl (pv_load (t1 rfl) rfl (by first | exact PT.ld0 (H7.mono hw) rfl | exact PT.ld (H7.mono hw) rfl)) ?_) | (refine lw_pure rfl (pv_loada (tA rfl) rfl (by first | exact PT.lda (H7.mono hw)) (by rfl)) ?_))) | ((refine is_fa ?_; first | (refine lw_pure rfl (pv_fa (tF rfl) rfl) ?_))) | ((refine is_ia ?_; first | (refine lw_pure rfl (pv_ian (tS rfl) rfl rfl (by omega)) ?_) | (refine lw_pure rfl (pv_ia (tS rfl) rfl rfl (by omega)) ?_))) | ((refine is_bi ?_; first | (refine lw_pure rfl (pv_lenl (tS rfl) rfl) ?_) | (refine lw_pure rfl (pv_lens (tStr rfl) rfl) ?_))) | ((refine is_bd ?_; first | (refine lw_pure rfl (tyB_78 rfl rfl rfl) ?_))) | (refine lw_pure rfl (pv_conv (tCv rfl rfl) rfl (by omega)) ?_) | (refine lw_pure rfl (pv_nilp rfl) ?_) | (refine lw_pure rfl (pv_slice_l (tS rfl) rfl rfl (by omega)) ?_) | (refine lw_pure rfl (pv_slice_h (tS rfl) rfl rfl (by omega)) ?_) | (refine lw_pure rfl (pv_slice_lh (tS rfl) rfl rfl rfl (by omega)) ?_) | (refine lw_pure0 (pv_nilp rfl) ?_))
        refine cw_drawnF 13 (fun w' => Below wn.heap.size wn w' ∧ True) (by kernel_rfl) (by repeat (first | exact NoPanic.body | with_reducible refine NoPanic.then ?_ | with_reducible refine NoPanic.inBlock ?_)) (fun hNP => ?_)
        have hU := And.intro hw.drew trivial
        first | (refine fw_take 0 rfl (by kernel_rfl) rfl rfl (by kernel_rfl) (by kernel_rfl) (by kernel_rfl) hNP hU rfl (fun w' hq => pv_move rfl) ?_)
        first | (refine fw_take 1 rfl (by kernel_rfl) rfl rfl (by kernel_rfl) (by kernel_rfl) (by kernel_rfl) hNP hU rfl (fun w' hq => pv_nilp rfl) ?_)
        first | (refine fw_take 2 rfl (by kernel_rfl) rfl rfl (by kernel_rfl) (by kernel_rfl) (by kernel_rfl) hNP hU rfl (fun w' hq => pv_fa (tF rfl) rfl) ?_)
        first | (refine fw_take 3 rfl (by kernel_rfl) rfl rfl (by kernel_rfl) (by kernel_rfl) (by kernel_rfl) hNP hU rfl (fun w' hq => pv_load (t1 rfl) rfl (by first | exact PT.ld0 hq.2 rfl | exact PT.ld hq.2 rfl)) ?_) | (refine fw_take 3 rfl (by kernel_rfl) rfl rfl (by kernel_rfl) (by kernel_rfl) (by kernel_rfl) hNP hU rfl (fun w' hq => pv_loada (tA rfl) rfl (by first | exact PT.lda hq.2) (by rfl)) ?_) | (refine fw_take 3 rfl (by kernel_rfl) rfl rfl (by kernel_rfl) (by kernel_rfl) (by kernel_rfl) hNP hU rfl (fun w' hq => pv_load (t1 rfl) rfl (by first | exact PT.ld0 (H7.mono hq.1) rfl | exact PT.ld (H7.mono hq.1) rfl | exact PT.ld0 (H.mono hq.1) rfl | exact PT.ld (H.mono hq.1) rfl)) ?_) | (refine fw_take 3 rfl (by kernel_rfl) rfl rfl (by kernel_rfl) (by kernel_rfl) (by kernel_rfl) hNP hU rfl (fun w' hq => pv_loada (tA rfl) rfl (by first | exact PT.lda (H7.mono hq.1) | exact PT.lda (H.mono hq.1)) (by rfl)) ?_)
        first | (refine fw_take 4 rfl (by kernel_rfl) rfl rfl (by kernel_rfl) (by kernel_rfl) (by kernel_rfl) hNP hU rfl (fun w' hq => pv_move rfl) ?_)
        first | (refine fw_take 5 rfl (by kernel_rfl) rfl rfl (by kernel_rfl) (by kernel_rfl) (by kernel_rfl) hNP hU rfl (fun w' hq => pv_fa (tF rfl) rfl) ?_)
        first | (refine fw_take 6 rfl (by kernel_rfl) rfl rfl (by kernel_rfl) (by kernel_rfl) (by kernel_rfl) hNP hU rfl (fun w' hq => pv_load (t1 rfl) rfl (by first | exact PT.ld0 hq.2 rfl | exact PT.ld hq.2 rfl)) ?_) | (refine fw_take 6 rfl (by kernel_rfl) rfl rfl (by kernel_rfl) (by kernel_rfl) (by kernel_rfl) hNP hU rfl (fun w' hq => pv_loada (tA rfl) rfl (by first | exact PT.lda hq.2) (by rfl)) ?_) | (refine fw_take 6 rfl (by kernel_rfl) rfl rfl (by kernel_rfl) (by kernel_rfl) (by kernel_rfl) hNP hU rfl (fun w' hq => pv_load (t1 rfl) rfl (by first | exact PT.ld0 (H7.mono hq.1) rfl | exact PT.ld (H7.mono hq.1) rfl | exact PT.ld0 (H.mono hq.1) rfl | exact PT.ld (H.mono hq.1) rfl)) ?_) | (refine fw_take 6 rfl (by kernel_rfl) rfl rfl (by kernel_rfl) (by kernel_rfl) (by kernel_rfl) hNP hU rfl (fun w' hq => pv_loada (tA rfl) rfl (by first | exact PT.lda (H7.mono hq.1) | exact PT.lda (H.mono hq.1)) (by rfl)) ?_)
        first | (refine fw_take 7 rfl (by kernel_rfl) rfl rfl (by kernel_rfl) (by kernel_rfl) (by kernel_rfl) hNP hU rfl (fun w' hq => pv_fa (tF rfl) rfl) ?_)
        first | (refine fw_take 8 rfl (by kernel_rfl) rfl rfl (by kernel_rfl) (by kernel_rfl) (by kernel_rfl) hNP hU rfl (fun w' hq => pv_load (t1 rfl) rfl (by first | exact PT.ld0 hq.2 rfl | exact PT.ld hq.2 rfl)) ?_) | (refine fw_take 8 rfl (by kernel_rfl) rfl rfl (by kernel_rfl) (by kernel_rfl) (by kernel_rfl) hNP hU rfl (fun w' hq => pv_loada (tA rfl) rfl (by first | exact PT.lda hq.2) (by rfl)) ?_) | (refine fw_take 8 rfl (by kernel_rfl) rfl rfl (by kernel_rfl) (by kernel_rfl) (by kernel_rfl) hNP hU rfl (fun w' hq => pv_load (t1 rfl) rfl (by first | exact PT.ld0 (H7.mono hq.1) rfl | exact PT.ld (H7.mono hq.1) rfl | exact PT.ld0 (H.mono hq.1) rfl | exact PT.ld (H.mono hq.1) rfl)) ?_) | (refine fw_take 8 rfl (by kernel_rfl) rfl rfl (by kernel_rfl) (by kernel_rfl) (by kernel_rfl) hNP hU rfl (fun w' hq => pv_loada (tA rfl) rfl (by first | exact PT.lda (H7.mono hq.1) | exact PT.lda (H.mono hq.1)) (by rfl)) ?_)
        first | (refine fw_take 9 rfl (by kernel_rfl) rfl rfl (by kernel_rfl) (by kernel_rfl) (by kernel_rfl) hNP hU rfl (fun w' hq => pv_move rfl) ?_)
        first | (refine fw_take 10 rfl (by kernel_rfl) rfl rfl (by kernel_rfl) (by kernel_rfl) (by kernel_rfl) hNP hU rfl (fun w' hq => pv_sleft (tStr rfl) rfl rfl hk) ?_) | (refine fw_take 10 rfl (by kernel_rfl) rfl rfl (by kernel_rfl) (by kernel_rfl) (by kernel_rfl) hNP hU rfl (fun w' hq => pv_slice_l (tS rfl) rfl rfl (by omega)) ?_) | (refine fw_take 10 rfl (by kernel_rfl) rfl rfl (by kernel_rfl) (by kernel_rfl) (by kernel_rfl) hNP hU rfl (fun w' hq => pv_slice_h (tS rfl) rfl rfl (by omega)) ?_) | (refine fw_take 10 rfl (by kernel_rfl) rfl rfl (by kernel_rfl) (by kernel_rfl) (by kernel_rfl) hNP hU rfl (fun w' hq => pv_slice_lh (tS rfl) rfl rfl rfl (by omega)) ?_)
        first | (refine fw_take 11 rfl (by kernel_rfl) rfl rfl (by kernel_rfl) (by kernel_rfl) (by kernel_rfl) hNP hU rfl (fun w' hq => pv_cat rfl rfl hc) ?_) | (refine fw_take 11 rfl (by kernel_rfl) rfl rfl (by kernel_rfl) (by kernel_rfl) (by kernel_rfl) hNP hU rfl (fun w' hq => pv_lss rfl rfl) ?_) | (refine fw_take 11 rfl (by kernel_rfl) rfl rfl (by kernel_rfl) (by kernel_rfl) (by kernel_rfl) hNP hU rfl (fun w' hq => pv_eql rfl rfl) ?_) | (refine fw_take 11 rfl (by kernel_rfl) rfl rfl (by kernel_rfl) (by kernel_rfl) (by kernel_rfl) hNP hU rfl (fun w' hq => pv_gtr rfl rfl) ?_) | (refine fw_take 11 rfl (by kernel_rfl) rfl rfl (by kernel_rfl) (by kernel_rfl) (by kernel_rfl) hNP hU rfl (fun w' hq => pv_inc rfl rfl (by omega)) ?_) | (refine fw_take 11 rfl (by kernel_rfl) rfl rfl (by kernel_rfl) (by kernel_rfl) (by kernel_rfl) hNP hU rfl (fun w' hq => pv_add rfl rfl (by omega)) ?_) | (refine fw_take 11 rfl (by kernel_rfl) rfl rfl (by kernel_rfl) (by kernel_rfl) (by kernel_rfl) hNP hU rfl (fun w' hq => pv_seqlD rfl rfl) ?_)
        first | (refine fw_take 12 rfl (by kernel_rfl) rfl rfl (by kernel_rfl) (by kernel_rfl) (by kernel_rfl) hNP hU rfl (fun w' hq => tyB_78 rfl rfl rfl) ?_)
        refine fw_last (by kernel_rfl) rfl rfl rfl rfl (by kernel_rfl) ?_
        obtain ⟨hw, -⟩ := hU; clear hNP
        refine act_svs (some_updB (k := f.name) (v := ((firmF f []).firm, emptyB)) Tryd.underlying79 keyS hn rfl rfl rfl (hm.mono hw)) ?_; rintro w8 ⟨hm8, hg8, hz8⟩
        have G8 := (Gw.of_below (a := B) (b := B) (grow_trans hwB hw)).trans (Gw.of_b hg8)
        clear hw
        have hw := Below.refl w8.heap.size w8
        repeat' (first | (refine lw_pure rfl (pv_move rfl) ?_) | (refine lw_pure rfl (pv_assign rfl) ?_) | (refine is_cw ?_; first | (refine cw_seq ?_) | (refine cw_region ?_) | (refine cw_true rfl rfl ?_) | (refine cw_false rfl rfl ?_) | (refine cw_true rfl (by first | assumption | exact decide_eq_true (by omega) | exact dec_notT (by omega)) ?_) | (refine cw_false rfl (by first | assumption | exact decide_eq_false (by omega) | exact dec_notF (by omega)) ?_) | (refine cw_skip ?_) | (refine cw_block ?_) | (refine cw_exit ?_) | (refine cw_ret ?_)) | (refine is_qw ?_; first | (with_reducible refine qw_then ?_) | (with_reducible refine qw_in ?_) | (with_reducible refine qw_in_hit ?_) | (refine qw_in_miss rfl ?_) | (with_reducible refine qw_then_exit ?_) | (with_reducible refine qw_then_ret ?_) | (with_reducible refine qw_in_ret ?_)) | (refine lw_nil ?_) | ((refine is_bin ?_; first | (refine lw_pure rfl (pv_lss rfl rfl) ?_) | (refine lw_pure rfl (pv_eql rfl rfl) ?_) | (refine lw_pure rfl (pv_gtr rfl rfl) ?_) | (refine lw_pure rfl (pv_inc rfl rfl (by omega)) ?_) | (refine lw_pure rfl (pv_add rfl rfl (by omega)) ?_) | (refine lw_pure rfl (pv_seqlD rfl rfl) ?_))) | ((refine is_load ?_; first | (refine lw_pure rfl (pv_load (t1 rfl) rfl (by first | fail)) ?_) | (refine lw_pure rfl (pv_loada (tA rfl) rfl (by first | fail) (by rfl)) ?_))) | ((refine is_fa ?_; first | (refine lw_pure rfl (pv_fa (tF rfl) rfl) ?_))) | ((refine is_ia ?_; first | (refine lw_pure rfl (pv_ian (tS rfl) rfl rfl (by omega)) ?_) | (refine lw_pure rfl (pv_ia (tS rfl) rfl rfl (by omega)) ?_))) | ((refine is_bi ?_; first | (refine lw_pure rfl (pv_lenl (tS rfl) rfl) ?_) | (refine lw_pure rfl (pv_lens (tStr rfl) rfl) ?_))) | ((refine is_bd ?_; first | (refine lw_pure rfl (tyB_78 rfl rfl rfl) ?_))) | (refine lw_pure rfl (pv_conv (tCv rfl rfl) rfl (by omega)) ?_) | (refine lw_pure rfl (pv_nilp rfl) ?_) | (refine lw_pure rfl (pv_slice_l (tS rfl) rfl rfl (by omega)) ?_) | (refine lw_pure rfl (pv_slice_h (tS rfl) rfl rfl (by omega)) ?_) | (refine lw_pure rfl (pv_slice_lh (tS rfl) rfl rfl rfl (by omega)) ?_) | (refine lw_pure0 (pv_nilp rfl) ?_))
        exact qw_round (k + 1, pre ++ [firmF f []], r, [], ka2, kc2) (by repeat' (first | exact trivial | refine ⟨rfl, ?_⟩)) (hR.step G8 hp0 rfl ⟨_, hm8, perm_put (φ := fun f => (f.firm, f.pend)) hp hs (firmF f [])⟩ hR.ks hR.kn) (by show r.length < (f :: r).length; simp)
      | cons q ks =>
        have hq0 : (q :: ks)[0]? = some q := rfl
        obtain ⟨kb, ko, rfl, -, -⟩ := HK2.at (by simp)
        have hk : 0 ≤ (q % 18446744073709551616) % ((f.pend.size : Int) + 1) ∧ (q % 18446744073709551616) % ((f.pend.size : Int) + 1) ≤ f.pend.size := ⟨Int.emod_nonneg _ (by omega), by have := Int.emod_lt_of_pos (q % 18446744073709551616) (show 0 < (f.pend.size : Int) + 1 by omega); omega⟩
        have hc : f.firm.size + (f.pend.extract 0 ((q % 18446744073709551616) % ((f.pend.size : Int) + 1)).toNat).size ≤ 9223372036854775807 := by rw [size_extract0]; omega
        have hlk : 0 < (q :: ks).length := by simp
        repeat' (first | (refine lw_pure rfl (pv_move rfl) ?_) | (refine lw_pure rfl (pv_assign rfl) ?_) | (refine is_cw ?_; first | (refine cw_seq ?_) | (refine cw_region ?_) | (refine cw_true rfl rfl ?_) | (refine cw_false rfl rfl ?_) | (refine cw_true rfl (by first | assumption | exact decide_eq_true (by omega) | exact dec_notT (by omega)) ?_) | (refine cw_false rfl (by first | assumption | exact decide_eq_false (by omega) | exact dec_notF (by omega)) ?_) | (refine cw_skip ?_) | (refine cw_block ?_) | (refine cw_exit ?_) | (refine cw_ret ?_)) | (refine is_qw ?_; first | (with_reducible refine qw_then ?_) | (with_reducible refine qw_in ?_) | (with_reducible refine qw_in_hit ?_) | (refine qw_in_miss rfl ?_) | (with_reducible refine qw_then_exit ?_) | (with_reducible refine qw_then_ret ?_) | (with_reducible refine qw_in_ret ?_)) | (refine lw_nil ?_) | ((refine is_bin ?_; first | (refine lw_pure rfl (pv_lss rfl rfl) ?_) | (refine lw_pure rfl (pv_eql rfl rfl) ?_) | (refine lw_pure rfl (pv_gtr rfl rfl) ?_) | (refine lw_pure rfl (pv_inc rfl rfl (by omega)) ?_) | (refine lw_pure rfl (pv_add rfl rfl (by omega)) ?_) | (refine lw_pure rfl (pv_seqlD rfl rfl) ?_))) | ((refine is_load ?_; first | (refine lw_pure rfl (pv_load (t1 rfl) rfl (by first | exact PT.ld0 (H7.mono hw) rfl | exact PT.ld (H7.mono hw) rfl)) ?_) | (refine lw_pure rfl (pv_loada (tA rfl) rfl (by first | exact PT.lda (H7.mono hw)) (by rfl)) ?_))) | ((refine is_fa ?_; first | (refine lw_pure rfl (pv_fa (tF rfl) rfl) ?_))) | ((refine is_ia ?_; first | (refine lw_pure rfl (pv_ian (tS rfl) rfl rfl (by omega)) ?_) | (refine lw_pure rfl (pv_ia (tS rfl) rfl rfl (by omega)) ?_))) | ((refine is_bi ?_; first | (refine lw_pure rfl (pv_lenl (tS rfl) rfl) ?_) | (refine lw_pure rfl (pv_lens (tStr rfl) rfl) ?_))) | ((refine is_bd ?_; first | (refine lw_pure rfl (tyB_78 rfl rfl rfl) ?_))) | (refine lw_pure rfl (pv_conv (tCv rfl rfl) rfl (by omega)) ?_) | (refine lw_pure rfl (pv_nilp rfl) ?_) | (refine lw_pure rfl (pv_slice_l (tS rfl) rfl rfl (by omega)) ?_) | (refine lw_pure rfl (pv_slice_h (tS rfl) rfl rfl (by omega)) ?_) | (refine lw_pure rfl (pv_slice_lh (tS rfl) rfl rfl rfl (by omega)) ?_) | (refine lw_pure0 (pv_nilp rfl) ?_))
        refine cw_true rfl (decide_eq_true (show (0 : Int) < (((q :: ks).length : Nat) : Int) by omega)) ?_
        repeat' (first | (refine lw_pure rfl (pv_move rfl) ?_) | (refine lw_pure rfl (pv_assign rfl) ?_) | (refine is_cw ?_; first | (refine cw_seq ?_) | (refine cw_region ?_) | (refine cw_true rfl rfl ?_) | (refine cw_false rfl rfl ?_) | (refine cw_true rfl (by first | assumption | exact decide_eq_true (by omega) | exact dec_notT (by omega)) ?_) | (refine cw_false rfl (by first | assumption | exact decide_eq_false (by omega) | exact dec_notF (by omega)) ?_) | (refine cw_skip ?_) | (refine cw_block ?_) | (refine cw_exit ?_) | (refine cw_ret ?_)) | (refine is_qw ?_; first | (with_reducible refine qw_then ?_) | (with_reducible refine qw_in ?_) | (with_reducible refine qw_in_hit ?_) | (refine qw_in_miss rfl ?_) | (with_reducible refine qw_then_exit ?_) | (with_reducible refine qw_then_ret ?_) | (with_reducible refine qw_in_ret ?_)) | (refine lw_nil ?_) | ((refine is_bin ?_; first | (refine lw_pure rfl (pv_lss rfl rfl) ?_) | (refine lw_pure rfl (pv_eql rfl rfl) ?_) | (refine lw_pure rfl (pv_gtr rfl rfl) ?_) | (refine lw_pure rfl (pv_inc rfl rfl (by omega)) ?_) | (refine lw_pure rfl (pv_add rfl rfl (by omega)) ?_) | (refine lw_pure rfl (pv_seqlD rfl rfl) ?_))) | ((refine is_load ?_; first | (refine lw_pure rfl (pv_load (t1 rfl) rfl (by first | exact PT.ld0 (H7.mono hw) rfl | exact PT.ld (H7.mono hw) rfl)) ?_) | (refine lw_pure rfl (pv_loada (tA rfl) rfl (by first | exact PT.lda (H7.mono hw)) (by rfl)) ?_))) | ((refine is_fa ?_; first | (refine lw_pure rfl (pv_fa (tF rfl) rfl) ?_))) | ((refine is_ia ?_; first | (refine lw_pure rfl (pv_ian (tS rfl) rfl rfl (by omega)) ?_) | (refine lw_pure rfl (pv_ia (tS rfl) rfl rfl (by omega)) ?_))) | ((refine is_bi ?_; first | (refine lw_pure rfl (pv_lenl (tS rfl) rfl) ?_) | (refine lw_pure rfl (pv_lens (tStr rfl) rfl) ?_))) | ((refine is_bd ?_; first | (refine lw_pure rfl (tyB_78 rfl rfl rfl) ?_))) | (refine lw_pure rfl (pv_conv (tCv rfl rfl) rfl (by omega)) ?_) | (refine lw_pure rfl (pv_nilp rfl) ?_) | (refine lw_pure rfl (pv_slice_l (tS rfl) rfl rfl (by omega)) ?_) | (refine lw_pure rfl (pv_slice_h (tS rfl) rfl rfl (by omega)) ?_) | (refine lw_pure rfl (pv_slice_lh (tS rfl) rfl rfl rfl (by omega)) ?_) | (refine lw_pure0 (pv_nilp rfl) ?_))
        refine cw_drawn (fun w' => Below wn.heap.size wn w') (by kernel_rfl) (by repeat (first | exact NoPanic.body | with_reducible refine NoPanic.then ?_ | with_reducible refine NoPanic.inBlock ?_)) (fun hNP => ?_)
        have hS := hw.drew
        (refine at0 0 rfl (fun w' hq => pv_move rfl) ?_)
        first | (refine at0 1 rfl (fun w' hq => pv_ian (tS rfl) rfl rfl (by omega)) ?_) | (refine at0 1 rfl (fun w' hq => pv_ia (tS rfl) rfl rfl (by omega)) ?_)
        first | (refine at0 2 rfl (fun w' hq => pv_load (t1 rfl) rfl (by first | exact PT.ld0 (H7.mono hq) rfl | exact PT.ld (H7.mono hq) rfl | exact SlR.ld (HK2.mono hq) hq0 rfl | exact SlR.ld1 (HK2.mono hq) hq0 rfl)) ?_) | (refine at0 2 rfl (fun w' hq => pv_loada (tA rfl) rfl (by first | exact PT.lda (H7.mono hq) | exact SlR.lda (HK2.mono hq) hq0) (by rfl)) ?_)
        first | (refine at0 3 rfl (fun w' hq => pv_convu (tCv rfl rfl) rfl (by omega)) ?_) | (refine at0 3 rfl (fun w' hq => pv_convm (tCv rfl rfl) rfl) ?_) | (refine at0 3 rfl (fun w' hq => pv_conv (tCv rfl rfl) rfl (by omega)) ?_)
        (refine at0 4 rfl (fun w' hq => pv_fa (tF rfl) rfl) ?_)
        first | (refine at0 5 rfl (fun w' hq => pv_load (t1 rfl) rfl (by first | exact PT.ld0 (H7.mono hq) rfl | exact PT.ld (H7.mono hq) rfl | exact SlR.ld (HK2.mono hq) hq0 rfl | exact SlR.ld1 (HK2.mono hq) hq0 rfl)) ?_) | (refine at0 5 rfl (fun w' hq => pv_loada (tA rfl) rfl (by first | exact PT.lda (H7.mono hq) | exact SlR.lda (HK2.mono hq) hq0) (by rfl)) ?_)
        first | (refine at0 6 rfl (fun w' hq => pv_lenl (tS rfl) rfl) ?_) | (refine at0 6 rfl (fun w' hq => pv_lens (tStr rfl) rfl) ?_)
        first | (refine at0 7 rfl (fun w' hq => pv_remu rfl rfl (by omega)) ?_) | (refine at0 7 rfl (fun w' hq => pv_lss rfl rfl) ?_) | (refine at0 7 rfl (fun w' hq => pv_eql rfl rfl) ?_) | (refine at0 7 rfl (fun w' hq => pv_gtr rfl rfl) ?_) | (refine at0 7 rfl (fun w' hq => pv_inc rfl rfl (by omega)) ?_) | (refine at0 7 rfl (fun w' hq => pv_add rfl rfl (by omega)) ?_) | (refine at0 7 rfl (fun w' hq => pv_seqlD rfl rfl) ?_)
        first | (refine at0 8 rfl (fun w' hq => pv_convu (tCv rfl rfl) rfl (by omega)) ?_) | (refine at0 8 rfl (fun w' hq => pv_convm (tCv rfl rfl) rfl) ?_) | (refine at0 8 rfl (fun w' hq => pv_conv (tCv rfl rfl) rfl (by omega)) ?_)
        first | (refine at0 9 rfl (fun w' hq => pv_remu rfl rfl (by omega)) ?_) | (refine at0 9 rfl (fun w' hq => pv_lss rfl rfl) ?_) | (refine at0 9 rfl (fun w' hq => pv_eql rfl rfl) ?_) | (refine at0 9 rfl (fun w' hq => pv_gtr rfl rfl) ?_) | (refine at0 9 rfl (fun w' hq => pv_inc rfl rfl (by omega)) ?_) | (refine at0 9 rfl (fun w' hq => pv_add rfl rfl (by omega)) ?_) | (refine at0 9 rfl (fun w' hq => pv_seqlD rfl rfl) ?_)
        (refine at0 10 rfl (fun w' hq => pv_assign rfl) ?_)
        refine aw_done (by kernel_rfl) ?_
        replace hw := hS; clear hS hNP
        have hs1 : 0 ≤ (1 : Int) ∧ (1 : Int) ≤ (((q :: ks).length : Nat) : Int) := by omega
        repeat' (first | (refine lw_pure rfl (pv_move rfl) ?_) | (refine lw_pure rfl (pv_assign rfl) ?_) | (refine is_cw ?_; first | (refine cw_seq ?_) | (refine cw_region ?_) | (refine cw_true rfl rfl ?_) | (refine cw_false rfl rfl ?_) | (refine cw_true rfl (by first | assumption | exact decide_eq_true (by omega) | exact dec_notT (by omega)) ?_) | (refine cw_false rfl (by first | assumption | exact decide_eq_false (by omega) | exact dec_notF (by omega)) ?_) | (refine cw_skip ?_) | (refine cw_block ?_) | (refine cw_exit ?_) | (refine cw_ret ?_)) | (refine is_qw ?_; first | (with_reducible refine qw_then ?_) | (with_reducible refine qw_in ?_) | (with_reducible refine qw_in_hit ?_) | (refine qw_in_miss rfl ?_) | (with_reducible refine qw_then_exit ?_) | (with_reducible refine qw_then_ret ?_) | (with_reducible refine qw_in_ret ?_)) | (refine lw_nil ?_) | ((refine is_bin ?_; first | (refine lw_pure rfl (pv_lss rfl rfl) ?_) | (refine lw_pure rfl (pv_eql rfl rfl) ?_) | (refine lw_pure rfl (pv_gtr rfl rfl) ?_) | (refine lw_pure rfl (pv_inc rfl rfl (by omega)) ?_) | (refine lw_pure rfl (pv_add rfl rfl (by omega)) ?_) | (refine lw_pure rfl (pv_seqlD rfl rfl) ?_))) | ((refine is_load ?_; first | (refine lw_pure rfl (pv_load (t1 rfl) rfl (by first | exact PT.ld0 (H7.mono hw) rfl | exact PT.ld (H7.mono hw) rfl)) ?_) | (refine lw_pure rfl (pv_loada (tA rfl) rfl (by first | exact PT.lda (H7.mono hw)) (by rfl)) ?_))) | ((refine is_fa ?_; first | (refine lw_pure rfl (pv_fa (tF rfl) rfl) ?_))) | ((refine is_ia ?_; first | (refine lw_pure rfl (pv_ian (tS rfl) rfl rfl (by omega)) ?_) | (refine lw_pure rfl (pv_ia (tS rfl) rfl rfl (by omega)) ?_))) | ((refine is_bi ?_; first | (refine lw_pure rfl (pv_lenl (tS rfl) rfl) ?_) | (refine lw_pure rfl (pv_lens (tStr rfl) rfl) ?_))) | ((refine is_bd ?_; first | (refine lw_pure rfl (tyB_78 rfl rfl rfl) ?_))) | (refine lw_pure rfl (pv_slice_l (tS rfl) rfl rfl hs1) ?_) | (refine lw_pure rfl (pv_conv (tCv rfl rfl) rfl (by omega)) ?_) | (refine lw_pure rfl (pv_nilp rfl) ?_) | (refine lw_pure rfl (pv_slice_l (tS rfl) rfl rfl (by omega)) ?_) | (refine lw_pure rfl (pv_slice_h (tS rfl) rfl rfl (by omega)) ?_) | (refine lw_pure rfl (pv_slice_lh (tS rfl) rfl rfl rfl (by omega)) ?_) | (refine lw_pure0 (pv_nilp rfl) ?_))
        refine cw_drawnF 13 (fun w' => Below wn.heap.size wn w' ∧ True) (by kernel_rfl) (by repeat (first | exact NoPanic.body | with_reducible refine NoPanic.then ?_ | with_reducible refine NoPanic.inBlock ?_)) (fun hNP => ?_)
        have hU := And.intro hw.drew trivial
        first | (refine fw_take 0 rfl (by kernel_rfl) rfl rfl (by kernel_rfl) (by kernel_rfl) (by kernel_rfl) hNP hU rfl (fun w' hq => pv_move rfl) ?_)
        first | (refine fw_take 1 rfl (by kernel_rfl) rfl rfl (by kernel_rfl) (by kernel_rfl) (by kernel_rfl) hNP hU rfl (fun w' hq => pv_nilp rfl) ?_)
        first | (refine fw_take 2 rfl (by kernel_rfl) rfl rfl (by kernel_rfl) (by kernel_rfl) (by kernel_rfl) hNP hU rfl (fun w' hq => pv_fa (tF rfl) rfl) ?_)
        first | (refine fw_take 3 rfl (by kernel_rfl) rfl rfl (by kernel_rfl) (by kernel_rfl) (by kernel_rfl) hNP hU rfl (fun w' hq => pv_load (t1 rfl) rfl (by first | exact PT.ld0 hq.2 rfl | exact PT.ld hq.2 rfl)) ?_) | (refine fw_take 3 rfl (by kernel_rfl) rfl rfl (by kernel_rfl) (by kernel_rfl) (by kernel_rfl) hNP hU rfl (fun w' hq => pv_loada (tA rfl) rfl (by first | exact PT.lda hq.2) (by rfl)) ?_) | (refine fw_take 3 rfl (by kernel_rfl) rfl rfl (by kernel_rfl) (by kernel_rfl) (by kernel_rfl) hNP hU rfl (fun w' hq => pv_load (t1 rfl) rfl (by first | exact PT.ld0 (H7.mono hq.1) rfl | exact PT.ld (H7.mono hq.1) rfl | exact PT.ld0 (H.mono hq.1) rfl | exact PT.ld (H.mono hq.1) rfl)) ?_) | (refine fw_take 3 rfl (by kernel_rfl) rfl rfl (by kernel_rfl) (by kernel_rfl) (by kernel_rfl) hNP hU rfl (fun w' hq => pv_loada (tA rfl) rfl (by first | exact PT.lda (H7.mono hq.1) | exact PT.lda (H.mono hq.1)) (by rfl)) ?_)
        first | (refine fw_take 4 rfl (by kernel_rfl) rfl rfl (by kernel_rfl) (by kernel_rfl) (by kernel_rfl) hNP hU rfl (fun w' hq => pv_move rfl) ?_)
        first | (refine fw_take 5 rfl (by kernel_rfl) rfl rfl (by kernel_rfl) (by kernel_rfl) (by kernel_rfl) hNP hU rfl (fun w' hq => pv_fa (tF rfl) rfl) ?_)
        first | (refine fw_take 6 rfl (by kernel_rfl) rfl rfl (by kernel_rfl) (by kernel_rfl) (by kernel_rfl) hNP hU rfl (fun w' hq => pv_load (t1 rfl) rfl (by first | exact PT.ld0 hq.2 rfl | exact PT.ld hq.2 rfl)) ?_) | (refine fw_take 6 rfl (by kernel_rfl) rfl rfl (by kernel_rfl) (by kernel_rfl) (by kernel_rfl) hNP hU rfl (fun w' hq => pv_loada (tA rfl) rfl (by first | exact PT.lda hq.2) (by rfl)) ?_) | (refine fw_take 6 rfl (by kernel_rfl) rfl rfl (by kernel_rfl) (by kernel_rfl) (by kernel_rfl) hNP hU rfl (fun w' hq => pv_load (t1 rfl) rfl (by first | exact PT.ld0 (H7.mono hq.1) rfl | exact PT.ld (H7.mono hq.1) rfl | exact PT.ld0 (H.mono hq.1) rfl | exact PT.ld (H.mono hq.1) rfl)) ?_) | (refine fw_take 6 rfl (by kernel_rfl) rfl rfl (by kernel_rfl) (by kernel_rfl) (by kernel_rfl) hNP hU rfl (fun w' hq => pv_loada (tA rfl) rfl (by first | exact PT.lda (H7.mono hq.1) | exact PT.lda (H.mono hq.1)) (by rfl)) ?_)
        first | (refine fw_take 7 rfl (by kernel_rfl) rfl rfl (by kernel_rfl) (by kernel_rfl) (by kernel_rfl) hNP hU rfl (fun w' hq => pv_fa (tF rfl) rfl) ?_)
        first | (refine fw_take 8 rfl (by kernel_rfl) rfl rfl (by kernel_rfl) (by kernel_rfl) (by kernel_rfl) hNP hU rfl (fun w' hq => pv_load (t1 rfl) rfl (by first | exact PT.ld0 hq.2 rfl | exact PT.ld hq.2 rfl)) ?_) | (refine fw_take 8 rfl (by kernel_rfl) rfl rfl (by kernel_rfl) (by kernel_rfl) (by kernel_rfl) hNP hU rfl (fun w' hq => pv_loada (tA rfl) rfl (by first | exact PT.lda hq.2) (by rfl)) ?_) | (refine fw_take 8 rfl (by kernel_rfl) rfl rfl (by kernel_rfl) (by kernel_rfl) (by kernel_rfl) hNP hU rfl (fun w' hq => pv_load (t1 rfl) rfl (by first | exact PT.ld0 (H7.mono hq.1) rfl | exact PT.ld (H7.mono hq.1) rfl | exact PT.ld0 (H.mono hq.1) rfl | exact PT.ld (H.mono hq.1) rfl)) ?_) | (refine fw_take 8 rfl (by kernel_rfl) rfl rfl (by kernel_rfl) (by kernel_rfl) (by kernel_rfl) hNP hU rfl (fun w' hq => pv_loada (tA rfl) rfl (by first | exact PT.lda (H7.mono hq.1) | exact PT.lda (H.mono hq.1)) (by rfl)) ?_)
        first | (refine fw_take 9 rfl (by kernel_rfl) rfl rfl (by kernel_rfl) (by kernel_rfl) (by kernel_rfl) hNP hU rfl (fun w' hq => pv_move rfl) ?_)
        first | (refine fw_take 10 rfl (by kernel_rfl) rfl rfl (by kernel_rfl) (by kernel_rfl) (by kernel_rfl) hNP hU rfl (fun w' hq => pv_sleft (tStr rfl) rfl rfl hk) ?_) | (refine fw_take 10 rfl (by kernel_rfl) rfl rfl (by kernel_rfl) (by kernel_rfl) (by kernel_rfl) hNP hU rfl (fun w' hq => pv_slice_l (tS rfl) rfl rfl (by omega)) ?_) | (refine fw_take 10 rfl (by kernel_rfl) rfl rfl (by kernel_rfl) (by kernel_rfl) (by kernel_rfl) hNP hU rfl (fun w' hq => pv_slice_h (tS rfl) rfl rfl (by omega)) ?_) | (refine fw_take 10 rfl (by kernel_rfl) rfl rfl (by kernel_rfl) (by kernel_rfl) (by kernel_rfl) hNP hU rfl (fun w' hq => pv_slice_lh (tS rfl) rfl rfl rfl (by omega)) ?_)
        first | (refine fw_take 11 rfl (by kernel_rfl) rfl rfl (by kernel_rfl) (by kernel_rfl) (by kernel_rfl) hNP hU rfl (fun w' hq => pv_cat rfl rfl hc) ?_) | (refine fw_take 11 rfl (by kernel_rfl) rfl rfl (by kernel_rfl) (by kernel_rfl) (by kernel_rfl) hNP hU rfl (fun w' hq => pv_lss rfl rfl) ?_) | (refine fw_take 11 rfl (by kernel_rfl) rfl rfl (by kernel_rfl) (by kernel_rfl) (by kernel_rfl) hNP hU rfl (fun w' hq => pv_eql rfl rfl) ?_) | (refine fw_take 11 rfl (by kernel_rfl) rfl rfl (by kernel_rfl) (by kernel_rfl) (by kernel_rfl) hNP hU rfl (fun w' hq => pv_gtr rfl rfl) ?_) | (refine fw_take 11 rfl (by kernel_rfl) rfl rfl (by kernel_rfl) (by kernel_rfl) (by kernel_rfl) hNP hU rfl (fun w' hq => pv_inc rfl rfl (by omega)) ?_) | (refine fw_take 11 rfl (by kernel_rfl) rfl rfl (by kernel_rfl) (by kernel_rfl) (by kernel_rfl) hNP hU rfl (fun w' hq => pv_add rfl rfl (by omega)) ?_) | (refine fw_take 11 rfl (by kernel_rfl) rfl rfl (by kernel_rfl) (by kernel_rfl) (by kernel_rfl) hNP hU rfl (fun w' hq => pv_seqlD rfl rfl) ?_)
        first | (refine fw_take 12 rfl (by kernel_rfl) rfl rfl (by kernel_rfl) (by kernel_rfl) (by kernel_rfl) hNP hU rfl (fun w' hq => tyB_78 rfl rfl rfl) ?_)
        refine fw_last (by kernel_rfl) rfl rfl rfl rfl (by kernel_rfl) ?_
        obtain ⟨hw, -⟩ := hU; clear hNP
        refine act_svs (some_updB (k := f.name) (v := ((firmF f (q :: ks)).firm, emptyB)) Tryd.underlying79 keyS hn rfl rfl rfl (hm.mono hw)) ?_; rintro w8 ⟨hm8, hg8, hz8⟩
        have G8 := (Gw.of_below (a := B) (b := B) (grow_trans hwB hw)).trans (Gw.of_b hg8)
        clear hw
        have hw := Below.refl w8.heap.size w8
        repeat' (first | (refine lw_pure rfl (pv_move rfl) ?_) | (refine lw_pure rfl (pv_assign rfl) ?_) | (refine is_cw ?_; first | (refine cw_seq ?_) | (refine cw_region ?_) | (refine cw_true rfl rfl ?_) | (refine cw_false rfl rfl ?_) | (refine cw_true rfl (by first | assumption | exact decide_eq_true (by omega) | exact dec_notT (by omega)) ?_) | (refine cw_false rfl (by first | assumption | exact decide_eq_false (by omega) | exact dec_notF (by omega)) ?_) | (refine cw_skip ?_) | (refine cw_block ?_) | (refine cw_exit ?_) | (refine cw_ret ?_)) | (refine is_qw ?_; first | (with_reducible refine qw_then ?_) | (with_reducible refine qw_in ?_) | (with_reducible refine qw_in_hit ?_) | (refine qw_in_miss rfl ?_) | (with_reducible refine qw_then_exit ?_) | (with_reducible refine qw_then_ret ?_) | (with_reducible refine qw_in_ret ?_)) | (refine lw_nil ?_) | ((refine is_bin ?_; first | (refine lw_pure rfl (pv_lss rfl rfl) ?_) | (refine lw_pure rfl (pv_eql rfl rfl) ?_) | (refine lw_pure rfl (pv_gtr rfl rfl) ?_) | (refine lw_pure rfl (pv_inc rfl rfl (by omega)) ?_) | (refine lw_pure rfl (pv_add rfl rfl (by omega)) ?_) | (refine lw_pure rfl (pv_seqlD rfl rfl) ?_))) | ((refine is_load ?_; first | (refine lw_pure rfl (pv_load (t1 rfl) rfl (by first | fail)) ?_) | (refine lw_pure rfl (pv_loada (tA rfl) rfl (by first | fail) (by rfl)) ?_))) | ((refine is_fa ?_; first | (refine lw_pure rfl (pv_fa (tF rfl) rfl) ?_))) | ((refine is_ia ?_; first | (refine lw_pure rfl (pv_ian (tS rfl) rfl rfl (by omega)) ?_) | (refine lw_pure rfl (pv_ia (tS rfl) rfl rfl (by omega)) ?_))) | ((refine is_bi ?_; first | (refine lw_pure rfl (pv_lenl (tS rfl) rfl) ?_) | (refine lw_pure rfl (pv_lens (tStr rfl) rfl) ?_))) | ((refine is_bd ?_; first | (refine lw_pure rfl (tyB_78 rfl rfl rfl) ?_))) | (refine lw_pure rfl (pv_conv (tCv rfl rfl) rfl (by omega)) ?_) | (refine lw_pure rfl (pv_nilp rfl) ?_) | (refine lw_pure rfl (pv_slice_l (tS rfl) rfl rfl (by omega)) ?_) | (refine lw_pure rfl (pv_slice_h (tS rfl) rfl rfl (by omega)) ?_) | (refine lw_pure rfl (pv_slice_lh (tS rfl) rfl rfl rfl (by omega)) ?_) | (refine lw_pure0 (pv_nilp rfl) ?_))
        exact qw_round (k + 1, pre ++ [firmF f (q :: ks)], r, ks, _, _) (by repeat' (first | exact trivial | refine ⟨rfl, ?_⟩)) (hR.step G8 hp0 rfl ⟨_, hm8, perm_put (φ := fun f => (f.firm, f.pend)) hp hs (firmF f (q :: ks))⟩ (hR.ks.cutn 1 (by simp)) (cut_ne hR.kn)) (by show r.length < (f :: r).length; simp)

structure OpC where
  kind : Int
  name : ByteArray
  to : ByteArray
  bytes : ByteArray
  n : Int
  ka : Option Addr
  km : Nat
  kc : Nat
abbrev encQ (x : OpC) : List Value := [.int .u8 x.kind, .string x.name, .string x.to, .string x.bytes, .int .i64 x.n, .slice x.ka x.km x.kc]
theorem encQ_len (x : OpC) : (encQ x).length = 6 := rfl
def opOf (x : OpC) : DOp := ⟨x.kind, x.name, x.to, x.bytes, x.n, []⟩
structure OpB (x : OpC) : Prop where
  kind : 0 ≤ x.kind ∧ x.kind ≤ 255
  n : -9223372036854775808 ≤ x.n ∧ x.n ≤ 9223372036854775807
structure OpS (x : OpC) : Prop where
  name : x.name.size ≤ 100
  to : x.to.size ≤ 100
  bytes : x.bytes.size ≤ 2000
  km : x.km ≤ 100
set_option maxRecDepth 20000 in
set_option maxHeartbeats 1000000 in
theorem long_c {xs : List OpC} {n : Nat} {a : Option Addr} {ca : Nat} {w : World} (hn : xs.length = n) (HS : SlR encQ 6 w a ca xs) : Calls Tryd.prog 10 #[.slice a n ca] w fun e w' => (∃ b, e = .returned (.bool b) ∧ (b = false → xs.length ≤ 60 ∧ ∀ x ∈ xs, OpS x)) ∧ Below w.heap.size w w' := by
  subst hn
  have hle := HS.le
  have hmx := HS.max
  have hw := Below.refl w.heap.size w
  refine fn_enter 47 Tryd.func10 rfl rfl rfl ?_
  by_cases h60 : 60 < xs.length
  · repeat' (first | (refine lw_pure rfl (pv_move rfl) ?_) | (refine lw_pure rfl (pv_assign rfl) ?_) | (refine is_cw ?_; first | (refine cw_seq ?_) | (refine cw_region ?_) | (refine cw_true rfl (by first | assumption | exact decide_eq_true (by omega) | exact dec_notT (by omega)) ?_) | (refine cw_ret ?_)) | (refine is_qw ?_; first | (with_reducible refine qw_then ?_) | (with_reducible refine qw_then_ret ?_)) | (refine lw_nil ?_) | ((refine is_bin ?_; first | (refine lw_pure rfl (pv_gtr rfl rfl) ?_))) | ((refine is_bi ?_; first | (refine lw_pure rfl (pv_lenl (tS rfl) rfl) ?_))))
    exact qw_ret1 rfl rfl ⟨⟨true, rfl, fun h => by cases h⟩, hw⟩
  · repeat' (first | (refine lw_pure rfl (pv_move rfl) ?_) | (refine lw_pure rfl (pv_assign rfl) ?_) | (refine is_cw ?_; first | (refine cw_seq ?_) | (refine cw_region ?_) | (refine cw_false rfl (by first | assumption | exact decide_eq_false (by omega) | exact dec_notF (by omega)) ?_) | (refine cw_skip ?_) | (refine cw_block ?_)) | (refine is_qw ?_; first | (with_reducible refine qw_then ?_)) | (refine lw_nil ?_) | ((refine is_bin ?_; first | (refine lw_pure rfl (pv_gtr rfl rfl) ?_))) | ((refine is_bi ?_; first | (refine lw_pure rfl (pv_lenl (tS rfl) rfl) ?_))))
    refine cw_loop (σ := Nat) (fun k => [(0, .slice a xs.length ca), (3, .int .i64 (k : Nat))]) (fun k wr => k ≤ xs.length ∧ Below w.heap.size w wr ∧ ∀ (j : Nat) x, j < k → xs[j]? = some x → OpS x) (fun k => xs.length - k) 0 (by repeat' (first | exact trivial | refine ⟨rfl, ?_⟩)) ⟨Nat.zero_le _, hw, fun j x hj => absurd hj (by omega)⟩ ?_
    clear hw
    rintro k wr ⟨hk, hw, hgd⟩
    by_cases hlt : k < xs.length
    · have hxk : xs[k]? = some xs[k] := List.getElem?_eq_getElem hlt
      generalize xs[k] = f at hxk
      obtain ⟨ab, ao, rfl, -, -⟩ := HS.at (by intro h; rw [h] at hlt; simp at hlt)
      repeat' (first | (refine lw_pure rfl (pv_move rfl) ?_) | (refine lw_pure rfl (pv_assign rfl) ?_) | (refine is_cw ?_; first | (refine cw_seq ?_) | (refine cw_region ?_) | (refine cw_true rfl rfl ?_) | (refine cw_true rfl (by first | assumption | exact decide_eq_true (by omega) | exact dec_notT (by omega)) ?_) | (refine cw_skip ?_) | (refine cw_block ?_) | (refine cw_ret ?_)) | (refine is_qw ?_; first | (with_reducible refine qw_then ?_) | (with_reducible refine qw_in ?_) | (with_reducible refine qw_then_ret ?_) | (with_reducible refine qw_in_ret ?_)) | (refine lw_nil ?_) | (refine is_guarded ?_; first | (refine lw_not rfl rfl rfl rfl ?_) | (refine lw_on rfl rfl (by first | assumption | exact decide_eq_true (by omega) | exact decide_eq_false (by omega) | exact dec_notT (by omega) | exact dec_notF (by omega)) ?_) | (refine lw_not rfl rfl rfl (by first | assumption | exact decide_eq_true (by omega) | exact decide_eq_false (by omega) | exact dec_notT (by omega) | exact dec_notF (by omega)) ?_) | (refine lw_gs_f rfl rfl rfl (fun hc => ?_) (fun hc => ?_) <;> (first | replace hc := of_decide_eq_true hc | replace hc := of_decide_eq_false hc | replace hc := dec_nT hc | replace hc := dec_nF hc | skip) <;> (try (exfalso; omega)))) | ((refine is_bin ?_; first | (refine lw_pure rfl (pv_lss rfl rfl) ?_) | (refine lw_pure rfl (pv_gtr rfl rfl) ?_) | (refine lw_pure rfl (pv_inc rfl rfl (by omega)) ?_))) | ((refine is_load ?_; first | (refine lw_pure rfl (pv_load (t1 rfl) rfl (by first | exact SlR.ld (HS.mono hw) hxk rfl | exact SlR.ld1 (HS.mono hw) hxk rfl)) ?_))) | ((refine is_fa ?_; first | (refine lw_pure rfl (pv_fa (tF rfl) rfl) ?_))) | ((refine is_ia ?_; first | (refine lw_pure rfl (pv_ian (tS rfl) rfl rfl (by omega)) ?_))) | ((refine is_bi ?_; first | (refine lw_pure rfl (pv_lenl (tS rfl) rfl) ?_) | (refine lw_pure rfl (pv_lens (tStr rfl) rfl) ?_))) | (refine lw_pure rfl (pv_pick_t rfl rfl rfl) ?_) | (refine lw_pure rfl (pv_pick_t rfl (by first | assumption | exact decide_eq_true (by omega) | exact dec_notT (by omega)) rfl) ?_) | (refine lw_pure rfl (pv_pick_f rfl (by first | assumption | exact decide_eq_false (by omega) | exact dec_notF (by omega)) rfl) ?_) | (refine is_cw ?_; refine cw_split rfl (fun hc => ?_) (fun hc => ?_) <;> (first | replace hc := of_decide_eq_true hc | replace hc := of_decide_eq_false hc | replace hc := dec_nT hc | replace hc := dec_nF hc | skip) <;> (try (exfalso; omega))))
      all_goals first
        | exact qw_ret1 rfl rfl ⟨⟨true, rfl, fun h => by cases h⟩, hw⟩
        | (refine qw_round (k + 1) (by repeat' (first | exact trivial | refine ⟨rfl, ?_⟩)) ⟨by omega, hw, fun j x hj hx => ?_⟩ (by omega); rcases Nat.lt_succ_iff_lt_or_eq.1 hj with h1 | rfl; exact hgd j x h1 hx; rw [hxk] at hx; injection hx with hx; subst hx; exact ⟨by omega, by omega, by omega, by omega⟩)
    · have hkl : k = xs.length := by omega
      subst hkl
      repeat' (first | (refine lw_pure rfl (pv_move rfl) ?_) | (refine lw_pure rfl (pv_assign rfl) ?_) | (refine is_cw ?_; first | (refine cw_seq ?_) | (refine cw_region ?_) | (refine cw_false rfl (by first | assumption | exact decide_eq_false (by omega) | exact dec_notF (by omega)) ?_) | (refine cw_exit ?_) | (refine cw_ret ?_)) | (refine is_qw ?_; first | (with_reducible refine qw_then ?_) | (with_reducible refine qw_in_hit ?_) | (with_reducible refine qw_then_exit ?_)) | (refine lw_nil ?_) | ((refine is_bin ?_; first | (refine lw_pure rfl (pv_lss rfl rfl) ?_))) | ((refine is_bi ?_; first | (refine lw_pure rfl (pv_lenl (tS rfl) rfl) ?_))))
      exact qw_ret1 rfl rfl ⟨⟨false, rfl, fun _ => ⟨by omega, fun x hx => by
        obtain ⟨j, hj⟩ := List.getElem?_of_mem hx
        exact hgd j x (List.getElem?_eq_some_iff.1 hj).1 hj⟩⟩, hw⟩
theorem load0 {cap : Int} (h : 0 ≤ cap) : loadD cap [] = (0, ⟨[], cap, -1, false⟩) := by
  unfold loadD
  rw [if_neg (by omega), if_neg (by simp [badF, SortF]), if_neg (by simp [usedF]; omega)]
set_option maxRecDepth 20000 in
theorem small_c {cap : Int} (h0 : 0 ≤ cap) (hcap : cap ≤ 9223372036854775807) (w : World) : Calls Tryd.prog 12 #[.int .i64 cap] w fun e w' => (∃ N B, e = .returned (.pointer (some ⟨N, 0, none⟩)) ∧ w.heap.size ≤ N ∧ w.heap.size ≤ B ∧ DkW w' N B ⟨[], cap, -1, false⟩) ∧ Below w.heap.size w w' := by
  have hw := Below.refl w.heap.size w
  refine fn_enter 11 Tryd.func12 rfl rfl rfl ?_
  repeat' (first | (refine lw_pure rfl (pv_move rfl) ?_) | (refine lw_pure rfl (pv_assign rfl) ?_) | (refine is_cw ?_; first | (refine cw_seq ?_) | (refine cw_region ?_)) | (refine is_qw ?_; first | (with_reducible refine qw_then ?_)) | (refine lw_nil ?_))
  refine lw_call (f := 40) (by kernel_rfl) rfl rfl (new_c hcap _) ?_; rintro e w2 ⟨hL, hb⟩
  rcases hL with ⟨h1, _⟩ | ⟨h1, N, B, rfl, hN, hB, hD⟩
  · rw [load0 h0] at h1; exact absurd rfl h1
  · refine ⟨_, rfl, ?_⟩
    have hs := hw.size
    replace hw := grow_trans hw hb
    repeat' (first | (refine lw_pure rfl (pv_move rfl) ?_) | (refine lw_pure rfl (pv_assign rfl) ?_) | (refine is_cw ?_; first | (refine cw_seq ?_) | (refine cw_region ?_) | (refine cw_ret ?_)) | (refine is_qw ?_; first | (with_reducible refine qw_then ?_)) | (refine lw_nil ?_) | (refine lw_pure rfl (pv_extract rfl rfl) ?_))
    exact qw_ret1 rfl rfl ⟨⟨N, B, rfl, Nat.le_trans hs hN, Nat.le_trans hs hB, hD⟩, hw⟩
set_option maxRecDepth 20000 in
theorem rfiles_c {xs ys : List Fil} {n m : Nat} {a b : Option Addr} {ca cb : Nat} {w : World} (hn : xs.length = n) (hm : ys.length = m) (HS : SlR encF 3 w a ca xs) (HT : SlR encF 3 w b cb ys) : Calls Tryd.prog 23 #[.slice a n ca, .slice b m cb] w fun e w' => e = .returned (.bool (decide (xs = ys))) ∧ Below w.heap.size w w' := by
  subst hn hm
  have hle := HS.le
  have hmx := HS.max
  have hle2 := HT.le
  have hmx2 := HT.max
  have hw := Below.refl w.heap.size w
  refine fn_enter 26 Tryd.func23 rfl rfl rfl ?_
  by_cases hl : xs.length = ys.length
  · repeat' (first | (refine lw_pure rfl (pv_move rfl) ?_) | (refine lw_pure rfl (pv_assign rfl) ?_) | (refine is_cw ?_; first | (refine cw_seq ?_) | (refine cw_region ?_) | (refine cw_false rfl (by first | assumption | exact decide_eq_false (by omega) | exact dec_notF (by omega)) ?_) | (refine cw_skip ?_) | (refine cw_block ?_)) | (refine is_qw ?_; first | (with_reducible refine qw_then ?_)) | (refine lw_nil ?_) | ((refine is_bin ?_; first | (refine lw_pure rfl (pv_neq rfl rfl) ?_))) | ((refine is_bi ?_; first | (refine lw_pure rfl (pv_lenl (tS rfl) rfl) ?_))))
    refine cw_loop (σ := Nat) (fun k => [(0, .slice a xs.length ca), (1, .slice b ys.length cb), (5, .int .i64 (k : Nat))]) (fun k wr => k ≤ xs.length ∧ Below w.heap.size w wr ∧ ∀ (j : Nat), j < k → xs[j]? = ys[j]?) (fun k => xs.length - k) 0 (by repeat' (first | exact trivial | refine ⟨rfl, ?_⟩)) ⟨Nat.zero_le _, hw, fun j hj => absurd hj (by omega)⟩ ?_
    clear hw
    rintro k wr ⟨hk, hw, hgd⟩
    by_cases hlt : k < xs.length
    · have hxk : xs[k]? = some xs[k] := List.getElem?_eq_getElem hlt
      have hyk : ys[k]? = some ys[k] := List.getElem?_eq_getElem (by omega)
      generalize xs[k] = f at hxk
      generalize ys[k] = g at hyk
      obtain ⟨ab, ao, rfl, -, -⟩ := HS.at (by intro h; rw [h] at hlt; simp at hlt)
      obtain ⟨bb, bo, rfl, -, -⟩ := HT.at (by intro h; rw [h] at hl; have h9 : xs.length = 0 := hl; omega)
      repeat' (first | (refine lw_pure rfl (pv_move rfl) ?_) | (refine is_cw ?_; first | (refine cw_seq ?_) | (refine cw_region ?_) | (refine cw_true rfl (by first | assumption | exact decide_eq_true (by omega) | exact dec_notT (by omega)) ?_) | (refine cw_skip ?_) | (refine cw_block ?_)) | (refine is_qw ?_; first | (with_reducible refine qw_then ?_)) | (refine lw_nil ?_) | ((refine is_bin ?_; first | (refine lw_pure rfl (pv_lss rfl rfl) ?_))) | ((refine is_bi ?_; first | (refine lw_pure rfl (pv_lenl (tS rfl) rfl) ?_))))
      by_cases hfg : f = g
      · have hE : (!decide (f = g)) = false := by rw [decide_eq_true hfg]; rfl
        have hw0 := hw
        replace HS := HS.mono hw
        replace HT := HT.mono hw
        clear hw
        have hw := Below.refl wr.heap.size wr
        refine cw_drawn (fun w' => Below wr.heap.size wr w') (by kernel_rfl) (by repeat (first | exact NoPanic.body | with_reducible refine NoPanic.then ?_ | with_reducible refine NoPanic.inBlock ?_)) (fun hNP => ?_)
        have hS := hw.drew
        (refine at0 0 rfl (fun w' hq => pv_move rfl) ?_)
        (refine at0 1 rfl (fun w' hq => pv_move rfl) ?_)
        (refine at0 2 rfl (fun w' hq => pv_ian (tS rfl) rfl rfl (by omega)) ?_)
        (refine at0 3 rfl (fun w' hq => pv_loada (tA rfl) rfl (by first | exact SlR.lda (HS.mono hq) hxk | exact SlR.lda (HT.mono hq) hyk) (by rfl)) ?_)
        (refine at0 4 rfl (fun w' hq => pv_move rfl) ?_)
        (refine at0 5 rfl (fun w' hq => pv_move rfl) ?_)
        (refine at0 6 rfl (fun w' hq => pv_ian (tS rfl) rfl rfl (by omega)) ?_)
        (refine at0 7 rfl (fun w' hq => pv_loada (tA rfl) rfl (by first | exact SlR.lda (HS.mono hq) hxk | exact SlR.lda (HT.mono hq) hyk) (by rfl)) ?_)
        (refine at0 8 rfl (fun w' hq => pv_neqF f g rfl rfl) ?_)
        refine aw_done (by kernel_rfl) ?_
        replace hw := hS; clear hS hNP
        repeat' (first | (refine lw_pure rfl (pv_move rfl) ?_) | (refine lw_pure rfl (pv_assign rfl) ?_) | (refine is_cw ?_; first | (refine cw_region ?_) | (refine cw_false rfl (by first | assumption | exact decide_eq_false (by omega) | exact dec_notF (by omega)) ?_) | (refine cw_skip ?_)) | (refine is_qw ?_; first | (with_reducible refine qw_then ?_) | (with_reducible refine qw_in ?_)) | (refine lw_nil ?_) | ((refine is_bin ?_; first | (refine lw_pure rfl (pv_inc rfl rfl (by omega)) ?_))))
        exact qw_round (k + 1) (by repeat' (first | exact trivial | refine ⟨rfl, ?_⟩)) ⟨by omega, grow_trans hw0 hw, fun j hj => by
          rcases Nat.lt_succ_iff_lt_or_eq.1 hj with h1 | rfl
          · exact hgd j h1
          · rw [hxk, hyk, hfg]⟩ (by omega)
      · have hE : (!decide (f = g)) = true := by rw [decide_eq_false hfg]; rfl
        have hw0 := hw
        replace HS := HS.mono hw
        replace HT := HT.mono hw
        clear hw
        have hw := Below.refl wr.heap.size wr
        refine cw_drawn (fun w' => Below wr.heap.size wr w') (by kernel_rfl) (by repeat (first | exact NoPanic.body | with_reducible refine NoPanic.then ?_ | with_reducible refine NoPanic.inBlock ?_)) (fun hNP => ?_)
        have hS := hw.drew
        (refine at0 0 rfl (fun w' hq => pv_move rfl) ?_)
        (refine at0 1 rfl (fun w' hq => pv_move rfl) ?_)
        (refine at0 2 rfl (fun w' hq => pv_ian (tS rfl) rfl rfl (by omega)) ?_)
        (refine at0 3 rfl (fun w' hq => pv_loada (tA rfl) rfl (by first | exact SlR.lda (HS.mono hq) hxk | exact SlR.lda (HT.mono hq) hyk) (by rfl)) ?_)
        (refine at0 4 rfl (fun w' hq => pv_move rfl) ?_)
        (refine at0 5 rfl (fun w' hq => pv_move rfl) ?_)
        (refine at0 6 rfl (fun w' hq => pv_ian (tS rfl) rfl rfl (by omega)) ?_)
        (refine at0 7 rfl (fun w' hq => pv_loada (tA rfl) rfl (by first | exact SlR.lda (HS.mono hq) hxk | exact SlR.lda (HT.mono hq) hyk) (by rfl)) ?_)
        (refine at0 8 rfl (fun w' hq => pv_neqF f g rfl rfl) ?_)
        refine aw_done (by kernel_rfl) ?_
        replace hw := hS; clear hS hNP
        repeat' (first | (refine lw_pure rfl (pv_assign rfl) ?_) | (refine is_cw ?_; first | (refine cw_seq ?_) | (refine cw_region ?_) | (refine cw_true rfl (by first | assumption | exact decide_eq_true (by omega) | exact dec_notT (by omega)) ?_) | (refine cw_ret ?_)) | (refine is_qw ?_; first | (with_reducible refine qw_then ?_) | (with_reducible refine qw_then_ret ?_) | (with_reducible refine qw_in_ret ?_)) | (refine lw_nil ?_))
        have hne : ¬ xs = ys := fun e => hfg (by rw [e, hyk] at hxk; injection hxk with h; exact h.symm)
        exact qw_ret1 rfl rfl ⟨by rw [decide_eq_false hne], grow_trans hw0 hw⟩
    · have hkl : k = xs.length := by omega
      subst hkl
      repeat' (first | (refine lw_pure rfl (pv_move rfl) ?_) | (refine lw_pure rfl (pv_assign rfl) ?_) | (refine is_cw ?_; first | (refine cw_seq ?_) | (refine cw_region ?_) | (refine cw_false rfl (by first | assumption | exact decide_eq_false (by omega) | exact dec_notF (by omega)) ?_) | (refine cw_exit ?_) | (refine cw_ret ?_)) | (refine is_qw ?_; first | (with_reducible refine qw_then ?_) | (with_reducible refine qw_in_hit ?_) | (with_reducible refine qw_then_exit ?_)) | (refine lw_nil ?_) | ((refine is_bin ?_; first | (refine lw_pure rfl (pv_lss rfl rfl) ?_))) | ((refine is_bi ?_; first | (refine lw_pure rfl (pv_lenl (tS rfl) rfl) ?_))))
      have he : xs = ys := List.ext_getElem? fun j => by
        by_cases hj : j < xs.length
        · exact hgd j hj
        · rw [List.getElem?_eq_none (by omega), List.getElem?_eq_none (by omega)]
      exact qw_ret1 rfl rfl ⟨by rw [decide_eq_true he], hw⟩
  · repeat' (first | (refine lw_pure rfl (pv_move rfl) ?_) | (refine lw_pure rfl (pv_assign rfl) ?_) | (refine is_cw ?_; first | (refine cw_seq ?_) | (refine cw_region ?_) | (refine cw_true rfl (by first | assumption | exact decide_eq_true (by omega) | exact dec_notT (by omega)) ?_) | (refine cw_ret ?_)) | (refine is_qw ?_; first | (with_reducible refine qw_then ?_) | (with_reducible refine qw_then_ret ?_)) | (refine lw_nil ?_) | ((refine is_bin ?_; first | (refine lw_pure rfl (pv_neq rfl rfl) ?_))) | ((refine is_bi ?_; first | (refine lw_pure rfl (pv_lenl (tS rfl) rfl) ?_))))
    have hne : ¬ xs = ys := fun e => hl (by rw [e])
    exact qw_ret1 rfl rfl ⟨by rw [decide_eq_false hne], hw⟩
set_option maxRecDepth 20000 in
theorem one_c {w : World} {N B : Nat} {d : Dsk} (h : DkW w N B d) (n p q : ByteArray) : Calls Tryd.prog 41 #[.pointer (some ⟨N, 0, none⟩), .string n, .string p, .string q] w fun e w' => e = .returned (.bool (decide (d.fs = [⟨n, p, q⟩]))) ∧ Below w.heap.size w w' := by
  have hct := h.ok.cnt
  have hw := Below.refl w.heap.size w
  refine fn_enter 25 Tryd.func41 rfl rfl rfl ?_
  repeat' (first | (refine lw_pure rfl (pv_move rfl) ?_) | (refine lw_pure rfl (pv_assign rfl) ?_) | (refine is_cw ?_; first | (refine cw_seq ?_) | (refine cw_region ?_)) | (refine is_qw ?_; first | (with_reducible refine qw_then ?_)) | (refine lw_nil ?_))
  refine lw_call (f := 13) (by kernel_rfl) rfl rfl (files_c (h.mono hw)) ?_; rintro e w2 ⟨⟨v, rfl, hO⟩, hb⟩; refine ⟨_, rfl, ?_⟩
  replace hw := grow_trans hw hb
  clear hb
  obtain ⟨na, nc, rfl, HN, -⟩ := Own.slR encF_len hO
  have hw0 := hw
  clear hw
  have hw := Below.refl w2.heap.size w2
  by_cases hl : d.fs.length = 1
  · obtain ⟨f, hf⟩ : ∃ f, d.fs = [f] := by
      match hd : d.fs, hl with
      | [f], _ => exact ⟨f, rfl⟩
    have h0 : d.fs[0]? = some f := by rw [hf]; rfl
    obtain ⟨ab, ao, rfl, -, -⟩ := HN.at (by rw [hf]; simp)
    repeat' (first | (refine lw_pure rfl (pv_move rfl) ?_) | (refine lw_pure rfl (pv_assign rfl) ?_) | (refine is_cw ?_; first | (refine cw_seq ?_) | (refine cw_region ?_) | (refine cw_ret ?_)) | (refine is_qw ?_; first | (with_reducible refine qw_then ?_)) | (refine lw_nil ?_) | (refine is_guarded ?_; first | (refine lw_on rfl rfl (by first | assumption | exact decide_eq_true (by omega) | exact decide_eq_false (by omega) | exact dec_notT (by omega) | exact dec_notF (by omega)) ?_)) | ((refine is_bin ?_; first | (refine lw_pure rfl (pv_eqlF f (⟨n, p, q⟩ : Fil) rfl rfl) ?_) | (refine lw_pure rfl (pv_eql rfl rfl) ?_))) | ((refine is_load ?_; first | (refine lw_pure rfl (pv_loada (tA rfl) rfl (by first | exact SlR.lda (HN.mono hw) h0) (by rfl)) ?_))) | ((refine is_ia ?_; first | (refine lw_pure rfl (pv_ia (tS rfl) rfl rfl (by omega)) ?_))) | ((refine is_bi ?_; first | (refine lw_pure rfl (pv_lenl (tS rfl) rfl) ?_))) | ((refine is_bd ?_; first | (refine lw_pure rfl (tyB_35 rfl rfl rfl) ?_))) | (refine lw_pure rfl (pv_pick_t rfl (by first | assumption | exact decide_eq_true (by omega) | exact dec_notT (by omega)) rfl) ?_))
    exact qw_ret1 rfl rfl ⟨by rw [hf, show decide ([f] = [⟨n, p, q⟩]) = decide (f = ⟨n, p, q⟩) from by rw [decide_eq_decide]; simp], grow_trans hw0 hw⟩
  · repeat' (first | (refine lw_pure rfl (pv_move rfl) ?_) | (refine lw_pure rfl (pv_assign rfl) ?_) | (refine is_cw ?_; first | (refine cw_seq ?_) | (refine cw_region ?_) | (refine cw_ret ?_)) | (refine is_qw ?_; first | (with_reducible refine qw_then ?_)) | (refine lw_nil ?_) | (refine is_guarded ?_; first | (refine lw_not rfl rfl rfl (by first | assumption | exact decide_eq_true (by omega) | exact decide_eq_false (by omega) | exact dec_notT (by omega) | exact dec_notF (by omega)) ?_)) | ((refine is_bin ?_; first | (refine lw_pure rfl (pv_eql rfl rfl) ?_))) | ((refine is_bi ?_; first | (refine lw_pure rfl (pv_lenl (tS rfl) rfl) ?_))) | (refine lw_pure rfl (pv_pick_f rfl (by first | assumption | exact decide_eq_false (by omega) | exact dec_notF (by omega)) rfl) ?_))
    have hne : ¬ d.fs = [⟨n, p, q⟩] := fun e => hl (by rw [e]; rfl)
    exact qw_ret1 rfl rfl ⟨by rw [decide_eq_false hne], grow_trans hw0 hw⟩
set_option maxRecDepth 20000 in
theorem lbytes_c {f : Fil} (h : szF f ≤ 9223372036854775807) (w : World) : Calls Tryd.prog 16 #[.agg (encF f).toArray] w fun e w' => e = .returned (.string (f.firm ++ f.pend)) ∧ Below w.heap.size w w' := by
  have hc : f.firm.size + f.pend.size ≤ 9223372036854775807 := h
  have hE := Ext.refl w
  have hw := Below.refl w.heap.size w
  refine fn_enter 8 Tryd.func16 rfl rfl rfl ?_
  repeat' (first | (refine is_cw ?_; first | (refine cw_seq ?_) | (refine cw_region ?_)))
  refine lw_boxN rfl rfl (cs := encF f) rfl ?_; intro N1 w1 hN1 HV hb
  replace hw := grow_trans hw hb
  clear hb
  replace hE := hE.mono hw; clear hw; have hw := Below.refl w1.heap.size w1
  repeat' (first | (refine lw_pure rfl (pv_assign rfl) ?_) | (refine is_cw ?_; first | (refine cw_seq ?_) | (refine cw_region ?_) | (refine cw_ret ?_)) | (refine is_qw ?_; first | (with_reducible refine qw_then ?_)) | (refine lw_nil ?_) | ((refine is_bin ?_; first | (refine lw_pure rfl (pv_cat rfl rfl hc) ?_))) | ((refine is_load ?_; first | (refine lw_pure rfl (pv_load (t1 rfl) rfl (by first | exact PT.ld0 (HV.mono hw) rfl | exact PT.ld (HV.mono hw) rfl)) ?_))) | ((refine is_fa ?_; first | (refine lw_pure rfl (pv_fa (tF rfl) rfl) ?_))))
  exact qw_ret1 rfl rfl ⟨rfl, (hE.mono hw).b⟩
set_option maxRecDepth 20000 in
theorem lfind_c {xs : List Fil} {n : Nat} {a : Option Addr} {ca : Nat} {w : World} (hn : xs.length = n) (HS : SlR encF 3 w a ca xs) (s : ByteArray) : Calls Tryd.prog 15 #[.slice a n ca, .string s] w fun e w' => e = .returned (.tuple #[.agg (encF ((getF xs s).getD ⟨emptyB, emptyB, emptyB⟩)).toArray, .bool (getF xs s).isSome]) ∧ Below w.heap.size w w' := by
  subst hn
  have hle := HS.le
  have hmx := HS.max
  have hw := Below.refl w.heap.size w
  refine fn_enter 25 Tryd.func15 rfl rfl rfl ?_
  repeat' (first | (refine is_cw ?_; first | (refine cw_seq ?_) | (refine cw_region ?_)))
  refine lw_allocN rfl (by first | exact tyv_28 | exact tyv_29 | exact tyv_34 | exact tyv_35 | exact tyv_43 | exact tyv_44 | exact tyv_77 | exact tyv_78 | exact tyv_80 | exact tyv_81 | exact tyv_86 | exact tyv_87 | exact tyv_126 | exact tyv_127) rfl ?_; intro N4 w4 hN4 H4 hb
  replace hw := grow_trans hw hb
  clear hb
  have hw0 := hw
  replace HS := HS.mono hw; clear hw; have hw := Below.refl w4.heap.size w4
  repeat' (first | (refine lw_pure rfl (pv_assign rfl) ?_) | (refine is_cw ?_; first | (refine cw_seq ?_) | (refine cw_region ?_) | (refine cw_block ?_)) | (refine is_qw ?_; first | (with_reducible refine qw_then ?_)) | (refine lw_nil ?_))
  refine cw_loop (σ := Nat) (fun k => [(0, .slice a xs.length ca), (1, .string s), (4, .pointer (some ⟨N4, 0, none⟩)), (5, .bool false), (6, .int .i64 (k : Nat))]) (fun k wr => k ≤ xs.length ∧ Below w4.heap.size w4 wr ∧ ∀ f ∈ xs.take k, f.name ≠ s) (fun k => xs.length - k) 0 (by repeat' (first | exact trivial | refine ⟨rfl, ?_⟩)) ⟨Nat.zero_le _, hw, fun f hf => by simp at hf⟩ ?_
  clear hw
  rintro k wr ⟨hk, hw, hgd⟩
  by_cases hlt : k < xs.length
  · have hxk : xs[k]? = some xs[k] := List.getElem?_eq_getElem hlt
    generalize xs[k] = f at hxk
    obtain ⟨ab, ao, rfl, -, -⟩ := HS.at (by intro h; rw [h] at hlt; simp at hlt)
    by_cases hfs : f.name = s
    · have hE : decide (f.name = s) = true := decide_eq_true hfs
      have hg : getF xs s = some f := by
        unfold getF
        rw [← List.take_append_drop k xs, List.find?_append, List.find?_eq_none.2 (fun g hg => by simpa using hgd g hg), List.drop_eq_getElem_cons hlt]
        obtain ⟨_, h9⟩ := List.getElem?_eq_some_iff.1 hxk
        rw [h9, List.find?_cons_of_pos (by simpa using hfs)]; rfl
      rw [hg]
      repeat' (first | (refine lw_pure rfl (pv_move rfl) ?_) | (refine is_cw ?_; first | (refine cw_seq ?_) | (refine cw_region ?_) | (refine cw_true rfl (by first | assumption | exact decide_eq_true (by omega) | exact dec_notT (by omega)) ?_) | (refine cw_skip ?_) | (refine cw_block ?_)) | (refine is_qw ?_; first | (with_reducible refine qw_then ?_)) | (refine lw_nil ?_) | ((refine is_bin ?_; first | (refine lw_pure rfl (pv_lss rfl rfl) ?_) | (refine lw_pure rfl (pv_seqlD rfl rfl) ?_))) | ((refine is_load ?_; first | (refine lw_pure rfl (pv_load (t1 rfl) rfl (by first | exact SlR.ld (HS.mono hw) hxk rfl | exact SlR.ld1 (HS.mono hw) hxk rfl)) ?_) | (refine lw_pure rfl (pv_loada (tA rfl) rfl (by first | exact SlR.lda (HS.mono hw) hxk) (by rfl)) ?_))) | ((refine is_fa ?_; first | (refine lw_pure rfl (pv_fa (tF rfl) rfl) ?_))) | ((refine is_ia ?_; first | (refine lw_pure rfl (pv_ian (tS rfl) rfl rfl (by omega)) ?_))) | ((refine is_bi ?_; first | (refine lw_pure rfl (pv_lenl (tS rfl) rfl) ?_))))
      refine lw_storea (vs := encF f) (H4.mono hw) (tZ rfl) rfl rfl rfl rfl (encF_one f) ?_; intro w5 H5 hg5 hz5
      replace hw := st_hw (grow_trans hw0 hw) hg5 hN4
      repeat' (first | (refine lw_pure rfl (pv_assign rfl) ?_) | (refine is_cw ?_; first | (refine cw_ret ?_)) | (refine is_qw ?_; first | (with_reducible refine qw_then ?_) | (with_reducible refine qw_then_ret ?_) | (with_reducible refine qw_in_ret ?_)) | (refine lw_nil ?_))
      exact qw_retct rfl rfl rfl (agg_ld (tA rfl) rfl (fun i u hu => H5.ld0 hu)) ⟨rfl, hw⟩
    · have hE : decide (f.name = s) = false := decide_eq_false hfs
      repeat' (first | (refine lw_pure rfl (pv_move rfl) ?_) | (refine lw_pure rfl (pv_assign rfl) ?_) | (refine is_cw ?_; first | (refine cw_seq ?_) | (refine cw_region ?_) | (refine cw_true rfl (by first | assumption | exact decide_eq_true (by omega) | exact dec_notT (by omega)) ?_) | (refine cw_false rfl (by first | assumption | exact decide_eq_false (by omega) | exact dec_notF (by omega)) ?_) | (refine cw_skip ?_) | (refine cw_block ?_)) | (refine is_qw ?_; first | (with_reducible refine qw_then ?_) | (with_reducible refine qw_in ?_)) | (refine lw_nil ?_) | ((refine is_bin ?_; first | (refine lw_pure rfl (pv_lss rfl rfl) ?_) | (refine lw_pure rfl (pv_inc rfl rfl (by omega)) ?_) | (refine lw_pure rfl (pv_seqlD rfl rfl) ?_))) | ((refine is_load ?_; first | (refine lw_pure rfl (pv_load (t1 rfl) rfl (by first | exact SlR.ld (HS.mono hw) hxk rfl | exact SlR.ld1 (HS.mono hw) hxk rfl)) ?_))) | ((refine is_fa ?_; first | (refine lw_pure rfl (pv_fa (tF rfl) rfl) ?_))) | ((refine is_ia ?_; first | (refine lw_pure rfl (pv_ian (tS rfl) rfl rfl (by omega)) ?_))) | ((refine is_bi ?_; first | (refine lw_pure rfl (pv_lenl (tS rfl) rfl) ?_))))
      exact qw_round (k + 1) (by repeat' (first | exact trivial | refine ⟨rfl, ?_⟩)) ⟨by omega, hw, fun g hg => by
        rw [List.take_add_one, hxk] at hg
        rcases List.mem_append.1 hg with h1 | h1
        · exact hgd g h1
        · simp at h1; subst h1; exact hfs⟩ (by omega)
  · have hkl : k = xs.length := by omega
    subst hkl
    rw [List.take_length] at hgd
    rw [getF_none.2 hgd]
    repeat' (first | (refine lw_pure rfl (pv_move rfl) ?_) | (refine is_cw ?_; first | (refine cw_seq ?_) | (refine cw_region ?_) | (refine cw_false rfl (by first | assumption | exact decide_eq_false (by omega) | exact dec_notF (by omega)) ?_) | (refine cw_exit ?_)) | (refine is_qw ?_; first | (with_reducible refine qw_then ?_) | (with_reducible refine qw_in_hit ?_) | (with_reducible refine qw_then_exit ?_)) | (refine lw_nil ?_) | ((refine is_bin ?_; first | (refine lw_pure rfl (pv_lss rfl rfl) ?_))) | ((refine is_bi ?_; first | (refine lw_pure rfl (pv_lenl (tS rfl) rfl) ?_))) | ((refine is_bd ?_; first | (refine lw_pure rfl (tyB_35 rfl rfl rfl) ?_))))
    refine lw_storea (vs := [.string emptyB, .string emptyB, .string emptyB]) (H4.mono hw) (tZ rfl) rfl rfl rfl rfl (by intro v hv; simp at hv; subst hv; rfl) ?_; intro w5 H5 hg5 hz5
    replace hw := st_hw (grow_trans hw0 hw) hg5 hN4
    repeat' (first | (refine lw_pure rfl (pv_assign rfl) ?_) | (refine is_cw ?_; first | (refine cw_ret ?_)) | (refine is_qw ?_; first | (with_reducible refine qw_then ?_)) | (refine lw_nil ?_))
    exact qw_retct rfl rfl rfl (agg_ld (tA rfl) rfl (fun i u hu => H5.ld0 hu)) ⟨rfl, hw⟩
set_option maxRecDepth 20000 in
theorem act_c {w : World} {N B : Nat} {d : Dsk} {x : OpC} (h : DkW w N B d) (hs : OpS x) : Calls Tryd.prog 14 #[.agg (encQ x).toArray, .pointer (some ⟨N, 0, none⟩)] w fun e w' => e = .returned (.int .i64 (actD (opOf x) d).1) ∧ DkW w' N B (actD (opOf x) d).2 ∧ Gw N B w w' := by
  have h1 : x.name.size ≤ 9223372036854775807 := by have := hs.name; omega
  have h2 : x.to.size ≤ 9223372036854775807 := by have := hs.to; omega
  have hw := Below.refl w.heap.size w
  refine fn_enter 47 Tryd.func14 rfl rfl rfl ?_
  repeat' (first | (refine is_cw ?_; first | (refine cw_seq ?_) | (refine cw_region ?_)))
  refine lw_boxN rfl rfl (cs := encQ x) rfl ?_; intro N2 w2 hN2 HV hb
  replace hw := grow_trans hw hb
  clear hb
  have hw0 := hw
  replace h := h.mono hw; clear hw; have hw := Below.refl w2.heap.size w2
  by_cases k0 : x.kind = 0
  · rw [show actD (opOf x) d = createD d x.name from by unfold actD; rw [if_pos (show (opOf x).kind = 0 from k0)]; rfl]
    repeat' (first | (refine lw_pure rfl (pv_move rfl) ?_) | (refine lw_pure rfl (pv_assign rfl) ?_) | (refine is_cw ?_; first | (refine cw_seq ?_) | (refine cw_region ?_) | (refine cw_true rfl (by first | assumption | exact decide_eq_true (by omega) | exact dec_notT (by omega)) ?_) | (refine cw_block ?_)) | (refine is_qw ?_; first | (with_reducible refine qw_then ?_)) | (refine lw_nil ?_) | ((refine is_bin ?_; first | (refine lw_pure rfl (pv_eql rfl rfl) ?_))) | ((refine is_load ?_; first | (refine lw_pure rfl (pv_load (t1 rfl) rfl (by first | exact PT.ld0 (HV.mono hw) rfl | exact PT.ld (HV.mono hw) rfl)) ?_))) | ((refine is_fa ?_; first | (refine lw_pure rfl (pv_fa (tF rfl) rfl) ?_))))
    refine lw_call (f := 35) (by kernel_rfl) rfl rfl (create_c (h.mono hw) h1) ?_; rintro e w3 ⟨rfl, hD, hG⟩; refine ⟨_, rfl, ?_⟩
    replace hG := (Gw.of_below (grow_trans hw0 hw)).trans hG
    clear hw; have hw := Below.refl w3.heap.size w3
    repeat' (first | (refine lw_pure rfl (pv_assign rfl) ?_) | (refine is_cw ?_; first | (refine cw_ret ?_)) | (refine is_qw ?_; first | (with_reducible refine qw_then ?_) | (with_reducible refine qw_then_ret ?_) | (with_reducible refine qw_in_ret ?_)) | (refine lw_nil ?_))
    exact qw_ret1 rfl rfl ⟨rfl, hD, hG⟩
  by_cases k1 : x.kind = 1
  · rw [show actD (opOf x) d = appendD d x.name x.bytes from by unfold actD; rw [if_neg (show ¬ (opOf x).kind = 0 from k0), if_pos (show (opOf x).kind = 1 from k1)]; rfl]
    repeat' (first | (refine lw_pure rfl (pv_move rfl) ?_) | (refine lw_pure rfl (pv_assign rfl) ?_) | (refine is_cw ?_; first | (refine cw_seq ?_) | (refine cw_region ?_) | (refine cw_true rfl (by first | assumption | exact decide_eq_true (by omega) | exact dec_notT (by omega)) ?_) | (refine cw_false rfl (by first | assumption | exact decide_eq_false (by omega) | exact dec_notF (by omega)) ?_) | (refine cw_block ?_)) | (refine is_qw ?_; first | (with_reducible refine qw_then ?_)) | (refine lw_nil ?_) | ((refine is_bin ?_; first | (refine lw_pure rfl (pv_eql rfl rfl) ?_))) | ((refine is_load ?_; first | (refine lw_pure rfl (pv_load (t1 rfl) rfl (by first | exact PT.ld0 (HV.mono hw) rfl | exact PT.ld (HV.mono hw) rfl)) ?_))) | ((refine is_fa ?_; first | (refine lw_pure rfl (pv_fa (tF rfl) rfl) ?_))))
    refine lw_call (f := 34) (by kernel_rfl) rfl rfl (append_c (h.mono hw) h1) ?_; rintro e w3 ⟨rfl, hD, hG⟩; refine ⟨_, rfl, ?_⟩
    replace hG := (Gw.of_below (grow_trans hw0 hw)).trans hG
    clear hw; have hw := Below.refl w3.heap.size w3
    repeat' (first | (refine lw_pure rfl (pv_assign rfl) ?_) | (refine is_cw ?_; first | (refine cw_ret ?_)) | (refine is_qw ?_; first | (with_reducible refine qw_then ?_) | (with_reducible refine qw_then_ret ?_) | (with_reducible refine qw_in_ret ?_)) | (refine lw_nil ?_))
    exact qw_ret1 rfl rfl ⟨rfl, hD, hG⟩
  by_cases k2 : x.kind = 2
  · rw [show actD (opOf x) d = syncD d x.name from by unfold actD; rw [if_neg (show ¬ (opOf x).kind = 0 from k0), if_neg (show ¬ (opOf x).kind = 1 from k1), if_pos (show (opOf x).kind = 2 from k2)]; rfl]
    repeat' (first | (refine lw_pure rfl (pv_move rfl) ?_) | (refine lw_pure rfl (pv_assign rfl) ?_) | (refine is_cw ?_; first | (refine cw_seq ?_) | (refine cw_region ?_) | (refine cw_true rfl (by first | assumption | exact decide_eq_true (by omega) | exact dec_notT (by omega)) ?_) | (refine cw_false rfl (by first | assumption | exact decide_eq_false (by omega) | exact dec_notF (by omega)) ?_) | (refine cw_block ?_)) | (refine is_qw ?_; first | (with_reducible refine qw_then ?_)) | (refine lw_nil ?_) | ((refine is_bin ?_; first | (refine lw_pure rfl (pv_eql rfl rfl) ?_))) | ((refine is_load ?_; first | (refine lw_pure rfl (pv_load (t1 rfl) rfl (by first | exact PT.ld0 (HV.mono hw) rfl | exact PT.ld (HV.mono hw) rfl)) ?_))) | ((refine is_fa ?_; first | (refine lw_pure rfl (pv_fa (tF rfl) rfl) ?_))))
    refine lw_call (f := 36) (by kernel_rfl) rfl rfl (sync_c (h.mono hw) h1) ?_; rintro e w3 ⟨rfl, hD, hG⟩; refine ⟨_, rfl, ?_⟩
    replace hG := (Gw.of_below (grow_trans hw0 hw)).trans hG
    clear hw; have hw := Below.refl w3.heap.size w3
    repeat' (first | (refine lw_pure rfl (pv_assign rfl) ?_) | (refine is_cw ?_; first | (refine cw_ret ?_)) | (refine is_qw ?_; first | (with_reducible refine qw_then ?_) | (with_reducible refine qw_then_ret ?_) | (with_reducible refine qw_in_ret ?_)) | (refine lw_nil ?_))
    exact qw_ret1 rfl rfl ⟨rfl, hD, hG⟩
  by_cases k3 : x.kind = 3
  · rw [show actD (opOf x) d = trimD d x.name x.n from by unfold actD; rw [if_neg (show ¬ (opOf x).kind = 0 from k0), if_neg (show ¬ (opOf x).kind = 1 from k1), if_neg (show ¬ (opOf x).kind = 2 from k2), if_pos (show (opOf x).kind = 3 from k3)]; rfl]
    repeat' (first | (refine lw_pure rfl (pv_move rfl) ?_) | (refine lw_pure rfl (pv_assign rfl) ?_) | (refine is_cw ?_; first | (refine cw_seq ?_) | (refine cw_region ?_) | (refine cw_true rfl (by first | assumption | exact decide_eq_true (by omega) | exact dec_notT (by omega)) ?_) | (refine cw_false rfl (by first | assumption | exact decide_eq_false (by omega) | exact dec_notF (by omega)) ?_) | (refine cw_block ?_)) | (refine is_qw ?_; first | (with_reducible refine qw_then ?_)) | (refine lw_nil ?_) | ((refine is_bin ?_; first | (refine lw_pure rfl (pv_eql rfl rfl) ?_))) | ((refine is_load ?_; first | (refine lw_pure rfl (pv_load (t1 rfl) rfl (by first | exact PT.ld0 (HV.mono hw) rfl | exact PT.ld (HV.mono hw) rfl)) ?_))) | ((refine is_fa ?_; first | (refine lw_pure rfl (pv_fa (tF rfl) rfl) ?_))))
    refine lw_call (f := 37) (by kernel_rfl) rfl rfl (dtrim_c (h.mono hw) h1 _) ?_; rintro e w3 ⟨rfl, hD, hG⟩; refine ⟨_, rfl, ?_⟩
    replace hG := (Gw.of_below (grow_trans hw0 hw)).trans hG
    clear hw; have hw := Below.refl w3.heap.size w3
    repeat' (first | (refine lw_pure rfl (pv_assign rfl) ?_) | (refine is_cw ?_; first | (refine cw_ret ?_)) | (refine is_qw ?_; first | (with_reducible refine qw_then ?_) | (with_reducible refine qw_then_ret ?_) | (with_reducible refine qw_in_ret ?_)) | (refine lw_nil ?_))
    exact qw_ret1 rfl rfl ⟨rfl, hD, hG⟩
  by_cases k4 : x.kind = 4
  · rw [show actD (opOf x) d = renameD d x.name x.to from by unfold actD; rw [if_neg (show ¬ (opOf x).kind = 0 from k0), if_neg (show ¬ (opOf x).kind = 1 from k1), if_neg (show ¬ (opOf x).kind = 2 from k2), if_neg (show ¬ (opOf x).kind = 3 from k3), if_pos (show (opOf x).kind = 4 from k4)]; rfl]
    repeat' (first | (refine lw_pure rfl (pv_move rfl) ?_) | (refine lw_pure rfl (pv_assign rfl) ?_) | (refine is_cw ?_; first | (refine cw_seq ?_) | (refine cw_region ?_) | (refine cw_true rfl (by first | assumption | exact decide_eq_true (by omega) | exact dec_notT (by omega)) ?_) | (refine cw_false rfl (by first | assumption | exact decide_eq_false (by omega) | exact dec_notF (by omega)) ?_) | (refine cw_block ?_)) | (refine is_qw ?_; first | (with_reducible refine qw_then ?_)) | (refine lw_nil ?_) | ((refine is_bin ?_; first | (refine lw_pure rfl (pv_eql rfl rfl) ?_))) | ((refine is_load ?_; first | (refine lw_pure rfl (pv_load (t1 rfl) rfl (by first | exact PT.ld0 (HV.mono hw) rfl | exact PT.ld (HV.mono hw) rfl)) ?_))) | ((refine is_fa ?_; first | (refine lw_pure rfl (pv_fa (tF rfl) rfl) ?_))))
    refine lw_call (f := 38) (by kernel_rfl) rfl rfl (rename_c (h.mono hw) h1 h2) ?_; rintro e w3 ⟨rfl, hD, hG⟩; refine ⟨_, rfl, ?_⟩
    replace hG := (Gw.of_below (grow_trans hw0 hw)).trans hG
    clear hw; have hw := Below.refl w3.heap.size w3
    repeat' (first | (refine lw_pure rfl (pv_assign rfl) ?_) | (refine is_cw ?_; first | (refine cw_ret ?_)) | (refine is_qw ?_; first | (with_reducible refine qw_then ?_) | (with_reducible refine qw_then_ret ?_) | (with_reducible refine qw_in_ret ?_)) | (refine lw_nil ?_))
    exact qw_ret1 rfl rfl ⟨rfl, hD, hG⟩
  rw [show actD (opOf x) d = deleteD d x.name from by unfold actD; rw [if_neg (show ¬ (opOf x).kind = 0 from k0), if_neg (show ¬ (opOf x).kind = 1 from k1), if_neg (show ¬ (opOf x).kind = 2 from k2), if_neg (show ¬ (opOf x).kind = 3 from k3), if_neg (show ¬ (opOf x).kind = 4 from k4)]; rfl]
  repeat' (first | (refine lw_pure rfl (pv_move rfl) ?_) | (refine lw_pure rfl (pv_assign rfl) ?_) | (refine is_cw ?_; first | (refine cw_seq ?_) | (refine cw_region ?_) | (refine cw_false rfl (by first | assumption | exact decide_eq_false (by omega) | exact dec_notF (by omega)) ?_) | (refine cw_skip ?_) | (refine cw_block ?_)) | (refine is_qw ?_; first | (with_reducible refine qw_then ?_) | (with_reducible refine qw_in ?_)) | (refine lw_nil ?_) | ((refine is_bin ?_; first | (refine lw_pure rfl (pv_eql rfl rfl) ?_))) | ((refine is_load ?_; first | (refine lw_pure rfl (pv_load (t1 rfl) rfl (by first | exact PT.ld0 (HV.mono hw) rfl | exact PT.ld (HV.mono hw) rfl)) ?_))) | ((refine is_fa ?_; first | (refine lw_pure rfl (pv_fa (tF rfl) rfl) ?_))))
  refine lw_call (f := 39) (by kernel_rfl) rfl rfl (delete_c (h.mono hw) h1) ?_; rintro e w3 ⟨rfl, hD, hG⟩; refine ⟨_, rfl, ?_⟩
  replace hG := (Gw.of_below (grow_trans hw0 hw)).trans hG
  clear hw; have hw := Below.refl w3.heap.size w3
  repeat' (first | (refine lw_pure rfl (pv_assign rfl) ?_) | (refine is_cw ?_; first | (refine cw_ret ?_)) | (refine is_qw ?_; first | (with_reducible refine qw_then ?_)) | (refine lw_nil ?_))
  exact qw_ret1 rfl rfl ⟨rfl, hD, hG⟩
end Go.Proofs.YtncicecmhibpcaaDoor
namespace Go.Proofs.YtncicecmhibpcaaDoor
open Go.ChangeShapes Go.WideShapes Go.ChangeAt Go.RowKit Go.Deep Go.WideElems Go.Joins
section
variable {H : Type} {enc : TypeId × Value → H} {W : World} {base : Nat} {sp : Nat → Bool} {held : Bool} {b0 : Nat} {v : Value} {d : DataW H} {p : List MemPlace}
theorem trod_u8 {P : Program} {w : World} {spare : Nat → Bool} {fuel : Nat} {t : TypeId} {c : Value} {x : DataW H × List MemPlace} (ht : P.underlying t = some (.int .u8)) (h : DataW.trod enc P w base spare held fuel t [c] = some x) : ∃ n : Int, c = .int .u8 n ∧ 0 ≤ n ∧ n ≤ 255 := by
  obtain ⟨n, e, _, hw⟩ := DataW.trod_int (k := .u8) ht h
  simp only [List.cons.injEq, and_true] at e
  simp only [Lit.wf, Bool.and_eq_true, decide_eq_true_eq] at hw
  exact ⟨n, e, hw⟩
theorem trod_str1 {P : Program} {w : World} {spare : Nat → Bool} {fuel : Nat} {t : TypeId} {c : Value} {x : DataW H × List MemPlace} (ht : P.underlying t = some .string) (h : DataW.trod enc P w base spare held fuel t [c] = some x) : ∃ s : ByteArray, c = .string s := by
  obtain ⟨s, e, _⟩ := DataW.trod_string ht h
  simp only [List.cons.injEq, and_true] at e
  exact ⟨s, e⟩
theorem trod_sl1 {P : Program} {w : World} {fuel : Nat} {t e : TypeId} {c : Value} {x : DataW H × List MemPlace} (ht : P.underlying t = some (.slice e)) (h : DataW.trod enc P w base sp held fuel t [c] = some x) : ∃ a m k, c = .slice a m k := by
  rcases open_slice ht h with ⟨h0, _⟩ | ⟨a, len, cap, m, n, D, Pl, hcs, _⟩
  · simp only [List.cons.injEq, and_true] at h0
    exact ⟨_, _, _, h0⟩
  · simp only [List.cons.injEq, and_true] at hcs
    exact ⟨_, _, _, hcs⟩
set_option maxRecDepth 20000 in
theorem op_dec (n : Nat) (cs : List Value) (y : DataW H × List MemPlace) (h : DataW.trod enc Tryd.prog W base sp held n 29 cs = some y) : ∃ r : OpC, cs = encQ r ∧ OpB r := by
  obtain ⟨xs, m, _, rfl, hl, hlen, hf⟩ := DataW.trod_struct Tryd.underlying29 h
  rw [show Tryd.prog.cellsOf 29 = 6 by kernel_rfl] at hl
  match xs, hlen, cs, hl with
  | [y0, y1, y2, y3, y4, y5], _, [c0, c1, c2, c3, c4, c5], _ =>
    obtain ⟨a, rfl, ha⟩ := trod_u8 (c := c0) Tryd.underlying5 (hf 0 _ rfl)
    obtain ⟨s1, rfl⟩ := trod_str1 (c := c1) Tryd.underlying9 (hf 1 _ rfl)
    obtain ⟨s2, rfl⟩ := trod_str1 (c := c2) Tryd.underlying9 (hf 2 _ rfl)
    obtain ⟨s3, rfl⟩ := trod_str1 (c := c3) Tryd.underlying9 (hf 3 _ rfl)
    obtain ⟨q, rfl, hq⟩ := trod_i64 (c := c4) Tryd.underlying3 (hf 4 _ rfl)
    obtain ⟨ka, km, kc, rfl⟩ := trod_sl1 (c := c5) Tryd.underlying23 (hf 5 _ rfl)
    exact ⟨⟨a, s1, s2, s3, q, ka, km, kc⟩, rfl, ⟨ha, hq⟩⟩
set_option maxRecDepth 20000 in
theorem ops_open (hv : Value.okWide Tryd.prog W .any b0 22 v) (h : DataW.Trod enc Tryd.prog W base sp held 22 v d p) : ∃ a cap, ∃ xs : List OpC, v = .slice a xs.length cap ∧ SlR encQ 6 W a cap xs ∧ ∀ x ∈ xs, OpB x :=
  open_slP encQ 6 OpB encQ_len Tryd.underlying22 (by kernel_rfl) op_dec hv h
theorem intn_dec (n : Nat) (cs : List Value) (y : DataW H × List MemPlace) (h : DataW.trod enc Tryd.prog W base sp held n 3 cs = some y) : ∃ r : Int, cs = encI r ∧ True := by
  obtain ⟨a, e, _⟩ := DataW.trod_int (k := .i64) Tryd.underlying3 h
  exact ⟨a, e, trivial⟩
set_option maxRecDepth 20000 in
theorem ints_open (hv : Value.okWide Tryd.prog W .any b0 23 v) (h : DataW.Trod enc Tryd.prog W base sp held 23 v d p) : ∃ a cap, ∃ xs : List Int, v = .slice a xs.length cap ∧ SlR encI 1 W a cap xs ∧ ∀ x ∈ xs, True :=
  open_slP encI 1 (fun _ => True) encI_len Tryd.underlying23 (by kernel_rfl) intn_dec hv h
end
abbrev seatLaid : List (String × DataW Unit) := Rows.diskFirmRow.laid
set_option maxRecDepth 100000 in
theorem door_met (os : Os) (args : Array Value) : laidMetH Tryd.prog seatLaid ((World.laidAll Tryd.prog os seatLaid).forCall (fun _ _ => 0) ⟨#[], args, []⟩).memory := by
  rw [MakeChecks.laidMetH_plain _ _ _ (by kernel_rfl)]
  exact laidMet_laidAll _ (by kernel_rfl) (by kernel_rfl)
end Go.Proofs.YtncicecmhibpcaaDoor
