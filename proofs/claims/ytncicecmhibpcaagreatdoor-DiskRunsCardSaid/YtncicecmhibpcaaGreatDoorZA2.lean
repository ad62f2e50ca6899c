/-
  Part 2 of the texts of: DiskRuns: its row and its card: whatever the input: true; the input reads as it did. Conditions: what the row prints (the table of functions reads as the program's text lays it).
-/
import Derived.Test.YtncicecmhibpcaaGreatDoorZA1
import Derived.Sort.KeysCollected
namespace Go.Proofs.YtncicecmhibpcaaGreatDoor
open Go.RowKit Go.PlainAid

set_option maxRecDepth 20000 in
theorem dtrim_c {w : World} {N B : Nat} {d : Dsk} (h : DkW w N B d) {n : ByteArray} (hn : n.size ≤ 9223372036854775807) (k : Int) : Calls Tryz.prog 24 #[.pointer (some ⟨N, 0, none⟩), .string n, .int .i64 k] w fun e w' => e = .returned (.int .i64 (trimD d n k).1) ∧ DkW w' N B (trimD d n k).2 ∧ Gw N B w w' := by
  have hlt := h.lt
  have hw := Below.refl w.heap.size w
  refine fn_enter 31 Tryz.func24 rfl rfl rfl ?_
  repeat' (first | (refine is_cw ?_; first | (refine cw_seq ?_) | (refine cw_region ?_)))
  refine lw_boxN rfl rfl (cs := [.pointer (some ⟨N, 0, none⟩)]) rfl ?_; intro N2 w2 hN2 H2 hb; replace hw := grow_trans hw hb; clear hb
  refine lw_boxN rfl rfl (cs := [.string n]) rfl ?_; intro N3 w3 hN3 H3 hb; replace H2 := H2.mono hb; replace hN3 := Nat.le_trans hw.size hN3; replace hw := grow_trans hw hb; clear hb
  refine lw_boxN rfl rfl (cs := [.int .i64 k]) rfl ?_; intro N4 w4 hN4 H4 hb; (replace H2 := H2.mono hb; replace H3 := H3.mono hb); replace hN4 := Nat.le_trans hw.size hN4; replace hw := grow_trans hw hb; clear hb
  have hw0 := hw
  replace h := h.mono hw; clear hw; have hw := Below.refl w4.heap.size w4
  cases hk : d.dark with
  | true =>
    rw [show trimD d n k = (45, d) from by unfold trimD; rw [if_pos hk]]
    repeat' (first | (refine lw_pure rfl (pv_move rfl) ?_) | (refine lw_pure rfl (pv_assign rfl) ?_) | (refine lw_call (f := 52) (by kernel_rfl) rfl rfl (find45_c (h.mono hw) hk n) ?_; rintro e w1 ⟨rfl, hb⟩; refine ⟨_, rfl, ?_⟩; replace hw := grow_trans hw hb; clear hb) | (refine is_cw ?_; first | (refine cw_seq ?_) | (refine cw_region ?_)) | (refine is_qw ?_; first | (with_reducible refine qw_then ?_)) | (refine lw_nil ?_) | ((refine is_load ?_; first | (refine lw_pure rfl (pv_load (t1 rfl) rfl (by first | exact PT.ld0 (H2.mono hw) rfl | exact PT.ld (H2.mono hw) rfl | exact PT.ld0 (H3.mono hw) rfl | exact PT.ld (H3.mono hw) rfl)) ?_))) | (refine lw_pure rfl (pv_extract rfl rfl) ?_))
    refine lw_varN rfl (by first | exact tyv_35 | exact tyv_36 | exact tyv_53 | exact tyv_54 | exact tyv_56 | exact tyv_57 | exact tyv_59 | exact tyv_60 | exact tyv_62 | exact tyv_63 | exact tyv_122 | exact tyv_123) rfl (tZ rfl) (fun _ => rfl) rfl rfl ?_; intro N5 wn hN5 H5 hb; replace hN5 := Nat.le_trans hw.size hN5; replace hw := grow_trans hw hb; clear hb
    repeat' (first | (refine lw_pure rfl (pv_move rfl) ?_) | (refine lw_pure rfl (pv_assign rfl) ?_) | (refine is_cw ?_; first | (refine cw_seq ?_) | (refine cw_region ?_) | (refine cw_true rfl rfl ?_) | (refine cw_block ?_) | (refine cw_ret ?_)) | (refine is_qw ?_; first | (with_reducible refine qw_then ?_) | (with_reducible refine qw_then_ret ?_) | (with_reducible refine qw_in_ret ?_)) | (refine lw_nil ?_) | ((refine is_bin ?_; first | (refine lw_pure rfl (pv_neq rfl rfl) ?_))))
    exact qw_ret1 rfl rfl ⟨rfl, h.mono hw, Gw.of_below (grow_trans hw0 hw)⟩
  | false =>
    cases hg : getF d.fs n with
    | none =>
      rw [show trimD d n k = (5, d) from by unfold trimD; rw [hk, if_neg (by simp), hg]]
      repeat' (first | (refine lw_pure rfl (pv_move rfl) ?_) | (refine lw_pure rfl (pv_assign rfl) ?_) | (refine lw_call (f := 52) (by kernel_rfl) rfl rfl (find5_c (h.mono hw) hk hn hg) ?_; rintro e w1 ⟨rfl, hb⟩; refine ⟨_, rfl, ?_⟩; replace hw := grow_trans hw hb; clear hb) | (refine is_cw ?_; first | (refine cw_seq ?_) | (refine cw_region ?_)) | (refine is_qw ?_; first | (with_reducible refine qw_then ?_)) | (refine lw_nil ?_) | ((refine is_load ?_; first | (refine lw_pure rfl (pv_load (t1 rfl) rfl (by first | exact PT.ld0 (H2.mono hw) rfl | exact PT.ld (H2.mono hw) rfl | exact PT.ld0 (H3.mono hw) rfl | exact PT.ld (H3.mono hw) rfl)) ?_))) | (refine lw_pure rfl (pv_extract rfl rfl) ?_))
      refine lw_varN rfl (by first | exact tyv_35 | exact tyv_36 | exact tyv_53 | exact tyv_54 | exact tyv_56 | exact tyv_57 | exact tyv_59 | exact tyv_60 | exact tyv_62 | exact tyv_63 | exact tyv_122 | exact tyv_123) rfl (tZ rfl) (fun _ => rfl) rfl rfl ?_; intro N5 wn hN5 H5 hb; replace hN5 := Nat.le_trans hw.size hN5; replace hw := grow_trans hw hb; clear hb
      repeat' (first | (refine lw_pure rfl (pv_move rfl) ?_) | (refine lw_pure rfl (pv_assign rfl) ?_) | (refine is_cw ?_; first | (refine cw_seq ?_) | (refine cw_region ?_) | (refine cw_true rfl rfl ?_) | (refine cw_block ?_) | (refine cw_ret ?_)) | (refine is_qw ?_; first | (with_reducible refine qw_then ?_) | (with_reducible refine qw_then_ret ?_) | (with_reducible refine qw_in_ret ?_)) | (refine lw_nil ?_) | ((refine is_bin ?_; first | (refine lw_pure rfl (pv_neq rfl rfl) ?_))))
      exact qw_ret1 rfl rfl ⟨rfl, h.mono hw, Gw.of_below (grow_trans hw0 hw)⟩
    | some f =>
      have hsz := getF_sz h.ok hg
      have hzf : szF f = f.firm.size + f.pend.size := rfl
      repeat' (first | (refine lw_pure rfl (pv_move rfl) ?_) | (refine lw_pure rfl (pv_assign rfl) ?_) | (refine lw_call (f := 52) (by kernel_rfl) rfl rfl (find0_c (h.mono hw) hk hn hg) ?_; rintro e w1 ⟨rfl, hb⟩; refine ⟨_, rfl, ?_⟩; replace hw := grow_trans hw hb; clear hb) | (refine is_cw ?_; first | (refine cw_seq ?_) | (refine cw_region ?_)) | (refine is_qw ?_; first | (with_reducible refine qw_then ?_)) | (refine lw_nil ?_) | ((refine is_load ?_; first | (refine lw_pure rfl (pv_load (t1 rfl) rfl (by first | exact PT.ld0 (H2.mono hw) rfl | exact PT.ld (H2.mono hw) rfl | exact PT.ld0 (H3.mono hw) rfl | exact PT.ld (H3.mono hw) rfl)) ?_))) | (refine lw_pure rfl (pv_extract rfl rfl) ?_))
      refine lw_varN rfl (by first | exact tyv_35 | exact tyv_36 | exact tyv_53 | exact tyv_54 | exact tyv_56 | exact tyv_57 | exact tyv_59 | exact tyv_60 | exact tyv_62 | exact tyv_63 | exact tyv_122 | exact tyv_123) rfl (tZ rfl) (fun _ => rfl) rfl rfl ?_; intro N5 wn hN5 H5 hb; replace hN5 := Nat.le_trans hw.size hN5; replace hw := grow_trans hw hb; clear hb
      have hwB := hw
      have hN5' := Nat.le_trans hw0.size hN5
      replace h := h.mono hw; replace H2 := H2.mono hw; replace H3 := H3.mono hw; replace H4 := H4.mono hw; clear hw; have hw := Below.refl wn.heap.size wn
      replace hw0 := grow_trans hw0 hwB
      repeat' (first | (refine lw_pure rfl (pv_move rfl) ?_) | (refine lw_pure rfl (pv_assign rfl) ?_) | (refine is_cw ?_; first | (refine cw_seq ?_) | (refine cw_region ?_) | (refine cw_false rfl rfl ?_) | (refine cw_block ?_)) | (refine is_qw ?_; first | (with_reducible refine qw_then ?_)) | (refine lw_nil ?_) | ((refine is_bin ?_; first | (refine lw_pure rfl (pv_neq rfl rfl) ?_))))
      by_cases h1 : k < 0
      · rw [show trimD d n k = (1, d) from by unfold trimD; rw [hk, if_neg (by simp), hg]; dsimp only; rw [if_pos (Or.inl h1)]]
        refine cw_drawn (fun w' => Below wn.heap.size wn w') (by kernel_rfl) (by repeat (first | exact NoPanic.body | with_reducible refine NoPanic.then ?_ | with_reducible refine NoPanic.inBlock ?_)) (fun hNP => ?_)
        have hS := hw.drew
        all_goals (refine at0 0 rfl (fun w' hq => pv_load (t1 rfl) rfl (by first | exact PT.ld0 (H2.mono hq) rfl | exact PT.ld (H2.mono hq) rfl | exact PT.ld0 (H3.mono hq) rfl | exact PT.ld (H3.mono hq) rfl | exact PT.ld0 (H4.mono hq) rfl | exact PT.ld (H4.mono hq) rfl | exact PT.ld0 (H5.mono hq) rfl | exact PT.ld (H5.mono hq) rfl)) ?_)
        all_goals (refine at0 1 rfl (fun w' hq => pv_lss rfl rfl) ?_)
        all_goals (refine at0 2 rfl (fun w' hq => pv_move rfl) ?_)
        all_goals (refine an2 3 rfl rfl rfl ?_)
        all_goals (refine an2 4 rfl rfl rfl ?_)
        all_goals first | (refine an3 5 rfl rfl rfl ?_) | (refine an0 5 rfl rfl rfl ?_) | (refine aw_act_g 5 (by kernel_rfl) rfl rfl rfl (by first | rfl | assumption | exact decide_eq_true (by omega) | exact decide_eq_false (by omega) | exact dec_notT (by omega) | exact dec_notF (by omega)) rfl ?_; refine act_call (f := 53) (by kernel_rfl) rfl (size_c (a := f.firm) (b := f.pend) (by omega) _) ?_; rintro e w1 ⟨rfl, hb⟩; refine ⟨_, rfl, grow_trans hS hb, fun hS => ?_⟩)
        all_goals (refine an2 6 rfl rfl rfl ?_)
        all_goals (refine at0 7 rfl (fun w' hq => pv_pick_t rfl (by first | assumption | exact decide_eq_true (by omega) | exact dec_notT (by omega)) rfl) ?_)
        all_goals (refine at0 8 rfl (fun w' hq => pv_assign rfl) ?_)
        all_goals (refine aw_done (by kernel_rfl) ?_; replace hw := hS; clear hS hNP)
        repeat' (first | (refine lw_pure rfl (pv_assign rfl) ?_) | (refine is_cw ?_; first | (refine cw_seq ?_) | (refine cw_region ?_) | (refine cw_true rfl rfl ?_) | (refine cw_ret ?_)) | (refine is_qw ?_; first | (with_reducible refine qw_then ?_) | (with_reducible refine qw_then_ret ?_) | (with_reducible refine qw_in_ret ?_)) | (refine lw_nil ?_))
        exact qw_ret1 rfl rfl ⟨rfl, h.mono hw, Gw.of_below (grow_trans hw0 hw)⟩
      · by_cases h2 : (szF f : Int) < k
        · rw [show trimD d n k = (1, d) from by unfold trimD; rw [hk, if_neg (by simp), hg]; dsimp only; rw [if_pos (Or.inr h2)]]
          refine cw_drawn (fun w' => Below wn.heap.size wn w') (by kernel_rfl) (by repeat (first | exact NoPanic.body | with_reducible refine NoPanic.then ?_ | with_reducible refine NoPanic.inBlock ?_)) (fun hNP => ?_)
          have hS := hw.drew
          all_goals (refine at0 0 rfl (fun w' hq => pv_load (t1 rfl) rfl (by first | exact PT.ld0 (H2.mono hq) rfl | exact PT.ld (H2.mono hq) rfl | exact PT.ld0 (H3.mono hq) rfl | exact PT.ld (H3.mono hq) rfl | exact PT.ld0 (H4.mono hq) rfl | exact PT.ld (H4.mono hq) rfl | exact PT.ld0 (H5.mono hq) rfl | exact PT.ld (H5.mono hq) rfl)) ?_)
          all_goals (refine at0 1 rfl (fun w' hq => pv_lss rfl rfl) ?_)
          all_goals (refine at0 2 rfl (fun w' hq => pv_move rfl) ?_)
          all_goals (refine at2 3 rfl rfl rfl (fun w' hq => pv_load (t1 rfl) rfl (by first | exact PT.ld0 (H2.mono hq) rfl | exact PT.ld (H2.mono hq) rfl | exact PT.ld0 (H3.mono hq) rfl | exact PT.ld (H3.mono hq) rfl | exact PT.ld0 (H4.mono hq) rfl | exact PT.ld (H4.mono hq) rfl | exact PT.ld0 (H5.mono hq) rfl | exact PT.ld (H5.mono hq) rfl)) ?_)
          all_goals (refine at2 4 rfl rfl rfl (fun w' hq => pv_loada (tA rfl) rfl (by first | exact PT.lda (H2.mono hq) | exact PT.lda (H3.mono hq) | exact PT.lda (H4.mono hq) | exact PT.lda (H5.mono hq)) (by rfl)) ?_)
          all_goals first | (refine an3 5 rfl rfl rfl ?_) | (refine an0 5 rfl rfl rfl ?_) | (refine aw_act_g 5 (by kernel_rfl) rfl rfl rfl (by first | rfl | assumption | exact decide_eq_true (by omega) | exact decide_eq_false (by omega) | exact dec_notT (by omega) | exact dec_notF (by omega)) rfl ?_; refine act_call (f := 53) (by kernel_rfl) rfl (size_c (a := f.firm) (b := f.pend) (by omega) _) ?_; rintro e w1 ⟨rfl, hb⟩; refine ⟨_, rfl, grow_trans hS hb, fun hS => ?_⟩)
          all_goals (refine at2 6 rfl rfl rfl (fun w' hq => pv_gtr rfl rfl) ?_)
          all_goals (refine at0 7 rfl (fun w' hq => pv_pick_f rfl (by first | assumption | exact decide_eq_false (by omega) | exact dec_notF (by omega)) rfl) ?_)
          all_goals (refine at0 8 rfl (fun w' hq => pv_assign rfl) ?_)
          all_goals (refine aw_done (by kernel_rfl) ?_; replace hw := hS; clear hS hNP)
          repeat' (first | (refine lw_pure rfl (pv_assign rfl) ?_) | (refine is_cw ?_; first | (refine cw_seq ?_) | (refine cw_region ?_) | (refine cw_true rfl (by first | assumption | exact decide_eq_true (by omega) | exact dec_notT (by omega)) ?_) | (refine cw_ret ?_)) | (refine is_qw ?_; first | (with_reducible refine qw_then ?_) | (with_reducible refine qw_then_ret ?_) | (with_reducible refine qw_in_ret ?_)) | (refine lw_nil ?_))
          exact qw_ret1 rfl rfl ⟨rfl, h.mono hw, Gw.of_below (grow_trans hw0 hw)⟩
        · rw [show trimD d n k = doD d (putF d.fs ⟨n, (f.firm ++ f.pend).extract 0 k.toNat, emptyB⟩) from by unfold trimD; rw [hk, if_neg (by simp), hg]; dsimp only; rw [if_neg (by omega)]]
          refine cw_drawn (fun w' => Below wn.heap.size wn w') (by kernel_rfl) (by repeat (first | exact NoPanic.body | with_reducible refine NoPanic.then ?_ | with_reducible refine NoPanic.inBlock ?_)) (fun hNP => ?_)
          have hS := hw.drew
          all_goals (refine at0 0 rfl (fun w' hq => pv_load (t1 rfl) rfl (by first | exact PT.ld0 (H2.mono hq) rfl | exact PT.ld (H2.mono hq) rfl | exact PT.ld0 (H3.mono hq) rfl | exact PT.ld (H3.mono hq) rfl | exact PT.ld0 (H4.mono hq) rfl | exact PT.ld (H4.mono hq) rfl | exact PT.ld0 (H5.mono hq) rfl | exact PT.ld (H5.mono hq) rfl)) ?_)
          all_goals (refine at0 1 rfl (fun w' hq => pv_lss rfl rfl) ?_)
          all_goals (refine at0 2 rfl (fun w' hq => pv_move rfl) ?_)
          all_goals (refine at2 3 rfl rfl rfl (fun w' hq => pv_load (t1 rfl) rfl (by first | exact PT.ld0 (H2.mono hq) rfl | exact PT.ld (H2.mono hq) rfl | exact PT.ld0 (H3.mono hq) rfl | exact PT.ld (H3.mono hq) rfl | exact PT.ld0 (H4.mono hq) rfl | exact PT.ld (H4.mono hq) rfl | exact PT.ld0 (H5.mono hq) rfl | exact PT.ld (H5.mono hq) rfl)) ?_)
          all_goals (refine at2 4 rfl rfl rfl (fun w' hq => pv_loada (tA rfl) rfl (by first | exact PT.lda (H2.mono hq) | exact PT.lda (H3.mono hq) | exact PT.lda (H4.mono hq) | exact PT.lda (H5.mono hq)) (by rfl)) ?_)
          all_goals first | (refine an3 5 rfl rfl rfl ?_) | (refine an0 5 rfl rfl rfl ?_) | (refine aw_act_g 5 (by kernel_rfl) rfl rfl rfl (by first | rfl | assumption | exact decide_eq_true (by omega) | exact decide_eq_false (by omega) | exact dec_notT (by omega) | exact dec_notF (by omega)) rfl ?_; refine act_call (f := 53) (by kernel_rfl) rfl (size_c (a := f.firm) (b := f.pend) (by omega) _) ?_; rintro e w1 ⟨rfl, hb⟩; refine ⟨_, rfl, grow_trans hS hb, fun hS => ?_⟩)
          all_goals (refine at2 6 rfl rfl rfl (fun w' hq => pv_gtr rfl rfl) ?_)
          all_goals (refine at0 7 rfl (fun w' hq => pv_pick_f rfl (by first | assumption | exact decide_eq_false (by omega) | exact dec_notF (by omega)) rfl) ?_)
          all_goals (refine at0 8 rfl (fun w' hq => pv_assign rfl) ?_)
          all_goals (refine aw_done (by kernel_rfl) ?_; replace hw := hS; clear hS hNP)
          repeat' (first | (refine is_cw ?_; first | (refine cw_seq ?_) | (refine cw_region ?_) | (refine cw_false rfl (by first | assumption | exact decide_eq_false (by omega) | exact dec_notF (by omega)) ?_) | (refine cw_skip ?_)) | (refine is_qw ?_; first | (with_reducible refine qw_then ?_) | (with_reducible refine qw_in ?_)) | ((refine is_load ?_; first | (refine lw_pure rfl (pv_load (t1 rfl) rfl (by first | exact PT.ld0 (H2.mono hw) rfl | exact PT.ld (H2.mono hw) rfl | exact PT.ld0 (H3.mono hw) rfl | exact PT.ld (H3.mono hw) rfl | exact PT.ld0 (H4.mono hw) rfl | exact PT.ld (H4.mono hw) rfl)) ?_))) | (refine lw_pure rfl (pv_makeFunc rfl rfl) ?_))
          have hwa := grow_trans hw0 hw
          refine lw_call (f := 50) (by kernel_rfl) rfl rfl (do_c (g := 58) (caps := #[.pointer (some ⟨N5, 0, none⟩), .pointer (some ⟨N4, 0, none⟩), .pointer (some ⟨N2, 0, none⟩), .pointer (some ⟨N3, 0, none⟩)]) (fs := putF d.fs ⟨n, (f.firm ++ f.pend).extract 0 k.toNat, emptyB⟩) (h.mono hw) (h.ok.swap hg rfl (by unfold szF; dsimp only; rw [size_extract0, size_append, size_empty]; omega)) (by kernel_rfl) (fun w1 d1 hD hf hG => by rw [← hf]; exact trim1_c hD hn (by omega) ⟨by omega, by rw [size_append]; omega⟩ ((H5.mono hw).gw hG (by omega) (by omega)) ((H4.mono hw).gw hG (by omega) (by omega)) ((H2.mono hw).gw hG (by omega) (by omega)) ((H3.mono hw).gw hG (by omega) (by omega)))) ?_
          rintro e1 w9 ⟨rfl, hD, hG⟩; refine ⟨_, rfl, ?_⟩
          clear hw
          have hw := Below.refl w9.heap.size w9
          repeat' (first | (refine lw_pure rfl (pv_assign rfl) ?_) | (refine is_cw ?_; first | (refine cw_ret ?_)) | (refine is_qw ?_; first | (with_reducible refine qw_then ?_)) | (refine lw_nil ?_))
          exact qw_ret1 rfl rfl ⟨rfl, hD, (Gw.of_below hwa).trans hG⟩
set_option maxRecDepth 20000 in
theorem append_c {w : World} {N B : Nat} {d : Dsk} (h : DkW w N B d) {n b : ByteArray} (hn : n.size ≤ 9223372036854775807) : Calls Tryz.prog 16 #[.pointer (some ⟨N, 0, none⟩), .string n, .string b] w fun e w' => e = .returned (.int .i64 (appendD d n b).1) ∧ DkW w' N B (appendD d n b).2 ∧ Gw N B w w' := by
  have hlt := h.lt
  have hw := Below.refl w.heap.size w
  have hw0 := hw
  refine fn_enter 52 Tryz.func16 rfl rfl rfl ?_
  cases hk : d.dark with
  | true =>
    rw [show appendD d n b = (45, d) from by unfold appendD; rw [if_pos hk]]
    repeat' (first | (refine lw_pure rfl (pv_move rfl) ?_) | (refine lw_pure rfl (pv_assign rfl) ?_) | (refine lw_call (f := 52) (by kernel_rfl) rfl rfl (find45_c (h.mono hw) hk n) ?_; rintro e w1 ⟨rfl, hb⟩; refine ⟨_, rfl, ?_⟩; replace hw := grow_trans hw hb; clear hb) | (refine is_cw ?_; first | (refine cw_seq ?_) | (refine cw_region ?_)) | (refine is_qw ?_; first | (with_reducible refine qw_then ?_)) | (refine lw_nil ?_) | (refine lw_pure rfl (pv_extract rfl rfl) ?_))
    refine lw_varN rfl (by first | exact tyv_35 | exact tyv_36 | exact tyv_53 | exact tyv_54 | exact tyv_56 | exact tyv_57 | exact tyv_59 | exact tyv_60 | exact tyv_62 | exact tyv_63 | exact tyv_122 | exact tyv_123) rfl (tZ rfl) (fun _ => rfl) rfl rfl ?_; intro N5 wn hN5 H5 hb; replace hN5 := Nat.le_trans hw.size hN5; replace hw := grow_trans hw hb; clear hb
    repeat' (first | (refine lw_pure rfl (pv_move rfl) ?_) | (refine lw_pure rfl (pv_assign rfl) ?_) | (refine is_cw ?_; first | (refine cw_seq ?_) | (refine cw_region ?_) | (refine cw_true rfl rfl ?_) | (refine cw_block ?_) | (refine cw_ret ?_)) | (refine is_qw ?_; first | (with_reducible refine qw_then ?_) | (with_reducible refine qw_then_ret ?_) | (with_reducible refine qw_in_ret ?_)) | (refine lw_nil ?_) | ((refine is_bin ?_; first | (refine lw_pure rfl (pv_neq rfl rfl) ?_))))
    exact qw_ret1 rfl rfl ⟨rfl, h.mono hw, Gw.of_below (grow_trans hw0 hw)⟩
  | false =>
    cases hg : getF d.fs n with
    | none =>
      rw [show appendD d n b = (5, d) from by unfold appendD; rw [hk, if_neg (by simp), hg]]
      repeat' (first | (refine lw_pure rfl (pv_move rfl) ?_) | (refine lw_pure rfl (pv_assign rfl) ?_) | (refine lw_call (f := 52) (by kernel_rfl) rfl rfl (find5_c (h.mono hw) hk hn hg) ?_; rintro e w1 ⟨rfl, hb⟩; refine ⟨_, rfl, ?_⟩; replace hw := grow_trans hw hb; clear hb) | (refine is_cw ?_; first | (refine cw_seq ?_) | (refine cw_region ?_)) | (refine is_qw ?_; first | (with_reducible refine qw_then ?_)) | (refine lw_nil ?_) | (refine lw_pure rfl (pv_extract rfl rfl) ?_))
      refine lw_varN rfl (by first | exact tyv_35 | exact tyv_36 | exact tyv_53 | exact tyv_54 | exact tyv_56 | exact tyv_57 | exact tyv_59 | exact tyv_60 | exact tyv_62 | exact tyv_63 | exact tyv_122 | exact tyv_123) rfl (tZ rfl) (fun _ => rfl) rfl rfl ?_; intro N5 wn hN5 H5 hb; replace hN5 := Nat.le_trans hw.size hN5; replace hw := grow_trans hw hb; clear hb
      repeat' (first | (refine lw_pure rfl (pv_move rfl) ?_) | (refine lw_pure rfl (pv_assign rfl) ?_) | (refine is_cw ?_; first | (refine cw_seq ?_) | (refine cw_region ?_) | (refine cw_true rfl rfl ?_) | (refine cw_block ?_) | (refine cw_ret ?_)) | (refine is_qw ?_; first | (with_reducible refine qw_then ?_) | (with_reducible refine qw_then_ret ?_) | (with_reducible refine qw_in_ret ?_)) | (refine lw_nil ?_) | ((refine is_bin ?_; first | (refine lw_pure rfl (pv_neq rfl rfl) ?_))))
      exact qw_ret1 rfl rfl ⟨rfl, h.mono hw, Gw.of_below (grow_trans hw0 hw)⟩
    | some f =>
      have hsz := getF_sz h.ok hg
      have hzf : szF f = f.firm.size + f.pend.size := rfl
      have hus := h.ok.used
      have hcp := h.ok.cap
      repeat' (first | (refine lw_pure rfl (pv_move rfl) ?_) | (refine lw_pure rfl (pv_assign rfl) ?_) | (refine lw_call (f := 52) (by kernel_rfl) rfl rfl (find0_c (h.mono hw) hk hn hg) ?_; rintro e w1 ⟨rfl, hb⟩; refine ⟨_, rfl, ?_⟩; replace hw := grow_trans hw hb; clear hb) | (refine is_cw ?_; first | (refine cw_seq ?_) | (refine cw_region ?_)) | (refine is_qw ?_; first | (with_reducible refine qw_then ?_)) | (refine lw_nil ?_) | (refine lw_pure rfl (pv_extract rfl rfl) ?_))
      refine lw_varN rfl (by first | exact tyv_35 | exact tyv_36 | exact tyv_53 | exact tyv_54 | exact tyv_56 | exact tyv_57 | exact tyv_59 | exact tyv_60 | exact tyv_62 | exact tyv_63 | exact tyv_122 | exact tyv_123) rfl (tZ rfl) (fun _ => rfl) rfl rfl ?_; intro N5 wn hN5 H5 hb; replace hN5 := Nat.le_trans hw.size hN5; replace hw := grow_trans hw hb; clear hb
      have hwB := hw
      have hN5' := Nat.le_trans hw0.size hN5
      replace h := h.mono hw; clear hw; have hw := Below.refl wn.heap.size wn
      replace hw0 := grow_trans hw0 hwB
      have H := h.obj
      repeat' (first | (refine lw_pure rfl (pv_move rfl) ?_) | (refine lw_pure rfl (pv_assign rfl) ?_) | (refine is_cw ?_; first | (refine cw_seq ?_) | (refine cw_region ?_) | (refine cw_false rfl rfl ?_) | (refine cw_block ?_)) | (refine is_qw ?_; first | (with_reducible refine qw_then ?_)) | (refine lw_nil ?_) | ((refine is_bin ?_; first | (refine lw_pure rfl (pv_neq rfl rfl) ?_))))
      by_cases h1 : 1048576 < szF f + b.size
      · rw [show appendD d n b = (44, d) from by unfold appendD; rw [hk, if_neg (by simp), hg]; dsimp only; rw [if_pos (Or.inl h1)]]
        refine cw_drawn (fun w' => Below wn.heap.size wn w') (by kernel_rfl) (by repeat (first | exact NoPanic.body | with_reducible refine NoPanic.then ?_ | with_reducible refine NoPanic.inBlock ?_)) (fun hNP => ?_)
        have hS := hw.drew
        all_goals (refine at0 0 rfl (fun w' hq => pv_move rfl) ?_)
        all_goals (refine at0 1 rfl (fun w' hq => pv_lens (tStr rfl) rfl) ?_)
        all_goals (refine at0 2 rfl (fun w' hq => pv_loada (tA rfl) rfl (by first | exact PT.lda (H.mono hq) | exact PT.lda (H5.mono hq)) (by rfl)) ?_)
        all_goals (refine aw_act 3 (by kernel_rfl) rfl rfl rfl ?_; refine act_call (f := 53) (by kernel_rfl) rfl (size_c (a := f.firm) (b := f.pend) (by omega) _) ?_; rintro e w1 ⟨rfl, hb⟩; refine ⟨_, rfl, grow_trans hS hb, fun hS => ?_⟩)
        all_goals (refine at0 4 rfl (fun w' hq => pv_sub rfl rfl (by omega)) ?_)
        all_goals (refine at0 5 rfl (fun w' hq => pv_gtr rfl rfl) ?_)
        all_goals (refine at0 6 rfl (fun w' hq => pv_move rfl) ?_)
        all_goals (refine an2 7 rfl rfl rfl ?_)
        all_goals (refine an2 8 rfl rfl rfl ?_)
        all_goals (refine an2 9 rfl rfl rfl ?_)
        all_goals (refine an2 10 rfl rfl rfl ?_)
        all_goals (refine an2 11 rfl rfl rfl ?_)
        all_goals (refine an2 12 rfl rfl rfl ?_)
        all_goals (refine an2 13 rfl rfl rfl ?_)
        all_goals first | (refine an3 14 rfl rfl rfl ?_) | (refine an0 14 rfl rfl rfl ?_) | (refine aw_act_g 14 (by kernel_rfl) rfl rfl rfl (by first | rfl | assumption | exact decide_eq_true (by omega) | exact decide_eq_false (by omega) | exact dec_notT (by omega) | exact dec_notF (by omega)) rfl ?_; refine act_call (f := 45) (by kernel_rfl) rfl (used_c (h.mono hS)) ?_; rintro e w1 ⟨rfl, hb⟩; refine ⟨_, rfl, grow_trans hS hb, fun hS => ?_⟩)
        all_goals (refine an2 15 rfl rfl rfl ?_)
        all_goals (refine an2 16 rfl rfl rfl ?_)
        all_goals (refine at0 17 rfl (fun w' hq => pv_pick_t rfl (by first | assumption | exact decide_eq_true (by omega) | exact dec_notT (by omega)) rfl) ?_)
        all_goals (refine at0 18 rfl (fun w' hq => pv_assign rfl) ?_)
        all_goals (refine aw_done (by kernel_rfl) ?_; replace hw := hS; clear hS hNP)
        repeat' (first | (refine lw_pure rfl (pv_assign rfl) ?_) | (refine is_cw ?_; first | (refine cw_seq ?_) | (refine cw_region ?_) | (refine cw_true rfl rfl ?_) | (refine cw_ret ?_)) | (refine is_qw ?_; first | (with_reducible refine qw_then ?_) | (with_reducible refine qw_then_ret ?_) | (with_reducible refine qw_in_ret ?_)) | (refine lw_nil ?_))
        exact qw_ret1 rfl rfl ⟨rfl, h.mono hw, Gw.of_below (grow_trans hw0 hw)⟩
      · by_cases h2 : d.cap < (usedF d.fs : Int) + b.size
        · rw [show appendD d n b = (44, d) from by unfold appendD; rw [hk, if_neg (by simp), hg]; dsimp only; rw [if_pos (Or.inr h2)]]
          refine cw_drawn (fun w' => Below wn.heap.size wn w') (by kernel_rfl) (by repeat (first | exact NoPanic.body | with_reducible refine NoPanic.then ?_ | with_reducible refine NoPanic.inBlock ?_)) (fun hNP => ?_)
          have hS := hw.drew
          all_goals (refine at0 0 rfl (fun w' hq => pv_move rfl) ?_)
          all_goals (refine at0 1 rfl (fun w' hq => pv_lens (tStr rfl) rfl) ?_)
          all_goals (refine at0 2 rfl (fun w' hq => pv_loada (tA rfl) rfl (by first | exact PT.lda (H.mono hq) | exact PT.lda (H5.mono hq)) (by rfl)) ?_)
          all_goals (refine aw_act 3 (by kernel_rfl) rfl rfl rfl ?_; refine act_call (f := 53) (by kernel_rfl) rfl (size_c (a := f.firm) (b := f.pend) (by omega) _) ?_; rintro e w1 ⟨rfl, hb⟩; refine ⟨_, rfl, grow_trans hS hb, fun hS => ?_⟩)
          all_goals (refine at0 4 rfl (fun w' hq => pv_sub rfl rfl (by omega)) ?_)
          all_goals (refine at0 5 rfl (fun w' hq => pv_gtr rfl rfl) ?_)
          all_goals (refine at0 6 rfl (fun w' hq => pv_move rfl) ?_)
          all_goals (refine at2 7 rfl rfl rfl (fun w' hq => pv_move rfl) ?_)
          all_goals (refine at2 8 rfl rfl rfl (fun w' hq => pv_lens (tStr rfl) rfl) ?_)
          all_goals (refine at2 9 rfl rfl rfl (fun w' hq => pv_move rfl) ?_)
          all_goals (refine at2 10 rfl rfl rfl (fun w' hq => pv_nilp rfl) ?_)
          all_goals (refine at2 11 rfl rfl rfl (fun w' hq => pv_fa (tF rfl) rfl) ?_)
          all_goals (refine at2 12 rfl rfl rfl (fun w' hq => pv_load (t1 rfl) rfl (by first | exact PT.ld0 (H.mono hq) rfl | exact PT.ld (H.mono hq) rfl | exact PT.ld0 (H5.mono hq) rfl | exact PT.ld (H5.mono hq) rfl)) ?_)
          all_goals (refine at2 13 rfl rfl rfl (fun w' hq => pv_move rfl) ?_)
          all_goals first | (refine an3 14 rfl rfl rfl ?_) | (refine an0 14 rfl rfl rfl ?_) | (refine aw_act_g 14 (by kernel_rfl) rfl rfl rfl (by first | rfl | assumption | exact decide_eq_true (by omega) | exact decide_eq_false (by omega) | exact dec_notT (by omega) | exact dec_notF (by omega)) rfl ?_; refine act_call (f := 45) (by kernel_rfl) rfl (used_c (h.mono hS)) ?_; rintro e w1 ⟨rfl, hb⟩; refine ⟨_, rfl, grow_trans hS hb, fun hS => ?_⟩)
          all_goals (refine at2 15 rfl rfl rfl (fun w' hq => pv_sub rfl rfl (by omega)) ?_)
          all_goals (refine at2 16 rfl rfl rfl (fun w' hq => pv_gtr rfl rfl) ?_)
          all_goals (refine at0 17 rfl (fun w' hq => pv_pick_f rfl (by first | assumption | exact decide_eq_false (by omega) | exact dec_notF (by omega)) rfl) ?_)
          all_goals (refine at0 18 rfl (fun w' hq => pv_assign rfl) ?_)
          all_goals (refine aw_done (by kernel_rfl) ?_; replace hw := hS; clear hS hNP)
          repeat' (first | (refine lw_pure rfl (pv_assign rfl) ?_) | (refine is_cw ?_; first | (refine cw_seq ?_) | (refine cw_region ?_) | (refine cw_true rfl (by first | assumption | exact decide_eq_true (by omega) | exact dec_notT (by omega)) ?_) | (refine cw_ret ?_)) | (refine is_qw ?_; first | (with_reducible refine qw_then ?_) | (with_reducible refine qw_then_ret ?_) | (with_reducible refine qw_in_ret ?_)) | (refine lw_nil ?_))
          exact qw_ret1 rfl rfl ⟨rfl, h.mono hw, Gw.of_below (grow_trans hw0 hw)⟩
        · have hok := h.ok.append n b
          have e : appendD d n b = ((doD d d.fs).1, { (doD d d.fs).2 with fs := putF d.fs ⟨n, f.firm, f.pend ++ b⟩ }) := by unfold appendD; rw [hk, if_neg (by simp), hg]; dsimp only; rw [if_neg (by omega)]
          rw [e] at hok ⊢
          refine cw_drawn (fun w' => Below wn.heap.size wn w') (by kernel_rfl) (by repeat (first | exact NoPanic.body | with_reducible refine NoPanic.then ?_ | with_reducible refine NoPanic.inBlock ?_)) (fun hNP => ?_)
          have hS := hw.drew
          all_goals (refine at0 0 rfl (fun w' hq => pv_move rfl) ?_)
          all_goals (refine at0 1 rfl (fun w' hq => pv_lens (tStr rfl) rfl) ?_)
          all_goals (refine at0 2 rfl (fun w' hq => pv_loada (tA rfl) rfl (by first | exact PT.lda (H.mono hq) | exact PT.lda (H5.mono hq)) (by rfl)) ?_)
          all_goals (refine aw_act 3 (by kernel_rfl) rfl rfl rfl ?_; refine act_call (f := 53) (by kernel_rfl) rfl (size_c (a := f.firm) (b := f.pend) (by omega) _) ?_; rintro e w1 ⟨rfl, hb⟩; refine ⟨_, rfl, grow_trans hS hb, fun hS => ?_⟩)
          all_goals (refine at0 4 rfl (fun w' hq => pv_sub rfl rfl (by omega)) ?_)
          all_goals (refine at0 5 rfl (fun w' hq => pv_gtr rfl rfl) ?_)
          all_goals (refine at0 6 rfl (fun w' hq => pv_move rfl) ?_)
          all_goals (refine at2 7 rfl rfl rfl (fun w' hq => pv_move rfl) ?_)
          all_goals (refine at2 8 rfl rfl rfl (fun w' hq => pv_lens (tStr rfl) rfl) ?_)
          all_goals (refine at2 9 rfl rfl rfl (fun w' hq => pv_move rfl) ?_)
          all_goals (refine at2 10 rfl rfl rfl (fun w' hq => pv_nilp rfl) ?_)
          all_goals (refine at2 11 rfl rfl rfl (fun w' hq => pv_fa (tF rfl) rfl) ?_)
          all_goals (refine at2 12 rfl rfl rfl (fun w' hq => pv_load (t1 rfl) rfl (by first | exact PT.ld0 (H.mono hq) rfl | exact PT.ld (H.mono hq) rfl | exact PT.ld0 (H5.mono hq) rfl | exact PT.ld (H5.mono hq) rfl)) ?_)
          all_goals (refine at2 13 rfl rfl rfl (fun w' hq => pv_move rfl) ?_)
          all_goals first | (refine an3 14 rfl rfl rfl ?_) | (refine an0 14 rfl rfl rfl ?_) | (refine aw_act_g 14 (by kernel_rfl) rfl rfl rfl (by first | rfl | assumption | exact decide_eq_true (by omega) | exact decide_eq_false (by omega) | exact dec_notT (by omega) | exact dec_notF (by omega)) rfl ?_; refine act_call (f := 45) (by kernel_rfl) rfl (used_c (h.mono hS)) ?_; rintro e w1 ⟨rfl, hb⟩; refine ⟨_, rfl, grow_trans hS hb, fun hS => ?_⟩)
          all_goals (refine at2 15 rfl rfl rfl (fun w' hq => pv_sub rfl rfl (by omega)) ?_)
          all_goals (refine at2 16 rfl rfl rfl (fun w' hq => pv_gtr rfl rfl) ?_)
          all_goals (refine at0 17 rfl (fun w' hq => pv_pick_f rfl (by first | assumption | exact decide_eq_false (by omega) | exact dec_notF (by omega)) rfl) ?_)
          all_goals (refine at0 18 rfl (fun w' hq => pv_assign rfl) ?_)
          all_goals (refine aw_done (by kernel_rfl) ?_; replace hw := hS; clear hS hNP)
          have hc : f.pend.size + b.size ≤ 9223372036854775807 := by omega
          repeat' (first | (refine lw_pure rfl (pv_move rfl) ?_) | (refine is_cw ?_; first | (refine cw_seq ?_) | (refine cw_region ?_) | (refine cw_false rfl (by first | assumption | exact decide_eq_false (by omega) | exact dec_notF (by omega)) ?_) | (refine cw_skip ?_)) | (refine is_qw ?_; first | (with_reducible refine qw_then ?_) | (with_reducible refine qw_in ?_)) | ((refine is_bin ?_; first | (refine lw_pure rfl (pv_cat rfl rfl hc) ?_))) | ((refine is_load ?_; first | (refine lw_pure rfl (pv_load (t1 rfl) rfl (by first | exact PT.ld0 (H5.mono hw) rfl | exact PT.ld (H5.mono hw) rfl)) ?_))) | ((refine is_fa ?_; first | (refine lw_pure rfl (pv_fa (tF rfl) rfl) ?_))))
          have hwC := hw
          refine lw_store (H5.mono hw) (tZ rfl) rfl rfl rfl (by simp) ?_; intro w6 H6 hg6 hz6
          have hG6 := (Gw.of_below (a := N5) (b := N5) hw).trans (Gw.of_a hg6)
          replace h := h.gw hG6 ⟨by omega, by omega⟩ ⟨by omega, by omega⟩
          replace hw0 := st_hw (grow_trans hw0 hw) hg6 hN5'
          clear hw H H5 hg6 hz6 hG6
          have hw := Below.refl w6.heap.size w6
          repeat' (first | (refine lw_pure rfl (pv_move rfl) ?_) | (refine is_cw ?_; first | (refine cw_seq ?_) | (refine cw_region ?_)) | (refine is_qw ?_; first | (with_reducible refine qw_then ?_)) | (refine lw_nil ?_))
          have hwa := grow_trans hw0 hw
          refine lw_call (f := 50) (by kernel_rfl) rfl rfl (do_c (g := 54) (caps := #[]) (fs := d.fs) (h.mono hw) h.ok (by kernel_rfl) (fun w1 d1 hD hf hG => (append1_c w1).mono fun e w' he => ⟨he.1, by rw [he.2]; obtain ⟨m, h5, h6⟩ := hD.mp; exact ⟨m, h5, by rw [← hf]; exact h6⟩, by rw [he.2]; exact Gw.of_below (Below.refl _ _)⟩)) ?_
          rintro e1 w9 ⟨rfl, hD, hG⟩; refine ⟨_, rfl, ?_⟩
          clear hw
          have hw := Below.refl w9.heap.size w9
          have H7 := H6.gw hG (by omega) (by omega)
          obtain ⟨m, hm, hp⟩ := hD.mp
          rw [doD_fs] at hp
          have H := hD.obj
          have hs := h.ok.srt
          repeat' (first | (refine lw_pure rfl (pv_assign rfl) ?_) | (refine is_cw ?_; first | (refine cw_seq ?_)) | (refine is_qw ?_; first | (with_reducible refine qw_then ?_)) | (refine lw_nil ?_))
          refine cw_drawnF 6 (fun w' => Below w9.heap.size w9 w' ∧ True) (by kernel_rfl) (by repeat (first | exact NoPanic.body | with_reducible refine NoPanic.then ?_ | with_reducible refine NoPanic.inBlock ?_)) (fun hNP => ?_)
          have hU := And.intro hw.drew trivial
          first | (refine fw_take 0 rfl (by kernel_rfl) rfl rfl (by kernel_rfl) (by kernel_rfl) (by kernel_rfl) hNP hU rfl (fun w' hq => pv_move rfl) ?_)
          first | (refine fw_take 1 rfl (by kernel_rfl) rfl rfl (by kernel_rfl) (by kernel_rfl) (by kernel_rfl) hNP hU rfl (fun w' hq => pv_nilp rfl) ?_)
          first | (refine fw_take 2 rfl (by kernel_rfl) rfl rfl (by kernel_rfl) (by kernel_rfl) (by kernel_rfl) hNP hU rfl (fun w' hq => pv_fa (tF rfl) rfl) ?_)
          first | (refine fw_take 3 rfl (by kernel_rfl) rfl rfl (by kernel_rfl) (by kernel_rfl) (by kernel_rfl) hNP hU rfl (fun w' hq => pv_load (t1 rfl) rfl (by first | exact PT.ld0 hq.2 rfl | exact PT.ld hq.2 rfl)) ?_) | (refine fw_take 3 rfl (by kernel_rfl) rfl rfl (by kernel_rfl) (by kernel_rfl) (by kernel_rfl) hNP hU rfl (fun w' hq => pv_loada (tA rfl) rfl (by first | exact PT.lda hq.2) (by rfl)) ?_) | (refine fw_take 3 rfl (by kernel_rfl) rfl rfl (by kernel_rfl) (by kernel_rfl) (by kernel_rfl) hNP hU rfl (fun w' hq => pv_load (t1 rfl) rfl (by first | exact PT.ld0 (H7.mono hq.1) rfl | exact PT.ld (H7.mono hq.1) rfl | exact PT.ld0 (H.mono hq.1) rfl | exact PT.ld (H.mono hq.1) rfl)) ?_) | (refine fw_take 3 rfl (by kernel_rfl) rfl rfl (by kernel_rfl) (by kernel_rfl) (by kernel_rfl) hNP hU rfl (fun w' hq => pv_loada (tA rfl) rfl (by first | exact PT.lda (H7.mono hq.1) | exact PT.lda (H.mono hq.1)) (by rfl)) ?_)
          first | (refine fw_take 4 rfl (by kernel_rfl) rfl rfl (by kernel_rfl) (by kernel_rfl) (by kernel_rfl) hNP hU rfl (fun w' hq => pv_move rfl) ?_)
          first | (refine fw_take 5 rfl (by kernel_rfl) rfl rfl (by kernel_rfl) (by kernel_rfl) (by kernel_rfl) hNP hU rfl (fun w' hq => pv_load (t1 rfl) rfl (by first | exact PT.ld0 hq.2 rfl | exact PT.ld hq.2 rfl)) ?_) | (refine fw_take 5 rfl (by kernel_rfl) rfl rfl (by kernel_rfl) (by kernel_rfl) (by kernel_rfl) hNP hU rfl (fun w' hq => pv_loada (tA rfl) rfl (by first | exact PT.lda hq.2) (by rfl)) ?_) | (refine fw_take 5 rfl (by kernel_rfl) rfl rfl (by kernel_rfl) (by kernel_rfl) (by kernel_rfl) hNP hU rfl (fun w' hq => pv_load (t1 rfl) rfl (by first | exact PT.ld0 (H7.mono hq.1) rfl | exact PT.ld (H7.mono hq.1) rfl | exact PT.ld0 (H.mono hq.1) rfl | exact PT.ld (H.mono hq.1) rfl)) ?_) | (refine fw_take 5 rfl (by kernel_rfl) rfl rfl (by kernel_rfl) (by kernel_rfl) (by kernel_rfl) hNP hU rfl (fun w' hq => pv_loada (tA rfl) rfl (by first | exact PT.lda (H7.mono hq.1) | exact PT.lda (H.mono hq.1)) (by rfl)) ?_)
          refine fw_last (by kernel_rfl) rfl rfl rfl rfl (by kernel_rfl) ?_
          obtain ⟨hw, -⟩ := hU; clear hNP
          refine act_svs (some_updB (k := n) (v := (f.firm, f.pend ++ b)) Tryz.underlying58 keyS hn rfl rfl rfl (hm.mono hw)) ?_; rintro w8 ⟨hm8, hg8, hz8⟩
          have hne := hD.ne
          have hG8 := (Gw.of_below (a := N) (b := B) hw).trans (Gw.of_b hg8)
          have H8 := (hD.obj.mono hw).grown hg8 (by intro e; injection e with e; exact hne e.symm)
          clear hw
          have hw := Below.refl w8.heap.size w8
          repeat' (first | (refine lw_pure rfl (pv_move rfl) ?_) | (refine lw_pure rfl (pv_assign rfl) ?_) | (refine is_cw ?_; first | (refine cw_seq ?_) | (refine cw_region ?_) | (refine cw_ret ?_)) | (refine is_qw ?_; first | (with_reducible refine qw_then ?_)) | (refine lw_nil ?_))
          exact qw_ret1 rfl rfl ⟨rfl, ⟨H8, ⟨_, hm8, perm_put (φ := fun f => (f.firm, f.pend)) hp hs ⟨n, f.firm, f.pend ++ b⟩⟩, hok⟩, ((Gw.of_below hwa).trans hG).trans hG8⟩
set_option maxRecDepth 20000 in
theorem up_c {w : World} {N B : Nat} {d : Dsk} (h : DkW w N B d) : Calls Tryz.prog 21 #[.pointer (some ⟨N, 0, none⟩)] w fun e w' => e = .returned (.bool (!d.dark)) ∧ Below w.heap.size w w' := by
  have H := h.obj
  have hw := Below.refl w.heap.size w
  refine fn_enter 12 Tryz.func21 rfl rfl rfl ?_
  repeat' (first | (refine lw_pure rfl (pv_move rfl) ?_) | (refine lw_pure rfl (pv_assign rfl) ?_) | (refine is_cw ?_; first | (refine cw_seq ?_) | (refine cw_region ?_) | (refine cw_ret ?_)) | (refine is_qw ?_; first | (with_reducible refine qw_then ?_)) | (refine lw_nil ?_) | (refine is_guarded ?_; first | (refine lw_on rfl rfl rfl ?_)) | ((refine is_bin ?_; first | (refine lw_pure rfl (pv_pnnil tpD rfl rfl) ?_))) | ((refine is_load ?_; first | (refine lw_pure rfl (pv_load (t1 rfl) rfl (by first | exact PT.ld0 (H.mono hw) rfl | exact PT.ld (H.mono hw) rfl)) ?_))) | ((refine is_fa ?_; first | (refine lw_pure rfl (pv_fa (tF rfl) rfl) ?_))) | ((refine is_un ?_; first | (refine lw_pure rfl (pv_not rfl) ?_))) | (refine lw_pure rfl (pv_pick_t rfl rfl rfl) ?_) | (refine lw_pure rfl (pv_nilp rfl) ?_))
  exact qw_ret1 rfl rfl ⟨rfl, hw⟩
set_option maxRecDepth 20000 in
theorem upn_c (w : World) : Calls Tryz.prog 21 #[.pointer none] w fun e w' => e = .returned (.bool false) ∧ Below w.heap.size w w' := by
  have hw := Below.refl w.heap.size w
  refine fn_enter 12 Tryz.func21 rfl rfl rfl ?_
  repeat' (first | (refine lw_pure rfl (pv_move rfl) ?_) | (refine lw_pure rfl (pv_assign rfl) ?_) | (refine is_cw ?_; first | (refine cw_seq ?_) | (refine cw_region ?_) | (refine cw_ret ?_)) | (refine is_qw ?_; first | (with_reducible refine qw_then ?_)) | (refine lw_nil ?_) | (refine is_guarded ?_; first | (refine lw_not rfl rfl rfl rfl ?_)) | ((refine is_bin ?_; first | (refine lw_pure rfl (pv_pnnil tpD rfl rfl) ?_))) | (refine lw_pure rfl (pv_pick_f rfl rfl rfl) ?_))
  exact qw_ret1 rfl rfl ⟨rfl, hw⟩
set_option maxRecDepth 20000 in
theorem cap_c {w : World} {N B : Nat} {d : Dsk} (h : DkW w N B d) : Calls Tryz.prog 46 #[.pointer (some ⟨N, 0, none⟩)] w fun e w' => e = .returned (.int .i64 d.cap) ∧ Below w.heap.size w w' := by
  have H := h.obj
  have hw := Below.refl w.heap.size w
  refine fn_enter 9 Tryz.func46 rfl rfl rfl ?_
  repeat' (first | (refine lw_pure rfl (pv_move rfl) ?_) | (refine lw_pure rfl (pv_assign rfl) ?_) | (refine is_cw ?_; first | (refine cw_seq ?_) | (refine cw_region ?_) | (refine cw_false rfl rfl ?_) | (refine cw_skip ?_) | (refine cw_ret ?_)) | (refine is_qw ?_; first | (with_reducible refine qw_then ?_)) | (refine lw_nil ?_) | ((refine is_bin ?_; first | (refine lw_pure rfl (pv_pnil tpD rfl rfl) ?_))) | ((refine is_load ?_; first | (refine lw_pure rfl (pv_load (t1 rfl) rfl (by first | exact PT.ld0 (H.mono hw) rfl | exact PT.ld (H.mono hw) rfl)) ?_))) | ((refine is_fa ?_; first | (refine lw_pure rfl (pv_fa (tF rfl) rfl) ?_))) | (refine lw_pure rfl (pv_nilp rfl) ?_))
  exact qw_ret1 rfl rfl ⟨rfl, hw⟩
set_option maxRecDepth 20000 in
theorem capn_c (w : World) : Calls Tryz.prog 46 #[.pointer none] w fun e w' => e = .returned (.int .i64 0) ∧ Below w.heap.size w w' := by
  have hw := Below.refl w.heap.size w
  refine fn_enter 9 Tryz.func46 rfl rfl rfl ?_
  repeat' (first | (refine lw_pure rfl (pv_move rfl) ?_) | (refine lw_pure rfl (pv_assign rfl) ?_) | (refine is_cw ?_; first | (refine cw_seq ?_) | (refine cw_region ?_) | (refine cw_true rfl rfl ?_) | (refine cw_ret ?_)) | (refine is_qw ?_; first | (with_reducible refine qw_then ?_) | (with_reducible refine qw_then_ret ?_)) | (refine lw_nil ?_) | ((refine is_bin ?_; first | (refine lw_pure rfl (pv_pnil tpD rfl rfl) ?_))))
  exact qw_ret1 rfl rfl ⟨rfl, hw⟩
set_option maxRecDepth 20000 in
theorem room_c {w : World} {N B : Nat} {d : Dsk} (h : DkW w N B d) : Calls Tryz.prog 38 #[.pointer (some ⟨N, 0, none⟩)] w fun e w' => e = .returned (if d.dark then .tuple #[.int .i64 0, .int .i64 0, .int .i64 45] else .tuple #[.int .i64 (d.cap - usedF d.fs), .int .i64 (64 - (d.fs.length : Nat)), .int .i64 0]) ∧ Below w.heap.size w w' := by
  have H := h.obj
  obtain ⟨m, hm, hp⟩ := h.mp
  have hml := perm_len hp
  have hus := h.ok.used
  have hcp := h.ok.cap
  have hct := h.ok.cnt
  have hw := Below.refl w.heap.size w
  refine fn_enter 24 Tryz.func38 rfl rfl rfl ?_
  cases hk : d.dark with
  | true =>
    repeat' (first | (refine lw_pure rfl (pv_move rfl) ?_) | (refine lw_pure rfl (pv_assign rfl) ?_) | (refine lw_call (f := 48) (by kernel_rfl) rfl rfl (down1_c (h.mono hw) hk) ?_; rintro e w1 ⟨rfl, hb⟩; refine ⟨_, rfl, ?_⟩; replace hw := grow_trans hw hb; clear hb) | (refine is_cw ?_; first | (refine cw_seq ?_) | (refine cw_region ?_) | (refine cw_true rfl rfl ?_) | (refine cw_ret ?_)) | (refine is_qw ?_; first | (with_reducible refine qw_then ?_) | (with_reducible refine qw_then_ret ?_)) | (refine lw_nil ?_) | ((refine is_bin ?_; first | (refine lw_pure rfl (pv_neq rfl rfl) ?_))))
    exact qw_ret3 rfl rfl rfl rfl ⟨rfl, hw⟩
  | false =>
    rw [← hml]
    repeat' (first | (refine lw_pure rfl (pv_move rfl) ?_) | (refine lw_pure rfl (pv_assign rfl) ?_) | (refine lw_call (f := 48) (by kernel_rfl) rfl rfl (down0_c (h.mono hw) hk) ?_; rintro e w1 ⟨rfl, hb⟩; refine ⟨_, rfl, ?_⟩; replace hw := grow_trans hw hb; clear hb) | (refine is_cw ?_; first | (refine cw_seq ?_) | (refine cw_region ?_) | (refine cw_false rfl rfl ?_) | (refine cw_skip ?_)) | (refine is_qw ?_; first | (with_reducible refine qw_then ?_)) | (refine lw_nil ?_) | ((refine is_bin ?_; first | (refine lw_pure rfl (pv_neq rfl rfl) ?_))))
    refine cw_drawn (fun w' => Below w.heap.size w w') (by kernel_rfl) (by repeat (first | exact NoPanic.body | with_reducible refine NoPanic.then ?_ | with_reducible refine NoPanic.inBlock ?_)) (fun hNP => ?_)
    have hS := hw.drew
    (refine at0 0 rfl (fun w' hq => pv_move rfl) ?_)
    (refine at0 1 rfl (fun w' hq => pv_nilp rfl) ?_)
    (refine at0 2 rfl (fun w' hq => pv_fa (tF rfl) rfl) ?_)
    (refine at0 3 rfl (fun w' hq => pv_load (t1 rfl) rfl (by first | exact PT.ld0 (H.mono hq) rfl | exact PT.ld (H.mono hq) rfl)) ?_)
    (refine at0 4 rfl (fun w' hq => pv_move rfl) ?_)
    (refine at0 7 rfl (fun w' hq => pv_move rfl) ?_)
    (refine at0 8 rfl (fun w' hq => pv_nilp rfl) ?_)
    (refine at0 9 rfl (fun w' hq => pv_fa (tF rfl) rfl) ?_)
    (refine at0 10 rfl (fun w' hq => pv_load (t1 rfl) rfl (by first | exact PT.ld0 (H.mono hq) rfl | exact PT.ld (H.mono hq) rfl)) ?_)
    refine aw_act 5 (by kernel_rfl) rfl rfl rfl ?_
    refine act_call (f := 45) (by kernel_rfl) rfl (used_c (h.mono hS)) ?_; rintro e w1 ⟨rfl, hb⟩; refine ⟨_, rfl, grow_trans hS hb, fun hS => ?_⟩
    (refine at0 6 rfl (fun w' hq => pv_sub rfl rfl (by omega)) ?_)
    (refine at0 11 rfl (fun w' hq => pv_lenB rfl Tryz.underlying58 rfl (hm.mono hq)) ?_)
    (refine at0 12 rfl (fun w' hq => pv_sub rfl rfl (by omega)) ?_)
    (refine at0 13 rfl (fun w' hq => pv_assign rfl) ?_)
    (refine at0 14 rfl (fun w' hq => pv_assign rfl) ?_)
    (refine at0 15 rfl (fun w' hq => pv_assign rfl) ?_)
    refine aw_done (by kernel_rfl) ?_
    replace hw := hS; clear hS hNP
    repeat' (first | (refine is_cw ?_; first | (refine cw_ret ?_)) | (refine is_qw ?_; first | (with_reducible refine qw_then ?_)))
    exact qw_ret3 rfl rfl rfl rfl ⟨rfl, hw⟩
end Go.Proofs.YtncicecmhibpcaaGreatDoor
namespace Go.Proofs.YtncicecmhibpcaaGreatDoor
open Go.RowKit Go.PlainAid Go.Maps Go.Sort Go.Shelf Go.WideShapes

def anyR (_ : Value) : Option (DataW Unit × List MemPlace) := some (.lit (.bool true), [])
theorem rd_ent (e : Nm × (ByteArray × ByteArray) × Nat) : WideElems.rd Tryz.prog 9 anyR (entE ekS evF e) = some (.string e.1.1.data.toList, .lit (.bool true)) :=
  WideElems.rd_mk (key := ekS e.1) (val := evF e.2.1) (yv := (.lit (.bool true), [])) (born := e.2.2) (WideMaps.keyOf_string_mk Tryz.underlying9 (by simpa [maxLen] using e.1.2)) rfl
set_option maxRecDepth 20000 in
theorem Mp.owns {w : World} {B : Nat} {m' : List (Nm × (ByteArray × ByteArray))} (h : Mp ekS evF w B m') (hl : m'.length ≤ 1000) : ∃ D : DataW Unit, w.ownsMap Tryz.prog 9 anyR B m'.length D ∧ (strKeys D).Perm (m'.map fun e => e.1.1.data.toList) ∧ Maps.size D = m'.length := by
  obtain ⟨es, clk, hE, rfl⟩ := h
  have hlen : (es.map prj).length = es.length := by simp
  have hsz : ((es.map (entE ekS evF)).toArray).size = es.length := by rw [List.size_toArray, List.length_map]
  have hrd : ((es.map (entE ekS evF)).toArray.toList.map (WideElems.rg Tryz.prog 9 anyR)) = es.map fun e => (.string e.1.1.data.toList, .lit (.bool true)) := by
    rw [show (es.map (entE ekS evF)).toArray.toList = es.map (entE ekS evF) from rfl, List.map_map]
    refine List.map_congr_left fun e _ => ?_
    show WideElems.rg Tryz.prog 9 anyR (entE ekS evF e) = (.string e.1.1.data.toList, .lit (.bool true))
    exact WideElems.rg_of (rd_ent e)
  refine ⟨_, ⟨_, clk, hE.heap, ⟨?_, ?_, ?_⟩, ?_, rfl⟩, ?_, ?_⟩
  · rw [hsz]; rw [hlen] at hl; show es.length ≤ 9223372036854775807; omega
  · refine ⟨fun x hx => ?_, ?_, ?_⟩
    · simp only [List.mem_map] at hx
      obtain ⟨e, he, rfl⟩ := hx
      exact hE.lt e he
    · have := hE.born
      simp only [List.map_map]
      exact this
    · have := hE.keys
      simp only [List.map_map]
      have h2 : (es.map ((fun x : MapEntry => x.key) ∘ entE ekS evF)) = (es.map (·.1)).map ekS := by rw [List.map_map]; rfl
      rw [h2]
      unfold List.Nodup at this ⊢
      rw [List.pairwise_map]
      exact this.imp fun h1 e => h1 (keyS.inj _ _ e)
  · intro x hx
    simp only [List.mem_map] at hx
    obtain ⟨e, _, rfl⟩ := hx
    exact ⟨_, rd_ent e⟩
  · rw [hsz, hlen]; exact Nat.le_refl _
  · rw [hrd]
    show (List.map _ _).Perm _
    refine ((sorted_perm _).map _).trans ?_
    rw [List.map_map, List.map_map]
    exact List.Perm.of_eq rfl
  · show List.length _ = _
    rw [(sorted_perm _).length_eq, List.length_map, List.length_map]
    simp
theorem sortsZ (m : Nat) : AnyZ.SortsIn Tryz.prog Tryz.sortedZ_ren Fence.wide m :=
  ⟨fun blk off cap ss W hH hblk hsz => callsIn_wide.2 (AnyM.slices_Sort_string Tryz.sortM blk off cap ss W hH hblk hsz),
   fun p cap W => callsIn_wide.2 (AnyM.slices_Sort_string_none Tryz.sortM p cap W)⟩
theorem keys_c (mb : Option Nat) (W : World) : Calls Tryz.prog 68 #[.map mb] W fun e w' => e = .returned (.func (.func 78) #[] #[.pointer (some ⟨W.heap.size, 0, none⟩)]) ∧ w' = W.alloc (.cells #[.map mb] 58) :=
  (callsIn_wide (n := 5)).1 (AnyZ.keys_in Tryz.keysZ Fence.wide 5 trivial rfl mb W)
theorem names_sorted {l : List Fil} (h : SortF l) {ss : List (List UInt8)} (hp : ss.Perm (l.map fun f => f.name.data.toList)) : ss.mergeSort (fun x y => decide (x ≤ y)) = l.map fun f => f.name.data.toList := by
  have tr : ∀ a b c : List UInt8, decide (a ≤ b) = true → decide (b ≤ c) = true → decide (a ≤ c) = true := fun a b c h1 h2 => by simp only [decide_eq_true_eq] at *; exact List.le_trans h1 h2
  have to : ∀ a b : List UInt8, (decide (a ≤ b) || decide (b ≤ a)) = true := fun a b => by simp only [Bool.or_eq_true, decide_eq_true_eq]; exact List.le_total a b
  refine List.Perm.eq_of_pairwise (le := fun a b => decide (a ≤ b) = true) (fun a b _ _ h1 h2 => ?_) (List.pairwise_mergeSort tr to ss) ?_ ((List.mergeSort_perm ss _).trans hp)
  · simp only [decide_eq_true_eq] at h1 h2
    exact List.le_antisymm h1 h2
  · rw [List.pairwise_map]
    exact h.imp fun h1 => decide_eq_true (List.le_of_lt h1)
theorem sorted_c {w : World} {N B : Nat} {d : Dsk} (h : DkW w N B d) : Calls Tryz.prog 67 #[.func (.func 78) #[] #[.pointer (some ⟨w.heap.size, 0, none⟩)]] (w.alloc (.cells #[.map (some B)] 58)) fun e w' => (∃ v, e = .returned v ∧ Own encT 1 9 w.heap.size w' v (d.fs.map (·.name))) ∧ Below (w.alloc (.cells #[.map (some B)] 58)).heap.size (w.alloc (.cells #[.map (some B)] 58)) w' := by
  obtain ⟨m, ⟨m', hm, rfl⟩, hp⟩ := h.mp
  have hlen : m'.length = d.fs.length := by have := perm_len hp; rwa [List.length_map] at this
  have hct := h.ok.cnt
  obtain ⟨D, hown, hk, hsz⟩ := hm.owns (by omega)
  have hbl := hown.lt
  have hseq : SeqGives Fence.wide 2 Tryz.prog 78 #[.pointer (some ⟨w.heap.size, 0, none⟩)] encStr (fun ss => ss.Perm (strKeys D)) (Maps.size D) (w.alloc (.cells #[.map (some B)] 58)) :=
    AnyZ.keys_gives (ρ := Tryz.keysZ_ren) { Tryz.keysZ with } Fence.wide _ trivial rfl (by omega) w.heap.size B m'.length D _ (by simp) (by simp) (by
      obtain ⟨es, clock, hb, Ft, hs, hD⟩ := hown
      exact ⟨es, clock, (Below.heap_alloc _ _ B hbl).trans hb, Ft, hs, hD⟩)
  have cS := AnyZ.sorted_in Tryz.sortedZ Fence.wide 5 trivial trivial trivial trivial rfl (by omega) (sortsZ _) (enters_of Tryz.func77 (by kernel_rfl) rfl) 78 #[.pointer (some ⟨w.heap.size, 0, none⟩)] trivial (enters_of Tryz.func78 (by kernel_rfl) rfl) _ _ (by rw [hsz, hlen]; show d.fs.length ≤ 9223372036854775807; omega) (by rw [hsz, hlen]; omega) _ hseq
  refine ((callsIn_wide (n := 5)).1 cS).mono ?_
  rintro e w' ⟨v, ss, rfl, hS, hrow, hnil, hb⟩
  have hperm : ss.Perm (d.fs.map fun f => f.name.data.toList) := by
    refine (hS.trans hk).trans ?_
    have h2 := hp.map fun e => e.1.data.toList
    rw [List.map_map] at h2
    unfold mapF mapG at h2
    rw [List.map_map] at h2
    exact h2
  have hss := names_sorted h.ok.srt hperm
  have hln : ss.length = d.fs.length := by have := hperm.length_eq; simpa using this
  refine ⟨⟨v, rfl, ?_⟩, hb⟩
  rw [hss, hln] at hrow
  unfold Own
  have e : ((d.fs.map fun f => f.name.data.toList).map encStr) = (d.fs.map (·.name)).flatMap encT := by
    rw [List.map_map, List.flatMap_map]
    generalize d.fs = l
    induction l with
    | nil => rfl
    | cons f r ih => rw [List.map_cons, List.flatMap_cons, ih]; rfl
  rw [e] at hrow
  rw [List.length_map]
  exact ownsRow_base_a hrow (by simp)
set_option maxRecDepth 20000 in
theorem names_c {w : World} {N B : Nat} {d : Dsk} (h : DkW w N B d) : Calls Tryz.prog 56 #[.pointer (some ⟨N, 0, none⟩)] w fun e w' => (∃ v, e = .returned v ∧ Own encT 1 9 w.heap.size w' v (d.fs.map (·.name))) ∧ Below w.heap.size w w' := by
  have H := h.obj
  have hw := Below.refl w.heap.size w
  refine fn_enter 9 Tryz.func56 rfl rfl rfl ?_
  repeat' (first | (refine lw_pure rfl (pv_move rfl) ?_) | (refine lw_pure rfl (pv_assign rfl) ?_) | (refine is_cw ?_; first | (refine cw_seq ?_) | (refine cw_region ?_) | (refine cw_ret ?_)) | (refine is_qw ?_; first | (with_reducible refine qw_then ?_) | (with_reducible refine qw_then_ret ?_)) | (refine lw_nil ?_) | ((refine is_load ?_; first | (refine lw_pure rfl (pv_load (t1 rfl) rfl (by first | exact PT.ld0 (H.mono hw) rfl | exact PT.ld (H.mono hw) rfl)) ?_) | (refine lw_pure rfl (pv_loada (tA rfl) rfl (by first | exact PT.lda (H.mono hw)) (by rfl)) ?_))) | ((refine is_fa ?_; first | (refine lw_pure rfl (pv_fa (tF rfl) rfl) ?_))) | (refine lw_pure rfl (pv_nilp rfl) ?_) | (refine lw_pure0 (pv_nilp rfl) ?_))
  refine lw_call (f := 68) (by kernel_rfl) rfl rfl (keys_c (some B) w) ?_; rintro e w1 ⟨rfl, rfl⟩; refine ⟨_, rfl, ?_⟩
  repeat' (first | (refine lw_pure rfl (pv_move rfl) ?_) | (refine lw_pure rfl (pv_assign rfl) ?_) | (refine is_cw ?_; first | (refine cw_seq ?_) | (refine cw_region ?_) | (refine cw_ret ?_)) | (refine is_qw ?_; first | (with_reducible refine qw_then ?_) | (with_reducible refine qw_then_ret ?_)) | (refine lw_nil ?_) | ((refine is_load ?_; first | (refine lw_pure rfl (pv_load (t1 rfl) rfl (by first | fail)) ?_) | (refine lw_pure rfl (pv_loada (tA rfl) rfl (by first | fail) (by rfl)) ?_))) | ((refine is_fa ?_; first | (refine lw_pure rfl (pv_fa (tF rfl) rfl) ?_))) | (refine lw_pure rfl (pv_nilp rfl) ?_) | (refine lw_pure0 (pv_nilp rfl) ?_))
  refine lw_call (f := 67) (by kernel_rfl) rfl rfl (sorted_c h) ?_; rintro e w2 ⟨⟨v, rfl, hO⟩, hb⟩; refine ⟨_, rfl, ?_⟩
  repeat' (first | (refine lw_pure rfl (pv_move rfl) ?_) | (refine lw_pure rfl (pv_assign rfl) ?_) | (refine is_cw ?_; first | (refine cw_seq ?_) | (refine cw_region ?_) | (refine cw_ret ?_)) | (refine is_qw ?_; first | (with_reducible refine qw_then ?_) | (with_reducible refine qw_then_ret ?_)) | (refine lw_nil ?_) | ((refine is_load ?_; first | (refine lw_pure rfl (pv_load (t1 rfl) rfl (by first | fail)) ?_) | (refine lw_pure rfl (pv_loada (tA rfl) rfl (by first | fail) (by rfl)) ?_))) | ((refine is_fa ?_; first | (refine lw_pure rfl (pv_fa (tF rfl) rfl) ?_))) | (refine lw_pure rfl (pv_nilp rfl) ?_) | (refine lw_pure0 (pv_nilp rfl) ?_))
  exact qw_ret1 rfl rfl ⟨⟨v, rfl, hO⟩, (below_alloc w _).trans (hb.mono (by simp))⟩
set_option maxRecDepth 20000 in
theorem list_c {w : World} {N B : Nat} {d : Dsk} (h : DkW w N B d) (hk : d.dark = false) : Calls Tryz.prog 36 #[.pointer (some ⟨N, 0, none⟩)] w fun e w' => (∃ v, e = .returned (.tuple #[v, .int .i64 0]) ∧ Own encT 1 9 w.heap.size w' v (d.fs.map (·.name))) ∧ Below w.heap.size w w' := by
  have hw := Below.refl w.heap.size w
  refine fn_enter 12 Tryz.func36 rfl rfl rfl ?_
  repeat' (first | (refine lw_pure rfl (pv_move rfl) ?_) | (refine lw_pure rfl (pv_assign rfl) ?_) | (refine lw_call (f := 48) (by kernel_rfl) rfl rfl (down0_c (h.mono hw) hk) ?_; rintro e w1 ⟨rfl, hb⟩; refine ⟨_, rfl, ?_⟩; replace hw := grow_trans hw hb; clear hb) | (refine is_cw ?_; first | (refine cw_seq ?_) | (refine cw_region ?_) | (refine cw_true rfl rfl ?_) | (refine cw_false rfl rfl ?_) | (refine cw_true rfl (by first | assumption | exact decide_eq_true (by omega) | exact dec_notT (by omega)) ?_) | (refine cw_false rfl (by first | assumption | exact decide_eq_false (by omega) | exact dec_notF (by omega)) ?_) | (refine cw_skip ?_) | (refine cw_ret ?_)) | (refine is_qw ?_; first | (with_reducible refine qw_then ?_) | (with_reducible refine qw_then_ret ?_)) | (refine lw_nil ?_) | ((refine is_bin ?_; first | (refine lw_pure rfl (pv_neq rfl rfl) ?_))))
  refine lw_call (f := 56) (by kernel_rfl) rfl rfl (names_c (h.mono hw)) ?_; rintro e w2 ⟨⟨v, rfl, hO⟩, hb⟩; refine ⟨_, rfl, ?_⟩
  have hs := hw.size
  replace hw := grow_trans hw hb
  repeat' (first | (refine lw_pure rfl (pv_move rfl) ?_) | (refine lw_pure rfl (pv_assign rfl) ?_) | (refine is_cw ?_; first | (refine cw_seq ?_) | (refine cw_region ?_) | (refine cw_true rfl rfl ?_) | (refine cw_false rfl rfl ?_) | (refine cw_true rfl (by first | assumption | exact decide_eq_true (by omega) | exact dec_notT (by omega)) ?_) | (refine cw_false rfl (by first | assumption | exact decide_eq_false (by omega) | exact dec_notF (by omega)) ?_) | (refine cw_skip ?_) | (refine cw_ret ?_)) | (refine is_qw ?_; first | (with_reducible refine qw_then ?_) | (with_reducible refine qw_then_ret ?_)) | (refine lw_nil ?_) | ((refine is_bin ?_; first | (refine lw_pure rfl (pv_neq rfl rfl) ?_))))
  exact qw_ret2 rfl rfl rfl ⟨⟨v, rfl, hO.weaken hs⟩, hw⟩
set_option maxRecDepth 20000 in
theorem list45_c {w : World} {N B : Nat} {d : Dsk} (h : DkW w N B d) (hk : d.dark = true) : Calls Tryz.prog 36 #[.pointer (some ⟨N, 0, none⟩)] w fun e w' => e = .returned (.tuple #[.slice none 0 0, .int .i64 45]) ∧ Below w.heap.size w w' := by
  have hw := Below.refl w.heap.size w
  refine fn_enter 12 Tryz.func36 rfl rfl rfl ?_
  repeat' (first | (refine lw_pure rfl (pv_move rfl) ?_) | (refine lw_pure rfl (pv_assign rfl) ?_) | (refine lw_call (f := 48) (by kernel_rfl) rfl rfl (down1_c (h.mono hw) hk) ?_; rintro e w1 ⟨rfl, hb⟩; refine ⟨_, rfl, ?_⟩; replace hw := grow_trans hw hb; clear hb) | (refine is_cw ?_; first | (refine cw_seq ?_) | (refine cw_region ?_) | (refine cw_true rfl rfl ?_) | (refine cw_false rfl rfl ?_) | (refine cw_true rfl (by first | assumption | exact decide_eq_true (by omega) | exact dec_notT (by omega)) ?_) | (refine cw_false rfl (by first | assumption | exact decide_eq_false (by omega) | exact dec_notF (by omega)) ?_) | (refine cw_skip ?_) | (refine cw_ret ?_)) | (refine is_qw ?_; first | (with_reducible refine qw_then ?_) | (with_reducible refine qw_then_ret ?_)) | (refine lw_nil ?_) | ((refine is_bin ?_; first | (refine lw_pure rfl (pv_neq rfl rfl) ?_))))
  exact qw_ret2 rfl rfl rfl ⟨rfl, hw⟩
end Go.Proofs.YtncicecmhibpcaaGreatDoor
namespace Go.Proofs.YtncicecmhibpcaaGreatDoor
open Go.RowKit Go.PlainAid

def encV2 (v : ByteArray × ByteArray) : List Value := [.string v.1, .string v.2]
theorem neq_V (x y : ByteArray × ByteArray) (w : World) : (binOp .neq 63 (.agg (encV2 x).toArray) (.agg (encV2 y).toArray)).run Tryz.prog w = .ok (.bool (!decide (x = y))) w := by
  have hS : (Tryz.prog).underlying 63 = some (.struct ((Tryz.prog).fieldsOf 63)) := by kernel_rfl
  have hp : (Tryz.prog).stoodInHeld 63 = false := by kernel_rfl
  unfold encV2
  rw [run_neq_struct, show (10000 : Nat) = 9999 + 1 from rfl, run_equalIn_agg w 9999 63 _ _ hS hp]
  have h : (decide (x = y)) = (x.1.toList == y.1.toList && x.2.toList == y.2.toList) := by
    rw [Bool.eq_iff_iff]
    cases x; cases y; simp [beq_str]
  rw [h]
  simp only [Program.fieldsOf, Tryz.underlying63]
  go_simp
  by_cases h1 : x.1.toList = y.1.toList <;> by_cases h2 : x.2.toList = y.2.toList <;> simp [*]
theorem eql_V (x y : ByteArray × ByteArray) (w : World) : (binOp .eql 63 (.agg (encV2 x).toArray) (.agg (encV2 y).toArray)).run Tryz.prog w = .ok (.bool (decide (x = y))) w := by
  have hS : (Tryz.prog).underlying 63 = some (.struct ((Tryz.prog).fieldsOf 63)) := by kernel_rfl
  have hp : (Tryz.prog).stoodInHeld 63 = false := by kernel_rfl
  unfold encV2
  rw [run_eql_struct, show (10000 : Nat) = 9999 + 1 from rfl, run_equalIn_agg w 9999 63 _ _ hS hp]
  have h : (decide (x = y)) = (x.1.toList == y.1.toList && x.2.toList == y.2.toList) := by
    rw [Bool.eq_iff_iff]
    cases x; cases y; simp [beq_str]
  rw [h]
  simp only [Program.fieldsOf, Tryz.underlying63]
  go_simp
  by_cases h1 : x.1.toList = y.1.toList <;> by_cases h2 : x.2.toList = y.2.toList <;> simp [*]
theorem pv_neqV {n : Nat} {l : Fr} {w : World} {d : Option Nat} {t' ty : TypeId} {x y : Operand} {pos : String} {af : Array Edge} {g : Option (Nat × Bool)} (a b : ByteArray × ByteArray) (hx : ev l x = some (.agg (encV2 a).toArray)) (hy : ev l y = some (.agg (encV2 b).toArray)) : Pv Tryz.prog n l ⟨d, .binOp .neq 63 x y t', ty, pos, af, g⟩ (.bool (!decide (a = b))) w := ⟨fun A hA => by
  have h1 : (eqGuard .neq 63 x y (.agg (encV2 a).toArray) (.agg (encV2 b).toArray)).run Tryz.prog w = .ok () w := run_eqGuard_agg w .neq 63 x y _ _ (by kernel_rfl)
  have h2 := neq_V a b w
  simp [execOp, hA.ev hx, hA.ev hy, h1, h2]⟩
theorem pv_eqlV {n : Nat} {l : Fr} {w : World} {d : Option Nat} {t' ty : TypeId} {x y : Operand} {pos : String} {af : Array Edge} {g : Option (Nat × Bool)} (a b : ByteArray × ByteArray) (hx : ev l x = some (.agg (encV2 a).toArray)) (hy : ev l y = some (.agg (encV2 b).toArray)) : Pv Tryz.prog n l ⟨d, .binOp .eql 63 x y t', ty, pos, af, g⟩ (.bool (decide (a = b))) w := ⟨fun A hA => by
  have h1 : (eqGuard .eql 63 x y (.agg (encV2 a).toArray) (.agg (encV2 b).toArray)).run Tryz.prog w = .ok () w := run_eqGuard_agg w .eql 63 x y _ _ (by kernel_rfl)
  have h2 := eql_V a b w
  simp [execOp, hA.ev hx, hA.ev hy, h1, h2]⟩

theorem neq_F (x y : Fil) (w : World) : (binOp .neq 54 (.agg (encF x).toArray) (.agg (encF y).toArray)).run Tryz.prog w = .ok (.bool (!decide (x = y))) w := by
  have hS : (Tryz.prog).underlying 54 = some (.struct ((Tryz.prog).fieldsOf 54)) := by kernel_rfl
  have hp : (Tryz.prog).stoodInHeld 54 = false := by kernel_rfl
  unfold encF
  rw [run_neq_struct, show (10000 : Nat) = 9999 + 1 from rfl, run_equalIn_agg w 9999 54 _ _ hS hp]
  have h : (decide (x = y)) = (x.name.toList == y.name.toList && (x.firm.toList == y.firm.toList && x.pend.toList == y.pend.toList)) := by
    rw [Bool.eq_iff_iff]
    cases x; cases y; simp [beq_str]
  rw [h]
  simp only [Program.fieldsOf, Tryz.underlying54]
  go_simp
  by_cases h1 : x.name.toList = y.name.toList <;> by_cases h2 : x.firm.toList = y.firm.toList <;> by_cases h3 : x.pend.toList = y.pend.toList <;> simp [*]
theorem eql_F (x y : Fil) (w : World) : (binOp .eql 54 (.agg (encF x).toArray) (.agg (encF y).toArray)).run Tryz.prog w = .ok (.bool (decide (x = y))) w := by
  have hS : (Tryz.prog).underlying 54 = some (.struct ((Tryz.prog).fieldsOf 54)) := by kernel_rfl
  have hp : (Tryz.prog).stoodInHeld 54 = false := by kernel_rfl
  unfold encF
  rw [run_eql_struct, show (10000 : Nat) = 9999 + 1 from rfl, run_equalIn_agg w 9999 54 _ _ hS hp]
  have h : (decide (x = y)) = (x.name.toList == y.name.toList && (x.firm.toList == y.firm.toList && x.pend.toList == y.pend.toList)) := by
    rw [Bool.eq_iff_iff]
    cases x; cases y; simp [beq_str]
  rw [h]
  simp only [Program.fieldsOf, Tryz.underlying54]
  go_simp
  by_cases h1 : x.name.toList = y.name.toList <;> by_cases h2 : x.firm.toList = y.firm.toList <;> by_cases h3 : x.pend.toList = y.pend.toList <;> simp [*]
theorem pv_neqF {n : Nat} {l : Fr} {w : World} {d : Option Nat} {t' ty : TypeId} {x y : Operand} {pos : String} {af : Array Edge} {g : Option (Nat × Bool)} (a b : Fil) (hx : ev l x = some (.agg (encF a).toArray)) (hy : ev l y = some (.agg (encF b).toArray)) : Pv Tryz.prog n l ⟨d, .binOp .neq 54 x y t', ty, pos, af, g⟩ (.bool (!decide (a = b))) w := ⟨fun A hA => by
  have h1 : (eqGuard .neq 54 x y (.agg (encF a).toArray) (.agg (encF b).toArray)).run Tryz.prog w = .ok () w := run_eqGuard_agg w .neq 54 x y _ _ (by kernel_rfl)
  have h2 := neq_F a b w
  simp [execOp, hA.ev hx, hA.ev hy, h1, h2]⟩
theorem pv_eqlF {n : Nat} {l : Fr} {w : World} {d : Option Nat} {t' ty : TypeId} {x y : Operand} {pos : String} {af : Array Edge} {g : Option (Nat × Bool)} (a b : Fil) (hx : ev l x = some (.agg (encF a).toArray)) (hy : ev l y = some (.agg (encF b).toArray)) : Pv Tryz.prog n l ⟨d, .binOp .eql 54 x y t', ty, pos, af, g⟩ (.bool (decide (a = b))) w := ⟨fun A hA => by
  have h1 : (eqGuard .eql 54 x y (.agg (encF a).toArray) (.agg (encF b).toArray)).run Tryz.prog w = .ok () w := run_eqGuard_agg w .eql 54 x y _ _ (by kernel_rfl)
  have h2 := eql_F a b w
  simp [execOp, hA.ev hx, hA.ev hy, h1, h2]⟩

theorem SortF.get {l : List Fil} (h : SortF l) {i : Nat} {f : Fil} (hi : l[i]? = some f) : getF l f.name = some f := (getF_iff h).2 ⟨List.mem_of_getElem? hi, rfl⟩
set_option maxRecDepth 20000 in
theorem files_c {w : World} {N B : Nat} {d : Dsk} (h : DkW w N B d) : Calls Tryz.prog 43 #[.pointer (some ⟨N, 0, none⟩)] w fun e w' => (∃ v, e = .returned v ∧ Own encF 3 54 w.heap.size w' v d.fs) ∧ Below w.heap.size w w' := by
  have H := h.obj
  obtain ⟨m, hm, hp⟩ := h.mp
  have hs := h.ok.srt
  have hct := h.ok.cnt
  have hw := Below.refl w.heap.size w
  refine fn_enter 33 Tryz.func43 rfl rfl rfl ?_
  repeat' (first | (refine lw_pure rfl (pv_move rfl) ?_) | (refine lw_pure rfl (pv_assign rfl) ?_) | (refine is_cw ?_; first | (refine cw_seq ?_) | (refine cw_region ?_) | (refine cw_true rfl rfl ?_) | (refine cw_false rfl rfl ?_) | (refine cw_true rfl (by first | assumption | exact decide_eq_true (by omega) | exact dec_notT (by omega)) ?_) | (refine cw_false rfl (by first | assumption | exact decide_eq_false (by omega) | exact dec_notF (by omega)) ?_) | (refine cw_skip ?_) | (refine cw_block ?_) | (refine cw_exit ?_) | (refine cw_ret ?_)) | (refine is_qw ?_; first | (with_reducible refine qw_then ?_) | (with_reducible refine qw_in ?_) | (with_reducible refine qw_in_hit ?_) | (refine qw_in_miss rfl ?_) | (with_reducible refine qw_then_exit ?_) | (with_reducible refine qw_then_ret ?_) | (with_reducible refine qw_in_ret ?_)) | (refine lw_nil ?_) | ((refine is_bin ?_; first | (refine lw_pure rfl (pv_pnil tpD rfl rfl) ?_) | (refine lw_pure rfl (pv_lss rfl rfl) ?_) | (refine lw_pure rfl (pv_eql rfl rfl) ?_) | (refine lw_pure rfl (pv_inc rfl rfl (by omega)) ?_) | (refine lw_pure rfl (pv_add rfl rfl (by omega)) ?_))) | ((refine is_load ?_; first | (refine lw_pure rfl (pv_load (t1 rfl) rfl (by first | exact PT.ld0 (H.mono hw) rfl | exact PT.ld (H.mono hw) rfl)) ?_) | (refine lw_pure rfl (pv_loada (tA rfl) rfl (by first | exact PT.lda (H.mono hw)) (by rfl)) ?_))) | ((refine is_fa ?_; first | (refine lw_pure rfl (pv_fa (tF rfl) rfl) ?_))) | ((refine is_ia ?_; first | (refine lw_pure rfl (pv_ian (tS rfl) rfl rfl (by omega)) ?_) | (refine lw_pure rfl (pv_ia (tS rfl) rfl rfl (by omega)) ?_))) | ((refine is_bi ?_; first | (refine lw_pure rfl (pv_lenl (tS rfl) rfl) ?_) | (refine lw_pure rfl (pv_lens (tStr rfl) rfl) ?_))) | ((refine is_bd ?_; first | (refine lw_pure rfl (tyB_54 rfl rfl rfl) ?_))) | (refine lw_pure rfl (pv_nilp rfl) ?_) | (refine lw_pure0 (pv_nilp rfl) ?_))
  refine lw_call (f := 56) (by kernel_rfl) rfl rfl (names_c (h.mono hw)) ?_; rintro e w2 ⟨⟨nv, rfl, hO⟩, hb⟩; refine ⟨_, rfl, ?_⟩
  replace hw := grow_trans hw hb
  clear hb
  have hw0 := hw
  obtain ⟨na, nc, rfl, HN, -⟩ := Own.slR encT_len hO
  rw [List.length_map]
  replace h := h.mono hw; replace H := H.mono hw; replace hm := hm.mono hw; clear hw; have hw := Below.refl w2.heap.size w2
  repeat' (first | (refine lw_pure rfl (pv_move rfl) ?_) | (refine lw_pure rfl (pv_assign rfl) ?_) | (refine is_cw ?_; first | (refine cw_seq ?_) | (refine cw_region ?_) | (refine cw_true rfl rfl ?_) | (refine cw_false rfl rfl ?_) | (refine cw_true rfl (by first | assumption | exact decide_eq_true (by omega) | exact dec_notT (by omega)) ?_) | (refine cw_false rfl (by first | assumption | exact decide_eq_false (by omega) | exact dec_notF (by omega)) ?_) | (refine cw_skip ?_) | (refine cw_block ?_) | (refine cw_exit ?_) | (refine cw_ret ?_)) | (refine is_qw ?_; first | (with_reducible refine qw_then ?_) | (with_reducible refine qw_in ?_) | (with_reducible refine qw_in_hit ?_) | (refine qw_in_miss rfl ?_) | (with_reducible refine qw_then_exit ?_) | (with_reducible refine qw_then_ret ?_) | (with_reducible refine qw_in_ret ?_)) | (refine lw_nil ?_) | ((refine is_bin ?_; first | (refine lw_pure rfl (pv_lss rfl rfl) ?_) | (refine lw_pure rfl (pv_eql rfl rfl) ?_) | (refine lw_pure rfl (pv_inc rfl rfl (by omega)) ?_) | (refine lw_pure rfl (pv_add rfl rfl (by omega)) ?_))) | ((refine is_load ?_; first | (refine lw_pure rfl (pv_load (t1 rfl) rfl (by first | fail)) ?_) | (refine lw_pure rfl (pv_loada (tA rfl) rfl (by first | fail) (by rfl)) ?_))) | ((refine is_fa ?_; first | (refine lw_pure rfl (pv_fa (tF rfl) rfl) ?_))) | ((refine is_ia ?_; first | (refine lw_pure rfl (pv_ian (tS rfl) rfl rfl (by omega)) ?_) | (refine lw_pure rfl (pv_ia (tS rfl) rfl rfl (by omega)) ?_))) | ((refine is_bi ?_; first | (refine lw_pure rfl (pv_lenl (tS rfl) rfl) ?_) | (refine lw_pure rfl (pv_lens (tStr rfl) rfl) ?_))) | ((refine is_bd ?_; first | (refine lw_pure rfl (tyB_54 rfl rfl rfl) ?_))) | (refine lw_pure rfl (pv_nilp rfl) ?_) | (refine lw_pure0 (pv_nilp rfl) ?_))
  refine cw_loop (σ := Nat × Value) (fun s => [(0, .pointer (some ⟨N, 0, none⟩)), (3, s.2), (10, .slice na d.fs.length nc), (11, .int .i64 (d.fs.length : Nat)), (12, .int .i64 (s.1 : Nat))]) (fun s wr => s.1 ≤ d.fs.length ∧ Below w2.heap.size w2 wr ∧ Own encF 3 54 w2.heap.size wr s.2 (d.fs.take s.1)) (fun s => d.fs.length - s.1) (0, .slice none 0 0) (by repeat' (first | exact trivial | refine ⟨rfl, ?_⟩)) ⟨Nat.zero_le _, hw, Own.nil _⟩ ?_
  clear hw
  rintro ⟨k, v⟩ wr ⟨hk, hw, hO2⟩
  replace hk : k ≤ d.fs.length := hk
  replace hO2 : Own encF 3 54 w2.heap.size wr v (d.fs.take k) := hO2
  by_cases hlt : k < d.fs.length
  · have hxk : d.fs[k]? = some d.fs[k] := List.getElem?_eq_getElem hlt
    generalize d.fs[k] = f at hxk
    have hnk : (d.fs.map (·.name))[k]? = some f.name := by rw [List.getElem?_map, hxk]; rfl
    have hg := hs.get hxk
    have hsz := getF_sz h.ok hg
    have hn : f.name.size ≤ 9223372036854775807 := by omega
    have hpg : getM m f.name = some (f.firm, f.pend) := by rw [perm_get (φ := fun f => (f.firm, f.pend)) hp hs, hg]; rfl
    have htl : (d.fs.take k).length ≤ k := by rw [List.length_take]; omega
    obtain ⟨ab, ao, rfl, -, -⟩ := HN.at (by intro h; rw [h] at hnk; simp at hnk)
    repeat' (first | (refine lw_pure rfl (pv_move rfl) ?_) | (refine lw_pure rfl (pv_assign rfl) ?_) | (refine lw_pure rfl (pv_look (k := f.name) Tryz.underlying58 keyS zF hn hpg rfl rfl (hm.mono hw)) ?_) | (refine is_cw ?_; first | (refine cw_seq ?_) | (refine cw_region ?_) | (refine cw_true rfl rfl ?_) | (refine cw_false rfl rfl ?_) | (refine cw_true rfl (by first | assumption | exact decide_eq_true (by omega) | exact dec_notT (by omega)) ?_) | (refine cw_false rfl (by first | assumption | exact decide_eq_false (by omega) | exact dec_notF (by omega)) ?_) | (refine cw_skip ?_) | (refine cw_block ?_) | (refine cw_exit ?_) | (refine cw_ret ?_)) | (refine is_qw ?_; first | (with_reducible refine qw_then ?_) | (with_reducible refine qw_in ?_) | (with_reducible refine qw_in_hit ?_) | (refine qw_in_miss rfl ?_) | (with_reducible refine qw_then_exit ?_) | (with_reducible refine qw_then_ret ?_) | (with_reducible refine qw_in_ret ?_)) | (refine lw_nil ?_) | ((refine is_bin ?_; first | (refine lw_pure rfl (pv_lss rfl rfl) ?_) | (refine lw_pure rfl (pv_eql rfl rfl) ?_) | (refine lw_pure rfl (pv_inc rfl rfl (by omega)) ?_) | (refine lw_pure rfl (pv_add rfl rfl (by omega)) ?_))) | ((refine is_load ?_; first | (refine lw_pure rfl (pv_load (t1 rfl) rfl (by first | exact SlR.ld (HN.mono hw) hnk rfl | exact SlR.ld1 (HN.mono hw) hnk rfl | exact PT.ld0 (H.mono hw) rfl | exact PT.ld (H.mono hw) rfl)) ?_) | (refine lw_pure rfl (pv_loada (tA rfl) rfl (by first | exact SlR.lda (HN.mono hw) hnk | exact PT.lda (H.mono hw)) (by rfl)) ?_))) | ((refine is_fa ?_; first | (refine lw_pure rfl (pv_fa (tF rfl) rfl) ?_))) | ((refine is_ia ?_; first | (refine lw_pure rfl (pv_ian (tS rfl) rfl rfl (by omega)) ?_) | (refine lw_pure rfl (pv_ia (tS rfl) rfl rfl (by omega)) ?_))) | ((refine is_bi ?_; first | (refine lw_pure rfl (pv_lenl (tS rfl) rfl) ?_) | (refine lw_pure rfl (pv_lens (tStr rfl) rfl) ?_))) | ((refine is_bd ?_; first | (refine lw_pure rfl (tyB_54 rfl rfl rfl) ?_))) | (refine lw_pure rfl (pv_nilp rfl) ?_) | (refine lw_pure0 (pv_nilp rfl) ?_))
    refine lw_varN rfl (by first | exact tyv_35 | exact tyv_36 | exact tyv_53 | exact tyv_54 | exact tyv_56 | exact tyv_57 | exact tyv_59 | exact tyv_60 | exact tyv_62 | exact tyv_63 | exact tyv_122 | exact tyv_123) rfl (tZ rfl) (fun _ => rfl) rfl rfl ?_; intro N6 w6 hN6 H6 hb
    replace hO2 := hO2.mono hb
    replace hw := grow_trans hw hb
    clear hb
    repeat' (first | (refine lw_pure rfl (pv_move rfl) ?_) | (refine lw_pure rfl (pv_assign rfl) ?_) | (refine is_cw ?_; first | (refine cw_seq ?_) | (refine cw_region ?_) | (refine cw_true rfl rfl ?_) | (refine cw_false rfl rfl ?_) | (refine cw_true rfl (by first | assumption | exact decide_eq_true (by omega) | exact dec_notT (by omega)) ?_) | (refine cw_false rfl (by first | assumption | exact decide_eq_false (by omega) | exact dec_notF (by omega)) ?_) | (refine cw_skip ?_) | (refine cw_block ?_) | (refine cw_exit ?_) | (refine cw_ret ?_)) | (refine is_qw ?_; first | (with_reducible refine qw_then ?_) | (with_reducible refine qw_in ?_) | (with_reducible refine qw_in_hit ?_) | (refine qw_in_miss rfl ?_) | (with_reducible refine qw_then_exit ?_) | (with_reducible refine qw_then_ret ?_) | (with_reducible refine qw_in_ret ?_)) | (refine lw_nil ?_) | ((refine is_bin ?_; first | (refine lw_pure rfl (pv_lss rfl rfl) ?_) | (refine lw_pure rfl (pv_eql rfl rfl) ?_) | (refine lw_pure rfl (pv_inc rfl rfl (by omega)) ?_) | (refine lw_pure rfl (pv_add rfl rfl (by omega)) ?_))) | ((refine is_load ?_; first | (refine lw_pure rfl (pv_load (t1 rfl) rfl (by first | exact PT.ld0 H6 rfl | exact PT.ld H6 rfl)) ?_) | (refine lw_pure rfl (pv_loada (tA rfl) rfl (by first | exact PT.lda H6) (by rfl)) ?_))) | ((refine is_fa ?_; first | (refine lw_pure rfl (pv_fa (tF rfl) rfl) ?_))) | ((refine is_ia ?_; first | (refine lw_pure rfl (pv_ian (tS rfl) rfl rfl (by omega)) ?_) | (refine lw_pure rfl (pv_ia (tS rfl) rfl rfl (by omega)) ?_))) | ((refine is_bi ?_; first | (refine lw_pure rfl (pv_lenl (tS rfl) rfl) ?_) | (refine lw_pure rfl (pv_lens (tStr rfl) rfl) ?_))) | ((refine is_bd ?_; first | (refine lw_pure rfl (tyB_54 rfl rfl rfl) ?_))) | (refine lw_pure rfl (pv_nilp rfl) ?_) | (refine lw_pure0 (pv_nilp rfl) ?_))
    refine lw_bs1 elemF rfl rfl (cs := encF f) rfl rfl (by omega) ?_; intro wb HB hb hz
    have hbs := (grow_trans hw hb).size
    refine lw_app elemF encF_len encF_one rfl rfl rfl (hO2.mono hb) (HB.slR (xs := [f]) encF_len rfl (by omega)) rfl hbs (by simp; omega) (by simp [maxLen]; omega) ?_; intro v9 w9 hO9 hg9 hb9
    replace hw := (grow_trans hw hb).trans hb9
    repeat' (first | (refine lw_pure rfl (pv_move rfl) ?_) | (refine lw_pure rfl (pv_assign rfl) ?_) | (refine is_cw ?_; first | (refine cw_seq ?_) | (refine cw_region ?_) | (refine cw_true rfl rfl ?_) | (refine cw_false rfl rfl ?_) | (refine cw_true rfl (by first | assumption | exact decide_eq_true (by omega) | exact dec_notT (by omega)) ?_) | (refine cw_false rfl (by first | assumption | exact decide_eq_false (by omega) | exact dec_notF (by omega)) ?_) | (refine cw_skip ?_) | (refine cw_block ?_) | (refine cw_exit ?_) | (refine cw_ret ?_)) | (refine is_qw ?_; first | (with_reducible refine qw_then ?_) | (with_reducible refine qw_in ?_) | (with_reducible refine qw_in_hit ?_) | (refine qw_in_miss rfl ?_) | (with_reducible refine qw_then_exit ?_) | (with_reducible refine qw_then_ret ?_) | (with_reducible refine qw_in_ret ?_)) | (refine lw_nil ?_) | ((refine is_bin ?_; first | (refine lw_pure rfl (pv_lss rfl rfl) ?_) | (refine lw_pure rfl (pv_eql rfl rfl) ?_) | (refine lw_pure rfl (pv_inc rfl rfl (by omega)) ?_) | (refine lw_pure rfl (pv_add rfl rfl (by omega)) ?_))) | ((refine is_load ?_; first | (refine lw_pure rfl (pv_load (t1 rfl) rfl (by first | fail)) ?_) | (refine lw_pure rfl (pv_loada (tA rfl) rfl (by first | fail) (by rfl)) ?_))) | ((refine is_fa ?_; first | (refine lw_pure rfl (pv_fa (tF rfl) rfl) ?_))) | ((refine is_ia ?_; first | (refine lw_pure rfl (pv_ian (tS rfl) rfl rfl (by omega)) ?_) | (refine lw_pure rfl (pv_ia (tS rfl) rfl rfl (by omega)) ?_))) | ((refine is_bi ?_; first | (refine lw_pure rfl (pv_lenl (tS rfl) rfl) ?_) | (refine lw_pure rfl (pv_lens (tStr rfl) rfl) ?_))) | ((refine is_bd ?_; first | (refine lw_pure rfl (tyB_54 rfl rfl rfl) ?_))) | (refine lw_pure rfl (pv_nilp rfl) ?_) | (refine lw_pure0 (pv_nilp rfl) ?_))
    refine qw_round (k + 1, v9) (by repeat' (first | exact trivial | refine ⟨rfl, ?_⟩)) ⟨by show k + 1 ≤ _; omega, hw, ?_⟩ (by show d.fs.length - (k + 1) < d.fs.length - k; omega)
    show Own encF 3 _ _ _ _ (d.fs.take (k + 1))
    rw [List.take_add_one, hxk]; exact hO9
  · have hkl : k = d.fs.length := by omega
    subst hkl
    rw [List.take_length] at hO2
    repeat' (first | (refine lw_pure rfl (pv_move rfl) ?_) | (refine lw_pure rfl (pv_assign rfl) ?_) | (refine is_cw ?_; first | (refine cw_seq ?_) | (refine cw_region ?_) | (refine cw_true rfl rfl ?_) | (refine cw_false rfl rfl ?_) | (refine cw_true rfl (by first | assumption | exact decide_eq_true (by omega) | exact dec_notT (by omega)) ?_) | (refine cw_false rfl (by first | assumption | exact decide_eq_false (by omega) | exact dec_notF (by omega)) ?_) | (refine cw_skip ?_) | (refine cw_block ?_) | (refine cw_exit ?_) | (refine cw_ret ?_)) | (refine is_qw ?_; first | (with_reducible refine qw_then ?_) | (with_reducible refine qw_in ?_) | (with_reducible refine qw_in_hit ?_) | (refine qw_in_miss rfl ?_) | (with_reducible refine qw_then_exit ?_) | (with_reducible refine qw_then_ret ?_) | (with_reducible refine qw_in_ret ?_)) | (refine lw_nil ?_) | ((refine is_bin ?_; first | (refine lw_pure rfl (pv_lss rfl rfl) ?_) | (refine lw_pure rfl (pv_eql rfl rfl) ?_) | (refine lw_pure rfl (pv_inc rfl rfl (by omega)) ?_) | (refine lw_pure rfl (pv_add rfl rfl (by omega)) ?_))) | ((refine is_load ?_; first | (refine lw_pure rfl (pv_load (t1 rfl) rfl (by first | fail)) ?_) | (refine lw_pure rfl (pv_loada (tA rfl) rfl (by first | fail) (by rfl)) ?_))) | ((refine is_fa ?_; first | (refine lw_pure rfl (pv_fa (tF rfl) rfl) ?_))) | ((refine is_ia ?_; first | (refine lw_pure rfl (pv_ian (tS rfl) rfl rfl (by omega)) ?_) | (refine lw_pure rfl (pv_ia (tS rfl) rfl rfl (by omega)) ?_))) | ((refine is_bi ?_; first | (refine lw_pure rfl (pv_lenl (tS rfl) rfl) ?_) | (refine lw_pure rfl (pv_lens (tStr rfl) rfl) ?_))) | ((refine is_bd ?_; first | (refine lw_pure rfl (tyB_54 rfl rfl rfl) ?_))) | (refine lw_pure rfl (pv_nilp rfl) ?_) | (refine lw_pure0 (pv_nilp rfl) ?_))
    exact qw_ret1 rfl rfl ⟨⟨_, rfl, hO2.weaken hw0.size⟩, grow_trans hw0 hw⟩
set_option maxRecDepth 20000 in
theorem filesn_c (w : World) : Calls Tryz.prog 43 #[.pointer none] w fun e w' => e = .returned (.slice none 0 0) ∧ Below w.heap.size w w' := by
  have hw := Below.refl w.heap.size w
  refine fn_enter 33 Tryz.func43 rfl rfl rfl ?_
  repeat' (first | (refine lw_pure rfl (pv_move rfl) ?_) | (refine lw_pure rfl (pv_assign rfl) ?_) | (refine is_cw ?_; first | (refine cw_seq ?_) | (refine cw_region ?_) | (refine cw_true rfl rfl ?_) | (refine cw_false rfl rfl ?_) | (refine cw_true rfl (by first | assumption | exact decide_eq_true (by omega) | exact dec_notT (by omega)) ?_) | (refine cw_false rfl (by first | assumption | exact decide_eq_false (by omega) | exact dec_notF (by omega)) ?_) | (refine cw_skip ?_) | (refine cw_block ?_) | (refine cw_exit ?_) | (refine cw_ret ?_)) | (refine is_qw ?_; first | (with_reducible refine qw_then ?_) | (with_reducible refine qw_in ?_) | (with_reducible refine qw_in_hit ?_) | (refine qw_in_miss rfl ?_) | (with_reducible refine qw_then_exit ?_) | (with_reducible refine qw_then_ret ?_) | (with_reducible refine qw_in_ret ?_)) | (refine lw_nil ?_) | ((refine is_bin ?_; first | (refine lw_pure rfl (pv_pnil tpD rfl rfl) ?_) | (refine lw_pure rfl (pv_lss rfl rfl) ?_) | (refine lw_pure rfl (pv_eql rfl rfl) ?_) | (refine lw_pure rfl (pv_inc rfl rfl (by omega)) ?_) | (refine lw_pure rfl (pv_add rfl rfl (by omega)) ?_))) | ((refine is_load ?_; first | (refine lw_pure rfl (pv_load (t1 rfl) rfl (by first | fail)) ?_) | (refine lw_pure rfl (pv_loada (tA rfl) rfl (by first | fail) (by rfl)) ?_))) | ((refine is_fa ?_; first | (refine lw_pure rfl (pv_fa (tF rfl) rfl) ?_))) | ((refine is_ia ?_; first | (refine lw_pure rfl (pv_ian (tS rfl) rfl rfl (by omega)) ?_) | (refine lw_pure rfl (pv_ia (tS rfl) rfl rfl (by omega)) ?_))) | ((refine is_bi ?_; first | (refine lw_pure rfl (pv_lenl (tS rfl) rfl) ?_) | (refine lw_pure rfl (pv_lens (tStr rfl) rfl) ?_))) | ((refine is_bd ?_; first | (refine lw_pure rfl (tyB_54 rfl rfl rfl) ?_))) | (refine lw_pure rfl (pv_nilp rfl) ?_) | (refine lw_pure0 (pv_nilp rfl) ?_))
  exact qw_ret1 rfl rfl ⟨rfl, hw⟩
theorem clone_c {w : World} {B : Nat} {m : List (ByteArray × (ByteArray × ByteArray))} (h : MpB evF w B m) : Calls Tryz.prog 27 #[.map (some B)] w fun e w' => (∃ B', e = .returned (.map (some B')) ∧ w.heap.size ≤ B' ∧ MpB evF w' B' m) ∧ Below w.heap.size w w' := by
  obtain ⟨m', ⟨es, clk, hE, rfl⟩, rfl⟩ := h
  refine (AnyW.maps_Clone Tryz.cloneW B _ clk w hE.heap).mono ?_
  rintro e w' ⟨rfl, rfl⟩
  exact ⟨⟨_, rfl, Nat.le_refl _, ⟨_, ⟨es, clk, ⟨heap_alloc_new w _, hE.keys, hE.born, hE.lt⟩, rfl⟩, rfl⟩⟩, below_alloc _ _⟩
set_option maxRecDepth 20000 in
theorem copy_c {w : World} {N B : Nat} {d : Dsk} (h : DkW w N B d) : Calls Tryz.prog 8 #[.pointer (some ⟨N, 0, none⟩)] w fun e w' => (∃ N' B', e = .returned (.pointer (some ⟨N', 0, none⟩)) ∧ w.heap.size ≤ N' ∧ w.heap.size ≤ B' ∧ DkW w' N' B' d) ∧ Below w.heap.size w w' := by
  have H := h.obj
  obtain ⟨m, hm, hp⟩ := h.mp
  have hw := Below.refl w.heap.size w
  refine fn_enter 15 Tryz.func8 rfl rfl rfl ?_
  repeat' (first | (refine lw_pure rfl (pv_move rfl) ?_) | (refine lw_pure rfl (pv_assign rfl) ?_) | (refine is_cw ?_; first | (refine cw_seq ?_) | (refine cw_region ?_) | (refine cw_true rfl rfl ?_) | (refine cw_false rfl rfl ?_) | (refine cw_true rfl (by first | assumption | exact decide_eq_true (by omega) | exact dec_notT (by omega)) ?_) | (refine cw_false rfl (by first | assumption | exact decide_eq_false (by omega) | exact dec_notF (by omega)) ?_) | (refine cw_skip ?_) | (refine cw_ret ?_)) | (refine is_qw ?_; first | (with_reducible refine qw_then ?_) | (with_reducible refine qw_then_ret ?_)) | (refine lw_nil ?_) | ((refine is_bin ?_; first | (refine lw_pure rfl (pv_pnil tpD rfl rfl) ?_) | (refine lw_pure rfl (pv_eql rfl rfl) ?_))) | ((refine is_load ?_; first | (refine lw_pure rfl (pv_load (t1 rfl) rfl (by first | exact PT.ld0 (H.mono hw) rfl | exact PT.ld (H.mono hw) rfl)) ?_) | (refine lw_pure rfl (pv_loada (tA rfl) rfl (by first | exact PT.lda (H.mono hw)) (by rfl)) ?_))) | ((refine is_fa ?_; first | (refine lw_pure rfl (pv_fa (tF rfl) rfl) ?_))) | (refine lw_pure rfl (pv_nilp rfl) ?_) | (refine lw_pure0 (pv_nilp rfl) ?_))
  refine lw_varN rfl (by first | exact tyv_35 | exact tyv_36 | exact tyv_53 | exact tyv_54 | exact tyv_56 | exact tyv_57 | exact tyv_59 | exact tyv_60 | exact tyv_62 | exact tyv_63 | exact tyv_122 | exact tyv_123) rfl (tZ rfl) (fun _ => rfl) rfl rfl ?_; intro N3 wn hN3 H3 hb; replace hN3 := Nat.le_trans hw.size hN3; replace hw := grow_trans hw hb; clear hb
  have hw0 := hw
  replace h := h.mono hw; replace H := H.mono hw; replace hm := hm.mono hw; clear hw; have hw := Below.refl wn.heap.size wn
  repeat' (first | (refine lw_pure rfl (pv_move rfl) ?_) | (refine lw_pure rfl (pv_assign rfl) ?_) | (refine is_cw ?_; first | (refine cw_seq ?_) | (refine cw_region ?_) | (refine cw_true rfl rfl ?_) | (refine cw_false rfl rfl ?_) | (refine cw_true rfl (by first | assumption | exact decide_eq_true (by omega) | exact dec_notT (by omega)) ?_) | (refine cw_false rfl (by first | assumption | exact decide_eq_false (by omega) | exact dec_notF (by omega)) ?_) | (refine cw_skip ?_) | (refine cw_ret ?_)) | (refine is_qw ?_; first | (with_reducible refine qw_then ?_) | (with_reducible refine qw_then_ret ?_)) | (refine lw_nil ?_) | ((refine is_bin ?_; first | (refine lw_pure rfl (pv_eql rfl rfl) ?_))) | ((refine is_load ?_; first | (refine lw_pure rfl (pv_load (t1 rfl) rfl (by first | exact PT.ld0 (H.mono hw) rfl | exact PT.ld (H.mono hw) rfl)) ?_) | (refine lw_pure rfl (pv_loada (tA rfl) rfl (by first | exact PT.lda (H.mono hw)) (by rfl)) ?_))) | ((refine is_fa ?_; first | (refine lw_pure rfl (pv_fa (tF rfl) rfl) ?_))) | (refine lw_pure rfl (pv_nilp rfl) ?_) | (refine lw_pure0 (pv_nilp rfl) ?_))
  refine lw_call (f := 27) (by kernel_rfl) rfl rfl (clone_c (hm.mono hw)) ?_; rintro e w4 ⟨⟨B4, rfl, hB4, hm4⟩, hb⟩; refine ⟨_, rfl, ?_⟩
  replace hB4 := Nat.le_trans hw.size hB4
  replace hw := grow_trans hw hb
  clear hb
  repeat' (first | (refine lw_pure rfl (pv_move rfl) ?_) | (refine lw_pure rfl (pv_assign rfl) ?_) | (refine is_cw ?_; first | (refine cw_seq ?_) | (refine cw_region ?_) | (refine cw_true rfl rfl ?_) | (refine cw_false rfl rfl ?_) | (refine cw_true rfl (by first | assumption | exact decide_eq_true (by omega) | exact dec_notT (by omega)) ?_) | (refine cw_false rfl (by first | assumption | exact decide_eq_false (by omega) | exact dec_notF (by omega)) ?_) | (refine cw_skip ?_) | (refine cw_ret ?_)) | (refine is_qw ?_; first | (with_reducible refine qw_then ?_) | (with_reducible refine qw_then_ret ?_)) | (refine lw_nil ?_) | ((refine is_bin ?_; first | (refine lw_pure rfl (pv_eql rfl rfl) ?_))) | ((refine is_load ?_; first | (refine lw_pure rfl (pv_load (t1 rfl) rfl (by first | fail)) ?_) | (refine lw_pure rfl (pv_loada (tA rfl) rfl (by first | fail) (by rfl)) ?_))) | ((refine is_fa ?_; first | (refine lw_pure rfl (pv_fa (tF rfl) rfl) ?_))) | (refine lw_pure rfl (pv_nilp rfl) ?_) | (refine lw_pure0 (pv_nilp rfl) ?_))
  refine lw_store (H3.mono hw) (tZ rfl) rfl rfl rfl (by simp) ?_; intro w5 H5 hg5 hz5
  have hne := hm4.ne (H3.mono hw)
  have hm5 := hm4.gw (a := N3) (b := N3) (Gw.of_a hg5) hne.symm hne.symm
  replace hw := st_hw (grow_trans hw0 hw) hg5 hN3
  repeat' (first | (refine lw_pure rfl (pv_move rfl) ?_) | (refine lw_pure rfl (pv_assign rfl) ?_) | (refine is_cw ?_; first | (refine cw_seq ?_) | (refine cw_region ?_) | (refine cw_true rfl rfl ?_) | (refine cw_false rfl rfl ?_) | (refine cw_true rfl (by first | assumption | exact decide_eq_true (by omega) | exact dec_notT (by omega)) ?_) | (refine cw_false rfl (by first | assumption | exact decide_eq_false (by omega) | exact dec_notF (by omega)) ?_) | (refine cw_skip ?_) | (refine cw_ret ?_)) | (refine is_qw ?_; first | (with_reducible refine qw_then ?_) | (with_reducible refine qw_then_ret ?_)) | (refine lw_nil ?_) | ((refine is_bin ?_; first | (refine lw_pure rfl (pv_eql rfl rfl) ?_))) | ((refine is_load ?_; first | (refine lw_pure rfl (pv_load (t1 rfl) rfl (by first | fail)) ?_) | (refine lw_pure rfl (pv_loada (tA rfl) rfl (by first | fail) (by rfl)) ?_))) | ((refine is_fa ?_; first | (refine lw_pure rfl (pv_fa (tF rfl) rfl) ?_))) | (refine lw_pure rfl (pv_nilp rfl) ?_) | (refine lw_pure0 (pv_nilp rfl) ?_))
  exact qw_ret1 rfl rfl ⟨⟨N3, B4, rfl, hN3, Nat.le_trans hw0.size hB4, ⟨H5, ⟨m, hm5, hp⟩, h.ok⟩⟩, hw⟩
set_option maxRecDepth 20000 in
theorem copyn_c (w : World) : Calls Tryz.prog 8 #[.pointer none] w fun e w' => e = .returned (.pointer none) ∧ Below w.heap.size w w' := by
  have hw := Below.refl w.heap.size w
  refine fn_enter 15 Tryz.func8 rfl rfl rfl ?_
  repeat' (first | (refine lw_pure rfl (pv_move rfl) ?_) | (refine lw_pure rfl (pv_assign rfl) ?_) | (refine is_cw ?_; first | (refine cw_seq ?_) | (refine cw_region ?_) | (refine cw_true rfl rfl ?_) | (refine cw_false rfl rfl ?_) | (refine cw_true rfl (by first | assumption | exact decide_eq_true (by omega) | exact dec_notT (by omega)) ?_) | (refine cw_false rfl (by first | assumption | exact decide_eq_false (by omega) | exact dec_notF (by omega)) ?_) | (refine cw_skip ?_) | (refine cw_ret ?_)) | (refine is_qw ?_; first | (with_reducible refine qw_then ?_) | (with_reducible refine qw_then_ret ?_)) | (refine lw_nil ?_) | ((refine is_bin ?_; first | (refine lw_pure rfl (pv_pnil tpD rfl rfl) ?_) | (refine lw_pure rfl (pv_eql rfl rfl) ?_))) | ((refine is_load ?_; first | (refine lw_pure rfl (pv_load (t1 rfl) rfl (by first | fail)) ?_) | (refine lw_pure rfl (pv_loada (tA rfl) rfl (by first | fail) (by rfl)) ?_))) | ((refine is_fa ?_; first | (refine lw_pure rfl (pv_fa (tF rfl) rfl) ?_))) | (refine lw_pure rfl (pv_nilp rfl) ?_) | (refine lw_pure0 (pv_nilp rfl) ?_))
  exact qw_ret1 rfl rfl ⟨rfl, hw⟩
theorem SortF.eq_of_sub : ∀ {a b : List Fil}, SortF a → SortF b → (∀ f ∈ a, f ∈ b) → a.Sublist b
  | [], _, _, _, _ => List.nil_sublist _
  | x :: r, [], _, _, h => by have := h x (by simp); simp at this
  | x :: r, y :: s, ha, hb, h => by
    have ha' := ha
    have hb' := hb
    unfold SortF at ha hb
    rw [List.pairwise_cons] at ha hb
    rcases List.mem_cons.1 (h x (by simp)) with rfl | hx
    · refine List.Sublist.cons_cons _ (SortF.eq_of_sub ha.2 hb.2 fun f hf => ?_)
      rcases List.mem_cons.1 (h f (List.mem_cons_of_mem _ hf)) with rfl | h2
      · exact absurd (ha.1 f hf) (ltN_irr _)
      · exact h2
    · refine List.Sublist.cons _ (SortF.eq_of_sub ha' hb.2 fun f hf => ?_)
      rcases List.mem_cons.1 (h f hf) with rfl | h2
      · have h3 := hb.1 x hx
        rcases List.mem_cons.1 hf with rfl | h4
        · exact absurd h3 (ltN_irr _)
        · exact absurd (ltN_trans h3 (ha.1 _ h4)) (ltN_irr _)
      · exact h2
theorem eq_of_maps {a b : List Fil} {m : List (ByteArray × (ByteArray × ByteArray))} (ha : SortF a) (hb : SortF b) (hl : a.length = b.length) (hp : m.Perm (mapF a)) (h : ∀ e ∈ m, (getF b e.1).map (fun f => (f.firm, f.pend)) = some e.2) : a = b := by
  refine (SortF.eq_of_sub ha hb fun f hf => ?_).eq_of_length hl
  have h1 : (f.name, (f.firm, f.pend)) ∈ m := hp.mem_iff.2 (List.mem_map.2 ⟨f, hf, rfl⟩)
  have h2 := h _ h1
  cases hg : getF b f.name with
  | none => rw [hg] at h2; simp at h2
  | some g =>
    rw [hg] at h2
    simp only [Option.map_some, Option.some.injEq, Prod.mk.injEq] at h2
    obtain ⟨h3, h4⟩ := getF_some hg
    have : g = f := by cases g; cases f; simp only at h2 h4; rw [h4, h2.1, h2.2]
    exact this ▸ h3
set_option maxRecDepth 20000 in
theorem equal_c {w : World} {B1 B2 : Nat} {m1 m2 : List (ByteArray × (ByteArray × ByteArray))} {a b : List Fil} (h1 : MpB evF w B1 m1) (h2 : MpB evF w B2 m2) (hp1 : m1.Perm (mapF a)) (hp2 : m2.Perm (mapF b)) (ha : SortF a) (hb : SortF b) : Calls Tryz.prog 47 #[.map (some B1), .map (some B2)] w fun e w' => e = .returned (.bool (decide (a = b))) ∧ Below w.heap.size w w' := by
  have hl1 := perm_len hp1
  have hl2 := perm_len hp2
  have hw := Below.refl w.heap.size w
  refine fn_enter 34 Tryz.func47 rfl rfl rfl ?_
  by_cases hl : m1.length = m2.length
  · repeat' (first | (refine lw_pure rfl (pv_move rfl) ?_) | (refine lw_pure rfl (pv_assign rfl) ?_) | (refine lw_pure rfl (pv_lenB rfl Tryz.underlying58 rfl (h1.mono hw)) ?_) | (refine lw_pure rfl (pv_lenB rfl Tryz.underlying58 rfl (h2.mono hw)) ?_) | (refine is_cw ?_; first | (refine cw_seq ?_) | (refine cw_region ?_) | (refine cw_true rfl rfl ?_) | (refine cw_false rfl rfl ?_) | (refine cw_true rfl (by first | assumption | exact decide_eq_true (by omega) | exact dec_notT (by omega)) ?_) | (refine cw_false rfl (by first | assumption | exact decide_eq_false (by omega) | exact dec_notF (by omega)) ?_) | (refine cw_skip ?_) | (refine cw_block ?_) | (refine cw_exit ?_) | (refine cw_ret ?_)) | (refine is_qw ?_; first | (with_reducible refine qw_then ?_) | (with_reducible refine qw_in ?_) | (with_reducible refine qw_in_hit ?_) | (refine qw_in_miss rfl ?_) | (with_reducible refine qw_then_exit ?_) | (with_reducible refine qw_then_ret ?_) | (with_reducible refine qw_in_ret ?_)) | (refine lw_nil ?_) | (refine is_guarded ?_; first | (refine lw_not rfl rfl rfl rfl ?_) | (refine lw_not_u rfl rfl rfl ?_) | (refine lw_on rfl rfl rfl ?_)) | ((refine is_bin ?_; first | (refine lw_pure rfl (pv_neq rfl rfl) ?_))) | ((refine is_load ?_; first | (refine lw_pure rfl (pv_load (t1 rfl) rfl (by first | fail)) ?_) | (refine lw_pure rfl (pv_loada (tA rfl) rfl (by first | fail) (by rfl)) ?_))) | ((refine is_un ?_; first | (refine lw_pure rfl (pv_not rfl) ?_))) | ((refine is_bi ?_; first | (refine lw_pure rfl (pv_lenl (tS rfl) rfl) ?_) | (refine lw_pure rfl (pv_lens (tStr rfl) rfl) ?_))) | (refine lw_pure rfl (pv_pick_t rfl rfl rfl) ?_) | (refine lw_pure rfl (pv_pick_f rfl rfl rfl) ?_) | (refine lw_pure rfl (pv_pick_t rfl (by first | assumption | exact decide_eq_true (by omega) | exact dec_notT (by omega)) rfl) ?_) | (refine lw_pure rfl (pv_pick_f rfl (by first | assumption | exact decide_eq_false (by omega) | exact dec_notF (by omega)) rfl) ?_) | (refine lw_pure rfl (pv_pick rfl rfl rfl) ?_) | (refine lw_pure rfl (pv_extract rfl rfl) ?_))
    obtain ⟨m', hm, rfl⟩ := h1
    refine lw_rangeM Tryz.underlying58 rfl rfl (hm.mono hw) ?_; intro I w1 hI HI hb'
    replace hI := Nat.le_trans hw.size hI
    replace hw := grow_trans hw hb'
    clear hb'
    repeat' (first | (refine lw_pure rfl (pv_move rfl) ?_) | (refine lw_pure rfl (pv_assign rfl) ?_) | (refine is_cw ?_; first | (refine cw_seq ?_) | (refine cw_region ?_) | (refine cw_true rfl rfl ?_) | (refine cw_false rfl rfl ?_) | (refine cw_true rfl (by first | assumption | exact decide_eq_true (by omega) | exact dec_notT (by omega)) ?_) | (refine cw_false rfl (by first | assumption | exact decide_eq_false (by omega) | exact dec_notF (by omega)) ?_) | (refine cw_skip ?_) | (refine cw_block ?_) | (refine cw_exit ?_) | (refine cw_ret ?_)) | (refine is_qw ?_; first | (with_reducible refine qw_then ?_) | (with_reducible refine qw_in ?_) | (with_reducible refine qw_in_hit ?_) | (refine qw_in_miss rfl ?_) | (with_reducible refine qw_then_exit ?_) | (with_reducible refine qw_then_ret ?_) | (with_reducible refine qw_in_ret ?_)) | (refine lw_nil ?_) | (refine is_guarded ?_; first | (refine lw_not rfl rfl rfl rfl ?_) | (refine lw_not_u rfl rfl rfl ?_) | (refine lw_on rfl rfl rfl ?_)) | ((refine is_bin ?_; first | (refine lw_pure rfl (pv_neq rfl rfl) ?_))) | ((refine is_load ?_; first | (refine lw_pure rfl (pv_load (t1 rfl) rfl (by first | fail)) ?_) | (refine lw_pure rfl (pv_loada (tA rfl) rfl (by first | fail) (by rfl)) ?_))) | ((refine is_un ?_; first | (refine lw_pure rfl (pv_not rfl) ?_))) | ((refine is_bi ?_; first | (refine lw_pure rfl (pv_lenl (tS rfl) rfl) ?_) | (refine lw_pure rfl (pv_lens (tStr rfl) rfl) ?_))) | (refine lw_pure rfl (pv_pick_t rfl rfl rfl) ?_) | (refine lw_pure rfl (pv_pick_f rfl rfl rfl) ?_) | (refine lw_pure rfl (pv_pick_t rfl (by first | assumption | exact decide_eq_true (by omega) | exact dec_notT (by omega)) rfl) ?_) | (refine lw_pure rfl (pv_pick_f rfl (by first | assumption | exact decide_eq_false (by omega) | exact dec_notF (by omega)) rfl) ?_) | (refine lw_pure rfl (pv_pick rfl rfl rfl) ?_) | (refine lw_pure rfl (pv_extract rfl rfl) ?_))
    refine cw_loop (σ := List (Nm × (ByteArray × ByteArray))) (fun _ => [(0, .map (some B1)), (1, .map (some B2)), (15, .pointer (some ⟨I, 0, none⟩))]) (fun s wr => Below w.heap.size w wr ∧ (∃ cur, It ekS evF wr I B1 m' s cur) ∧ (∀ e ∈ s, e ∈ m') ∧ ∀ e ∈ m', e ∈ s ∨ (getF b e.1.1).map (fun f => (f.firm, f.pend)) = some e.2) (fun s => s.length) m' (by repeat' (first | exact trivial | refine ⟨rfl, ?_⟩)) ⟨hw, ⟨_, HI⟩, fun e he => he, fun e he => Or.inl he⟩ ?_
    clear hw HI
    rintro rest wr ⟨hw, ⟨cur, HI⟩, hsub, hall⟩
    repeat' (first | (refine lw_pure rfl (pv_move rfl) ?_) | (refine lw_pure rfl (pv_assign rfl) ?_) | (refine is_cw ?_; first | (refine cw_seq ?_) | (refine cw_region ?_) | (refine cw_true rfl rfl ?_) | (refine cw_false rfl rfl ?_) | (refine cw_true rfl (by first | assumption | exact decide_eq_true (by omega) | exact dec_notT (by omega)) ?_) | (refine cw_false rfl (by first | assumption | exact decide_eq_false (by omega) | exact dec_notF (by omega)) ?_) | (refine cw_skip ?_) | (refine cw_block ?_) | (refine cw_exit ?_) | (refine cw_ret ?_)) | (refine is_qw ?_; first | (with_reducible refine qw_then ?_) | (with_reducible refine qw_in ?_) | (with_reducible refine qw_in_hit ?_) | (refine qw_in_miss rfl ?_) | (with_reducible refine qw_then_exit ?_) | (with_reducible refine qw_then_ret ?_) | (with_reducible refine qw_in_ret ?_)) | (refine lw_nil ?_) | (refine is_guarded ?_; first | (refine lw_not rfl rfl rfl rfl ?_) | (refine lw_not_u rfl rfl rfl ?_) | (refine lw_on rfl rfl rfl ?_)) | ((refine is_bin ?_; first | (refine lw_pure rfl (pv_neq rfl rfl) ?_))) | ((refine is_load ?_; first | (refine lw_pure rfl (pv_load (t1 rfl) rfl (by first | fail)) ?_) | (refine lw_pure rfl (pv_loada (tA rfl) rfl (by first | fail) (by rfl)) ?_))) | ((refine is_un ?_; first | (refine lw_pure rfl (pv_not rfl) ?_))) | ((refine is_bi ?_; first | (refine lw_pure rfl (pv_lenl (tS rfl) rfl) ?_) | (refine lw_pure rfl (pv_lens (tStr rfl) rfl) ?_))) | (refine lw_pure rfl (pv_pick_t rfl rfl rfl) ?_) | (refine lw_pure rfl (pv_pick_f rfl rfl rfl) ?_) | (refine lw_pure rfl (pv_pick_t rfl (by first | assumption | exact decide_eq_true (by omega) | exact dec_notT (by omega)) rfl) ?_) | (refine lw_pure rfl (pv_pick_f rfl (by first | assumption | exact decide_eq_false (by omega) | exact dec_notF (by omega)) rfl) ?_) | (refine lw_pure rfl (pv_pick rfl rfl rfl) ?_) | (refine lw_pure rfl (pv_extract rfl rfl) ?_))
    refine lw_nextM rfl rfl HI (fun hr => ?_) (fun q v rest' w2 hq HI2 hg hz9 => ?_)
    · subst hr
      repeat' (first | (refine lw_pure rfl (pv_move rfl) ?_) | (refine lw_pure rfl (pv_assign rfl) ?_) | (refine is_cw ?_; first | (refine cw_seq ?_) | (refine cw_region ?_) | (refine cw_true rfl rfl ?_) | (refine cw_false rfl rfl ?_) | (refine cw_true rfl (by first | assumption | exact decide_eq_true (by omega) | exact dec_notT (by omega)) ?_) | (refine cw_false rfl (by first | assumption | exact decide_eq_false (by omega) | exact dec_notF (by omega)) ?_) | (refine cw_skip ?_) | (refine cw_block ?_) | (refine cw_exit ?_) | (refine cw_ret ?_)) | (refine is_qw ?_; first | (with_reducible refine qw_then ?_) | (with_reducible refine qw_in ?_) | (with_reducible refine qw_in_hit ?_) | (refine qw_in_miss rfl ?_) | (with_reducible refine qw_then_exit ?_) | (with_reducible refine qw_then_ret ?_) | (with_reducible refine qw_in_ret ?_)) | (refine lw_nil ?_) | (refine is_guarded ?_; first | (refine lw_not rfl rfl rfl rfl ?_) | (refine lw_not_u rfl rfl rfl ?_) | (refine lw_on rfl rfl rfl ?_)) | ((refine is_bin ?_; first | (refine lw_pure rfl (pv_neq rfl rfl) ?_))) | ((refine is_load ?_; first | (refine lw_pure rfl (pv_load (t1 rfl) rfl (by first | fail)) ?_) | (refine lw_pure rfl (pv_loada (tA rfl) rfl (by first | fail) (by rfl)) ?_))) | ((refine is_un ?_; first | (refine lw_pure rfl (pv_not rfl) ?_))) | ((refine is_bi ?_; first | (refine lw_pure rfl (pv_lenl (tS rfl) rfl) ?_) | (refine lw_pure rfl (pv_lens (tStr rfl) rfl) ?_))) | (refine lw_pure rfl (pv_pick_t rfl rfl rfl) ?_) | (refine lw_pure rfl (pv_pick_f rfl rfl rfl) ?_) | (refine lw_pure rfl (pv_pick_t rfl (by first | assumption | exact decide_eq_true (by omega) | exact dec_notT (by omega)) rfl) ?_) | (refine lw_pure rfl (pv_pick_f rfl (by first | assumption | exact decide_eq_false (by omega) | exact dec_notF (by omega)) rfl) ?_) | (refine lw_pure rfl (pv_pick rfl rfl rfl) ?_) | (refine lw_pure rfl (pv_extract rfl rfl) ?_))
      have e : a = b := eq_of_maps ha hb (by rw [← hl1, ← hl2]; exact hl) hp1 fun e he => by
        obtain ⟨e', he', rfl⟩ := List.mem_map.1 he
        rcases hall e' he' with h3 | h3
        · cases h3
        · exact h3
      exact qw_ret1 rfl rfl ⟨by rw [decide_eq_true e], hw⟩
    · have hwB := st_hw hw hg hI
      clear hw
      have hw := Below.refl w2.heap.size w2
      have h2' := h2.gw (a := I) (b := I) ((Gw.of_below (Below.refl _ _) : Gw I I w w)) (by have := h2.bound; omega) (by have := h2.bound; omega)
      replace h2 := h2.mono hwB
      have hmem := hsub (q, v) (hq.mem_iff.2 (by simp))
      have hqn : q.1.size ≤ 9223372036854775807 := q.2
      have hlk := perm_get (φ := fun f => (f.firm, f.pend)) hp2 hb q.1
      have hlr := hq.length_eq
      rw [List.length_cons] at hlr
      cases hg2 : getM m2 q.1 with
      | none =>
        have hne : ¬ a = b := fun e => by
          subst e
          have h5 : (q.1, v) ∈ mapF a := hp1.mem_iff.1 (List.mem_map.2 ⟨(q, v), hmem, rfl⟩)
          obtain ⟨f, hf, e5⟩ := List.mem_map.1 h5
          rw [hlk, (getF_iff ha).2 ⟨hf, congrArg Prod.fst e5⟩] at hg2
          cases hg2
        rw [decide_eq_false hne]
        repeat' (first | (refine lw_pure rfl (pv_move rfl) ?_) | (refine lw_pure rfl (pv_assign rfl) ?_) | (refine lw_pure rfl (pv_entryM rfl HI2) ?_) | (refine is_cw ?_; first | (refine cw_seq ?_) | (refine cw_region ?_) | (refine cw_true rfl rfl ?_) | (refine cw_false rfl rfl ?_) | (refine cw_true rfl (by first | assumption | exact decide_eq_true (by omega) | exact dec_notT (by omega)) ?_) | (refine cw_false rfl (by first | assumption | exact decide_eq_false (by omega) | exact dec_notF (by omega)) ?_) | (refine cw_skip ?_) | (refine cw_block ?_) | (refine cw_exit ?_) | (refine cw_ret ?_)) | (refine is_qw ?_; first | (with_reducible refine qw_then ?_) | (with_reducible refine qw_in ?_) | (with_reducible refine qw_in_hit ?_) | (refine qw_in_miss rfl ?_) | (with_reducible refine qw_then_exit ?_) | (with_reducible refine qw_then_ret ?_) | (with_reducible refine qw_in_ret ?_)) | (refine lw_nil ?_) | (refine is_guarded ?_; first | (refine lw_not rfl rfl rfl rfl ?_) | (refine lw_not_u rfl rfl rfl ?_) | (refine lw_on rfl rfl rfl ?_)) | ((refine is_bin ?_; first | (refine lw_pure rfl (pv_neq rfl rfl) ?_))) | ((refine is_load ?_; first | (refine lw_pure rfl (pv_load (t1 rfl) rfl (by first | fail)) ?_) | (refine lw_pure rfl (pv_loada (tA rfl) rfl (by first | fail) (by rfl)) ?_))) | ((refine is_un ?_; first | (refine lw_pure rfl (pv_not rfl) ?_))) | ((refine is_bi ?_; first | (refine lw_pure rfl (pv_lenl (tS rfl) rfl) ?_) | (refine lw_pure rfl (pv_lens (tStr rfl) rfl) ?_))) | (refine lw_pure rfl (pv_pick_t rfl rfl rfl) ?_) | (refine lw_pure rfl (pv_pick_f rfl rfl rfl) ?_) | (refine lw_pure rfl (pv_pick_t rfl (by first | assumption | exact decide_eq_true (by omega) | exact dec_notT (by omega)) rfl) ?_) | (refine lw_pure rfl (pv_pick_f rfl (by first | assumption | exact decide_eq_false (by omega) | exact dec_notF (by omega)) rfl) ?_) | (refine lw_pure rfl (pv_pick rfl rfl rfl) ?_) | (refine lw_pure rfl (pv_extract rfl rfl) ?_))
        refine lw_allocN rfl (by first | exact tyv_35 | exact tyv_36 | exact tyv_53 | exact tyv_54 | exact tyv_56 | exact tyv_57 | exact tyv_59 | exact tyv_60 | exact tyv_62 | exact tyv_63 | exact tyv_122 | exact tyv_123) rfl ?_; intro N6 w6 hN6 H6 hb6
        replace hw := grow_trans hw hb6
        clear hb6
        repeat' (first | (refine lw_pure rfl (pv_move rfl) ?_) | (refine lw_pure rfl (pv_assign rfl) ?_) | (refine is_cw ?_; first | (refine cw_seq ?_) | (refine cw_region ?_) | (refine cw_true rfl rfl ?_) | (refine cw_false rfl rfl ?_) | (refine cw_true rfl (by first | assumption | exact decide_eq_true (by omega) | exact dec_notT (by omega)) ?_) | (refine cw_false rfl (by first | assumption | exact decide_eq_false (by omega) | exact dec_notF (by omega)) ?_) | (refine cw_skip ?_) | (refine cw_block ?_) | (refine cw_exit ?_) | (refine cw_ret ?_)) | (refine is_qw ?_; first | (with_reducible refine qw_then ?_) | (with_reducible refine qw_in ?_) | (with_reducible refine qw_in_hit ?_) | (refine qw_in_miss rfl ?_) | (with_reducible refine qw_then_exit ?_) | (with_reducible refine qw_then_ret ?_) | (with_reducible refine qw_in_ret ?_)) | (refine lw_nil ?_) | (refine is_guarded ?_; first | (refine lw_not rfl rfl rfl rfl ?_) | (refine lw_not_u rfl rfl rfl ?_) | (refine lw_on rfl rfl rfl ?_)) | ((refine is_bin ?_; first | (refine lw_pure rfl (pv_neq rfl rfl) ?_))) | ((refine is_load ?_; first | (refine lw_pure rfl (pv_load (t1 rfl) rfl (by first | fail)) ?_) | (refine lw_pure rfl (pv_loada (tA rfl) rfl (by first | fail) (by rfl)) ?_))) | ((refine is_un ?_; first | (refine lw_pure rfl (pv_not rfl) ?_))) | ((refine is_bi ?_; first | (refine lw_pure rfl (pv_lenl (tS rfl) rfl) ?_) | (refine lw_pure rfl (pv_lens (tStr rfl) rfl) ?_))) | (refine lw_pure rfl (pv_pick_t rfl rfl rfl) ?_) | (refine lw_pure rfl (pv_pick_f rfl rfl rfl) ?_) | (refine lw_pure rfl (pv_pick_t rfl (by first | assumption | exact decide_eq_true (by omega) | exact dec_notT (by omega)) rfl) ?_) | (refine lw_pure rfl (pv_pick_f rfl (by first | assumption | exact decide_eq_false (by omega) | exact dec_notF (by omega)) rfl) ?_) | (refine lw_pure rfl (pv_pick rfl rfl rfl) ?_) | (refine lw_pure rfl (pv_extract rfl rfl) ?_))
        refine lw_storea (vs := encV2 v) H6 (tZ rfl) rfl rfl rfl rfl (by intro u hu; simp [encV2] at hu; rcases hu with rfl | rfl <;> rfl) ?_; intro w7 H7 hg7 hz7
        replace hw := st_hw hw hg7 hN6
        repeat' (first | (refine lw_pure rfl (pv_move rfl) ?_) | (refine lw_pure rfl (pv_assign rfl) ?_) | (refine lw_pure rfl (pv_look0 (k := q.1) Tryz.underlying58 keyS zF hqn hg2 rfl rfl (h2.mono hw)) ?_) | (refine is_cw ?_; first | (refine cw_seq ?_) | (refine cw_region ?_) | (refine cw_true rfl rfl ?_) | (refine cw_false rfl rfl ?_) | (refine cw_true rfl (by first | assumption | exact decide_eq_true (by omega) | exact dec_notT (by omega)) ?_) | (refine cw_false rfl (by first | assumption | exact decide_eq_false (by omega) | exact dec_notF (by omega)) ?_) | (refine cw_skip ?_) | (refine cw_block ?_) | (refine cw_exit ?_) | (refine cw_ret ?_)) | (refine is_qw ?_; first | (with_reducible refine qw_then ?_) | (with_reducible refine qw_in ?_) | (with_reducible refine qw_in_hit ?_) | (refine qw_in_miss rfl ?_) | (with_reducible refine qw_then_exit ?_) | (with_reducible refine qw_then_ret ?_) | (with_reducible refine qw_in_ret ?_)) | (refine lw_nil ?_) | (refine is_guarded ?_; first | (refine lw_not rfl rfl rfl rfl ?_) | (refine lw_not_u rfl rfl rfl ?_) | (refine lw_on rfl rfl rfl ?_)) | ((refine is_bin ?_; first | (refine lw_pure rfl (pv_neq rfl rfl) ?_))) | ((refine is_load ?_; first | (refine lw_pure rfl (pv_load (t1 rfl) rfl (by first | fail)) ?_) | (refine lw_pure rfl (pv_loada (tA rfl) rfl (by first | fail) (by rfl)) ?_))) | ((refine is_un ?_; first | (refine lw_pure rfl (pv_not rfl) ?_))) | ((refine is_bi ?_; first | (refine lw_pure rfl (pv_lenl (tS rfl) rfl) ?_) | (refine lw_pure rfl (pv_lens (tStr rfl) rfl) ?_))) | (refine lw_pure rfl (pv_pick_t rfl rfl rfl) ?_) | (refine lw_pure rfl (pv_pick_f rfl rfl rfl) ?_) | (refine lw_pure rfl (pv_pick_t rfl (by first | assumption | exact decide_eq_true (by omega) | exact dec_notT (by omega)) rfl) ?_) | (refine lw_pure rfl (pv_pick_f rfl (by first | assumption | exact decide_eq_false (by omega) | exact dec_notF (by omega)) rfl) ?_) | (refine lw_pure rfl (pv_pick rfl rfl rfl) ?_) | (refine lw_pure rfl (pv_extract rfl rfl) ?_))
        refine lw_varN rfl (by first | exact tyv_35 | exact tyv_36 | exact tyv_53 | exact tyv_54 | exact tyv_56 | exact tyv_57 | exact tyv_59 | exact tyv_60 | exact tyv_62 | exact tyv_63 | exact tyv_122 | exact tyv_123) rfl (tZ rfl) (fun _ => rfl) rfl rfl ?_; intro N8 wn hN8 H8 hb; replace hN8 := Nat.le_trans hw.size hN8; replace hw := grow_trans hw hb; clear hb
        repeat' (first | (refine lw_pure rfl (pv_move rfl) ?_) | (refine lw_pure rfl (pv_assign rfl) ?_) | (refine is_cw ?_; first | (refine cw_seq ?_) | (refine cw_region ?_) | (refine cw_true rfl rfl ?_) | (refine cw_false rfl rfl ?_) | (refine cw_true rfl (by first | assumption | exact decide_eq_true (by omega) | exact dec_notT (by omega)) ?_) | (refine cw_false rfl (by first | assumption | exact decide_eq_false (by omega) | exact dec_notF (by omega)) ?_) | (refine cw_skip ?_) | (refine cw_block ?_) | (refine cw_exit ?_) | (refine cw_ret ?_)) | (refine is_qw ?_; first | (with_reducible refine qw_then ?_) | (with_reducible refine qw_in ?_) | (with_reducible refine qw_in_hit ?_) | (refine qw_in_miss rfl ?_) | (with_reducible refine qw_then_exit ?_) | (with_reducible refine qw_then_ret ?_) | (with_reducible refine qw_in_ret ?_)) | (refine lw_nil ?_) | (refine is_guarded ?_; first | (refine lw_not rfl rfl rfl rfl ?_) | (refine lw_not_u rfl rfl rfl ?_) | (refine lw_on rfl rfl rfl ?_)) | ((refine is_bin ?_; first | (refine lw_pure rfl (pv_neq rfl rfl) ?_))) | ((refine is_load ?_; first | (refine lw_pure rfl (pv_load (t1 rfl) rfl (by first | fail)) ?_) | (refine lw_pure rfl (pv_loada (tA rfl) rfl (by first | fail) (by rfl)) ?_))) | ((refine is_un ?_; first | (refine lw_pure rfl (pv_not rfl) ?_))) | ((refine is_bi ?_; first | (refine lw_pure rfl (pv_lenl (tS rfl) rfl) ?_) | (refine lw_pure rfl (pv_lens (tStr rfl) rfl) ?_))) | (refine lw_pure rfl (pv_pick_t rfl rfl rfl) ?_) | (refine lw_pure rfl (pv_pick_f rfl rfl rfl) ?_) | (refine lw_pure rfl (pv_pick_t rfl (by first | assumption | exact decide_eq_true (by omega) | exact dec_notT (by omega)) rfl) ?_) | (refine lw_pure rfl (pv_pick_f rfl (by first | assumption | exact decide_eq_false (by omega) | exact dec_notF (by omega)) rfl) ?_) | (refine lw_pure rfl (pv_pick rfl rfl rfl) ?_) | (refine lw_pure rfl (pv_extract rfl rfl) ?_))
        exact qw_ret1 rfl rfl ⟨rfl, grow_trans hwB hw⟩
      | some u =>
        repeat' (first | (refine lw_pure rfl (pv_move rfl) ?_) | (refine lw_pure rfl (pv_assign rfl) ?_) | (refine lw_pure rfl (pv_entryM rfl HI2) ?_) | (refine is_cw ?_; first | (refine cw_seq ?_) | (refine cw_region ?_) | (refine cw_true rfl rfl ?_) | (refine cw_false rfl rfl ?_) | (refine cw_true rfl (by first | assumption | exact decide_eq_true (by omega) | exact dec_notT (by omega)) ?_) | (refine cw_false rfl (by first | assumption | exact decide_eq_false (by omega) | exact dec_notF (by omega)) ?_) | (refine cw_skip ?_) | (refine cw_block ?_) | (refine cw_exit ?_) | (refine cw_ret ?_)) | (refine is_qw ?_; first | (with_reducible refine qw_then ?_) | (with_reducible refine qw_in ?_) | (with_reducible refine qw_in_hit ?_) | (refine qw_in_miss rfl ?_) | (with_reducible refine qw_then_exit ?_) | (with_reducible refine qw_then_ret ?_) | (with_reducible refine qw_in_ret ?_)) | (refine lw_nil ?_) | (refine is_guarded ?_; first | (refine lw_not rfl rfl rfl rfl ?_) | (refine lw_not_u rfl rfl rfl ?_) | (refine lw_on rfl rfl rfl ?_)) | ((refine is_bin ?_; first | (refine lw_pure rfl (pv_neq rfl rfl) ?_))) | ((refine is_load ?_; first | (refine lw_pure rfl (pv_load (t1 rfl) rfl (by first | fail)) ?_) | (refine lw_pure rfl (pv_loada (tA rfl) rfl (by first | fail) (by rfl)) ?_))) | ((refine is_un ?_; first | (refine lw_pure rfl (pv_not rfl) ?_))) | ((refine is_bi ?_; first | (refine lw_pure rfl (pv_lenl (tS rfl) rfl) ?_) | (refine lw_pure rfl (pv_lens (tStr rfl) rfl) ?_))) | (refine lw_pure rfl (pv_pick_t rfl rfl rfl) ?_) | (refine lw_pure rfl (pv_pick_f rfl rfl rfl) ?_) | (refine lw_pure rfl (pv_pick_t rfl (by first | assumption | exact decide_eq_true (by omega) | exact dec_notT (by omega)) rfl) ?_) | (refine lw_pure rfl (pv_pick_f rfl (by first | assumption | exact decide_eq_false (by omega) | exact dec_notF (by omega)) rfl) ?_) | (refine lw_pure rfl (pv_pick rfl rfl rfl) ?_) | (refine lw_pure rfl (pv_extract rfl rfl) ?_))
        refine lw_allocN rfl (by first | exact tyv_35 | exact tyv_36 | exact tyv_53 | exact tyv_54 | exact tyv_56 | exact tyv_57 | exact tyv_59 | exact tyv_60 | exact tyv_62 | exact tyv_63 | exact tyv_122 | exact tyv_123) rfl ?_; intro N6 w6 hN6 H6 hb6
        replace hw := grow_trans hw hb6
        clear hb6
        repeat' (first | (refine lw_pure rfl (pv_move rfl) ?_) | (refine lw_pure rfl (pv_assign rfl) ?_) | (refine is_cw ?_; first | (refine cw_seq ?_) | (refine cw_region ?_) | (refine cw_true rfl rfl ?_) | (refine cw_false rfl rfl ?_) | (refine cw_true rfl (by first | assumption | exact decide_eq_true (by omega) | exact dec_notT (by omega)) ?_) | (refine cw_false rfl (by first | assumption | exact decide_eq_false (by omega) | exact dec_notF (by omega)) ?_) | (refine cw_skip ?_) | (refine cw_block ?_) | (refine cw_exit ?_) | (refine cw_ret ?_)) | (refine is_qw ?_; first | (with_reducible refine qw_then ?_) | (with_reducible refine qw_in ?_) | (with_reducible refine qw_in_hit ?_) | (refine qw_in_miss rfl ?_) | (with_reducible refine qw_then_exit ?_) | (with_reducible refine qw_then_ret ?_) | (with_reducible refine qw_in_ret ?_)) | (refine lw_nil ?_) | (refine is_guarded ?_; first | (refine lw_not rfl rfl rfl rfl ?_) | (refine lw_not_u rfl rfl rfl ?_) | (refine lw_on rfl rfl rfl ?_)) | ((refine is_bin ?_; first | (refine lw_pure rfl (pv_neq rfl rfl) ?_))) | ((refine is_load ?_; first | (refine lw_pure rfl (pv_load (t1 rfl) rfl (by first | fail)) ?_) | (refine lw_pure rfl (pv_loada (tA rfl) rfl (by first | fail) (by rfl)) ?_))) | ((refine is_un ?_; first | (refine lw_pure rfl (pv_not rfl) ?_))) | ((refine is_bi ?_; first | (refine lw_pure rfl (pv_lenl (tS rfl) rfl) ?_) | (refine lw_pure rfl (pv_lens (tStr rfl) rfl) ?_))) | (refine lw_pure rfl (pv_pick_t rfl rfl rfl) ?_) | (refine lw_pure rfl (pv_pick_f rfl rfl rfl) ?_) | (refine lw_pure rfl (pv_pick_t rfl (by first | assumption | exact decide_eq_true (by omega) | exact dec_notT (by omega)) rfl) ?_) | (refine lw_pure rfl (pv_pick_f rfl (by first | assumption | exact decide_eq_false (by omega) | exact dec_notF (by omega)) rfl) ?_) | (refine lw_pure rfl (pv_pick rfl rfl rfl) ?_) | (refine lw_pure rfl (pv_extract rfl rfl) ?_))
        refine lw_storea (vs := encV2 v) H6 (tZ rfl) rfl rfl rfl rfl (by intro u hu; simp [encV2] at hu; rcases hu with rfl | rfl <;> rfl) ?_; intro w7 H7 hg7 hz7
        replace hw := st_hw hw hg7 hN6
        repeat' (first | (refine lw_pure rfl (pv_move rfl) ?_) | (refine lw_pure rfl (pv_assign rfl) ?_) | (refine lw_pure rfl (pv_look1 (k := q.1) Tryz.underlying58 keyS zF hqn hg2 rfl rfl (h2.mono hw)) ?_) | (refine is_cw ?_; first | (refine cw_seq ?_) | (refine cw_region ?_) | (refine cw_true rfl rfl ?_) | (refine cw_false rfl rfl ?_) | (refine cw_true rfl (by first | assumption | exact decide_eq_true (by omega) | exact dec_notT (by omega)) ?_) | (refine cw_false rfl (by first | assumption | exact decide_eq_false (by omega) | exact dec_notF (by omega)) ?_) | (refine cw_skip ?_) | (refine cw_block ?_) | (refine cw_exit ?_) | (refine cw_ret ?_)) | (refine is_qw ?_; first | (with_reducible refine qw_then ?_) | (with_reducible refine qw_in ?_) | (with_reducible refine qw_in_hit ?_) | (refine qw_in_miss rfl ?_) | (with_reducible refine qw_then_exit ?_) | (with_reducible refine qw_then_ret ?_) | (with_reducible refine qw_in_ret ?_)) | (refine lw_nil ?_) | (refine is_guarded ?_; first | (refine lw_not rfl rfl rfl rfl ?_) | (refine lw_not_u rfl rfl rfl ?_) | (refine lw_on rfl rfl rfl ?_)) | ((refine is_bin ?_; first | (refine lw_pure rfl (pv_neq rfl rfl) ?_))) | ((refine is_load ?_; first | (refine lw_pure rfl (pv_load (t1 rfl) rfl (by first | fail)) ?_) | (refine lw_pure rfl (pv_loada (tA rfl) rfl (by first | fail) (by rfl)) ?_))) | ((refine is_un ?_; first | (refine lw_pure rfl (pv_not rfl) ?_))) | ((refine is_bi ?_; first | (refine lw_pure rfl (pv_lenl (tS rfl) rfl) ?_) | (refine lw_pure rfl (pv_lens (tStr rfl) rfl) ?_))) | (refine lw_pure rfl (pv_pick_t rfl rfl rfl) ?_) | (refine lw_pure rfl (pv_pick_f rfl rfl rfl) ?_) | (refine lw_pure rfl (pv_pick_t rfl (by first | assumption | exact decide_eq_true (by omega) | exact dec_notT (by omega)) rfl) ?_) | (refine lw_pure rfl (pv_pick_f rfl (by first | assumption | exact decide_eq_false (by omega) | exact dec_notF (by omega)) rfl) ?_) | (refine lw_pure rfl (pv_pick rfl rfl rfl) ?_) | (refine lw_pure rfl (pv_extract rfl rfl) ?_))
        refine lw_varN rfl (by first | exact tyv_35 | exact tyv_36 | exact tyv_53 | exact tyv_54 | exact tyv_56 | exact tyv_57 | exact tyv_59 | exact tyv_60 | exact tyv_62 | exact tyv_63 | exact tyv_122 | exact tyv_123) rfl (tZ rfl) (fun _ => rfl) rfl rfl ?_; intro N8 w8 hN8 H8 hb8
        replace H7 := H7.mono hb8
        replace hw := grow_trans hw hb8
        clear hb8
        by_cases hvu : v = u
        · have hE : (!decide (v = u)) = false := by rw [decide_eq_true hvu]; rfl
          repeat' (first | (refine lw_pure rfl (pv_move rfl) ?_) | (refine lw_pure rfl (pv_assign rfl) ?_) | (refine is_cw ?_; first | (refine cw_seq ?_) | (refine cw_region ?_) | (refine cw_true rfl rfl ?_) | (refine cw_false rfl rfl ?_) | (refine cw_true rfl (by first | assumption | exact decide_eq_true (by omega) | exact dec_notT (by omega)) ?_) | (refine cw_false rfl (by first | assumption | exact decide_eq_false (by omega) | exact dec_notF (by omega)) ?_) | (refine cw_skip ?_) | (refine cw_block ?_) | (refine cw_exit ?_) | (refine cw_ret ?_)) | (refine is_qw ?_; first | (with_reducible refine qw_then ?_) | (with_reducible refine qw_in ?_) | (with_reducible refine qw_in_hit ?_) | (refine qw_in_miss rfl ?_) | (with_reducible refine qw_then_exit ?_) | (with_reducible refine qw_then_ret ?_) | (with_reducible refine qw_in_ret ?_)) | (refine lw_nil ?_) | (refine is_guarded ?_; first | (refine lw_not rfl rfl rfl rfl ?_) | (refine lw_not_u rfl rfl rfl ?_) | (refine lw_on rfl rfl rfl ?_)) | ((refine is_bin ?_; first | (refine lw_pure rfl (pv_neqV v u rfl rfl) ?_) | (refine lw_pure rfl (pv_neq rfl rfl) ?_))) | ((refine is_load ?_; first | (refine lw_pure rfl (pv_load (t1 rfl) rfl (by first | exact PT.ld0 H7 rfl | exact PT.ld H7 rfl | exact PT.ld0 H8 rfl | exact PT.ld H8 rfl)) ?_) | (refine lw_pure rfl (pv_loada (tA rfl) rfl (by first | exact PT.lda H7 | exact PT.lda H8) (by rfl)) ?_))) | ((refine is_un ?_; first | (refine lw_pure rfl (pv_not rfl) ?_))) | ((refine is_bi ?_; first | (refine lw_pure rfl (pv_lenl (tS rfl) rfl) ?_) | (refine lw_pure rfl (pv_lens (tStr rfl) rfl) ?_))) | (refine lw_pure rfl (pv_pick_t rfl rfl rfl) ?_) | (refine lw_pure rfl (pv_pick_f rfl rfl rfl) ?_) | (refine lw_pure rfl (pv_pick_t rfl (by first | assumption | exact decide_eq_true (by omega) | exact dec_notT (by omega)) rfl) ?_) | (refine lw_pure rfl (pv_pick_f rfl (by first | assumption | exact decide_eq_false (by omega) | exact dec_notF (by omega)) rfl) ?_) | (refine lw_pure rfl (pv_pick rfl rfl rfl) ?_) | (refine lw_pure rfl (pv_extract rfl rfl) ?_))
          refine qw_round rest' (by repeat' (first | exact trivial | refine ⟨rfl, ?_⟩)) ⟨grow_trans hwB hw, ⟨_, HI2.mono hw⟩, fun e he => hsub e (hq.mem_iff.2 (by simp [he])), fun e he => ?_⟩ (by omega)
          rcases hall e he with h3 | h3
          · rcases List.mem_cons.1 (hq.mem_iff.1 h3) with rfl | h4
            · refine Or.inr ?_
              rw [← hlk, hg2, hvu]
            · exact Or.inl h4
          · exact Or.inr h3
        · have hE : (!decide (v = u)) = true := by rw [decide_eq_false hvu]; rfl
          have hne : ¬ a = b := fun e => by
            subst e
            have h5 : (q.1, v) ∈ mapF a := hp1.mem_iff.1 (List.mem_map.2 ⟨(q, v), hmem, rfl⟩)
            obtain ⟨f, hf, e5⟩ := List.mem_map.1 h5
            rw [hlk, (getF_iff ha).2 ⟨hf, congrArg Prod.fst e5⟩] at hg2
            simp only [Option.map_some, Option.some.injEq] at hg2
            exact hvu ((congrArg Prod.snd e5).symm.trans hg2)
          rw [decide_eq_false hne]
          repeat' (first | (refine lw_pure rfl (pv_move rfl) ?_) | (refine lw_pure rfl (pv_assign rfl) ?_) | (refine is_cw ?_; first | (refine cw_seq ?_) | (refine cw_region ?_) | (refine cw_true rfl rfl ?_) | (refine cw_false rfl rfl ?_) | (refine cw_true rfl (by first | assumption | exact decide_eq_true (by omega) | exact dec_notT (by omega)) ?_) | (refine cw_false rfl (by first | assumption | exact decide_eq_false (by omega) | exact dec_notF (by omega)) ?_) | (refine cw_skip ?_) | (refine cw_block ?_) | (refine cw_exit ?_) | (refine cw_ret ?_)) | (refine is_qw ?_; first | (with_reducible refine qw_then ?_) | (with_reducible refine qw_in ?_) | (with_reducible refine qw_in_hit ?_) | (refine qw_in_miss rfl ?_) | (with_reducible refine qw_then_exit ?_) | (with_reducible refine qw_then_ret ?_) | (with_reducible refine qw_in_ret ?_)) | (refine lw_nil ?_) | (refine is_guarded ?_; first | (refine lw_not rfl rfl rfl rfl ?_) | (refine lw_not_u rfl rfl rfl ?_) | (refine lw_on rfl rfl rfl ?_)) | ((refine is_bin ?_; first | (refine lw_pure rfl (pv_neqV v u rfl rfl) ?_) | (refine lw_pure rfl (pv_neq rfl rfl) ?_))) | ((refine is_load ?_; first | (refine lw_pure rfl (pv_load (t1 rfl) rfl (by first | exact PT.ld0 H7 rfl | exact PT.ld H7 rfl | exact PT.ld0 H8 rfl | exact PT.ld H8 rfl)) ?_) | (refine lw_pure rfl (pv_loada (tA rfl) rfl (by first | exact PT.lda H7 | exact PT.lda H8) (by rfl)) ?_))) | ((refine is_un ?_; first | (refine lw_pure rfl (pv_not rfl) ?_))) | ((refine is_bi ?_; first | (refine lw_pure rfl (pv_lenl (tS rfl) rfl) ?_) | (refine lw_pure rfl (pv_lens (tStr rfl) rfl) ?_))) | (refine lw_pure rfl (pv_pick_t rfl rfl rfl) ?_) | (refine lw_pure rfl (pv_pick_f rfl rfl rfl) ?_) | (refine lw_pure rfl (pv_pick_t rfl (by first | assumption | exact decide_eq_true (by omega) | exact dec_notT (by omega)) rfl) ?_) | (refine lw_pure rfl (pv_pick_f rfl (by first | assumption | exact decide_eq_false (by omega) | exact dec_notF (by omega)) rfl) ?_) | (refine lw_pure rfl (pv_pick rfl rfl rfl) ?_) | (refine lw_pure rfl (pv_extract rfl rfl) ?_))
          exact qw_ret1 rfl rfl ⟨rfl, grow_trans hwB hw⟩
  · repeat' (first | (refine lw_pure rfl (pv_move rfl) ?_) | (refine lw_pure rfl (pv_assign rfl) ?_) | (refine lw_pure rfl (pv_lenB rfl Tryz.underlying58 rfl (h1.mono hw)) ?_) | (refine lw_pure rfl (pv_lenB rfl Tryz.underlying58 rfl (h2.mono hw)) ?_) | (refine is_cw ?_; first | (refine cw_seq ?_) | (refine cw_region ?_) | (refine cw_true rfl rfl ?_) | (refine cw_false rfl rfl ?_) | (refine cw_true rfl (by first | assumption | exact decide_eq_true (by omega) | exact dec_notT (by omega)) ?_) | (refine cw_false rfl (by first | assumption | exact decide_eq_false (by omega) | exact dec_notF (by omega)) ?_) | (refine cw_skip ?_) | (refine cw_block ?_) | (refine cw_exit ?_) | (refine cw_ret ?_)) | (refine is_qw ?_; first | (with_reducible refine qw_then ?_) | (with_reducible refine qw_in ?_) | (with_reducible refine qw_in_hit ?_) | (refine qw_in_miss rfl ?_) | (with_reducible refine qw_then_exit ?_) | (with_reducible refine qw_then_ret ?_) | (with_reducible refine qw_in_ret ?_)) | (refine lw_nil ?_) | (refine is_guarded ?_; first | (refine lw_not rfl rfl rfl rfl ?_) | (refine lw_not_u rfl rfl rfl ?_) | (refine lw_on rfl rfl rfl ?_)) | ((refine is_bin ?_; first | (refine lw_pure rfl (pv_neq rfl rfl) ?_))) | ((refine is_load ?_; first | (refine lw_pure rfl (pv_load (t1 rfl) rfl (by first | fail)) ?_) | (refine lw_pure rfl (pv_loada (tA rfl) rfl (by first | fail) (by rfl)) ?_))) | ((refine is_un ?_; first | (refine lw_pure rfl (pv_not rfl) ?_))) | ((refine is_bi ?_; first | (refine lw_pure rfl (pv_lenl (tS rfl) rfl) ?_) | (refine lw_pure rfl (pv_lens (tStr rfl) rfl) ?_))) | (refine lw_pure rfl (pv_pick_t rfl rfl rfl) ?_) | (refine lw_pure rfl (pv_pick_f rfl rfl rfl) ?_) | (refine lw_pure rfl (pv_pick_t rfl (by first | assumption | exact decide_eq_true (by omega) | exact dec_notT (by omega)) rfl) ?_) | (refine lw_pure rfl (pv_pick_f rfl (by first | assumption | exact decide_eq_false (by omega) | exact dec_notF (by omega)) rfl) ?_) | (refine lw_pure rfl (pv_pick rfl rfl rfl) ?_) | (refine lw_pure rfl (pv_extract rfl rfl) ?_))
    have hne : ¬ a = b := fun e => hl (by rw [hl1, hl2, e])
    exact qw_ret1 rfl rfl ⟨by rw [decide_eq_false hne], hw⟩
end Go.Proofs.YtncicecmhibpcaaGreatDoor
