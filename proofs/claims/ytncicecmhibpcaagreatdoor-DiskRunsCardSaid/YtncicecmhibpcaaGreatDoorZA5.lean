/-
  DiskRuns: its row and its card: whatever the input: true; the input reads as it did. Conditions: what the row prints (the table of functions reads as the program's text lays it).
-/
import Derived.Test.YtncicecmhibpcaaGreatDoorZA4
import Derived.Test.YtncicecmhibpcaaGreatDoorTie
import Derived.Test.YtncicecmhibpcaaGreatDoorCards
import Derived.SevenTiedAt
namespace Go.Proofs.YtncicecmhibpcaaGreatDoor
open Go.RowKit Go.PlainAid

theorem act_boxN {P : Program} {n : Nat} {l : Fr} {w : World} {d : Option Nat} {t ty : TypeId} {pos : String} {af : Array Edge} {g : Option (Nat × Bool)} {x : Operand} {v : Value} {Z : Value → World → Prop} (hx : ev l x = some v) {cs : List Value} (hcs : v.cells.toList = cs) (h : ∀ N w', w.heap.size ≤ N → PT w' N t cs → Below w.heap.size w w' → Z (.pointer (some ⟨N, 0, none⟩)) w') : Act1 P n l ⟨d, .box t x, ty, pos, af, g⟩ w Z :=
  act_ev (ev_box hx) (h _ _ (Nat.le_refl _) (hcs ▸ PT.new w _ _) (below_alloc _ _))
set_option maxRecDepth 20000 in
set_option maxHeartbeats 1000000 in
theorem rappend_c {w : World} {base N : Nat} {v : Value} {d : Dsk} (h : RkW w base N v d) (hbs : base ≤ w.heap.size) {n b : ByteArray} (hb : b.size ≤ 4611686018427387903) : Calls Tryz.prog 29 #[.pointer (some ⟨N, 0, none⟩), .string n, .string b] w fun e w' => e = .returned (.int .i64 (appendD d n b).1) ∧ RkQ w w' base N v (appendD d n b).2 := by
  have hok := h.ok.append n b
  have hw := Below.refl w.heap.size w
  refine fn_enter 80 Tryz.func29 rfl rfl rfl ?_
  cases hk : d.dark with
  | true =>
    rw [show appendD d n b = (45, d) from by unfold appendD; rw [if_pos hk]]
    repeat' (first | (refine lw_pure rfl (pv_move rfl) ?_) | (refine lw_pure rfl (pv_assign rfl) ?_) | (refine is_cw ?_; first | (refine cw_seq ?_) | (refine cw_region ?_)) | (refine is_qw ?_; first | (with_reducible refine qw_then ?_)) | (refine lw_nil ?_))
    refine lw_call (f := 63) (by kernel_rfl) rfl rfl (rfind45_c (h.mono hw) hk n) ?_; rintro e w1 ⟨rfl, hb⟩; refine ⟨_, rfl, ?_⟩; replace hw := grow_trans hw hb; clear hb
    repeat' (first | (refine lw_pure rfl (pv_move rfl) ?_) | (refine lw_pure rfl (pv_assign rfl) ?_) | (refine is_cw ?_; first | (refine cw_seq ?_) | (refine cw_region ?_) | (refine cw_true rfl rfl ?_) | (refine cw_ret ?_)) | (refine is_qw ?_; first | (with_reducible refine qw_then ?_) | (with_reducible refine qw_then_ret ?_)) | (refine lw_nil ?_) | ((refine is_bin ?_; first | (refine lw_pure rfl (pv_neq rfl rfl) ?_))) | (refine lw_pure rfl (pv_extract rfl rfl) ?_))
    exact qw_ret1 rfl rfl ⟨rfl, RkQ.same h hw⟩
  | false =>
    cases hg : getF d.fs n with
    | none =>
      rw [show appendD d n b = (5, d) from by unfold appendD; rw [hk, if_neg (by simp), hg]]
      repeat' (first | (refine lw_pure rfl (pv_move rfl) ?_) | (refine lw_pure rfl (pv_assign rfl) ?_) | (refine is_cw ?_; first | (refine cw_seq ?_) | (refine cw_region ?_)) | (refine is_qw ?_; first | (with_reducible refine qw_then ?_)) | (refine lw_nil ?_))
      refine lw_call (f := 63) (by kernel_rfl) rfl rfl (rfind5_c (h.mono hw) hk hg) ?_; rintro e w1 ⟨rfl, hb⟩; refine ⟨_, rfl, ?_⟩; replace hw := grow_trans hw hb; clear hb
      repeat' (first | (refine lw_pure rfl (pv_move rfl) ?_) | (refine lw_pure rfl (pv_assign rfl) ?_) | (refine is_cw ?_; first | (refine cw_seq ?_) | (refine cw_region ?_) | (refine cw_true rfl rfl ?_) | (refine cw_ret ?_)) | (refine is_qw ?_; first | (with_reducible refine qw_then ?_) | (with_reducible refine qw_then_ret ?_)) | (refine lw_nil ?_) | ((refine is_bin ?_; first | (refine lw_pure rfl (pv_neq rfl rfl) ?_))) | (refine lw_pure rfl (pv_extract rfl rfl) ?_))
      exact qw_ret1 rfl rfl ⟨rfl, RkQ.same h hw⟩
    | some f =>
      have hsz := getF_sz h.ok hg
      have hfn := (getF_some hg).2
      have hzf : szF f = f.firm.size + f.pend.size := rfl
      have hxk := at_pos h.ok.srt hg
      have hpl : posF d.fs n < d.fs.length := (List.getElem?_eq_some_iff.1 hxk).1
      have hul := used_le h.ok.sizes
      have hct := h.ok.cnt
      have hcp := h.ok.cap
      have hus : usedF d.fs ≤ 67108864 := by omega
      obtain ⟨a0, c0, e0, HS, -⟩ := Own.slR encF_len h.own
      subst e0
      obtain ⟨ab, ao, rfl, -, -⟩ := HS.at (by intro h; rw [h] at hpl; simp at hpl)
      have H := h.obj
      have hmx := HS.max
      have hle := HS.le
      by_cases h1 : 1048576 < szF f + b.size
      · rw [show appendD d n b = (44, d) from by unfold appendD; rw [hk, if_neg (by simp), hg]; dsimp only; rw [if_pos (Or.inl h1)]]
        repeat' (first | (refine lw_pure rfl (pv_move rfl) ?_) | (refine lw_pure rfl (pv_assign rfl) ?_) | (refine is_cw ?_; first | (refine cw_seq ?_) | (refine cw_region ?_)) | (refine is_qw ?_; first | (with_reducible refine qw_then ?_)) | (refine lw_nil ?_))
        refine lw_call (f := 63) (by kernel_rfl) rfl rfl (rfind0_c (h.mono hw) hk hg) ?_; rintro e w1 ⟨rfl, hb⟩; refine ⟨_, rfl, ?_⟩; replace hw := grow_trans hw hb; clear hb
        repeat' (first | (refine lw_pure rfl (pv_move rfl) ?_) | (refine lw_pure rfl (pv_assign rfl) ?_) | (refine is_cw ?_; first | (refine cw_seq ?_) | (refine cw_region ?_) | (refine cw_false rfl rfl ?_) | (refine cw_skip ?_)) | (refine is_qw ?_; first | (with_reducible refine qw_then ?_)) | (refine lw_nil ?_) | ((refine is_bin ?_; first | (refine lw_pure rfl (pv_neq rfl rfl) ?_))) | (refine lw_pure rfl (pv_extract rfl rfl) ?_))
        refine cw_drawn (fun w' => Below w.heap.size w w') (by kernel_rfl) (by repeat (first | exact NoPanic.body | with_reducible refine NoPanic.then ?_ | with_reducible refine NoPanic.inBlock ?_)) (fun hNP => ?_)
        have hS := hw.drew
        all_goals (refine at0 0 rfl (fun w' hq => pv_move rfl) ?_)
        all_goals (refine at0 1 rfl (fun w' hq => pv_nilp rfl) ?_)
        all_goals (refine at0 2 rfl (fun w' hq => pv_fa (tF rfl) rfl) ?_)
        all_goals (refine at0 3 rfl (fun w' hq => pv_load (t1 rfl) rfl (by first | exact PT.ld0 (H.mono hq) rfl | exact PT.ld (H.mono hq) rfl | exact SlR.ld (HS.mono hq) hxk rfl | exact SlR.ld1 (HS.mono hq) hxk rfl)) ?_)
        all_goals (refine at0 4 rfl (fun w' hq => pv_move rfl) ?_)
        all_goals (refine at0 5 rfl (fun w' hq => pv_ian (tS rfl) rfl rfl (by omega)) ?_)
        all_goals (refine at0 6 rfl (fun w' hq => pv_fa (tF rfl) rfl) ?_)
        all_goals (refine at0 7 rfl (fun w' hq => pv_load (t1 rfl) rfl (by first | exact PT.ld0 (H.mono hq) rfl | exact PT.ld (H.mono hq) rfl | exact SlR.ld (HS.mono hq) hxk rfl | exact SlR.ld1 (HS.mono hq) hxk rfl)) ?_)
        all_goals (refine at0 8 rfl (fun w' hq => pv_lens (tStr rfl) rfl) ?_)
        all_goals (refine at0 9 rfl (fun w' hq => pv_move rfl) ?_)
        all_goals (refine at0 10 rfl (fun w' hq => pv_nilp rfl) ?_)
        all_goals (refine at0 11 rfl (fun w' hq => pv_fa (tF rfl) rfl) ?_)
        all_goals (refine at0 12 rfl (fun w' hq => pv_load (t1 rfl) rfl (by first | exact PT.ld0 (H.mono hq) rfl | exact PT.ld (H.mono hq) rfl | exact SlR.ld (HS.mono hq) hxk rfl | exact SlR.ld1 (HS.mono hq) hxk rfl)) ?_)
        all_goals (refine at0 13 rfl (fun w' hq => pv_move rfl) ?_)
        all_goals (refine at0 14 rfl (fun w' hq => pv_ian (tS rfl) rfl rfl (by omega)) ?_)
        all_goals (refine at0 15 rfl (fun w' hq => pv_fa (tF rfl) rfl) ?_)
        all_goals (refine at0 16 rfl (fun w' hq => pv_load (t1 rfl) rfl (by first | exact PT.ld0 (H.mono hq) rfl | exact PT.ld (H.mono hq) rfl | exact SlR.ld (HS.mono hq) hxk rfl | exact SlR.ld1 (HS.mono hq) hxk rfl)) ?_)
        all_goals (refine at0 17 rfl (fun w' hq => pv_lens (tStr rfl) rfl) ?_)
        all_goals (refine at0 18 rfl (fun w' hq => pv_add rfl rfl (by omega)) ?_)
        all_goals (refine at0 19 rfl (fun w' hq => pv_move rfl) ?_)
        all_goals (refine at0 20 rfl (fun w' hq => pv_lens (tStr rfl) rfl) ?_)
        all_goals (refine at0 21 rfl (fun w' hq => pv_add rfl rfl (by omega)) ?_)
        all_goals (refine at0 22 rfl (fun w' hq => pv_gtr rfl rfl) ?_)
        all_goals (refine at0 23 rfl (fun w' hq => pv_move rfl) ?_)
        all_goals (refine an2 24 rfl rfl rfl ?_)
        all_goals (refine an2 26 rfl rfl rfl ?_)
        all_goals (refine an2 27 rfl rfl rfl ?_)
        all_goals (refine an2 29 rfl rfl rfl ?_)
        all_goals (refine an2 30 rfl rfl rfl ?_)
        all_goals (refine an2 31 rfl rfl rfl ?_)
        all_goals (refine an2 32 rfl rfl rfl ?_)
        all_goals first | (refine an3 25 rfl rfl rfl ?_) | (refine an0 25 rfl rfl rfl ?_) | (refine aw_act_g 25 (by kernel_rfl) rfl rfl rfl (by first | rfl | assumption | exact decide_eq_true (by omega) | exact decide_eq_false (by omega) | exact dec_notT (by omega) | exact dec_notF (by omega)) rfl ?_; refine act_call (f := 39) (by kernel_rfl) rfl (rused_c (h.mono hS)) ?_; rintro e1 w1 ⟨rfl, hb⟩; refine ⟨_, rfl, grow_trans hS hb, fun hS => ?_⟩)
        all_goals (refine an2 28 rfl rfl rfl ?_)
        all_goals (refine an2 33 rfl rfl rfl ?_)
        all_goals (refine at0 34 rfl (fun w' hq => pv_pick_t rfl (by first | assumption | exact decide_eq_true (by omega) | exact dec_notT (by omega)) rfl) ?_)
        all_goals (refine aw_done (by kernel_rfl) ?_; replace hw := hS; clear hS hNP)
        repeat' (first | (refine lw_pure rfl (pv_assign rfl) ?_) | (refine is_cw ?_; first | (refine cw_seq ?_) | (refine cw_region ?_) | (refine cw_true rfl rfl ?_) | (refine cw_ret ?_)) | (refine is_qw ?_; first | (with_reducible refine qw_then ?_) | (with_reducible refine qw_then_ret ?_)) | (refine lw_nil ?_))
        exact qw_ret1 rfl rfl ⟨rfl, RkQ.same h hw⟩
      · by_cases h2 : d.cap < (usedF d.fs : Int) + b.size
        · rw [show appendD d n b = (44, d) from by unfold appendD; rw [hk, if_neg (by simp), hg]; dsimp only; rw [if_pos (Or.inr h2)]]
          repeat' (first | (refine lw_pure rfl (pv_move rfl) ?_) | (refine lw_pure rfl (pv_assign rfl) ?_) | (refine is_cw ?_; first | (refine cw_seq ?_) | (refine cw_region ?_)) | (refine is_qw ?_; first | (with_reducible refine qw_then ?_)) | (refine lw_nil ?_))
          refine lw_call (f := 63) (by kernel_rfl) rfl rfl (rfind0_c (h.mono hw) hk hg) ?_; rintro e w1 ⟨rfl, hb⟩; refine ⟨_, rfl, ?_⟩; replace hw := grow_trans hw hb; clear hb
          repeat' (first | (refine lw_pure rfl (pv_move rfl) ?_) | (refine lw_pure rfl (pv_assign rfl) ?_) | (refine is_cw ?_; first | (refine cw_seq ?_) | (refine cw_region ?_) | (refine cw_false rfl rfl ?_) | (refine cw_skip ?_)) | (refine is_qw ?_; first | (with_reducible refine qw_then ?_)) | (refine lw_nil ?_) | ((refine is_bin ?_; first | (refine lw_pure rfl (pv_neq rfl rfl) ?_))) | (refine lw_pure rfl (pv_extract rfl rfl) ?_))
          refine cw_drawn (fun w' => Below w.heap.size w w') (by kernel_rfl) (by repeat (first | exact NoPanic.body | with_reducible refine NoPanic.then ?_ | with_reducible refine NoPanic.inBlock ?_)) (fun hNP => ?_)
          have hS := hw.drew
          all_goals (refine at0 0 rfl (fun w' hq => pv_move rfl) ?_)
          all_goals (refine at0 1 rfl (fun w' hq => pv_nilp rfl) ?_)
          all_goals (refine at0 2 rfl (fun w' hq => pv_fa (tF rfl) rfl) ?_)
          all_goals (refine at0 3 rfl (fun w' hq => pv_load (t1 rfl) rfl (by first | exact PT.ld0 (H.mono hq) rfl | exact PT.ld (H.mono hq) rfl | exact SlR.ld (HS.mono hq) hxk rfl | exact SlR.ld1 (HS.mono hq) hxk rfl)) ?_)
          all_goals (refine at0 4 rfl (fun w' hq => pv_move rfl) ?_)
          all_goals (refine at0 5 rfl (fun w' hq => pv_ian (tS rfl) rfl rfl (by omega)) ?_)
          all_goals (refine at0 6 rfl (fun w' hq => pv_fa (tF rfl) rfl) ?_)
          all_goals (refine at0 7 rfl (fun w' hq => pv_load (t1 rfl) rfl (by first | exact PT.ld0 (H.mono hq) rfl | exact PT.ld (H.mono hq) rfl | exact SlR.ld (HS.mono hq) hxk rfl | exact SlR.ld1 (HS.mono hq) hxk rfl)) ?_)
          all_goals (refine at0 8 rfl (fun w' hq => pv_lens (tStr rfl) rfl) ?_)
          all_goals (refine at0 9 rfl (fun w' hq => pv_move rfl) ?_)
          all_goals (refine at0 10 rfl (fun w' hq => pv_nilp rfl) ?_)
          all_goals (refine at0 11 rfl (fun w' hq => pv_fa (tF rfl) rfl) ?_)
          all_goals (refine at0 12 rfl (fun w' hq => pv_load (t1 rfl) rfl (by first | exact PT.ld0 (H.mono hq) rfl | exact PT.ld (H.mono hq) rfl | exact SlR.ld (HS.mono hq) hxk rfl | exact SlR.ld1 (HS.mono hq) hxk rfl)) ?_)
          all_goals (refine at0 13 rfl (fun w' hq => pv_move rfl) ?_)
          all_goals (refine at0 14 rfl (fun w' hq => pv_ian (tS rfl) rfl rfl (by omega)) ?_)
          all_goals (refine at0 15 rfl (fun w' hq => pv_fa (tF rfl) rfl) ?_)
          all_goals (refine at0 16 rfl (fun w' hq => pv_load (t1 rfl) rfl (by first | exact PT.ld0 (H.mono hq) rfl | exact PT.ld (H.mono hq) rfl | exact SlR.ld (HS.mono hq) hxk rfl | exact SlR.ld1 (HS.mono hq) hxk rfl)) ?_)
          all_goals (refine at0 17 rfl (fun w' hq => pv_lens (tStr rfl) rfl) ?_)
          all_goals (refine at0 18 rfl (fun w' hq => pv_add rfl rfl (by omega)) ?_)
          all_goals (refine at0 19 rfl (fun w' hq => pv_move rfl) ?_)
          all_goals (refine at0 20 rfl (fun w' hq => pv_lens (tStr rfl) rfl) ?_)
          all_goals (refine at0 21 rfl (fun w' hq => pv_add rfl rfl (by omega)) ?_)
          all_goals (refine at0 22 rfl (fun w' hq => pv_gtr rfl rfl) ?_)
          all_goals (refine at0 23 rfl (fun w' hq => pv_move rfl) ?_)
          all_goals (refine at2 24 rfl rfl rfl (fun w' hq => pv_move rfl) ?_)
          all_goals (refine at2 26 rfl rfl rfl (fun w' hq => pv_move rfl) ?_)
          all_goals (refine at2 27 rfl rfl rfl (fun w' hq => pv_lens (tStr rfl) rfl) ?_)
          all_goals (refine at2 29 rfl rfl rfl (fun w' hq => pv_move rfl) ?_)
          all_goals (refine at2 30 rfl rfl rfl (fun w' hq => pv_nilp rfl) ?_)
          all_goals (refine at2 31 rfl rfl rfl (fun w' hq => pv_fa (tF rfl) rfl) ?_)
          all_goals (refine at2 32 rfl rfl rfl (fun w' hq => pv_load (t1 rfl) rfl (by first | exact PT.ld0 (H.mono hq) rfl | exact PT.ld (H.mono hq) rfl | exact SlR.ld (HS.mono hq) hxk rfl | exact SlR.ld1 (HS.mono hq) hxk rfl)) ?_)
          all_goals first | (refine an3 25 rfl rfl rfl ?_) | (refine an0 25 rfl rfl rfl ?_) | (refine aw_act_g 25 (by kernel_rfl) rfl rfl rfl (by first | rfl | assumption | exact decide_eq_true (by omega) | exact decide_eq_false (by omega) | exact dec_notT (by omega) | exact dec_notF (by omega)) rfl ?_; refine act_call (f := 39) (by kernel_rfl) rfl (rused_c (h.mono hS)) ?_; rintro e1 w1 ⟨rfl, hb⟩; refine ⟨_, rfl, grow_trans hS hb, fun hS => ?_⟩)
          all_goals (refine at2 28 rfl rfl rfl (fun w' hq => pv_add rfl rfl (by omega)) ?_)
          all_goals (refine at2 33 rfl rfl rfl (fun w' hq => pv_gtr rfl rfl) ?_)
          all_goals (refine at0 34 rfl (fun w' hq => pv_pick_f rfl (by first | assumption | exact decide_eq_false (by omega) | exact dec_notF (by omega)) rfl) ?_)
          all_goals (refine aw_done (by kernel_rfl) ?_; replace hw := hS; clear hS hNP)
          repeat' (first | (refine lw_pure rfl (pv_assign rfl) ?_) | (refine is_cw ?_; first | (refine cw_seq ?_) | (refine cw_region ?_) | (refine cw_true rfl (by first | assumption | exact decide_eq_true (by omega) | exact dec_notT (by omega)) ?_) | (refine cw_ret ?_)) | (refine is_qw ?_; first | (with_reducible refine qw_then ?_) | (with_reducible refine qw_then_ret ?_)) | (refine lw_nil ?_))
          exact qw_ret1 rfl rfl ⟨rfl, RkQ.same h hw⟩
        · have hc : f.pend.size + b.size ≤ 9223372036854775807 := by omega
          have e1 : appendD d n b = ((doD d d.fs).1, { (doD d d.fs).2 with fs := putF d.fs ⟨n, f.firm, f.pend ++ b⟩ }) := by unfold appendD; rw [hk, if_neg (by simp), hg]; dsimp only; rw [if_neg (by omega)]
          rw [e1] at hok ⊢
          by_cases h0 : d.left = 0
          · rw [doD0 h0] at hok ⊢
            repeat' (first | (refine lw_pure rfl (pv_move rfl) ?_) | (refine lw_pure rfl (pv_assign rfl) ?_) | (refine is_cw ?_; first | (refine cw_seq ?_) | (refine cw_region ?_)) | (refine is_qw ?_; first | (with_reducible refine qw_then ?_)) | (refine lw_nil ?_))
            refine lw_call (f := 63) (by kernel_rfl) rfl rfl (rfind0_c (h.mono hw) hk hg) ?_; rintro e w1 ⟨rfl, hb⟩; refine ⟨_, rfl, ?_⟩; replace hw := grow_trans hw hb; clear hb
            repeat' (first | (refine lw_pure rfl (pv_move rfl) ?_) | (refine lw_pure rfl (pv_assign rfl) ?_) | (refine is_cw ?_; first | (refine cw_seq ?_) | (refine cw_region ?_) | (refine cw_false rfl rfl ?_) | (refine cw_skip ?_)) | (refine is_qw ?_; first | (with_reducible refine qw_then ?_)) | (refine lw_nil ?_) | ((refine is_bin ?_; first | (refine lw_pure rfl (pv_neq rfl rfl) ?_))) | (refine lw_pure rfl (pv_extract rfl rfl) ?_))
            refine cw_drawn (fun w' => Below w.heap.size w w') (by kernel_rfl) (by repeat (first | exact NoPanic.body | with_reducible refine NoPanic.then ?_ | with_reducible refine NoPanic.inBlock ?_)) (fun hNP => ?_)
            have hS := hw.drew
            all_goals (refine at0 0 rfl (fun w' hq => pv_move rfl) ?_)
            all_goals (refine at0 1 rfl (fun w' hq => pv_nilp rfl) ?_)
            all_goals (refine at0 2 rfl (fun w' hq => pv_fa (tF rfl) rfl) ?_)
            all_goals (refine at0 3 rfl (fun w' hq => pv_load (t1 rfl) rfl (by first | exact PT.ld0 (H.mono hq) rfl | exact PT.ld (H.mono hq) rfl | exact SlR.ld (HS.mono hq) hxk rfl | exact SlR.ld1 (HS.mono hq) hxk rfl)) ?_)
            all_goals (refine at0 4 rfl (fun w' hq => pv_move rfl) ?_)
            all_goals (refine at0 5 rfl (fun w' hq => pv_ian (tS rfl) rfl rfl (by omega)) ?_)
            all_goals (refine at0 6 rfl (fun w' hq => pv_fa (tF rfl) rfl) ?_)
            all_goals (refine at0 7 rfl (fun w' hq => pv_load (t1 rfl) rfl (by first | exact PT.ld0 (H.mono hq) rfl | exact PT.ld (H.mono hq) rfl | exact SlR.ld (HS.mono hq) hxk rfl | exact SlR.ld1 (HS.mono hq) hxk rfl)) ?_)
            all_goals (refine at0 8 rfl (fun w' hq => pv_lens (tStr rfl) rfl) ?_)
            all_goals (refine at0 9 rfl (fun w' hq => pv_move rfl) ?_)
            all_goals (refine at0 10 rfl (fun w' hq => pv_nilp rfl) ?_)
            all_goals (refine at0 11 rfl (fun w' hq => pv_fa (tF rfl) rfl) ?_)
            all_goals (refine at0 12 rfl (fun w' hq => pv_load (t1 rfl) rfl (by first | exact PT.ld0 (H.mono hq) rfl | exact PT.ld (H.mono hq) rfl | exact SlR.ld (HS.mono hq) hxk rfl | exact SlR.ld1 (HS.mono hq) hxk rfl)) ?_)
            all_goals (refine at0 13 rfl (fun w' hq => pv_move rfl) ?_)
            all_goals (refine at0 14 rfl (fun w' hq => pv_ian (tS rfl) rfl rfl (by omega)) ?_)
            all_goals (refine at0 15 rfl (fun w' hq => pv_fa (tF rfl) rfl) ?_)
            all_goals (refine at0 16 rfl (fun w' hq => pv_load (t1 rfl) rfl (by first | exact PT.ld0 (H.mono hq) rfl | exact PT.ld (H.mono hq) rfl | exact SlR.ld (HS.mono hq) hxk rfl | exact SlR.ld1 (HS.mono hq) hxk rfl)) ?_)
            all_goals (refine at0 17 rfl (fun w' hq => pv_lens (tStr rfl) rfl) ?_)
            all_goals (refine at0 18 rfl (fun w' hq => pv_add rfl rfl (by omega)) ?_)
            all_goals (refine at0 19 rfl (fun w' hq => pv_move rfl) ?_)
            all_goals (refine at0 20 rfl (fun w' hq => pv_lens (tStr rfl) rfl) ?_)
            all_goals (refine at0 21 rfl (fun w' hq => pv_add rfl rfl (by omega)) ?_)
            all_goals (refine at0 22 rfl (fun w' hq => pv_gtr rfl rfl) ?_)
            all_goals (refine at0 23 rfl (fun w' hq => pv_move rfl) ?_)
            all_goals (refine at2 24 rfl rfl rfl (fun w' hq => pv_move rfl) ?_)
            all_goals (refine at2 26 rfl rfl rfl (fun w' hq => pv_move rfl) ?_)
            all_goals (refine at2 27 rfl rfl rfl (fun w' hq => pv_lens (tStr rfl) rfl) ?_)
            all_goals (refine at2 29 rfl rfl rfl (fun w' hq => pv_move rfl) ?_)
            all_goals (refine at2 30 rfl rfl rfl (fun w' hq => pv_nilp rfl) ?_)
            all_goals (refine at2 31 rfl rfl rfl (fun w' hq => pv_fa (tF rfl) rfl) ?_)
            all_goals (refine at2 32 rfl rfl rfl (fun w' hq => pv_load (t1 rfl) rfl (by first | exact PT.ld0 (H.mono hq) rfl | exact PT.ld (H.mono hq) rfl | exact SlR.ld (HS.mono hq) hxk rfl | exact SlR.ld1 (HS.mono hq) hxk rfl)) ?_)
            all_goals first | (refine an3 25 rfl rfl rfl ?_) | (refine an0 25 rfl rfl rfl ?_) | (refine aw_act_g 25 (by kernel_rfl) rfl rfl rfl (by first | rfl | assumption | exact decide_eq_true (by omega) | exact decide_eq_false (by omega) | exact dec_notT (by omega) | exact dec_notF (by omega)) rfl ?_; refine act_call (f := 39) (by kernel_rfl) rfl (rused_c (h.mono hS)) ?_; rintro e1 w1 ⟨rfl, hb⟩; refine ⟨_, rfl, grow_trans hS hb, fun hS => ?_⟩)
            all_goals (refine at2 28 rfl rfl rfl (fun w' hq => pv_add rfl rfl (by omega)) ?_)
            all_goals (refine at2 33 rfl rfl rfl (fun w' hq => pv_gtr rfl rfl) ?_)
            all_goals (refine at0 34 rfl (fun w' hq => pv_pick_f rfl (by first | assumption | exact decide_eq_false (by omega) | exact dec_notF (by omega)) rfl) ?_)
            all_goals (refine aw_done (by kernel_rfl) ?_; replace hw := hS; clear hS hNP)
            repeat' (first | (refine lw_pure rfl (pv_move rfl) ?_) | (refine is_cw ?_; first | (refine cw_seq ?_) | (refine cw_region ?_) | (refine cw_false rfl (by first | assumption | exact decide_eq_false (by omega) | exact dec_notF (by omega)) ?_) | (refine cw_skip ?_)) | (refine is_qw ?_; first | (with_reducible refine qw_then ?_)))
            refine lw_call (f := 61) (by kernel_rfl) rfl rfl (rgoes0_c (h.mono hw) h0) ?_; rintro e5 w5 ⟨rfl, hT, hg5⟩; refine ⟨_, rfl, ?_⟩; have hw4 := hw; clear hw; have hw := Below.refl w5.heap.size w5; have hbs5 : base ≤ w5.heap.size := Nat.le_trans (Nat.le_trans hbs hw4.size) hg5.size
            have hTo : Own encF 3 54 base w5 _ d.fs := hT.own
            obtain ⟨a5, c5, e5, HS5, -⟩ := Own.slR encF_len hTo
            injection e5 with e5 _ e6
            subst e5 e6
            have H5 := hT.obj
            have hmx5 := HS5.max
            have hle5 := HS5.le
            repeat' (first | (refine lw_pure rfl (pv_assign rfl) ?_) | (refine is_cw ?_; first | (refine cw_seq ?_)) | (refine is_qw ?_; first | (with_reducible refine qw_then ?_)) | (refine lw_nil ?_))
            refine cw_drawnF 21 (fun w' => Below w5.heap.size w5 w' ∧ True) (by kernel_rfl) (by repeat (first | exact NoPanic.body | with_reducible refine NoPanic.then ?_ | with_reducible refine NoPanic.inBlock ?_)) (fun hNP => ?_)
            have hU := And.intro hw.drew trivial
            first | (refine fw_takeT 0 9 rfl (by kernel_rfl) (by kernel_rfl) rfl rfl (by kernel_rfl) (by kernel_rfl) (by kernel_rfl) hNP hU rfl (fun w' hq => pv_move rfl) ?_)
            first | (refine fw_takeT 1 9 rfl (by kernel_rfl) (by kernel_rfl) rfl rfl (by kernel_rfl) (by kernel_rfl) (by kernel_rfl) hNP hU rfl (fun w' hq => pv_move rfl) ?_)
            first | (refine fw_takeT 2 9 rfl (by kernel_rfl) (by kernel_rfl) rfl rfl (by kernel_rfl) (by kernel_rfl) (by kernel_rfl) hNP hU rfl (fun w' hq => pv_move rfl) ?_)
            first | (refine fw_takeT 3 9 rfl (by kernel_rfl) (by kernel_rfl) rfl rfl (by kernel_rfl) (by kernel_rfl) (by kernel_rfl) hNP hU rfl (fun w' hq => pv_nilp rfl) ?_)
            first | (refine fw_takeT 4 9 rfl (by kernel_rfl) (by kernel_rfl) rfl rfl (by kernel_rfl) (by kernel_rfl) (by kernel_rfl) hNP hU rfl (fun w' hq => pv_fa (tF rfl) rfl) ?_)
            first | (refine fw_takeT 5 9 rfl (by kernel_rfl) (by kernel_rfl) rfl rfl (by kernel_rfl) (by kernel_rfl) (by kernel_rfl) hNP hU rfl (fun w' hq => pv_load (t1 rfl) rfl (by first | exact PT.ld0 (H5.mono hq.1) rfl | exact PT.ld (H5.mono hq.1) rfl | exact SlR.ld (HS5.mono hq.1) hxk rfl | exact SlR.ld1 (HS5.mono hq.1) hxk rfl)) ?_)
            first | (refine fw_takeT 6 9 rfl (by kernel_rfl) (by kernel_rfl) rfl rfl (by kernel_rfl) (by kernel_rfl) (by kernel_rfl) hNP hU rfl (fun w' hq => pv_move rfl) ?_)
            first | (refine fw_takeT 7 9 rfl (by kernel_rfl) (by kernel_rfl) rfl rfl (by kernel_rfl) (by kernel_rfl) (by kernel_rfl) hNP hU rfl (fun w' hq => pv_ian (tS rfl) rfl rfl (by omega)) ?_)
            first | (refine fw_takeT 8 9 rfl (by kernel_rfl) (by kernel_rfl) rfl rfl (by kernel_rfl) (by kernel_rfl) (by kernel_rfl) hNP hU rfl (fun w' hq => pv_fa (tF rfl) rfl) ?_)
            first | (refine fw_takeT 9 9 rfl (by kernel_rfl) (by kernel_rfl) rfl rfl (by kernel_rfl) (by kernel_rfl) (by kernel_rfl) hNP hU rfl (fun w' hq => pv_load (t1 rfl) rfl (by first | exact PT.ld0 (H5.mono hq.1) rfl | exact PT.ld (H5.mono hq.1) rfl | exact SlR.ld (HS5.mono hq.1) hxk rfl | exact SlR.ld1 (HS5.mono hq.1) hxk rfl)) ?_)
            first | (refine fw_takeT 10 9 rfl (by kernel_rfl) (by kernel_rfl) rfl rfl (by kernel_rfl) (by kernel_rfl) (by kernel_rfl) hNP hU rfl (fun w' hq => pv_move rfl) ?_)
            first | (refine fw_takeT 11 9 rfl (by kernel_rfl) (by kernel_rfl) rfl rfl (by kernel_rfl) (by kernel_rfl) (by kernel_rfl) hNP hU rfl (fun w' hq => pv_nilp rfl) ?_)
            first | (refine fw_takeT 12 9 rfl (by kernel_rfl) (by kernel_rfl) rfl rfl (by kernel_rfl) (by kernel_rfl) (by kernel_rfl) hNP hU rfl (fun w' hq => pv_fa (tF rfl) rfl) ?_)
            first | (refine fw_takeT 13 9 rfl (by kernel_rfl) (by kernel_rfl) rfl rfl (by kernel_rfl) (by kernel_rfl) (by kernel_rfl) hNP hU rfl (fun w' hq => pv_load (t1 rfl) rfl (by first | exact PT.ld0 (H5.mono hq.1) rfl | exact PT.ld (H5.mono hq.1) rfl | exact SlR.ld (HS5.mono hq.1) hxk rfl | exact SlR.ld1 (HS5.mono hq.1) hxk rfl)) ?_)
            first | (refine fw_takeT 14 9 rfl (by kernel_rfl) (by kernel_rfl) rfl rfl (by kernel_rfl) (by kernel_rfl) (by kernel_rfl) hNP hU rfl (fun w' hq => pv_move rfl) ?_)
            first | (refine fw_takeT 15 9 rfl (by kernel_rfl) (by kernel_rfl) rfl rfl (by kernel_rfl) (by kernel_rfl) (by kernel_rfl) hNP hU rfl (fun w' hq => pv_ian (tS rfl) rfl rfl (by omega)) ?_)
            first | (refine fw_takeT 16 9 rfl (by kernel_rfl) (by kernel_rfl) rfl rfl (by kernel_rfl) (by kernel_rfl) (by kernel_rfl) hNP hU rfl (fun w' hq => pv_fa (tF rfl) rfl) ?_)
            first | (refine fw_takeT 17 9 rfl (by kernel_rfl) (by kernel_rfl) rfl rfl (by kernel_rfl) (by kernel_rfl) (by kernel_rfl) hNP hU rfl (fun w' hq => pv_load (t1 rfl) rfl (by first | exact PT.ld0 (H5.mono hq.1) rfl | exact PT.ld (H5.mono hq.1) rfl | exact SlR.ld (HS5.mono hq.1) hxk rfl | exact SlR.ld1 (HS5.mono hq.1) hxk rfl)) ?_)
            first | (refine fw_takeT 18 9 rfl (by kernel_rfl) (by kernel_rfl) rfl rfl (by kernel_rfl) (by kernel_rfl) (by kernel_rfl) hNP hU rfl (fun w' hq => pv_move rfl) ?_)
            first | (refine fw_takeT 19 9 rfl (by kernel_rfl) (by kernel_rfl) rfl rfl (by kernel_rfl) (by kernel_rfl) (by kernel_rfl) hNP hU rfl (fun w' hq => pv_cat rfl rfl hc) ?_)
            first | (refine fw_takeT 20 9 rfl (by kernel_rfl) (by kernel_rfl) rfl rfl (by kernel_rfl) (by kernel_rfl) (by kernel_rfl) hNP hU rfl (fun w' hq => tyB_54 rfl rfl rfl) ?_)
            obtain ⟨hw, -⟩ := hU; clear hNP
            refine fw_one 21 (by kernel_rfl) rfl rfl rfl (by kernel_rfl) ?_
            refine act_call (f := 62) (by kernel_rfl) rfl (rput_c ⟨(hT.mono hw).obj, (hT.mono hw).own⟩ hT.ok.srt hT.ok.cnt (Nat.le_trans hbs5 hw.size) ⟨n, f.firm, f.pend ++ b⟩) ?_; rintro e6 w6 ⟨rfl, ⟨v6, hP, hnv⟩, hg6⟩; refine ⟨_, rfl, ?_⟩; replace hnv := (NewV.refl w5 _).trans hnv hw.size; replace hg6 := grown_in hw hg6; clear hw; have hw := Below.refl w6.heap.size w6
            refine fw_done (by kernel_rfl) ?_
            repeat' (first | (refine lw_pure rfl (pv_move rfl) ?_) | (refine lw_pure rfl (pv_assign rfl) ?_) | (refine is_cw ?_; first | (refine cw_seq ?_) | (refine cw_region ?_) | (refine cw_true rfl rfl ?_) | (refine cw_ret ?_)) | (refine is_qw ?_; first | (with_reducible refine qw_then ?_) | (with_reducible refine qw_then_ret ?_)) | (refine lw_nil ?_) | ((refine is_un ?_; first | (refine lw_pure rfl (pv_not rfl) ?_))))
            exact qw_ret1 rfl rfl ⟨rfl, rk_fin hw4 hg5 hP hok hnv hg6⟩
          · rw [doD1 h0] at hok ⊢
            repeat' (first | (refine lw_pure rfl (pv_move rfl) ?_) | (refine lw_pure rfl (pv_assign rfl) ?_) | (refine is_cw ?_; first | (refine cw_seq ?_) | (refine cw_region ?_)) | (refine is_qw ?_; first | (with_reducible refine qw_then ?_)) | (refine lw_nil ?_))
            refine lw_call (f := 63) (by kernel_rfl) rfl rfl (rfind0_c (h.mono hw) hk hg) ?_; rintro e w1 ⟨rfl, hb⟩; refine ⟨_, rfl, ?_⟩; replace hw := grow_trans hw hb; clear hb
            repeat' (first | (refine lw_pure rfl (pv_move rfl) ?_) | (refine lw_pure rfl (pv_assign rfl) ?_) | (refine is_cw ?_; first | (refine cw_seq ?_) | (refine cw_region ?_) | (refine cw_false rfl rfl ?_) | (refine cw_skip ?_)) | (refine is_qw ?_; first | (with_reducible refine qw_then ?_)) | (refine lw_nil ?_) | ((refine is_bin ?_; first | (refine lw_pure rfl (pv_neq rfl rfl) ?_))) | (refine lw_pure rfl (pv_extract rfl rfl) ?_))
            refine cw_drawn (fun w' => Below w.heap.size w w') (by kernel_rfl) (by repeat (first | exact NoPanic.body | with_reducible refine NoPanic.then ?_ | with_reducible refine NoPanic.inBlock ?_)) (fun hNP => ?_)
            have hS := hw.drew
            all_goals (refine at0 0 rfl (fun w' hq => pv_move rfl) ?_)
            all_goals (refine at0 1 rfl (fun w' hq => pv_nilp rfl) ?_)
            all_goals (refine at0 2 rfl (fun w' hq => pv_fa (tF rfl) rfl) ?_)
            all_goals (refine at0 3 rfl (fun w' hq => pv_load (t1 rfl) rfl (by first | exact PT.ld0 (H.mono hq) rfl | exact PT.ld (H.mono hq) rfl | exact SlR.ld (HS.mono hq) hxk rfl | exact SlR.ld1 (HS.mono hq) hxk rfl)) ?_)
            all_goals (refine at0 4 rfl (fun w' hq => pv_move rfl) ?_)
            all_goals (refine at0 5 rfl (fun w' hq => pv_ian (tS rfl) rfl rfl (by omega)) ?_)
            all_goals (refine at0 6 rfl (fun w' hq => pv_fa (tF rfl) rfl) ?_)
            all_goals (refine at0 7 rfl (fun w' hq => pv_load (t1 rfl) rfl (by first | exact PT.ld0 (H.mono hq) rfl | exact PT.ld (H.mono hq) rfl | exact SlR.ld (HS.mono hq) hxk rfl | exact SlR.ld1 (HS.mono hq) hxk rfl)) ?_)
            all_goals (refine at0 8 rfl (fun w' hq => pv_lens (tStr rfl) rfl) ?_)
            all_goals (refine at0 9 rfl (fun w' hq => pv_move rfl) ?_)
            all_goals (refine at0 10 rfl (fun w' hq => pv_nilp rfl) ?_)
            all_goals (refine at0 11 rfl (fun w' hq => pv_fa (tF rfl) rfl) ?_)
            all_goals (refine at0 12 rfl (fun w' hq => pv_load (t1 rfl) rfl (by first | exact PT.ld0 (H.mono hq) rfl | exact PT.ld (H.mono hq) rfl | exact SlR.ld (HS.mono hq) hxk rfl | exact SlR.ld1 (HS.mono hq) hxk rfl)) ?_)
            all_goals (refine at0 13 rfl (fun w' hq => pv_move rfl) ?_)
            all_goals (refine at0 14 rfl (fun w' hq => pv_ian (tS rfl) rfl rfl (by omega)) ?_)
            all_goals (refine at0 15 rfl (fun w' hq => pv_fa (tF rfl) rfl) ?_)
            all_goals (refine at0 16 rfl (fun w' hq => pv_load (t1 rfl) rfl (by first | exact PT.ld0 (H.mono hq) rfl | exact PT.ld (H.mono hq) rfl | exact SlR.ld (HS.mono hq) hxk rfl | exact SlR.ld1 (HS.mono hq) hxk rfl)) ?_)
            all_goals (refine at0 17 rfl (fun w' hq => pv_lens (tStr rfl) rfl) ?_)
            all_goals (refine at0 18 rfl (fun w' hq => pv_add rfl rfl (by omega)) ?_)
            all_goals (refine at0 19 rfl (fun w' hq => pv_move rfl) ?_)
            all_goals (refine at0 20 rfl (fun w' hq => pv_lens (tStr rfl) rfl) ?_)
            all_goals (refine at0 21 rfl (fun w' hq => pv_add rfl rfl (by omega)) ?_)
            all_goals (refine at0 22 rfl (fun w' hq => pv_gtr rfl rfl) ?_)
            all_goals (refine at0 23 rfl (fun w' hq => pv_move rfl) ?_)
            all_goals (refine at2 24 rfl rfl rfl (fun w' hq => pv_move rfl) ?_)
            all_goals (refine at2 26 rfl rfl rfl (fun w' hq => pv_move rfl) ?_)
            all_goals (refine at2 27 rfl rfl rfl (fun w' hq => pv_lens (tStr rfl) rfl) ?_)
            all_goals (refine at2 29 rfl rfl rfl (fun w' hq => pv_move rfl) ?_)
            all_goals (refine at2 30 rfl rfl rfl (fun w' hq => pv_nilp rfl) ?_)
            all_goals (refine at2 31 rfl rfl rfl (fun w' hq => pv_fa (tF rfl) rfl) ?_)
            all_goals (refine at2 32 rfl rfl rfl (fun w' hq => pv_load (t1 rfl) rfl (by first | exact PT.ld0 (H.mono hq) rfl | exact PT.ld (H.mono hq) rfl | exact SlR.ld (HS.mono hq) hxk rfl | exact SlR.ld1 (HS.mono hq) hxk rfl)) ?_)
            all_goals first | (refine an3 25 rfl rfl rfl ?_) | (refine an0 25 rfl rfl rfl ?_) | (refine aw_act_g 25 (by kernel_rfl) rfl rfl rfl (by first | rfl | assumption | exact decide_eq_true (by omega) | exact decide_eq_false (by omega) | exact dec_notT (by omega) | exact dec_notF (by omega)) rfl ?_; refine act_call (f := 39) (by kernel_rfl) rfl (rused_c (h.mono hS)) ?_; rintro e1 w1 ⟨rfl, hb⟩; refine ⟨_, rfl, grow_trans hS hb, fun hS => ?_⟩)
            all_goals (refine at2 28 rfl rfl rfl (fun w' hq => pv_add rfl rfl (by omega)) ?_)
            all_goals (refine at2 33 rfl rfl rfl (fun w' hq => pv_gtr rfl rfl) ?_)
            all_goals (refine at0 34 rfl (fun w' hq => pv_pick_f rfl (by first | assumption | exact decide_eq_false (by omega) | exact dec_notF (by omega)) rfl) ?_)
            all_goals (refine aw_done (by kernel_rfl) ?_; replace hw := hS; clear hS hNP)
            repeat' (first | (refine lw_pure rfl (pv_move rfl) ?_) | (refine is_cw ?_; first | (refine cw_seq ?_) | (refine cw_region ?_) | (refine cw_false rfl (by first | assumption | exact decide_eq_false (by omega) | exact dec_notF (by omega)) ?_) | (refine cw_skip ?_)) | (refine is_qw ?_; first | (with_reducible refine qw_then ?_)))
            refine lw_call (f := 61) (by kernel_rfl) rfl rfl (rgoes1_c (h.mono hw) h0) ?_; rintro e5 w5 ⟨rfl, hT, hg5⟩; refine ⟨_, rfl, ?_⟩; have hw4 := hw; clear hw; have hw := Below.refl w5.heap.size w5; have hbs5 : base ≤ w5.heap.size := Nat.le_trans (Nat.le_trans hbs hw4.size) hg5.size
            have hTo : Own encF 3 54 base w5 _ d.fs := hT.own
            obtain ⟨a5, c5, e5, HS5, -⟩ := Own.slR encF_len hTo
            injection e5 with e5 _ e6
            subst e5 e6
            have H5 := hT.obj
            have hmx5 := HS5.max
            have hle5 := HS5.le
            repeat' (first | (refine lw_pure rfl (pv_assign rfl) ?_) | (refine is_cw ?_; first | (refine cw_seq ?_)) | (refine is_qw ?_; first | (with_reducible refine qw_then ?_)) | (refine lw_nil ?_))
            refine cw_drawnF 21 (fun w' => Below w5.heap.size w5 w' ∧ True) (by kernel_rfl) (by repeat (first | exact NoPanic.body | with_reducible refine NoPanic.then ?_ | with_reducible refine NoPanic.inBlock ?_)) (fun hNP => ?_)
            have hU := And.intro hw.drew trivial
            first | (refine fw_takeT 0 9 rfl (by kernel_rfl) (by kernel_rfl) rfl rfl (by kernel_rfl) (by kernel_rfl) (by kernel_rfl) hNP hU rfl (fun w' hq => pv_move rfl) ?_)
            first | (refine fw_takeT 1 9 rfl (by kernel_rfl) (by kernel_rfl) rfl rfl (by kernel_rfl) (by kernel_rfl) (by kernel_rfl) hNP hU rfl (fun w' hq => pv_move rfl) ?_)
            first | (refine fw_takeT 2 9 rfl (by kernel_rfl) (by kernel_rfl) rfl rfl (by kernel_rfl) (by kernel_rfl) (by kernel_rfl) hNP hU rfl (fun w' hq => pv_move rfl) ?_)
            first | (refine fw_takeT 3 9 rfl (by kernel_rfl) (by kernel_rfl) rfl rfl (by kernel_rfl) (by kernel_rfl) (by kernel_rfl) hNP hU rfl (fun w' hq => pv_nilp rfl) ?_)
            first | (refine fw_takeT 4 9 rfl (by kernel_rfl) (by kernel_rfl) rfl rfl (by kernel_rfl) (by kernel_rfl) (by kernel_rfl) hNP hU rfl (fun w' hq => pv_fa (tF rfl) rfl) ?_)
            first | (refine fw_takeT 5 9 rfl (by kernel_rfl) (by kernel_rfl) rfl rfl (by kernel_rfl) (by kernel_rfl) (by kernel_rfl) hNP hU rfl (fun w' hq => pv_load (t1 rfl) rfl (by first | exact PT.ld0 (H5.mono hq.1) rfl | exact PT.ld (H5.mono hq.1) rfl | exact SlR.ld (HS5.mono hq.1) hxk rfl | exact SlR.ld1 (HS5.mono hq.1) hxk rfl)) ?_)
            first | (refine fw_takeT 6 9 rfl (by kernel_rfl) (by kernel_rfl) rfl rfl (by kernel_rfl) (by kernel_rfl) (by kernel_rfl) hNP hU rfl (fun w' hq => pv_move rfl) ?_)
            first | (refine fw_takeT 7 9 rfl (by kernel_rfl) (by kernel_rfl) rfl rfl (by kernel_rfl) (by kernel_rfl) (by kernel_rfl) hNP hU rfl (fun w' hq => pv_ian (tS rfl) rfl rfl (by omega)) ?_)
            first | (refine fw_takeT 8 9 rfl (by kernel_rfl) (by kernel_rfl) rfl rfl (by kernel_rfl) (by kernel_rfl) (by kernel_rfl) hNP hU rfl (fun w' hq => pv_fa (tF rfl) rfl) ?_)
            first | (refine fw_takeT 9 9 rfl (by kernel_rfl) (by kernel_rfl) rfl rfl (by kernel_rfl) (by kernel_rfl) (by kernel_rfl) hNP hU rfl (fun w' hq => pv_load (t1 rfl) rfl (by first | exact PT.ld0 (H5.mono hq.1) rfl | exact PT.ld (H5.mono hq.1) rfl | exact SlR.ld (HS5.mono hq.1) hxk rfl | exact SlR.ld1 (HS5.mono hq.1) hxk rfl)) ?_)
            first | (refine fw_takeT 10 9 rfl (by kernel_rfl) (by kernel_rfl) rfl rfl (by kernel_rfl) (by kernel_rfl) (by kernel_rfl) hNP hU rfl (fun w' hq => pv_move rfl) ?_)
            first | (refine fw_takeT 11 9 rfl (by kernel_rfl) (by kernel_rfl) rfl rfl (by kernel_rfl) (by kernel_rfl) (by kernel_rfl) hNP hU rfl (fun w' hq => pv_nilp rfl) ?_)
            first | (refine fw_takeT 12 9 rfl (by kernel_rfl) (by kernel_rfl) rfl rfl (by kernel_rfl) (by kernel_rfl) (by kernel_rfl) hNP hU rfl (fun w' hq => pv_fa (tF rfl) rfl) ?_)
            first | (refine fw_takeT 13 9 rfl (by kernel_rfl) (by kernel_rfl) rfl rfl (by kernel_rfl) (by kernel_rfl) (by kernel_rfl) hNP hU rfl (fun w' hq => pv_load (t1 rfl) rfl (by first | exact PT.ld0 (H5.mono hq.1) rfl | exact PT.ld (H5.mono hq.1) rfl | exact SlR.ld (HS5.mono hq.1) hxk rfl | exact SlR.ld1 (HS5.mono hq.1) hxk rfl)) ?_)
            first | (refine fw_takeT 14 9 rfl (by kernel_rfl) (by kernel_rfl) rfl rfl (by kernel_rfl) (by kernel_rfl) (by kernel_rfl) hNP hU rfl (fun w' hq => pv_move rfl) ?_)
            first | (refine fw_takeT 15 9 rfl (by kernel_rfl) (by kernel_rfl) rfl rfl (by kernel_rfl) (by kernel_rfl) (by kernel_rfl) hNP hU rfl (fun w' hq => pv_ian (tS rfl) rfl rfl (by omega)) ?_)
            first | (refine fw_takeT 16 9 rfl (by kernel_rfl) (by kernel_rfl) rfl rfl (by kernel_rfl) (by kernel_rfl) (by kernel_rfl) hNP hU rfl (fun w' hq => pv_fa (tF rfl) rfl) ?_)
            first | (refine fw_takeT 17 9 rfl (by kernel_rfl) (by kernel_rfl) rfl rfl (by kernel_rfl) (by kernel_rfl) (by kernel_rfl) hNP hU rfl (fun w' hq => pv_load (t1 rfl) rfl (by first | exact PT.ld0 (H5.mono hq.1) rfl | exact PT.ld (H5.mono hq.1) rfl | exact SlR.ld (HS5.mono hq.1) hxk rfl | exact SlR.ld1 (HS5.mono hq.1) hxk rfl)) ?_)
            first | (refine fw_takeT 18 9 rfl (by kernel_rfl) (by kernel_rfl) rfl rfl (by kernel_rfl) (by kernel_rfl) (by kernel_rfl) hNP hU rfl (fun w' hq => pv_move rfl) ?_)
            first | (refine fw_takeT 19 9 rfl (by kernel_rfl) (by kernel_rfl) rfl rfl (by kernel_rfl) (by kernel_rfl) (by kernel_rfl) hNP hU rfl (fun w' hq => pv_cat rfl rfl hc) ?_)
            first | (refine fw_takeT 20 9 rfl (by kernel_rfl) (by kernel_rfl) rfl rfl (by kernel_rfl) (by kernel_rfl) (by kernel_rfl) hNP hU rfl (fun w' hq => tyB_54 rfl rfl rfl) ?_)
            obtain ⟨hw, -⟩ := hU; clear hNP
            refine fw_one 21 (by kernel_rfl) rfl rfl rfl (by kernel_rfl) ?_
            refine act_call (f := 62) (by kernel_rfl) rfl (rput_c ⟨(hT.mono hw).obj, (hT.mono hw).own⟩ hT.ok.srt hT.ok.cnt (Nat.le_trans hbs5 hw.size) ⟨n, f.firm, f.pend ++ b⟩) ?_; rintro e6 w6 ⟨rfl, ⟨v6, hP, hnv⟩, hg6⟩; refine ⟨_, rfl, ?_⟩; replace hnv := (NewV.refl w5 _).trans hnv hw.size; replace hg6 := grown_in hw hg6; clear hw; have hw := Below.refl w6.heap.size w6
            refine fw_done (by kernel_rfl) ?_
            repeat' (first | (refine lw_pure rfl (pv_move rfl) ?_) | (refine lw_pure rfl (pv_assign rfl) ?_) | (refine is_cw ?_; first | (refine cw_seq ?_) | (refine cw_region ?_) | (refine cw_false rfl rfl ?_) | (refine cw_skip ?_) | (refine cw_ret ?_)) | (refine is_qw ?_; first | (with_reducible refine qw_then ?_)) | (refine lw_nil ?_) | ((refine is_un ?_; first | (refine lw_pure rfl (pv_not rfl) ?_))))
            exact qw_ret1 rfl rfl ⟨rfl, rk_fin hw4 hg5 hP hok hnv hg6⟩
set_option maxRecDepth 20000 in
set_option maxHeartbeats 1000000 in
theorem rtrim_c {w : World} {base N : Nat} {v : Value} {d : Dsk} (h : RkW w base N v d) (hbs : base ≤ w.heap.size) {n : ByteArray} (k : Int) : Calls Tryz.prog 31 #[.pointer (some ⟨N, 0, none⟩), .string n, .int .i64 k] w fun e w' => e = .returned (.int .i64 (trimD d n k).1) ∧ RkQ w w' base N v (trimD d n k).2 := by
  have hok := h.ok.trim n k
  have hw := Below.refl w.heap.size w
  refine fn_enter 54 Tryz.func31 rfl rfl rfl ?_
  cases hk : d.dark with
  | true =>
    rw [show trimD d n k = (45, d) from by unfold trimD; rw [if_pos hk]]
    repeat' (first | (refine lw_pure rfl (pv_move rfl) ?_) | (refine lw_pure rfl (pv_assign rfl) ?_) | (refine is_cw ?_; first | (refine cw_seq ?_) | (refine cw_region ?_)) | (refine is_qw ?_; first | (with_reducible refine qw_then ?_)) | (refine lw_nil ?_))
    refine lw_call (f := 63) (by kernel_rfl) rfl rfl (rfind45_c (h.mono hw) hk n) ?_; rintro e w1 ⟨rfl, hb⟩; refine ⟨_, rfl, ?_⟩; replace hw := grow_trans hw hb; clear hb
    repeat' (first | (refine lw_pure rfl (pv_move rfl) ?_) | (refine lw_pure rfl (pv_assign rfl) ?_) | (refine is_cw ?_; first | (refine cw_seq ?_) | (refine cw_region ?_) | (refine cw_true rfl rfl ?_) | (refine cw_ret ?_)) | (refine is_qw ?_; first | (with_reducible refine qw_then ?_) | (with_reducible refine qw_then_ret ?_)) | (refine lw_nil ?_) | ((refine is_bin ?_; first | (refine lw_pure rfl (pv_neq rfl rfl) ?_))) | (refine lw_pure rfl (pv_extract rfl rfl) ?_))
    exact qw_ret1 rfl rfl ⟨rfl, RkQ.same h hw⟩
  | false =>
    cases hg : getF d.fs n with
    | none =>
      rw [show trimD d n k = (5, d) from by unfold trimD; rw [hk, if_neg (by simp), hg]]
      repeat' (first | (refine lw_pure rfl (pv_move rfl) ?_) | (refine lw_pure rfl (pv_assign rfl) ?_) | (refine is_cw ?_; first | (refine cw_seq ?_) | (refine cw_region ?_)) | (refine is_qw ?_; first | (with_reducible refine qw_then ?_)) | (refine lw_nil ?_))
      refine lw_call (f := 63) (by kernel_rfl) rfl rfl (rfind5_c (h.mono hw) hk hg) ?_; rintro e w1 ⟨rfl, hb⟩; refine ⟨_, rfl, ?_⟩; replace hw := grow_trans hw hb; clear hb
      repeat' (first | (refine lw_pure rfl (pv_move rfl) ?_) | (refine lw_pure rfl (pv_assign rfl) ?_) | (refine is_cw ?_; first | (refine cw_seq ?_) | (refine cw_region ?_) | (refine cw_true rfl rfl ?_) | (refine cw_ret ?_)) | (refine is_qw ?_; first | (with_reducible refine qw_then ?_) | (with_reducible refine qw_then_ret ?_)) | (refine lw_nil ?_) | ((refine is_bin ?_; first | (refine lw_pure rfl (pv_neq rfl rfl) ?_))) | (refine lw_pure rfl (pv_extract rfl rfl) ?_))
      exact qw_ret1 rfl rfl ⟨rfl, RkQ.same h hw⟩
    | some f =>
      have hsz := getF_sz h.ok hg
      have hsa := size_append f.firm f.pend
      have hzf : szF f = f.firm.size + f.pend.size := rfl
      have hc : f.firm.size + f.pend.size ≤ 9223372036854775807 := by omega
      have hxk := at_pos h.ok.srt hg
      have hpl : posF d.fs n < d.fs.length := (List.getElem?_eq_some_iff.1 hxk).1
      obtain ⟨a0, c0, e0, HS, -⟩ := Own.slR encF_len h.own
      subst e0
      obtain ⟨ab, ao, rfl, -, -⟩ := HS.at (by intro h; rw [h] at hpl; simp at hpl)
      have H := h.obj
      have hmx := HS.max
      have hle := HS.le
      by_cases h1 : k < 0
      · rw [show trimD d n k = (1, d) from by unfold trimD; rw [hk, if_neg (by simp), hg]; dsimp only; rw [if_pos (Or.inl h1)]]
        repeat' (first | (refine lw_pure rfl (pv_move rfl) ?_) | (refine lw_pure rfl (pv_assign rfl) ?_) | (refine is_cw ?_; first | (refine cw_seq ?_) | (refine cw_region ?_)) | (refine is_qw ?_; first | (with_reducible refine qw_then ?_)) | (refine lw_nil ?_))
        refine lw_call (f := 63) (by kernel_rfl) rfl rfl (rfind0_c (h.mono hw) hk hg) ?_; rintro e w1 ⟨rfl, hb⟩; refine ⟨_, rfl, ?_⟩; replace hw := grow_trans hw hb; clear hb
        repeat' (first | (refine lw_pure rfl (pv_move rfl) ?_) | (refine lw_pure rfl (pv_assign rfl) ?_) | (refine is_cw ?_; first | (refine cw_seq ?_) | (refine cw_region ?_) | (refine cw_false rfl rfl ?_) | (refine cw_skip ?_)) | (refine is_qw ?_; first | (with_reducible refine qw_then ?_)) | (refine lw_nil ?_) | ((refine is_bin ?_; first | (refine lw_pure rfl (pv_neq rfl rfl) ?_))) | (refine lw_pure rfl (pv_extract rfl rfl) ?_))
        refine cw_drawn (fun w' => Below w.heap.size w w') (by kernel_rfl) (by repeat (first | exact NoPanic.body | with_reducible refine NoPanic.then ?_ | with_reducible refine NoPanic.inBlock ?_)) (fun hNP => ?_)
        have hS := hw.drew
        (refine at0 0 rfl (fun w' hq => pv_move rfl) ?_)
        (refine at0 1 rfl (fun w' hq => pv_nilp rfl) ?_)
        (refine at0 2 rfl (fun w' hq => pv_fa (tF rfl) rfl) ?_)
        (refine at0 3 rfl (fun w' hq => pv_load (t1 rfl) rfl (by first | exact PT.ld0 (H.mono hq) rfl | exact PT.ld (H.mono hq) rfl | exact SlR.ld (HS.mono hq) hxk rfl | exact SlR.ld1 (HS.mono hq) hxk rfl)) ?_)
        (refine at0 4 rfl (fun w' hq => pv_move rfl) ?_)
        (refine at0 5 rfl (fun w' hq => pv_ian (tS rfl) rfl rfl (by omega)) ?_)
        (refine at0 6 rfl (fun w' hq => pv_fa (tF rfl) rfl) ?_)
        (refine at0 7 rfl (fun w' hq => pv_load (t1 rfl) rfl (by first | exact PT.ld0 (H.mono hq) rfl | exact PT.ld (H.mono hq) rfl | exact SlR.ld (HS.mono hq) hxk rfl | exact SlR.ld1 (HS.mono hq) hxk rfl)) ?_)
        (refine at0 8 rfl (fun w' hq => pv_move rfl) ?_)
        (refine at0 9 rfl (fun w' hq => pv_nilp rfl) ?_)
        (refine at0 10 rfl (fun w' hq => pv_fa (tF rfl) rfl) ?_)
        (refine at0 11 rfl (fun w' hq => pv_load (t1 rfl) rfl (by first | exact PT.ld0 (H.mono hq) rfl | exact PT.ld (H.mono hq) rfl | exact SlR.ld (HS.mono hq) hxk rfl | exact SlR.ld1 (HS.mono hq) hxk rfl)) ?_)
        (refine at0 12 rfl (fun w' hq => pv_move rfl) ?_)
        (refine at0 13 rfl (fun w' hq => pv_ian (tS rfl) rfl rfl (by omega)) ?_)
        (refine at0 14 rfl (fun w' hq => pv_fa (tF rfl) rfl) ?_)
        (refine at0 15 rfl (fun w' hq => pv_load (t1 rfl) rfl (by first | exact PT.ld0 (H.mono hq) rfl | exact PT.ld (H.mono hq) rfl | exact SlR.ld (HS.mono hq) hxk rfl | exact SlR.ld1 (HS.mono hq) hxk rfl)) ?_)
        (refine at0 16 rfl (fun w' hq => pv_cat rfl rfl hc) ?_)
        (refine at0 17 rfl (fun w' hq => pv_assign rfl) ?_)
        refine aw_done (by kernel_rfl) ?_
        replace hw := hS; clear hS hNP
        repeat' (first | (refine lw_pure rfl (pv_move rfl) ?_) | (refine lw_pure rfl (pv_assign rfl) ?_) | (refine is_cw ?_; first | (refine cw_seq ?_) | (refine cw_region ?_) | (refine cw_true rfl rfl ?_) | (refine cw_ret ?_)) | (refine is_qw ?_; first | (with_reducible refine qw_then ?_) | (with_reducible refine qw_then_ret ?_)) | (refine lw_nil ?_) | (refine is_guarded ?_; first | (refine lw_not rfl rfl rfl (by first | assumption | exact decide_eq_true (by omega) | exact decide_eq_false (by omega) | exact dec_notT (by omega) | exact dec_notF (by omega)) ?_)) | ((refine is_bin ?_; first | (refine lw_pure rfl (pv_lss rfl rfl) ?_))) | (refine lw_pure rfl (pv_pick_t rfl (by first | assumption | exact decide_eq_true (by omega) | exact dec_notT (by omega)) rfl) ?_))
        exact qw_ret1 rfl rfl ⟨rfl, RkQ.same h hw⟩
      · by_cases h2 : (szF f : Int) < k
        · rw [show trimD d n k = (1, d) from by unfold trimD; rw [hk, if_neg (by simp), hg]; dsimp only; rw [if_pos (Or.inr h2)]]
          repeat' (first | (refine lw_pure rfl (pv_move rfl) ?_) | (refine lw_pure rfl (pv_assign rfl) ?_) | (refine is_cw ?_; first | (refine cw_seq ?_) | (refine cw_region ?_)) | (refine is_qw ?_; first | (with_reducible refine qw_then ?_)) | (refine lw_nil ?_))
          refine lw_call (f := 63) (by kernel_rfl) rfl rfl (rfind0_c (h.mono hw) hk hg) ?_; rintro e w1 ⟨rfl, hb⟩; refine ⟨_, rfl, ?_⟩; replace hw := grow_trans hw hb; clear hb
          repeat' (first | (refine lw_pure rfl (pv_move rfl) ?_) | (refine lw_pure rfl (pv_assign rfl) ?_) | (refine is_cw ?_; first | (refine cw_seq ?_) | (refine cw_region ?_) | (refine cw_false rfl rfl ?_) | (refine cw_skip ?_)) | (refine is_qw ?_; first | (with_reducible refine qw_then ?_)) | (refine lw_nil ?_) | ((refine is_bin ?_; first | (refine lw_pure rfl (pv_neq rfl rfl) ?_))) | (refine lw_pure rfl (pv_extract rfl rfl) ?_))
          refine cw_drawn (fun w' => Below w.heap.size w w') (by kernel_rfl) (by repeat (first | exact NoPanic.body | with_reducible refine NoPanic.then ?_ | with_reducible refine NoPanic.inBlock ?_)) (fun hNP => ?_)
          have hS := hw.drew
          (refine at0 0 rfl (fun w' hq => pv_move rfl) ?_)
          (refine at0 1 rfl (fun w' hq => pv_nilp rfl) ?_)
          (refine at0 2 rfl (fun w' hq => pv_fa (tF rfl) rfl) ?_)
          (refine at0 3 rfl (fun w' hq => pv_load (t1 rfl) rfl (by first | exact PT.ld0 (H.mono hq) rfl | exact PT.ld (H.mono hq) rfl | exact SlR.ld (HS.mono hq) hxk rfl | exact SlR.ld1 (HS.mono hq) hxk rfl)) ?_)
          (refine at0 4 rfl (fun w' hq => pv_move rfl) ?_)
          (refine at0 5 rfl (fun w' hq => pv_ian (tS rfl) rfl rfl (by omega)) ?_)
          (refine at0 6 rfl (fun w' hq => pv_fa (tF rfl) rfl) ?_)
          (refine at0 7 rfl (fun w' hq => pv_load (t1 rfl) rfl (by first | exact PT.ld0 (H.mono hq) rfl | exact PT.ld (H.mono hq) rfl | exact SlR.ld (HS.mono hq) hxk rfl | exact SlR.ld1 (HS.mono hq) hxk rfl)) ?_)
          (refine at0 8 rfl (fun w' hq => pv_move rfl) ?_)
          (refine at0 9 rfl (fun w' hq => pv_nilp rfl) ?_)
          (refine at0 10 rfl (fun w' hq => pv_fa (tF rfl) rfl) ?_)
          (refine at0 11 rfl (fun w' hq => pv_load (t1 rfl) rfl (by first | exact PT.ld0 (H.mono hq) rfl | exact PT.ld (H.mono hq) rfl | exact SlR.ld (HS.mono hq) hxk rfl | exact SlR.ld1 (HS.mono hq) hxk rfl)) ?_)
          (refine at0 12 rfl (fun w' hq => pv_move rfl) ?_)
          (refine at0 13 rfl (fun w' hq => pv_ian (tS rfl) rfl rfl (by omega)) ?_)
          (refine at0 14 rfl (fun w' hq => pv_fa (tF rfl) rfl) ?_)
          (refine at0 15 rfl (fun w' hq => pv_load (t1 rfl) rfl (by first | exact PT.ld0 (H.mono hq) rfl | exact PT.ld (H.mono hq) rfl | exact SlR.ld (HS.mono hq) hxk rfl | exact SlR.ld1 (HS.mono hq) hxk rfl)) ?_)
          (refine at0 16 rfl (fun w' hq => pv_cat rfl rfl hc) ?_)
          (refine at0 17 rfl (fun w' hq => pv_assign rfl) ?_)
          refine aw_done (by kernel_rfl) ?_
          replace hw := hS; clear hS hNP
          repeat' (first | (refine lw_pure rfl (pv_move rfl) ?_) | (refine lw_pure rfl (pv_assign rfl) ?_) | (refine is_cw ?_; first | (refine cw_seq ?_) | (refine cw_region ?_) | (refine cw_true rfl (by first | assumption | exact decide_eq_true (by omega) | exact dec_notT (by omega)) ?_) | (refine cw_ret ?_)) | (refine is_qw ?_; first | (with_reducible refine qw_then ?_) | (with_reducible refine qw_then_ret ?_)) | (refine lw_nil ?_) | (refine is_guarded ?_; first | (refine lw_on rfl rfl (by first | assumption | exact decide_eq_true (by omega) | exact decide_eq_false (by omega) | exact dec_notT (by omega) | exact dec_notF (by omega)) ?_)) | ((refine is_bin ?_; first | (refine lw_pure rfl (pv_lss rfl rfl) ?_) | (refine lw_pure rfl (pv_gtr rfl rfl) ?_))) | ((refine is_bi ?_; first | (refine lw_pure rfl (pv_lens (tStr rfl) rfl) ?_))) | (refine lw_pure rfl (pv_pick_f rfl (by first | assumption | exact decide_eq_false (by omega) | exact dec_notF (by omega)) rfl) ?_))
          exact qw_ret1 rfl rfl ⟨rfl, RkQ.same h hw⟩
        · have hkk : 0 ≤ k ∧ k ≤ (f.firm ++ f.pend).size := by omega
          have e1 : trimD d n k = doD d (putF d.fs ⟨n, (f.firm ++ f.pend).extract 0 k.toNat, emptyB⟩) := by unfold trimD; rw [hk, if_neg (by simp), hg]; dsimp only; rw [if_neg (by omega)]
          rw [e1] at hok ⊢
          by_cases h0 : d.left = 0
          · rw [doD0 h0]
            repeat' (first | (refine lw_pure rfl (pv_move rfl) ?_) | (refine lw_pure rfl (pv_assign rfl) ?_) | (refine is_cw ?_; first | (refine cw_seq ?_) | (refine cw_region ?_)) | (refine is_qw ?_; first | (with_reducible refine qw_then ?_)) | (refine lw_nil ?_))
            refine lw_call (f := 63) (by kernel_rfl) rfl rfl (rfind0_c (h.mono hw) hk hg) ?_; rintro e w1 ⟨rfl, hb⟩; refine ⟨_, rfl, ?_⟩; replace hw := grow_trans hw hb; clear hb
            repeat' (first | (refine lw_pure rfl (pv_move rfl) ?_) | (refine lw_pure rfl (pv_assign rfl) ?_) | (refine is_cw ?_; first | (refine cw_seq ?_) | (refine cw_region ?_) | (refine cw_false rfl rfl ?_) | (refine cw_skip ?_)) | (refine is_qw ?_; first | (with_reducible refine qw_then ?_)) | (refine lw_nil ?_) | ((refine is_bin ?_; first | (refine lw_pure rfl (pv_neq rfl rfl) ?_))) | (refine lw_pure rfl (pv_extract rfl rfl) ?_))
            refine cw_drawn (fun w' => Below w.heap.size w w') (by kernel_rfl) (by repeat (first | exact NoPanic.body | with_reducible refine NoPanic.then ?_ | with_reducible refine NoPanic.inBlock ?_)) (fun hNP => ?_)
            have hS := hw.drew
            (refine at0 0 rfl (fun w' hq => pv_move rfl) ?_)
            (refine at0 1 rfl (fun w' hq => pv_nilp rfl) ?_)
            (refine at0 2 rfl (fun w' hq => pv_fa (tF rfl) rfl) ?_)
            (refine at0 3 rfl (fun w' hq => pv_load (t1 rfl) rfl (by first | exact PT.ld0 (H.mono hq) rfl | exact PT.ld (H.mono hq) rfl | exact SlR.ld (HS.mono hq) hxk rfl | exact SlR.ld1 (HS.mono hq) hxk rfl)) ?_)
            (refine at0 4 rfl (fun w' hq => pv_move rfl) ?_)
            (refine at0 5 rfl (fun w' hq => pv_ian (tS rfl) rfl rfl (by omega)) ?_)
            (refine at0 6 rfl (fun w' hq => pv_fa (tF rfl) rfl) ?_)
            (refine at0 7 rfl (fun w' hq => pv_load (t1 rfl) rfl (by first | exact PT.ld0 (H.mono hq) rfl | exact PT.ld (H.mono hq) rfl | exact SlR.ld (HS.mono hq) hxk rfl | exact SlR.ld1 (HS.mono hq) hxk rfl)) ?_)
            (refine at0 8 rfl (fun w' hq => pv_move rfl) ?_)
            (refine at0 9 rfl (fun w' hq => pv_nilp rfl) ?_)
            (refine at0 10 rfl (fun w' hq => pv_fa (tF rfl) rfl) ?_)
            (refine at0 11 rfl (fun w' hq => pv_load (t1 rfl) rfl (by first | exact PT.ld0 (H.mono hq) rfl | exact PT.ld (H.mono hq) rfl | exact SlR.ld (HS.mono hq) hxk rfl | exact SlR.ld1 (HS.mono hq) hxk rfl)) ?_)
            (refine at0 12 rfl (fun w' hq => pv_move rfl) ?_)
            (refine at0 13 rfl (fun w' hq => pv_ian (tS rfl) rfl rfl (by omega)) ?_)
            (refine at0 14 rfl (fun w' hq => pv_fa (tF rfl) rfl) ?_)
            (refine at0 15 rfl (fun w' hq => pv_load (t1 rfl) rfl (by first | exact PT.ld0 (H.mono hq) rfl | exact PT.ld (H.mono hq) rfl | exact SlR.ld (HS.mono hq) hxk rfl | exact SlR.ld1 (HS.mono hq) hxk rfl)) ?_)
            (refine at0 16 rfl (fun w' hq => pv_cat rfl rfl hc) ?_)
            (refine at0 17 rfl (fun w' hq => pv_assign rfl) ?_)
            refine aw_done (by kernel_rfl) ?_
            replace hw := hS; clear hS hNP
            repeat' (first | (refine lw_pure rfl (pv_move rfl) ?_) | (refine is_cw ?_; first | (refine cw_seq ?_) | (refine cw_region ?_) | (refine cw_false rfl (by first | assumption | exact decide_eq_false (by omega) | exact dec_notF (by omega)) ?_) | (refine cw_skip ?_)) | (refine is_qw ?_; first | (with_reducible refine qw_then ?_)) | (refine lw_nil ?_) | (refine is_guarded ?_; first | (refine lw_on rfl rfl (by first | assumption | exact decide_eq_true (by omega) | exact decide_eq_false (by omega) | exact dec_notT (by omega) | exact dec_notF (by omega)) ?_)) | ((refine is_bin ?_; first | (refine lw_pure rfl (pv_lss rfl rfl) ?_) | (refine lw_pure rfl (pv_gtr rfl rfl) ?_))) | ((refine is_bi ?_; first | (refine lw_pure rfl (pv_lens (tStr rfl) rfl) ?_))) | (refine lw_pure rfl (pv_pick_f rfl (by first | assumption | exact decide_eq_false (by omega) | exact dec_notF (by omega)) rfl) ?_))
            refine lw_call (f := 61) (by kernel_rfl) rfl rfl (rgoes0_c (h.mono hw) h0) ?_; rintro e5 w5 ⟨rfl, hT, hg5⟩; refine ⟨_, rfl, ?_⟩; have hw4 := hw; clear hw; have hw := Below.refl w5.heap.size w5; have hbs5 : base ≤ w5.heap.size := Nat.le_trans (Nat.le_trans hbs hw4.size) hg5.size
            repeat' (first | (refine lw_pure rfl (pv_assign rfl) ?_) | (refine is_cw ?_; first | (refine cw_seq ?_) | (refine cw_region ?_) | (refine cw_true rfl rfl ?_) | (refine cw_ret ?_)) | (refine is_qw ?_; first | (with_reducible refine qw_then ?_) | (with_reducible refine qw_then_ret ?_)) | (refine lw_nil ?_) | ((refine is_un ?_; first | (refine lw_pure rfl (pv_not rfl) ?_))))
            exact qw_ret1 rfl rfl ⟨rfl, rk_dark hw4 hT hg5⟩
          · rw [doD1 h0] at hok ⊢
            repeat' (first | (refine lw_pure rfl (pv_move rfl) ?_) | (refine lw_pure rfl (pv_assign rfl) ?_) | (refine is_cw ?_; first | (refine cw_seq ?_) | (refine cw_region ?_)) | (refine is_qw ?_; first | (with_reducible refine qw_then ?_)) | (refine lw_nil ?_))
            refine lw_call (f := 63) (by kernel_rfl) rfl rfl (rfind0_c (h.mono hw) hk hg) ?_; rintro e w1 ⟨rfl, hb⟩; refine ⟨_, rfl, ?_⟩; replace hw := grow_trans hw hb; clear hb
            repeat' (first | (refine lw_pure rfl (pv_move rfl) ?_) | (refine lw_pure rfl (pv_assign rfl) ?_) | (refine is_cw ?_; first | (refine cw_seq ?_) | (refine cw_region ?_) | (refine cw_false rfl rfl ?_) | (refine cw_skip ?_)) | (refine is_qw ?_; first | (with_reducible refine qw_then ?_)) | (refine lw_nil ?_) | ((refine is_bin ?_; first | (refine lw_pure rfl (pv_neq rfl rfl) ?_))) | (refine lw_pure rfl (pv_extract rfl rfl) ?_))
            refine cw_drawn (fun w' => Below w.heap.size w w') (by kernel_rfl) (by repeat (first | exact NoPanic.body | with_reducible refine NoPanic.then ?_ | with_reducible refine NoPanic.inBlock ?_)) (fun hNP => ?_)
            have hS := hw.drew
            (refine at0 0 rfl (fun w' hq => pv_move rfl) ?_)
            (refine at0 1 rfl (fun w' hq => pv_nilp rfl) ?_)
            (refine at0 2 rfl (fun w' hq => pv_fa (tF rfl) rfl) ?_)
            (refine at0 3 rfl (fun w' hq => pv_load (t1 rfl) rfl (by first | exact PT.ld0 (H.mono hq) rfl | exact PT.ld (H.mono hq) rfl | exact SlR.ld (HS.mono hq) hxk rfl | exact SlR.ld1 (HS.mono hq) hxk rfl)) ?_)
            (refine at0 4 rfl (fun w' hq => pv_move rfl) ?_)
            (refine at0 5 rfl (fun w' hq => pv_ian (tS rfl) rfl rfl (by omega)) ?_)
            (refine at0 6 rfl (fun w' hq => pv_fa (tF rfl) rfl) ?_)
            (refine at0 7 rfl (fun w' hq => pv_load (t1 rfl) rfl (by first | exact PT.ld0 (H.mono hq) rfl | exact PT.ld (H.mono hq) rfl | exact SlR.ld (HS.mono hq) hxk rfl | exact SlR.ld1 (HS.mono hq) hxk rfl)) ?_)
            (refine at0 8 rfl (fun w' hq => pv_move rfl) ?_)
            (refine at0 9 rfl (fun w' hq => pv_nilp rfl) ?_)
            (refine at0 10 rfl (fun w' hq => pv_fa (tF rfl) rfl) ?_)
            (refine at0 11 rfl (fun w' hq => pv_load (t1 rfl) rfl (by first | exact PT.ld0 (H.mono hq) rfl | exact PT.ld (H.mono hq) rfl | exact SlR.ld (HS.mono hq) hxk rfl | exact SlR.ld1 (HS.mono hq) hxk rfl)) ?_)
            (refine at0 12 rfl (fun w' hq => pv_move rfl) ?_)
            (refine at0 13 rfl (fun w' hq => pv_ian (tS rfl) rfl rfl (by omega)) ?_)
            (refine at0 14 rfl (fun w' hq => pv_fa (tF rfl) rfl) ?_)
            (refine at0 15 rfl (fun w' hq => pv_load (t1 rfl) rfl (by first | exact PT.ld0 (H.mono hq) rfl | exact PT.ld (H.mono hq) rfl | exact SlR.ld (HS.mono hq) hxk rfl | exact SlR.ld1 (HS.mono hq) hxk rfl)) ?_)
            (refine at0 16 rfl (fun w' hq => pv_cat rfl rfl hc) ?_)
            (refine at0 17 rfl (fun w' hq => pv_assign rfl) ?_)
            refine aw_done (by kernel_rfl) ?_
            replace hw := hS; clear hS hNP
            repeat' (first | (refine lw_pure rfl (pv_move rfl) ?_) | (refine is_cw ?_; first | (refine cw_seq ?_) | (refine cw_region ?_) | (refine cw_false rfl (by first | assumption | exact decide_eq_false (by omega) | exact dec_notF (by omega)) ?_) | (refine cw_skip ?_)) | (refine is_qw ?_; first | (with_reducible refine qw_then ?_)) | (refine lw_nil ?_) | (refine is_guarded ?_; first | (refine lw_on rfl rfl (by first | assumption | exact decide_eq_true (by omega) | exact decide_eq_false (by omega) | exact dec_notT (by omega) | exact dec_notF (by omega)) ?_)) | ((refine is_bin ?_; first | (refine lw_pure rfl (pv_lss rfl rfl) ?_) | (refine lw_pure rfl (pv_gtr rfl rfl) ?_))) | ((refine is_bi ?_; first | (refine lw_pure rfl (pv_lens (tStr rfl) rfl) ?_))) | (refine lw_pure rfl (pv_pick_f rfl (by first | assumption | exact decide_eq_false (by omega) | exact dec_notF (by omega)) rfl) ?_))
            refine lw_call (f := 61) (by kernel_rfl) rfl rfl (rgoes1_c (h.mono hw) h0) ?_; rintro e5 w5 ⟨rfl, hT, hg5⟩; refine ⟨_, rfl, ?_⟩; have hw4 := hw; clear hw; have hw := Below.refl w5.heap.size w5; have hbs5 : base ≤ w5.heap.size := Nat.le_trans (Nat.le_trans hbs hw4.size) hg5.size
            repeat' (first | (refine lw_pure rfl (pv_move rfl) ?_) | (refine is_cw ?_; first | (refine cw_seq ?_) | (refine cw_region ?_) | (refine cw_false rfl rfl ?_) | (refine cw_skip ?_)) | (refine is_qw ?_; first | (with_reducible refine qw_then ?_)) | (refine lw_nil ?_) | ((refine is_un ?_; first | (refine lw_pure rfl (pv_not rfl) ?_))) | ((refine is_bd ?_; first | (refine lw_pure rfl (tyB_54 rfl rfl rfl) ?_))) | (refine lw_pure rfl (pv_sleft (tStr rfl) rfl rfl hkk) ?_))
            refine lw_call (f := 62) (by kernel_rfl) rfl rfl (rput_c ⟨hT.obj, hT.own⟩ hT.ok.srt hT.ok.cnt hbs5 ⟨n, (f.firm ++ f.pend).extract 0 k.toNat, emptyB⟩) ?_; rintro e6 w6 ⟨rfl, ⟨v6, hP, hnv⟩, hg6⟩; refine ⟨_, rfl, ?_⟩; clear hw; have hw := Below.refl w6.heap.size w6
            repeat' (first | (refine lw_pure rfl (pv_assign rfl) ?_) | (refine is_cw ?_; first | (refine cw_seq ?_) | (refine cw_region ?_) | (refine cw_ret ?_)) | (refine is_qw ?_; first | (with_reducible refine qw_then ?_)) | (refine lw_nil ?_))
            exact qw_ret1 rfl rfl ⟨rfl, rk_fin hw4 hg5 hP hok hnv hg6⟩
set_option maxRecDepth 20000 in
set_option maxHeartbeats 1000000 in
theorem rrename_c {w : World} {base N : Nat} {v : Value} {d : Dsk} (h : RkW w base N v d) (hbs : base ≤ w.heap.size) {n t : ByteArray} (ht : t.size ≤ 9223372036854775807) : Calls Tryz.prog 32 #[.pointer (some ⟨N, 0, none⟩), .string n, .string t] w fun e w' => e = .returned (.int .i64 (renameD d n t).1) ∧ RkQ w w' base N v (renameD d n t).2 := by
  have hok := h.ok.rename n t
  have hw := Below.refl w.heap.size w
  refine fn_enter 43 Tryz.func32 rfl rfl rfl ?_
  cases hk : d.dark with
  | true =>
    rw [show renameD d n t = (45, d) from by unfold renameD; rw [if_pos hk]]
    repeat' (first | (refine lw_pure rfl (pv_move rfl) ?_) | (refine lw_pure rfl (pv_assign rfl) ?_) | (refine is_cw ?_; first | (refine cw_seq ?_) | (refine cw_region ?_)) | (refine is_qw ?_; first | (with_reducible refine qw_then ?_)) | (refine lw_nil ?_))
    refine lw_call (f := 63) (by kernel_rfl) rfl rfl (rfind45_c (h.mono hw) hk n) ?_; rintro e w1 ⟨rfl, hb⟩; refine ⟨_, rfl, ?_⟩; replace hw := grow_trans hw hb; clear hb
    repeat' (first | (refine lw_pure rfl (pv_move rfl) ?_) | (refine lw_pure rfl (pv_assign rfl) ?_) | (refine is_cw ?_; first | (refine cw_seq ?_) | (refine cw_region ?_) | (refine cw_true rfl rfl ?_) | (refine cw_ret ?_)) | (refine is_qw ?_; first | (with_reducible refine qw_then ?_) | (with_reducible refine qw_then_ret ?_)) | (refine lw_nil ?_) | ((refine is_bin ?_; first | (refine lw_pure rfl (pv_neq rfl rfl) ?_))) | (refine lw_pure rfl (pv_extract rfl rfl) ?_))
    exact qw_ret1 rfl rfl ⟨rfl, RkQ.same h hw⟩
  | false =>
    cases hg : getF d.fs n with
    | none =>
      rw [show renameD d n t = (5, d) from by unfold renameD; rw [hk, if_neg (by simp), hg]]
      repeat' (first | (refine lw_pure rfl (pv_move rfl) ?_) | (refine lw_pure rfl (pv_assign rfl) ?_) | (refine is_cw ?_; first | (refine cw_seq ?_) | (refine cw_region ?_)) | (refine is_qw ?_; first | (with_reducible refine qw_then ?_)) | (refine lw_nil ?_))
      refine lw_call (f := 63) (by kernel_rfl) rfl rfl (rfind5_c (h.mono hw) hk hg) ?_; rintro e w1 ⟨rfl, hb⟩; refine ⟨_, rfl, ?_⟩; replace hw := grow_trans hw hb; clear hb
      repeat' (first | (refine lw_pure rfl (pv_move rfl) ?_) | (refine lw_pure rfl (pv_assign rfl) ?_) | (refine is_cw ?_; first | (refine cw_seq ?_) | (refine cw_region ?_) | (refine cw_true rfl rfl ?_) | (refine cw_ret ?_)) | (refine is_qw ?_; first | (with_reducible refine qw_then ?_) | (with_reducible refine qw_then_ret ?_)) | (refine lw_nil ?_) | ((refine is_bin ?_; first | (refine lw_pure rfl (pv_neq rfl rfl) ?_))) | (refine lw_pure rfl (pv_extract rfl rfl) ?_))
      exact qw_ret1 rfl rfl ⟨rfl, RkQ.same h hw⟩
    | some f =>
      have hfn := (getF_some hg).2
      have hgs : (getF d.fs n).isSome = true := by rw [hg]; rfl
      have hxk := at_pos h.ok.srt hg
      have hpl : posF d.fs n < d.fs.length := (List.getElem?_eq_some_iff.1 hxk).1
      cases hq : nameF t with
      | false =>
        rw [show renameD d n t = (4, d) from by unfold renameD; rw [hk, if_neg (by simp), hg]; dsimp only; rw [if_pos hq]]
        repeat' (first | (refine lw_pure rfl (pv_move rfl) ?_) | (refine lw_pure rfl (pv_assign rfl) ?_) | (refine is_cw ?_; first | (refine cw_seq ?_) | (refine cw_region ?_)) | (refine is_qw ?_; first | (with_reducible refine qw_then ?_)) | (refine lw_nil ?_))
        refine lw_call (f := 63) (by kernel_rfl) rfl rfl (rfind0_c (h.mono hw) hk hg) ?_; rintro e w1 ⟨rfl, hb⟩; refine ⟨_, rfl, ?_⟩; replace hw := grow_trans hw hb; clear hb
        repeat' (first | (refine lw_pure rfl (pv_move rfl) ?_) | (refine lw_pure rfl (pv_assign rfl) ?_) | (refine is_cw ?_; first | (refine cw_seq ?_) | (refine cw_region ?_) | (refine cw_false rfl rfl ?_) | (refine cw_skip ?_)) | (refine is_qw ?_; first | (with_reducible refine qw_then ?_)) | (refine lw_nil ?_) | ((refine is_bin ?_; first | (refine lw_pure rfl (pv_neq rfl rfl) ?_))) | (refine lw_pure rfl (pv_extract rfl rfl) ?_))
        refine lw_call (f := 26) (by kernel_rfl) rfl rfl (rname_is ht hq _) ?_; rintro e w1 ⟨rfl, hb⟩; refine ⟨_, rfl, ?_⟩; replace hw := grow_trans hw hb; clear hb
        repeat' (first | (refine lw_pure rfl (pv_assign rfl) ?_) | (refine is_cw ?_; first | (refine cw_seq ?_) | (refine cw_region ?_) | (refine cw_true rfl rfl ?_) | (refine cw_ret ?_)) | (refine is_qw ?_; first | (with_reducible refine qw_then ?_) | (with_reducible refine qw_then_ret ?_)) | (refine lw_nil ?_) | ((refine is_un ?_; first | (refine lw_pure rfl (pv_not rfl) ?_))))
        exact qw_ret1 rfl rfl ⟨rfl, RkQ.same h hw⟩
      | true =>
        by_cases he : n = t
        · have hE : decide (n = t) = true := decide_eq_true he
          rw [show renameD d n t = (1, d) from by unfold renameD; rw [hk, if_neg (by simp), hg]; dsimp only; rw [hq, if_neg (by simp), if_pos he]]
          repeat' (first | (refine lw_pure rfl (pv_move rfl) ?_) | (refine lw_pure rfl (pv_assign rfl) ?_) | (refine is_cw ?_; first | (refine cw_seq ?_) | (refine cw_region ?_)) | (refine is_qw ?_; first | (with_reducible refine qw_then ?_)) | (refine lw_nil ?_))
          refine lw_call (f := 63) (by kernel_rfl) rfl rfl (rfind0_c (h.mono hw) hk hg) ?_; rintro e w1 ⟨rfl, hb⟩; refine ⟨_, rfl, ?_⟩; replace hw := grow_trans hw hb; clear hb
          repeat' (first | (refine lw_pure rfl (pv_move rfl) ?_) | (refine lw_pure rfl (pv_assign rfl) ?_) | (refine is_cw ?_; first | (refine cw_seq ?_) | (refine cw_region ?_) | (refine cw_false rfl rfl ?_) | (refine cw_skip ?_)) | (refine is_qw ?_; first | (with_reducible refine qw_then ?_)) | (refine lw_nil ?_) | ((refine is_bin ?_; first | (refine lw_pure rfl (pv_neq rfl rfl) ?_))) | (refine lw_pure rfl (pv_extract rfl rfl) ?_))
          refine lw_call (f := 26) (by kernel_rfl) rfl rfl (rname_is ht hq _) ?_; rintro e w1 ⟨rfl, hb⟩; refine ⟨_, rfl, ?_⟩; replace hw := grow_trans hw hb; clear hb
          repeat' (first | (refine lw_pure rfl (pv_move rfl) ?_) | (refine lw_pure rfl (pv_assign rfl) ?_) | (refine is_cw ?_; first | (refine cw_seq ?_) | (refine cw_region ?_) | (refine cw_false rfl rfl ?_) | (refine cw_true rfl (by first | assumption | exact decide_eq_true (by omega) | exact dec_notT (by omega)) ?_) | (refine cw_skip ?_) | (refine cw_ret ?_)) | (refine is_qw ?_; first | (with_reducible refine qw_then ?_) | (with_reducible refine qw_then_ret ?_)) | (refine lw_nil ?_) | ((refine is_bin ?_; first | (refine lw_pure rfl (pv_seqlD rfl rfl) ?_))) | ((refine is_un ?_; first | (refine lw_pure rfl (pv_not rfl) ?_))))
          exact qw_ret1 rfl rfl ⟨rfl, RkQ.same h hw⟩
        · have hE : decide (n = t) = false := decide_eq_false he
          have e1 : renameD d n t = doD d (putF (dropF d.fs n) ⟨t, f.firm, f.pend⟩) := by unfold renameD; rw [hk, if_neg (by simp), hg]; dsimp only; rw [hq, if_neg (by simp), if_neg he]
          rw [e1] at hok ⊢
          by_cases h0 : d.left = 0
          · rw [doD0 h0]
            repeat' (first | (refine lw_pure rfl (pv_move rfl) ?_) | (refine lw_pure rfl (pv_assign rfl) ?_) | (refine is_cw ?_; first | (refine cw_seq ?_) | (refine cw_region ?_)) | (refine is_qw ?_; first | (with_reducible refine qw_then ?_)) | (refine lw_nil ?_))
            refine lw_call (f := 63) (by kernel_rfl) rfl rfl (rfind0_c (h.mono hw) hk hg) ?_; rintro e w1 ⟨rfl, hb⟩; refine ⟨_, rfl, ?_⟩; replace hw := grow_trans hw hb; clear hb
            repeat' (first | (refine lw_pure rfl (pv_move rfl) ?_) | (refine lw_pure rfl (pv_assign rfl) ?_) | (refine is_cw ?_; first | (refine cw_seq ?_) | (refine cw_region ?_) | (refine cw_false rfl rfl ?_) | (refine cw_skip ?_)) | (refine is_qw ?_; first | (with_reducible refine qw_then ?_)) | (refine lw_nil ?_) | ((refine is_bin ?_; first | (refine lw_pure rfl (pv_neq rfl rfl) ?_))) | (refine lw_pure rfl (pv_extract rfl rfl) ?_))
            refine lw_call (f := 26) (by kernel_rfl) rfl rfl (rname_is ht hq _) ?_; rintro e w1 ⟨rfl, hb⟩; refine ⟨_, rfl, ?_⟩; replace hw := grow_trans hw hb; clear hb
            repeat' (first | (refine lw_pure rfl (pv_move rfl) ?_) | (refine is_cw ?_; first | (refine cw_seq ?_) | (refine cw_region ?_) | (refine cw_false rfl rfl ?_) | (refine cw_false rfl (by first | assumption | exact decide_eq_false (by omega) | exact dec_notF (by omega)) ?_) | (refine cw_skip ?_)) | (refine is_qw ?_; first | (with_reducible refine qw_then ?_)) | (refine lw_nil ?_) | ((refine is_bin ?_; first | (refine lw_pure rfl (pv_seqlD rfl rfl) ?_))) | ((refine is_un ?_; first | (refine lw_pure rfl (pv_not rfl) ?_))))
            refine lw_call (f := 61) (by kernel_rfl) rfl rfl (rgoes0_c (h.mono hw) h0) ?_; rintro e5 w5 ⟨rfl, hT, hg5⟩; refine ⟨_, rfl, ?_⟩; have hw4 := hw; clear hw; have hw := Below.refl w5.heap.size w5; have hbs5 : base ≤ w5.heap.size := Nat.le_trans (Nat.le_trans hbs hw4.size) hg5.size
            repeat' (first | (refine lw_pure rfl (pv_assign rfl) ?_) | (refine is_cw ?_; first | (refine cw_seq ?_) | (refine cw_region ?_) | (refine cw_true rfl rfl ?_) | (refine cw_ret ?_)) | (refine is_qw ?_; first | (with_reducible refine qw_then ?_) | (with_reducible refine qw_then_ret ?_)) | (refine lw_nil ?_) | ((refine is_un ?_; first | (refine lw_pure rfl (pv_not rfl) ?_))))
            exact qw_ret1 rfl rfl ⟨rfl, rk_dark hw4 hT hg5⟩
          · rw [doD1 h0] at hok ⊢
            repeat' (first | (refine lw_pure rfl (pv_move rfl) ?_) | (refine lw_pure rfl (pv_assign rfl) ?_) | (refine is_cw ?_; first | (refine cw_seq ?_) | (refine cw_region ?_)) | (refine is_qw ?_; first | (with_reducible refine qw_then ?_)) | (refine lw_nil ?_))
            refine lw_call (f := 63) (by kernel_rfl) rfl rfl (rfind0_c (h.mono hw) hk hg) ?_; rintro e w1 ⟨rfl, hb⟩; refine ⟨_, rfl, ?_⟩; replace hw := grow_trans hw hb; clear hb
            repeat' (first | (refine lw_pure rfl (pv_move rfl) ?_) | (refine lw_pure rfl (pv_assign rfl) ?_) | (refine is_cw ?_; first | (refine cw_seq ?_) | (refine cw_region ?_) | (refine cw_false rfl rfl ?_) | (refine cw_skip ?_)) | (refine is_qw ?_; first | (with_reducible refine qw_then ?_)) | (refine lw_nil ?_) | ((refine is_bin ?_; first | (refine lw_pure rfl (pv_neq rfl rfl) ?_))) | (refine lw_pure rfl (pv_extract rfl rfl) ?_))
            refine lw_call (f := 26) (by kernel_rfl) rfl rfl (rname_is ht hq _) ?_; rintro e w1 ⟨rfl, hb⟩; refine ⟨_, rfl, ?_⟩; replace hw := grow_trans hw hb; clear hb
            repeat' (first | (refine lw_pure rfl (pv_move rfl) ?_) | (refine is_cw ?_; first | (refine cw_seq ?_) | (refine cw_region ?_) | (refine cw_false rfl rfl ?_) | (refine cw_false rfl (by first | assumption | exact decide_eq_false (by omega) | exact dec_notF (by omega)) ?_) | (refine cw_skip ?_)) | (refine is_qw ?_; first | (with_reducible refine qw_then ?_)) | (refine lw_nil ?_) | ((refine is_bin ?_; first | (refine lw_pure rfl (pv_seqlD rfl rfl) ?_))) | ((refine is_un ?_; first | (refine lw_pure rfl (pv_not rfl) ?_))))
            refine lw_call (f := 61) (by kernel_rfl) rfl rfl (rgoes1_c (h.mono hw) h0) ?_; rintro e5 w5 ⟨rfl, hT, hg5⟩; refine ⟨_, rfl, ?_⟩; have hw4 := hw; clear hw; have hw := Below.refl w5.heap.size w5; have hbs5 : base ≤ w5.heap.size := Nat.le_trans (Nat.le_trans hbs hw4.size) hg5.size
            have hTo : Own encF 3 54 base w5 _ d.fs := hT.own
            obtain ⟨a5, c5, e5, HS5, -⟩ := Own.slR encF_len hTo
            subst e5
            obtain ⟨ab, ao, rfl, -, -⟩ := HS5.at (by intro h; rw [h] at hpl; simp at hpl)
            have H5 := hT.obj
            have hmx5 := HS5.max
            have hle5 := HS5.le
            have hNl := hT.obj.lt
            have hvl := hT.own.lt
            repeat' (first | (refine lw_pure rfl (pv_move rfl) ?_) | (refine is_cw ?_; first | (refine cw_seq ?_) | (refine cw_region ?_) | (refine cw_false rfl rfl ?_) | (refine cw_skip ?_)) | (refine is_qw ?_; first | (with_reducible refine qw_then ?_)) | (refine lw_nil ?_) | ((refine is_load ?_; first | (refine lw_pure rfl (pv_load (t1 rfl) rfl (by first | exact PT.ld0 (H5.mono hw) rfl | exact PT.ld (H5.mono hw) rfl | exact SlR.ld (HS5.mono hw) hxk rfl | exact SlR.ld1 (HS5.mono hw) hxk rfl)) ?_) | (refine lw_pure rfl (pv_loada (tA rfl) rfl (by first | exact PT.lda (H5.mono hw) | exact SlR.lda (HS5.mono hw) hxk) (by rfl)) ?_))) | ((refine is_fa ?_; first | (refine lw_pure rfl (pv_fa (tF rfl) rfl) ?_))) | ((refine is_ia ?_; first | (refine lw_pure rfl (pv_ian (tS rfl) rfl rfl (by omega)) ?_))) | ((refine is_un ?_; first | (refine lw_pure rfl (pv_not rfl) ?_))) | (refine lw_pure rfl (pv_nilp rfl) ?_))
            refine lw_varN rfl (by first | exact tyv_35 | exact tyv_36 | exact tyv_53 | exact tyv_54 | exact tyv_56 | exact tyv_57 | exact tyv_59 | exact tyv_60 | exact tyv_62 | exact tyv_63 | exact tyv_122 | exact tyv_123) rfl (tZ rfl) (fun _ => rfl) rfl rfl ?_; intro N9 wn hN9 H9 hb; replace hN9 := Nat.le_trans hw.size hN9; replace hw := grow_trans hw hb; clear hb
            replace H9 : PT wn N9 54 [.string f.name, .string f.firm, .string f.pend] := H9
            repeat' (first | (refine lw_pure rfl (pv_move rfl) ?_) | (refine is_cw ?_; first | (refine cw_seq ?_) | (refine cw_region ?_)) | (refine is_qw ?_; first | (with_reducible refine qw_then ?_)) | (refine lw_nil ?_))
            refine lw_call (f := 64) (by kernel_rfl) rfl rfl (rdrop_c ⟨(hT.mono hw).obj, (hT.mono hw).own⟩ hT.ok.srt hT.ok.cnt (Nat.le_trans hbs5 hw.size) hgs) ?_; rintro e6 w6 ⟨rfl, ⟨v6, hP, hnv⟩, hg6⟩; refine ⟨_, rfl, ?_⟩
            have hN9l := H9.lt
            have hv6 : v6.ownBlock ≠ some N9 := by
              rcases hnv with rfl | hnv
              · intro e; have := hvl _ e; omega
              · intro e; have := hnv _ e; omega
            replace H9 := H9.grown hg6 (fun e => by injection e with e; omega)
            have hs6 := hg6.size
            have hw5 := hw
            clear hw
            have hw := Below.refl w6.heap.size w6
            repeat' (first | (refine lw_pure rfl (pv_move rfl) ?_) | (refine is_cw ?_; first | (refine cw_seq ?_) | (refine cw_region ?_)) | (refine is_qw ?_; first | (with_reducible refine qw_then ?_)) | (refine lw_nil ?_) | ((refine is_fa ?_; first | (refine lw_pure rfl (pv_fa (tF rfl) rfl) ?_))))
            refine lw_store H9 (tZ rfl) rfl rfl rfl (by simp) ?_; intro w7 H10 hg7 hz7
            have H7 := hP.obj.grown hg7 (fun e => by injection e with e; omega)
            have hO7 := hP.own.kept hg7 (Or.inr hv6)
            have hs7 := hg7.size
            clear hw
            have hw := Below.refl w7.heap.size w7
            repeat' (first | (refine lw_pure rfl (pv_move rfl) ?_) | (refine is_cw ?_; first | (refine cw_seq ?_) | (refine cw_region ?_)) | (refine is_qw ?_; first | (with_reducible refine qw_then ?_)) | (refine lw_nil ?_) | ((refine is_load ?_; first | (refine lw_pure rfl (pv_loada (tA rfl) rfl (by first | exact PT.lda (H10.mono hw)) (by rfl)) ?_))))
            have hsr : SortF (dropF d.fs n) := hT.ok.srt.drop n
            have hcn : (dropF d.fs n).length ≤ 64 := by
              have h5 := len_drop h.ok.srt n
              have := h.ok.cnt
              omega
            refine lw_call (f := 62) (by kernel_rfl) rfl rfl (rput_c ⟨H7, hO7⟩ hsr hcn (by have := hw5.size; omega) ⟨t, f.firm, f.pend⟩) ?_; rintro e8 w8 ⟨rfl, ⟨v8, hP8, hnv8⟩, hg8⟩; refine ⟨_, rfl, ?_⟩; clear hw; have hw := Below.refl w8.heap.size w8
            repeat' (first | (refine lw_pure rfl (pv_assign rfl) ?_) | (refine is_cw ?_; first | (refine cw_seq ?_) | (refine cw_region ?_) | (refine cw_ret ?_)) | (refine is_qw ?_; first | (with_reducible refine qw_then ?_)) | (refine lw_nil ?_))
            have g1 : Gn (N :: vb (.slice (some ⟨ab, ao, none⟩) d.fs.length c5)) w w6 := ((Gn.of_row (grown_in hw4 hg5) List.mem_cons_self).trans (Gn.of_below hw5)).trans (Gn.of_row hg6 List.mem_cons_self)
            have hs4 := hw4.size
            have hs5 := hg5.size
            have g2 : Gn (N :: vb (.slice (some ⟨ab, ao, none⟩) d.fs.length c5)) w w7 := g1.transN (Gn.of_row hg7 (List.mem_singleton.2 rfl)) (fun q hq hl => by rw [List.mem_singleton] at hq; omega)
            have hv1 : NewV w (.slice (some ⟨ab, ao, none⟩) d.fs.length c5) v6 := (NewV.refl w _).trans hnv (by have := hw5.size; omega)
            exact qw_ret1 rfl rfl ⟨rfl, ⟨⟨v8, ⟨hP8.obj, hP8.own, hok⟩, hv1.trans hnv8 g2.size⟩, g2.trans (Gn.of_row hg8 List.mem_cons_self)⟩⟩
set_option maxRecDepth 20000 in
theorem rlist45_c {w : World} {base N : Nat} {v : Value} {d : Dsk} (h : RkW w base N v d) (hk : d.dark = true) : Calls Tryz.prog 37 #[.pointer (some ⟨N, 0, none⟩)] w fun e w' => e = .returned (.tuple #[.slice none 0 0, .int .i64 45]) ∧ Below w.heap.size w w' := by
  have H := h.obj
  rw [hk] at H
  have hw := Below.refl w.heap.size w
  refine fn_enter 31 Tryz.func37 rfl rfl rfl ?_
  repeat' (first | (refine lw_pure rfl (pv_move rfl) ?_) | (refine lw_pure rfl (pv_assign rfl) ?_) | (refine is_cw ?_; first | (refine cw_seq ?_) | (refine cw_region ?_) | (refine cw_true rfl rfl ?_) | (refine cw_ret ?_)) | (refine is_qw ?_; first | (with_reducible refine qw_then ?_) | (with_reducible refine qw_then_ret ?_)) | (refine lw_nil ?_) | ((refine is_load ?_; first | (refine lw_pure rfl (pv_load (t1 rfl) rfl (by first | exact PT.ld0 (H.mono hw) rfl | exact PT.ld (H.mono hw) rfl)) ?_))) | ((refine is_fa ?_; first | (refine lw_pure rfl (pv_fa (tF rfl) rfl) ?_))) | (refine lw_pure rfl (pv_nilp rfl) ?_))
  exact qw_ret2 rfl rfl rfl ⟨rfl, hw⟩
set_option maxRecDepth 20000 in
theorem rlist_c {w : World} {base N : Nat} {v : Value} {d : Dsk} (h : RkW w base N v d) (hk : d.dark = false) : Calls Tryz.prog 37 #[.pointer (some ⟨N, 0, none⟩)] w fun e w' => (∃ v', e = .returned (.tuple #[v', .int .i64 0]) ∧ Own encT 1 9 w.heap.size w' v' (d.fs.map (·.name))) ∧ Below w.heap.size w w' := by
  have H := h.obj
  rw [hk] at H
  have hct := h.ok.cnt
  obtain ⟨a0, c0, rfl, HS, -⟩ := Own.slR encF_len h.own
  have hmx := HS.max
  have hle := HS.le
  have hw := Below.refl w.heap.size w
  refine fn_enter 31 Tryz.func37 rfl rfl rfl ?_
  repeat' (first | (refine lw_pure rfl (pv_move rfl) ?_) | (refine lw_pure rfl (pv_assign rfl) ?_) | (refine is_cw ?_; first | (refine cw_seq ?_) | (refine cw_region ?_) | (refine cw_false rfl rfl ?_) | (refine cw_skip ?_) | (refine cw_block ?_)) | (refine is_qw ?_; first | (with_reducible refine qw_then ?_)) | (refine lw_nil ?_) | ((refine is_load ?_; first | (refine lw_pure rfl (pv_load (t1 rfl) rfl (by first | exact PT.ld0 (H.mono hw) rfl | exact PT.ld (H.mono hw) rfl)) ?_))) | ((refine is_fa ?_; first | (refine lw_pure rfl (pv_fa (tF rfl) rfl) ?_))) | (refine lw_pure rfl (pv_nilp rfl) ?_))
  refine cw_loop (σ := Nat × Value) (fun s => [(0, .pointer (some ⟨N, 0, none⟩)), (4, s.2), (5, .int .i64 (s.1 : Nat))]) (fun s wr => s.1 ≤ d.fs.length ∧ Below w.heap.size w wr ∧ Own encT 1 9 w.heap.size wr s.2 ((d.fs.take s.1).map (·.name))) (fun s => d.fs.length - s.1) (0, .slice none 0 0) (by repeat' (first | exact trivial | refine ⟨rfl, ?_⟩)) ⟨Nat.zero_le _, hw, Own.nil w⟩ ?_
  clear hw
  rintro ⟨k, u⟩ wr ⟨hk1, hw, hO⟩
  replace hk1 : k ≤ d.fs.length := hk1
  replace hO : Own encT 1 9 w.heap.size wr u ((d.fs.take k).map (·.name)) := hO
  change CW Tryz.prog _ _ _ [(0, .pointer (some ⟨N, 0, none⟩)), (4, u), (5, .int .i64 (k : Nat))] wr
  by_cases hlt : k < d.fs.length
  · have hxk : d.fs[k]? = some d.fs[k] := List.getElem?_eq_getElem hlt
    generalize d.fs[k] = f at hxk
    obtain ⟨ab, ao, rfl, -, -⟩ := HS.at (by intro h; rw [h] at hlt; simp at hlt)
    have e9 : (d.fs.take (k + 1)).map (·.name) = (d.fs.take k).map (·.name) ++ [f.name] := by rw [List.take_add_one, hxk, List.map_append]; rfl
    have hl9 : ((d.fs.take k).map (·.name)).length ≤ 64 := by rw [List.length_map, List.length_take]; omega
    repeat' (first | (refine lw_pure rfl (pv_move rfl) ?_) | (refine is_cw ?_; first | (refine cw_seq ?_) | (refine cw_region ?_) | (refine cw_true rfl (by first | assumption | exact decide_eq_true (by omega) | exact dec_notT (by omega)) ?_) | (refine cw_skip ?_) | (refine cw_block ?_)) | (refine is_qw ?_; first | (with_reducible refine qw_then ?_)) | (refine lw_nil ?_) | ((refine is_bin ?_; first | (refine lw_pure rfl (pv_lss rfl rfl) ?_))) | ((refine is_load ?_; first | (refine lw_pure rfl (pv_load (t1 rfl) rfl (by first | exact PT.ld0 (H.mono hw) rfl | exact PT.ld (H.mono hw) rfl | exact SlR.ld (HS.mono hw) hxk rfl | exact SlR.ld1 (HS.mono hw) hxk rfl)) ?_))) | ((refine is_fa ?_; first | (refine lw_pure rfl (pv_fa (tF rfl) rfl) ?_))) | ((refine is_ia ?_; first | (refine lw_pure rfl (pv_ian (tS rfl) rfl rfl (by omega)) ?_))) | ((refine is_bi ?_; first | (refine lw_pure rfl (pv_lenl (tS rfl) rfl) ?_))) | (refine lw_pure rfl (pv_nilp rfl) ?_))
    refine lw_bsN (vs := [.string f.name]) (cs := [.string f.name]) elemXs rfl rfl rfl (by omega) (by omega) rfl (by intro v hv; simp at hv; subst hv; rfl) ?_; intro N5 w5 hN5 H5 hb
    have HX : SlR encT 1 w5 (some ⟨N5, 0, none⟩) 1 [f.name] := H5.slR (xs := [f.name]) encT_len rfl (by omega)
    replace hO := hO.mono hb
    replace hw := grow_trans hw hb
    refine lw_app elemXs encT_len encT_one rfl rfl rfl hO HX rfl hw.size (by simp; omega) (by simp [maxLen]; omega) ?_; intro v2 w2 hO2 hg hb2
    replace hw := hw.trans hb2
    repeat' (first | (refine lw_pure rfl (pv_move rfl) ?_) | (refine lw_pure rfl (pv_assign rfl) ?_) | (refine is_cw ?_; first | (refine cw_region ?_)) | (refine is_qw ?_; first | (with_reducible refine qw_then ?_) | (with_reducible refine qw_in ?_)) | (refine lw_nil ?_) | ((refine is_bin ?_; first | (refine lw_pure rfl (pv_inc rfl rfl (by omega)) ?_))))
    exact qw_round (k + 1, v2) (by repeat' (first | exact trivial | refine ⟨rfl, ?_⟩)) ⟨by show k + 1 ≤ _; omega, hw, by show Own _ _ _ _ _ _ ((d.fs.take (k + 1)).map (·.name)); rw [e9]; exact hO2⟩ (by show d.fs.length - (k + 1) < d.fs.length - k; omega)
  · have hkl : k = d.fs.length := by omega
    subst hkl
    rw [List.take_length] at hO
    repeat' (first | (refine lw_pure rfl (pv_move rfl) ?_) | (refine lw_pure rfl (pv_assign rfl) ?_) | (refine is_cw ?_; first | (refine cw_seq ?_) | (refine cw_region ?_) | (refine cw_false rfl (by first | assumption | exact decide_eq_false (by omega) | exact dec_notF (by omega)) ?_) | (refine cw_exit ?_) | (refine cw_ret ?_)) | (refine is_qw ?_; first | (with_reducible refine qw_then ?_) | (with_reducible refine qw_in_hit ?_) | (with_reducible refine qw_then_exit ?_)) | (refine lw_nil ?_) | ((refine is_bin ?_; first | (refine lw_pure rfl (pv_lss rfl rfl) ?_))) | ((refine is_load ?_; first | (refine lw_pure rfl (pv_load (t1 rfl) rfl (by first | exact PT.ld0 (H.mono hw) rfl | exact PT.ld (H.mono hw) rfl)) ?_))) | ((refine is_fa ?_; first | (refine lw_pure rfl (pv_fa (tF rfl) rfl) ?_))) | ((refine is_bi ?_; first | (refine lw_pure rfl (pv_lenl (tS rfl) rfl) ?_))) | (refine lw_pure rfl (pv_nilp rfl) ?_))
    exact qw_ret2 rfl rfl rfl ⟨⟨_, rfl, hO⟩, hw⟩
set_option maxRecDepth 20000 in
theorem rcopy_c {w : World} {base N : Nat} {v : Value} {d : Dsk} (h : RkW w base N v d) : Calls Tryz.prog 9 #[.pointer (some ⟨N, 0, none⟩)] w fun e w' => (∃ N' v', e = .returned (.pointer (some ⟨N', 0, none⟩)) ∧ w.heap.size ≤ N' ∧ RkW w' w.heap.size N' v' d) ∧ Below w.heap.size w w' := by
  have H := h.obj
  have hct := h.ok.cnt
  obtain ⟨a0, c0, rfl, HS, -⟩ := Own.slR encF_len h.own
  have hmx := HS.max
  have hle := HS.le
  have hw := Below.refl w.heap.size w
  refine fn_enter 23 Tryz.func9 rfl rfl rfl ?_
  repeat' (first | (refine lw_pure rfl (pv_assign rfl) ?_) | (refine is_cw ?_; first | (refine cw_seq ?_) | (refine cw_region ?_)) | (refine is_qw ?_; first | (with_reducible refine qw_then ?_)) | (refine lw_nil ?_))
  refine cw_drawn (fun w' => Below w.heap.size w w') (by kernel_rfl) (by repeat (first | exact NoPanic.body | with_reducible refine NoPanic.then ?_ | with_reducible refine NoPanic.inBlock ?_)) (fun hNP => ?_)
  have hS := hw.drew
  (refine at0 1 rfl (fun w' hq => pv_move rfl) ?_)
  (refine at0 2 rfl (fun w' hq => pv_nilp rfl) ?_)
  (refine at0 3 rfl (fun w' hq => pv_fa (tF rfl) rfl) ?_)
  (refine at0 4 rfl (fun w' hq => pv_load (t1 rfl) rfl (by first | exact PT.ld0 (H.mono hq) rfl | exact PT.ld (H.mono hq) rfl)) ?_)
  (refine at0 6 rfl (fun w' hq => pv_move rfl) ?_)
  (refine at0 7 rfl (fun w' hq => pv_nilp rfl) ?_)
  (refine at0 8 rfl (fun w' hq => pv_fa (tF rfl) rfl) ?_)
  (refine at0 9 rfl (fun w' hq => pv_load (t1 rfl) rfl (by first | exact PT.ld0 (H.mono hq) rfl | exact PT.ld (H.mono hq) rfl)) ?_)
  (refine at0 10 rfl (fun w' hq => pv_move rfl) ?_)
  (refine at0 11 rfl (fun w' hq => pv_nilp rfl) ?_)
  (refine at0 12 rfl (fun w' hq => pv_fa (tF rfl) rfl) ?_)
  (refine at0 13 rfl (fun w' hq => pv_load (t1 rfl) rfl (by first | exact PT.ld0 (H.mono hq) rfl | exact PT.ld (H.mono hq) rfl)) ?_)
  (refine at0 14 rfl (fun w' hq => pv_move rfl) ?_)
  (refine at0 15 rfl (fun w' hq => pv_nilp rfl) ?_)
  (refine at0 16 rfl (fun w' hq => pv_fa (tF rfl) rfl) ?_)
  (refine at0 17 rfl (fun w' hq => pv_load (t1 rfl) rfl (by first | exact PT.ld0 (H.mono hq) rfl | exact PT.ld (H.mono hq) rfl)) ?_)
  refine aw_act 0 (by kernel_rfl) rfl rfl rfl ?_
  refine act_bs0 elemF hS.size ?_; intro v1 wb hE1 hbb; refine ⟨grow_trans hS hbb, fun hS => ?_⟩
  refine aw_act 5 (by kernel_rfl) rfl rfl rfl ?_
  refine act_app0 elemF encF_len encF_one rfl hE1 rfl (HS.mono hS) rfl hS.size (by omega) (by simp only [maxLen]; omega) ?_; intro v8 wb hO8 hbb; obtain ⟨a8, c8, rfl, -, -⟩ := Own.slR encF_len hO8; refine ⟨grow_trans hS hbb, fun hS => ?_⟩
  (refine at0 18 rfl (fun w' hq => tyB_57 rfl rfl rfl) ?_)
  refine aw_act 19 (by kernel_rfl) rfl rfl rfl ?_
  refine act_boxN rfl (cs := [.slice a8 d.fs.length c8, .int .i64 d.cap, .int .i64 d.left, .bool d.dark]) rfl ?_; intro N9 w9 hN9 H9 hbb; replace hO8 := hO8.mono hbb; replace hN9 := Nat.le_trans hS.size hN9; refine ⟨grow_trans hS hbb, fun hS => ?_⟩
  (refine at0 20 rfl (fun w' hq => pv_assign rfl) ?_)
  refine aw_done (by kernel_rfl) ?_
  replace hw := hS; clear hS hNP
  repeat' (first | (refine is_cw ?_; first | (refine cw_ret ?_)) | (refine is_qw ?_; first | (with_reducible refine qw_then ?_)))
  exact qw_ret1 rfl rfl ⟨⟨N9, _, rfl, hN9, ⟨H9, hO8, h.ok⟩⟩, hw⟩

section
variable {α : Type} {enc : α → List Value} {k : Nat} {P : Program} {n : Nat} {l : Fr} {w : World} {d : Option Nat} {ty : TypeId} {pos : String} {af : Array Edge} {gd : Option (Nat × Bool)} {T t : TypeId} {x y : Operand} {base g cap : Nat} {xs : List α} {Z : Value → World → Prop}
theorem act_storeO (ht : sizeB P t k = true) (hk : ∀ x, (enc x).length = k) (h1c : ∀ x, ∀ v ∈ enc x, v.oneCell' = true) {i : Nat} {v : Value} {u : α} {o : Nat} (hx : ev l x = some (.pointer (some ⟨g, o, none⟩))) (ho : o = i * k) (hy : ev l y = some v) (hv : v.cells.toList = enc u) (hO : Own enc k T base w (.slice (some ⟨g, 0, none⟩) xs.length cap) xs) (hi : i < xs.length)
    (h : ∀ w', Own enc k T base w' (.slice (some ⟨g, 0, none⟩) xs.length cap) (xs.set i u) → w.grownBy w' (some g) → w'.heap.size = w.heap.size → Z undef w') : Act1 P n l ⟨d, .store t x y, ty, pos, af, gd⟩ w Z := by
  subst ho
  obtain ⟨w', h1, h2, h3, h4⟩ := Own.store hk h1c hO P i hi u
  refine act_sv (w' := w') ⟨fun A hA => ?_⟩ (h w' h2 h3 h4)
  have hs : v.cells.size = k := by rw [← hk u, ← hv]; simp
  simp [execOp, hA.ev hx, hA.ev hy, Instr.storeAt, Instr.sureAddr, storeVar, sizeB_run ht, hs, hv, h1]
end
structure RcR (w wr : World) (base N : Nat) (v : Value) (d : Dsk) (keep : List Int) (ka : Option Addr) (kc k t : Nat) (ys : List Fil) : Prop where
  obj : PT wr N 57 [v, .int .i64 d.cap, .int .i64 d.left, .bool d.dark]
  own : Own encF 3 54 base wr v ys
  gn : Gn (N :: vb v) w wr
  ks : SlR encI 1 wr ka kc keep
  len : ys.length = d.fs.length
  kl : k ≤ d.fs.length
  tk : t ≤ k
  dr : ys.drop k = d.fs.drop k
  fs : crashF d.fs keep = ys.take k ++ crashF (d.fs.drop k) (keep.drop t)
theorem drop_at {α : Type} {l : List α} {k : Nat} {f : α} (h : l[k]? = some f) : l.drop k = f :: l.drop (k + 1) := by
  obtain ⟨hk, rfl⟩ := List.getElem?_eq_some_iff.1 h
  exact List.drop_eq_getElem_cons hk
theorem RcR.at {w wr : World} {base N : Nat} {v : Value} {d : Dsk} {keep : List Int} {ka : Option Addr} {kc k t : Nat} {ys : List Fil} (h : RcR w wr base N v d keep ka kc k t ys) {f : Fil} (hf : d.fs[k]? = some f) : ys[k]? = some f := by
  have h1 := congrArg (·[0]?) h.dr
  simp only [List.getElem?_drop, Nat.add_zero] at h1
  rw [h1]; exact hf
theorem RcR.skip {w wr w8 : World} {base N : Nat} {v : Value} {d : Dsk} {keep : List Int} {ka : Option Addr} {kc k t : Nat} {ys : List Fil} (h : RcR w wr base N v d keep ka kc k t ys) {f : Fil} (hf : d.fs[k]? = some f) (hp : f.pend.size = 0) (hb : Below wr.heap.size wr w8) : RcR w w8 base N v d keep ka kc (k + 1) t ys := by
  have hk : k < d.fs.length := (List.getElem?_eq_some_iff.1 hf).1
  have hy := h.at hf
  have hd := h.dr
  rw [drop_at hf, drop_at hy] at hd
  refine ⟨h.obj.mono hb, h.own.mono hb, h.gn.trans (Gn.of_below hb), h.ks.mono hb, h.len, hk, by have := h.tk; omega, (List.cons.inj hd).2, ?_⟩
  rw [h.fs, drop_at hf, crash_skip hp, List.take_add_one, hy]
  simp
theorem RcR.step {w wr w8 : World} {base N : Nat} {v : Value} {d : Dsk} {keep : List Int} {ka : Option Addr} {kc k t : Nat} {ys : List Fil} (h : RcR w wr base N v d keep ka kc k t ys) {f : Fil} (hf : d.fs[k]? = some f) (hp : f.pend.size ≠ 0) (hg : Gn (vb v) wr w8) (hN : N ∉ vb v) (hka : 0 < kc → ∀ x, ka = some x → x.block ∉ vb v) (hO : Own encF 3 54 base w8 v (ys.set k (firmF f (keep.drop t)))) : RcR w w8 base N v d keep ka kc (k + 1) (t + 1) (ys.set k (firmF f (keep.drop t))) := by
  have hk : k < d.fs.length := (List.getElem?_eq_some_iff.1 hf).1
  have hy := h.at hf
  have hd := h.dr
  rw [drop_at hf, drop_at hy] at hd
  refine ⟨h.obj.gn hg hN, hO, h.gn.trans (hg.wide fun q hq => List.mem_cons_of_mem _ hq), h.ks.gn hg hka, by rw [List.length_set]; exact h.len, hk, by have := h.tk; omega, ?_, ?_⟩
  · rw [List.drop_set_of_lt (by omega)]; exact (List.cons.inj hd).2
  · have hkl := h.len
    rw [h.fs, drop_at hf, crash_do hp, List.take_add_one, List.take_set_of_le (by omega), List.getElem?_set_self (by omega), List.tail_drop]
    simp
set_option maxRecDepth 20000 in
set_option maxHeartbeats 2000000 in
theorem rcrash_c {w : World} {base N : Nat} {v : Value} {d : Dsk} {keep : List Int} {kn kc : Nat} {ka : Option Addr} (h : RkW w base N v d) (hkl : keep.length = kn) (HK : SlR encI 1 w ka kc keep) (hka : 0 < kc → ∀ x, ka = some x → x.block ∉ N :: vb v) : Calls Tryz.prog 42 #[.pointer (some ⟨N, 0, none⟩), .slice ka kn kc] w fun e w' => e = .returned (.tuple #[]) ∧ RkQ w w' base N v (crashD d keep) := by
  subst hkl
  have hmk := HK.max
  have hlk := HK.le
  have hct := h.ok.cnt
  have hNv := vb_not h.ne
  have hokc := h.ok.crash keep
  obtain ⟨a0, c0, rfl, HS, hY⟩ := Own.slR encF_len h.own
  have hmx := HS.max
  have hw := Below.refl w.heap.size w
  refine fn_enter 76 Tryz.func42 rfl rfl rfl ?_
  repeat' (first | (refine lw_pure rfl (pv_assign rfl) ?_) | (refine is_cw ?_; first | (refine cw_seq ?_) | (refine cw_region ?_) | (refine cw_block ?_)) | (refine is_qw ?_; first | (with_reducible refine qw_then ?_)) | (refine lw_nil ?_))
  refine cw_loop (σ := Nat × Nat × List Fil) (fun s => [(0, .pointer (some ⟨N, 0, none⟩)), (1, .slice ka keep.length kc), (4, .int .i64 (s.2.1 : Nat)), (5, .int .i64 (s.1 : Nat))]) (fun s wr => RcR w wr base N (.slice a0 d.fs.length c0) d keep ka kc s.1 s.2.1 s.2.2) (fun s => d.fs.length - s.1) (0, 0, d.fs) (by repeat' (first | exact trivial | refine ⟨rfl, ?_⟩)) ⟨h.obj, h.own, Gn.of_below hw, HK, rfl, Nat.zero_le _, Nat.le_refl _, rfl, by simp⟩ ?_
  clear hw
  rintro ⟨k, t, ys⟩ wr hR
  replace hR : RcR w wr base N (.slice a0 d.fs.length c0) d keep ka kc k t ys := hR
  change CW Tryz.prog _ _ _ [(0, .pointer (some ⟨N, 0, none⟩)), (1, .slice ka keep.length kc), (4, .int .i64 (t : Nat)), (5, .int .i64 (k : Nat))] wr
  have H := hR.obj
  have hkd := hR.kl
  have htk := hR.tk
  have hyl := hR.len
  have hw := Below.refl wr.heap.size wr
  by_cases hlt : k < d.fs.length
  · have hxk : d.fs[k]? = some d.fs[k] := List.getElem?_eq_getElem hlt
    generalize d.fs[k] = f at hxk
    have hyk := hR.at hxk
    have hfs := h.ok.sizes f (List.mem_of_getElem? hxk)
    have hzf : szF f = f.firm.size + f.pend.size := rfl
    have hO2 := hR.own
    obtain ⟨ya, yc, e, HY, -⟩ := Own.slR encF_len hO2
    injection e with e1 e2 e3
    subst e1 e3
    obtain ⟨b, off, rfl, -, -⟩ := HS.at (by intro h; rw [h] at hlt; simp at hlt)
    obtain ⟨hge, ho0⟩ := hY _ rfl
    replace ho0 : off = 0 := ho0
    subst ho0
    have hvb : vb (.slice (some ⟨b, 0, none⟩) d.fs.length c0) = [b] := rfl
    repeat' (first | (refine lw_pure rfl (pv_move rfl) ?_) | (refine lw_pure rfl (pv_assign rfl) ?_) | (refine is_cw ?_; first | (refine cw_seq ?_) | (refine cw_region ?_) | (refine cw_true rfl (by first | assumption | exact decide_eq_true (by omega) | exact dec_notT (by omega)) ?_) | (refine cw_skip ?_) | (refine cw_block ?_)) | (refine is_qw ?_; first | (with_reducible refine qw_then ?_)) | (refine lw_nil ?_) | ((refine is_bin ?_; first | (refine lw_pure rfl (pv_lss rfl rfl) ?_) | (refine lw_pure rfl (pv_seqlD rfl rfl) ?_))) | ((refine is_load ?_; first | (refine lw_pure rfl (pv_load (t1 rfl) rfl (by first | exact PT.ld0 (H.mono hw) rfl | exact PT.ld (H.mono hw) rfl | exact SlR.ld (HY.mono hw) hyk rfl | exact SlR.ld1 (HY.mono hw) hyk rfl)) ?_))) | ((refine is_fa ?_; first | (refine lw_pure rfl (pv_fa (tF rfl) rfl) ?_))) | ((refine is_ia ?_; first | (refine lw_pure rfl (pv_ian (tS rfl) rfl rfl (by omega)) ?_))) | ((refine is_bi ?_; first | (refine lw_pure rfl (pv_lenl (tS rfl) rfl) ?_))) | (refine lw_pure rfl (pv_nilp rfl) ?_))
    by_cases hp0 : f.pend.size = 0
    · have hE : decide (f.pend = (⟨#[]⟩ : ByteArray)) = true := decide_eq_true (by cases hf : f.pend with | mk a => rw [hf] at hp0; rw [show a = #[] from Array.eq_empty_of_size_eq_zero hp0])
      repeat' (first | (refine lw_pure rfl (pv_move rfl) ?_) | (refine lw_pure rfl (pv_assign rfl) ?_) | (refine is_cw ?_; first | (refine cw_region ?_) | (refine cw_true rfl (by first | assumption | exact decide_eq_true (by omega) | exact dec_notT (by omega)) ?_) | (refine cw_exit ?_)) | (refine is_qw ?_; first | (with_reducible refine qw_then ?_) | (with_reducible refine qw_in_hit ?_) | (with_reducible refine qw_then_exit ?_)) | (refine lw_nil ?_) | ((refine is_bin ?_; first | (refine lw_pure rfl (pv_inc rfl rfl (by omega)) ?_))))
      exact qw_round (k + 1, t, ys) (by repeat' (first | exact trivial | refine ⟨rfl, ?_⟩)) (hR.skip hxk hp0 hw) (by show d.fs.length - (k + 1) < d.fs.length - k; omega)
    · have hE : decide (f.pend = (⟨#[]⟩ : ByteArray)) = false := decide_eq_false (fun e => hp0 (by rw [e]; rfl))
      by_cases htl : t < keep.length
      · have hkt : keep[t]? = some keep[t] := List.getElem?_eq_getElem htl
        generalize keep[t] = q at hkt
        have HK2 := hR.ks
        obtain ⟨kb, ko, rfl, -, -⟩ := HK2.at (by intro h; rw [h] at htl; simp at htl)
        have hk : 0 ≤ (q % 18446744073709551616) % ((f.pend.size : Int) + 1) ∧ (q % 18446744073709551616) % ((f.pend.size : Int) + 1) ≤ f.pend.size := ⟨Int.emod_nonneg _ (by omega), by have := Int.emod_lt_of_pos (q % 18446744073709551616) (show 0 < (f.pend.size : Int) + 1 by omega); omega⟩
        have hc : f.firm.size + (f.pend.extract 0 ((q % 18446744073709551616) % ((f.pend.size : Int) + 1)).toNat).size ≤ 9223372036854775807 := by rw [size_extract0]; omega
        have hff : firmF f (keep.drop t) = ⟨f.name, f.firm ++ f.pend.extract 0 ((q % 18446744073709551616) % ((f.pend.size : Int) + 1)).toNat, emptyB⟩ := by rw [drop_at hkt]; rfl
        repeat' (first | (refine lw_pure rfl (pv_move rfl) ?_) | (refine lw_pure rfl (pv_assign rfl) ?_) | (refine is_cw ?_; first | (refine cw_seq ?_) | (refine cw_region ?_) | (refine cw_true rfl (by first | assumption | exact decide_eq_true (by omega) | exact dec_notT (by omega)) ?_) | (refine cw_false rfl (by first | assumption | exact decide_eq_false (by omega) | exact dec_notF (by omega)) ?_) | (refine cw_skip ?_)) | (refine is_qw ?_; first | (with_reducible refine qw_then ?_)) | (refine lw_nil ?_) | ((refine is_bin ?_; first | (refine lw_pure rfl (pv_remu rfl rfl (by omega)) ?_) | (refine lw_pure rfl (pv_lss rfl rfl) ?_) | (refine lw_pure rfl (pv_inc rfl rfl (by omega)) ?_))) | ((refine is_load ?_; first | (refine lw_pure rfl (pv_load (t1 rfl) rfl (by first | exact SlR.ld (HK2.mono hw) hkt rfl | exact SlR.ld1 (HK2.mono hw) hkt rfl)) ?_))) | ((refine is_ia ?_; first | (refine lw_pure rfl (pv_ian (tS rfl) rfl rfl (by omega)) ?_))) | ((refine is_bi ?_; first | (refine lw_pure rfl (pv_lenl (tS rfl) rfl) ?_) | (refine lw_pure rfl (pv_lens (tStr rfl) rfl) ?_))) | (refine lw_pure rfl (pv_convu (tCv rfl rfl) rfl (by omega)) ?_) | (refine lw_pure rfl (pv_convm (tCv rfl rfl) rfl) ?_))
        refine cw_drawnF 27 (fun w' => Below wr.heap.size wr w' ∧ True) (by kernel_rfl) (by repeat (first | exact NoPanic.body | with_reducible refine NoPanic.then ?_ | with_reducible refine NoPanic.inBlock ?_)) (fun hNP => ?_)
        have hU := And.intro hw.drew trivial
        first | (refine fw_take 0 rfl (by kernel_rfl) rfl rfl (by kernel_rfl) (by kernel_rfl) (by kernel_rfl) hNP hU rfl (fun w' hq => pv_move rfl) ?_)
        first | (refine fw_take 1 rfl (by kernel_rfl) rfl rfl (by kernel_rfl) (by kernel_rfl) (by kernel_rfl) hNP hU rfl (fun w' hq => pv_nilp rfl) ?_)
        first | (refine fw_take 2 rfl (by kernel_rfl) rfl rfl (by kernel_rfl) (by kernel_rfl) (by kernel_rfl) hNP hU rfl (fun w' hq => pv_fa (tF rfl) rfl) ?_)
        first | (refine fw_take 3 rfl (by kernel_rfl) rfl rfl (by kernel_rfl) (by kernel_rfl) (by kernel_rfl) hNP hU rfl (fun w' hq => pv_load (t1 rfl) rfl (by first | exact PT.ld0 hq.2 rfl | exact PT.ld hq.2 rfl)) ?_) | (refine fw_take 3 rfl (by kernel_rfl) rfl rfl (by kernel_rfl) (by kernel_rfl) (by kernel_rfl) hNP hU rfl (fun w' hq => pv_loada (tA rfl) rfl (by first | exact PT.lda hq.2) (by rfl)) ?_) | (refine fw_take 3 rfl (by kernel_rfl) rfl rfl (by kernel_rfl) (by kernel_rfl) (by kernel_rfl) hNP hU rfl (fun w' hq => pv_load (t1 rfl) rfl (by first | exact PT.ld0 (H.mono hq.1) rfl | exact PT.ld (H.mono hq.1) rfl | exact SlR.ld (HY.mono hq.1) hyk rfl | exact SlR.ld1 (HY.mono hq.1) hyk rfl)) ?_) | (refine fw_take 3 rfl (by kernel_rfl) rfl rfl (by kernel_rfl) (by kernel_rfl) (by kernel_rfl) hNP hU rfl (fun w' hq => pv_loada (tA rfl) rfl (by first | exact PT.lda (H.mono hq.1) | exact SlR.lda (HY.mono hq.1) hyk) (by rfl)) ?_)
        first | (refine fw_take 4 rfl (by kernel_rfl) rfl rfl (by kernel_rfl) (by kernel_rfl) (by kernel_rfl) hNP hU rfl (fun w' hq => pv_move rfl) ?_)
        first | (refine fw_take 5 rfl (by kernel_rfl) rfl rfl (by kernel_rfl) (by kernel_rfl) (by kernel_rfl) hNP hU rfl (fun w' hq => pv_move rfl) ?_)
        first | (refine fw_take 6 rfl (by kernel_rfl) rfl rfl (by kernel_rfl) (by kernel_rfl) (by kernel_rfl) hNP hU rfl (fun w' hq => pv_nilp rfl) ?_)
        first | (refine fw_take 7 rfl (by kernel_rfl) rfl rfl (by kernel_rfl) (by kernel_rfl) (by kernel_rfl) hNP hU rfl (fun w' hq => pv_fa (tF rfl) rfl) ?_)
        first | (refine fw_take 8 rfl (by kernel_rfl) rfl rfl (by kernel_rfl) (by kernel_rfl) (by kernel_rfl) hNP hU rfl (fun w' hq => pv_load (t1 rfl) rfl (by first | exact PT.ld0 hq.2 rfl | exact PT.ld hq.2 rfl)) ?_) | (refine fw_take 8 rfl (by kernel_rfl) rfl rfl (by kernel_rfl) (by kernel_rfl) (by kernel_rfl) hNP hU rfl (fun w' hq => pv_loada (tA rfl) rfl (by first | exact PT.lda hq.2) (by rfl)) ?_) | (refine fw_take 8 rfl (by kernel_rfl) rfl rfl (by kernel_rfl) (by kernel_rfl) (by kernel_rfl) hNP hU rfl (fun w' hq => pv_load (t1 rfl) rfl (by first | exact PT.ld0 (H.mono hq.1) rfl | exact PT.ld (H.mono hq.1) rfl | exact SlR.ld (HY.mono hq.1) hyk rfl | exact SlR.ld1 (HY.mono hq.1) hyk rfl)) ?_) | (refine fw_take 8 rfl (by kernel_rfl) rfl rfl (by kernel_rfl) (by kernel_rfl) (by kernel_rfl) hNP hU rfl (fun w' hq => pv_loada (tA rfl) rfl (by first | exact PT.lda (H.mono hq.1) | exact SlR.lda (HY.mono hq.1) hyk) (by rfl)) ?_)
        first | (refine fw_take 9 rfl (by kernel_rfl) rfl rfl (by kernel_rfl) (by kernel_rfl) (by kernel_rfl) hNP hU rfl (fun w' hq => pv_move rfl) ?_)
        first | (refine fw_take 10 rfl (by kernel_rfl) rfl rfl (by kernel_rfl) (by kernel_rfl) (by kernel_rfl) hNP hU rfl (fun w' hq => pv_ian (tS rfl) rfl rfl (by omega)) ?_) | (refine fw_take 10 rfl (by kernel_rfl) rfl rfl (by kernel_rfl) (by kernel_rfl) (by kernel_rfl) hNP hU rfl (fun w' hq => pv_ia (tS rfl) rfl rfl (by omega)) ?_)
        first | (refine fw_take 11 rfl (by kernel_rfl) rfl rfl (by kernel_rfl) (by kernel_rfl) (by kernel_rfl) hNP hU rfl (fun w' hq => pv_fa (tF rfl) rfl) ?_)
        first | (refine fw_take 12 rfl (by kernel_rfl) rfl rfl (by kernel_rfl) (by kernel_rfl) (by kernel_rfl) hNP hU rfl (fun w' hq => pv_load (t1 rfl) rfl (by first | exact PT.ld0 hq.2 rfl | exact PT.ld hq.2 rfl)) ?_) | (refine fw_take 12 rfl (by kernel_rfl) rfl rfl (by kernel_rfl) (by kernel_rfl) (by kernel_rfl) hNP hU rfl (fun w' hq => pv_loada (tA rfl) rfl (by first | exact PT.lda hq.2) (by rfl)) ?_) | (refine fw_take 12 rfl (by kernel_rfl) rfl rfl (by kernel_rfl) (by kernel_rfl) (by kernel_rfl) hNP hU rfl (fun w' hq => pv_load (t1 rfl) rfl (by first | exact PT.ld0 (H.mono hq.1) rfl | exact PT.ld (H.mono hq.1) rfl | exact SlR.ld (HY.mono hq.1) hyk rfl | exact SlR.ld1 (HY.mono hq.1) hyk rfl)) ?_) | (refine fw_take 12 rfl (by kernel_rfl) rfl rfl (by kernel_rfl) (by kernel_rfl) (by kernel_rfl) hNP hU rfl (fun w' hq => pv_loada (tA rfl) rfl (by first | exact PT.lda (H.mono hq.1) | exact SlR.lda (HY.mono hq.1) hyk) (by rfl)) ?_)
        first | (refine fw_take 13 rfl (by kernel_rfl) rfl rfl (by kernel_rfl) (by kernel_rfl) (by kernel_rfl) hNP hU rfl (fun w' hq => pv_move rfl) ?_)
        first | (refine fw_take 14 rfl (by kernel_rfl) rfl rfl (by kernel_rfl) (by kernel_rfl) (by kernel_rfl) hNP hU rfl (fun w' hq => pv_nilp rfl) ?_)
        first | (refine fw_take 15 rfl (by kernel_rfl) rfl rfl (by kernel_rfl) (by kernel_rfl) (by kernel_rfl) hNP hU rfl (fun w' hq => pv_fa (tF rfl) rfl) ?_)
        first | (refine fw_take 16 rfl (by kernel_rfl) rfl rfl (by kernel_rfl) (by kernel_rfl) (by kernel_rfl) hNP hU rfl (fun w' hq => pv_load (t1 rfl) rfl (by first | exact PT.ld0 hq.2 rfl | exact PT.ld hq.2 rfl)) ?_) | (refine fw_take 16 rfl (by kernel_rfl) rfl rfl (by kernel_rfl) (by kernel_rfl) (by kernel_rfl) hNP hU rfl (fun w' hq => pv_loada (tA rfl) rfl (by first | exact PT.lda hq.2) (by rfl)) ?_) | (refine fw_take 16 rfl (by kernel_rfl) rfl rfl (by kernel_rfl) (by kernel_rfl) (by kernel_rfl) hNP hU rfl (fun w' hq => pv_load (t1 rfl) rfl (by first | exact PT.ld0 (H.mono hq.1) rfl | exact PT.ld (H.mono hq.1) rfl | exact SlR.ld (HY.mono hq.1) hyk rfl | exact SlR.ld1 (HY.mono hq.1) hyk rfl)) ?_) | (refine fw_take 16 rfl (by kernel_rfl) rfl rfl (by kernel_rfl) (by kernel_rfl) (by kernel_rfl) hNP hU rfl (fun w' hq => pv_loada (tA rfl) rfl (by first | exact PT.lda (H.mono hq.1) | exact SlR.lda (HY.mono hq.1) hyk) (by rfl)) ?_)
        first | (refine fw_take 17 rfl (by kernel_rfl) rfl rfl (by kernel_rfl) (by kernel_rfl) (by kernel_rfl) hNP hU rfl (fun w' hq => pv_move rfl) ?_)
        first | (refine fw_take 18 rfl (by kernel_rfl) rfl rfl (by kernel_rfl) (by kernel_rfl) (by kernel_rfl) hNP hU rfl (fun w' hq => pv_ian (tS rfl) rfl rfl (by omega)) ?_) | (refine fw_take 18 rfl (by kernel_rfl) rfl rfl (by kernel_rfl) (by kernel_rfl) (by kernel_rfl) hNP hU rfl (fun w' hq => pv_ia (tS rfl) rfl rfl (by omega)) ?_)
        first | (refine fw_take 19 rfl (by kernel_rfl) rfl rfl (by kernel_rfl) (by kernel_rfl) (by kernel_rfl) hNP hU rfl (fun w' hq => pv_fa (tF rfl) rfl) ?_)
        first | (refine fw_take 20 rfl (by kernel_rfl) rfl rfl (by kernel_rfl) (by kernel_rfl) (by kernel_rfl) hNP hU rfl (fun w' hq => pv_load (t1 rfl) rfl (by first | exact PT.ld0 hq.2 rfl | exact PT.ld hq.2 rfl)) ?_) | (refine fw_take 20 rfl (by kernel_rfl) rfl rfl (by kernel_rfl) (by kernel_rfl) (by kernel_rfl) hNP hU rfl (fun w' hq => pv_loada (tA rfl) rfl (by first | exact PT.lda hq.2) (by rfl)) ?_) | (refine fw_take 20 rfl (by kernel_rfl) rfl rfl (by kernel_rfl) (by kernel_rfl) (by kernel_rfl) hNP hU rfl (fun w' hq => pv_load (t1 rfl) rfl (by first | exact PT.ld0 (H.mono hq.1) rfl | exact PT.ld (H.mono hq.1) rfl | exact SlR.ld (HY.mono hq.1) hyk rfl | exact SlR.ld1 (HY.mono hq.1) hyk rfl)) ?_) | (refine fw_take 20 rfl (by kernel_rfl) rfl rfl (by kernel_rfl) (by kernel_rfl) (by kernel_rfl) hNP hU rfl (fun w' hq => pv_loada (tA rfl) rfl (by first | exact PT.lda (H.mono hq.1) | exact SlR.lda (HY.mono hq.1) hyk) (by rfl)) ?_)
        first | (refine fw_take 21 rfl (by kernel_rfl) rfl rfl (by kernel_rfl) (by kernel_rfl) (by kernel_rfl) hNP hU rfl (fun w' hq => pv_move rfl) ?_)
        first | (refine fw_take 22 rfl (by kernel_rfl) rfl rfl (by kernel_rfl) (by kernel_rfl) (by kernel_rfl) hNP hU rfl (fun w' hq => pv_move rfl) ?_)
        first | (refine fw_take 23 rfl (by kernel_rfl) rfl rfl (by kernel_rfl) (by kernel_rfl) (by kernel_rfl) hNP hU rfl (fun w' hq => pv_sleft (tStr rfl) rfl rfl hk) ?_) | (refine fw_take 23 rfl (by kernel_rfl) rfl rfl (by kernel_rfl) (by kernel_rfl) (by kernel_rfl) hNP hU rfl (fun w' hq => pv_slice_l (tS rfl) rfl rfl (by omega)) ?_) | (refine fw_take 23 rfl (by kernel_rfl) rfl rfl (by kernel_rfl) (by kernel_rfl) (by kernel_rfl) hNP hU rfl (fun w' hq => pv_slice_h (tS rfl) rfl rfl (by omega)) ?_) | (refine fw_take 23 rfl (by kernel_rfl) rfl rfl (by kernel_rfl) (by kernel_rfl) (by kernel_rfl) hNP hU rfl (fun w' hq => pv_slice_lh (tS rfl) rfl rfl rfl (by omega)) ?_)
        first | (refine fw_take 24 rfl (by kernel_rfl) rfl rfl (by kernel_rfl) (by kernel_rfl) (by kernel_rfl) hNP hU rfl (fun w' hq => pv_cat rfl rfl hc) ?_) | (refine fw_take 24 rfl (by kernel_rfl) rfl rfl (by kernel_rfl) (by kernel_rfl) (by kernel_rfl) hNP hU rfl (fun w' hq => pv_lss rfl rfl) ?_) | (refine fw_take 24 rfl (by kernel_rfl) rfl rfl (by kernel_rfl) (by kernel_rfl) (by kernel_rfl) hNP hU rfl (fun w' hq => pv_eql rfl rfl) ?_) | (refine fw_take 24 rfl (by kernel_rfl) rfl rfl (by kernel_rfl) (by kernel_rfl) (by kernel_rfl) hNP hU rfl (fun w' hq => pv_inc rfl rfl (by omega)) ?_) | (refine fw_take 24 rfl (by kernel_rfl) rfl rfl (by kernel_rfl) (by kernel_rfl) (by kernel_rfl) hNP hU rfl (fun w' hq => pv_add rfl rfl (by omega)) ?_) | (refine fw_take 24 rfl (by kernel_rfl) rfl rfl (by kernel_rfl) (by kernel_rfl) (by kernel_rfl) hNP hU rfl (fun w' hq => pv_seqlD rfl rfl) ?_)
        first | (refine fw_take 25 rfl (by kernel_rfl) rfl rfl (by kernel_rfl) (by kernel_rfl) (by kernel_rfl) hNP hU rfl (fun w' hq => tyB_54 rfl rfl rfl) ?_)
        first | (refine fw_take 26 rfl (by kernel_rfl) rfl rfl (by kernel_rfl) (by kernel_rfl) (by kernel_rfl) hNP hU rfl (fun w' hq => pv_ian (tS rfl) rfl rfl (by omega)) ?_) | (refine fw_take 26 rfl (by kernel_rfl) rfl rfl (by kernel_rfl) (by kernel_rfl) (by kernel_rfl) hNP hU rfl (fun w' hq => pv_ia (tS rfl) rfl rfl (by omega)) ?_)
        refine fw_last (by kernel_rfl) rfl rfl rfl rfl (by kernel_rfl) ?_
        obtain ⟨hw, -⟩ := hU; clear hNP
        have hO9 := hO2.mono hw; rw [← hyl] at hO9; refine act_storeO (i := k) (u := ⟨f.name, f.firm ++ f.pend.extract 0 ((q % 18446744073709551616) % ((f.pend.size : Int) + 1)).toNat, emptyB⟩) (tZ rfl) encF_len encF_one rfl (by omega) rfl rfl hO9 (by omega) ?_; intro w8 hO8 hg8 hz8
        have G8 : Gn (vb (.slice (some ⟨b, 0, none⟩) d.fs.length c0)) wr w8 := (Gn.of_below hw).trans (Gn.of_row hg8 (by rw [hvb]; exact List.mem_singleton.2 rfl))
        rw [hyl] at hO8
        rw [← hff] at hO8
        clear hw
        have hw := Below.refl w8.heap.size w8
        repeat' (first | (refine lw_pure rfl (pv_move rfl) ?_) | (refine lw_pure rfl (pv_assign rfl) ?_) | (refine is_cw ?_; first | (refine cw_region ?_)) | (refine is_qw ?_; first | (with_reducible refine qw_then ?_) | (with_reducible refine qw_in ?_)) | (refine lw_nil ?_) | ((refine is_bin ?_; first | (refine lw_pure rfl (pv_inc rfl rfl (by omega)) ?_))))
        exact qw_round (k + 1, t + 1, ys.set k (firmF f (keep.drop t))) (by repeat' (first | exact trivial | refine ⟨rfl, ?_⟩)) (hR.step hxk hp0 G8 hNv (fun hc x hx hm => hka hc x hx (List.mem_cons_of_mem _ hm)) hO8) (by show d.fs.length - (k + 1) < d.fs.length - k; omega)
      · have hk : 0 ≤ (0 : Int) ∧ (0 : Int) ≤ f.pend.size := by omega
        have hc : f.firm.size + (f.pend.extract 0 (0 : Int).toNat).size ≤ 9223372036854775807 := by rw [size_extract0]; omega
        have hff : firmF f (keep.drop t) = ⟨f.name, f.firm ++ f.pend.extract 0 (0 : Int).toNat, emptyB⟩ := by rw [List.drop_of_length_le (by omega)]; rfl
        repeat' (first | (refine lw_pure rfl (pv_move rfl) ?_) | (refine lw_pure rfl (pv_assign rfl) ?_) | (refine is_cw ?_; first | (refine cw_seq ?_) | (refine cw_region ?_) | (refine cw_false rfl (by first | assumption | exact decide_eq_false (by omega) | exact dec_notF (by omega)) ?_) | (refine cw_skip ?_)) | (refine is_qw ?_; first | (with_reducible refine qw_then ?_)) | (refine lw_nil ?_) | ((refine is_bin ?_; first | (refine lw_pure rfl (pv_lss rfl rfl) ?_) | (refine lw_pure rfl (pv_inc rfl rfl (by omega)) ?_))) | ((refine is_bi ?_; first | (refine lw_pure rfl (pv_lenl (tS rfl) rfl) ?_))))
        refine cw_drawnF 27 (fun w' => Below wr.heap.size wr w' ∧ True) (by kernel_rfl) (by repeat (first | exact NoPanic.body | with_reducible refine NoPanic.then ?_ | with_reducible refine NoPanic.inBlock ?_)) (fun hNP => ?_)
        have hU := And.intro hw.drew trivial
        first | (refine fw_take 0 rfl (by kernel_rfl) rfl rfl (by kernel_rfl) (by kernel_rfl) (by kernel_rfl) hNP hU rfl (fun w' hq => pv_move rfl) ?_)
        first | (refine fw_take 1 rfl (by kernel_rfl) rfl rfl (by kernel_rfl) (by kernel_rfl) (by kernel_rfl) hNP hU rfl (fun w' hq => pv_nilp rfl) ?_)
        first | (refine fw_take 2 rfl (by kernel_rfl) rfl rfl (by kernel_rfl) (by kernel_rfl) (by kernel_rfl) hNP hU rfl (fun w' hq => pv_fa (tF rfl) rfl) ?_)
        first | (refine fw_take 3 rfl (by kernel_rfl) rfl rfl (by kernel_rfl) (by kernel_rfl) (by kernel_rfl) hNP hU rfl (fun w' hq => pv_load (t1 rfl) rfl (by first | exact PT.ld0 hq.2 rfl | exact PT.ld hq.2 rfl)) ?_) | (refine fw_take 3 rfl (by kernel_rfl) rfl rfl (by kernel_rfl) (by kernel_rfl) (by kernel_rfl) hNP hU rfl (fun w' hq => pv_loada (tA rfl) rfl (by first | exact PT.lda hq.2) (by rfl)) ?_) | (refine fw_take 3 rfl (by kernel_rfl) rfl rfl (by kernel_rfl) (by kernel_rfl) (by kernel_rfl) hNP hU rfl (fun w' hq => pv_load (t1 rfl) rfl (by first | exact PT.ld0 (H.mono hq.1) rfl | exact PT.ld (H.mono hq.1) rfl | exact SlR.ld (HY.mono hq.1) hyk rfl | exact SlR.ld1 (HY.mono hq.1) hyk rfl)) ?_) | (refine fw_take 3 rfl (by kernel_rfl) rfl rfl (by kernel_rfl) (by kernel_rfl) (by kernel_rfl) hNP hU rfl (fun w' hq => pv_loada (tA rfl) rfl (by first | exact PT.lda (H.mono hq.1) | exact SlR.lda (HY.mono hq.1) hyk) (by rfl)) ?_)
        first | (refine fw_take 4 rfl (by kernel_rfl) rfl rfl (by kernel_rfl) (by kernel_rfl) (by kernel_rfl) hNP hU rfl (fun w' hq => pv_move rfl) ?_)
        first | (refine fw_take 5 rfl (by kernel_rfl) rfl rfl (by kernel_rfl) (by kernel_rfl) (by kernel_rfl) hNP hU rfl (fun w' hq => pv_move rfl) ?_)
        first | (refine fw_take 6 rfl (by kernel_rfl) rfl rfl (by kernel_rfl) (by kernel_rfl) (by kernel_rfl) hNP hU rfl (fun w' hq => pv_nilp rfl) ?_)
        first | (refine fw_take 7 rfl (by kernel_rfl) rfl rfl (by kernel_rfl) (by kernel_rfl) (by kernel_rfl) hNP hU rfl (fun w' hq => pv_fa (tF rfl) rfl) ?_)
        first | (refine fw_take 8 rfl (by kernel_rfl) rfl rfl (by kernel_rfl) (by kernel_rfl) (by kernel_rfl) hNP hU rfl (fun w' hq => pv_load (t1 rfl) rfl (by first | exact PT.ld0 hq.2 rfl | exact PT.ld hq.2 rfl)) ?_) | (refine fw_take 8 rfl (by kernel_rfl) rfl rfl (by kernel_rfl) (by kernel_rfl) (by kernel_rfl) hNP hU rfl (fun w' hq => pv_loada (tA rfl) rfl (by first | exact PT.lda hq.2) (by rfl)) ?_) | (refine fw_take 8 rfl (by kernel_rfl) rfl rfl (by kernel_rfl) (by kernel_rfl) (by kernel_rfl) hNP hU rfl (fun w' hq => pv_load (t1 rfl) rfl (by first | exact PT.ld0 (H.mono hq.1) rfl | exact PT.ld (H.mono hq.1) rfl | exact SlR.ld (HY.mono hq.1) hyk rfl | exact SlR.ld1 (HY.mono hq.1) hyk rfl)) ?_) | (refine fw_take 8 rfl (by kernel_rfl) rfl rfl (by kernel_rfl) (by kernel_rfl) (by kernel_rfl) hNP hU rfl (fun w' hq => pv_loada (tA rfl) rfl (by first | exact PT.lda (H.mono hq.1) | exact SlR.lda (HY.mono hq.1) hyk) (by rfl)) ?_)
        first | (refine fw_take 9 rfl (by kernel_rfl) rfl rfl (by kernel_rfl) (by kernel_rfl) (by kernel_rfl) hNP hU rfl (fun w' hq => pv_move rfl) ?_)
        first | (refine fw_take 10 rfl (by kernel_rfl) rfl rfl (by kernel_rfl) (by kernel_rfl) (by kernel_rfl) hNP hU rfl (fun w' hq => pv_ian (tS rfl) rfl rfl (by omega)) ?_) | (refine fw_take 10 rfl (by kernel_rfl) rfl rfl (by kernel_rfl) (by kernel_rfl) (by kernel_rfl) hNP hU rfl (fun w' hq => pv_ia (tS rfl) rfl rfl (by omega)) ?_)
        first | (refine fw_take 11 rfl (by kernel_rfl) rfl rfl (by kernel_rfl) (by kernel_rfl) (by kernel_rfl) hNP hU rfl (fun w' hq => pv_fa (tF rfl) rfl) ?_)
        first | (refine fw_take 12 rfl (by kernel_rfl) rfl rfl (by kernel_rfl) (by kernel_rfl) (by kernel_rfl) hNP hU rfl (fun w' hq => pv_load (t1 rfl) rfl (by first | exact PT.ld0 hq.2 rfl | exact PT.ld hq.2 rfl)) ?_) | (refine fw_take 12 rfl (by kernel_rfl) rfl rfl (by kernel_rfl) (by kernel_rfl) (by kernel_rfl) hNP hU rfl (fun w' hq => pv_loada (tA rfl) rfl (by first | exact PT.lda hq.2) (by rfl)) ?_) | (refine fw_take 12 rfl (by kernel_rfl) rfl rfl (by kernel_rfl) (by kernel_rfl) (by kernel_rfl) hNP hU rfl (fun w' hq => pv_load (t1 rfl) rfl (by first | exact PT.ld0 (H.mono hq.1) rfl | exact PT.ld (H.mono hq.1) rfl | exact SlR.ld (HY.mono hq.1) hyk rfl | exact SlR.ld1 (HY.mono hq.1) hyk rfl)) ?_) | (refine fw_take 12 rfl (by kernel_rfl) rfl rfl (by kernel_rfl) (by kernel_rfl) (by kernel_rfl) hNP hU rfl (fun w' hq => pv_loada (tA rfl) rfl (by first | exact PT.lda (H.mono hq.1) | exact SlR.lda (HY.mono hq.1) hyk) (by rfl)) ?_)
        first | (refine fw_take 13 rfl (by kernel_rfl) rfl rfl (by kernel_rfl) (by kernel_rfl) (by kernel_rfl) hNP hU rfl (fun w' hq => pv_move rfl) ?_)
        first | (refine fw_take 14 rfl (by kernel_rfl) rfl rfl (by kernel_rfl) (by kernel_rfl) (by kernel_rfl) hNP hU rfl (fun w' hq => pv_nilp rfl) ?_)
        first | (refine fw_take 15 rfl (by kernel_rfl) rfl rfl (by kernel_rfl) (by kernel_rfl) (by kernel_rfl) hNP hU rfl (fun w' hq => pv_fa (tF rfl) rfl) ?_)
        first | (refine fw_take 16 rfl (by kernel_rfl) rfl rfl (by kernel_rfl) (by kernel_rfl) (by kernel_rfl) hNP hU rfl (fun w' hq => pv_load (t1 rfl) rfl (by first | exact PT.ld0 hq.2 rfl | exact PT.ld hq.2 rfl)) ?_) | (refine fw_take 16 rfl (by kernel_rfl) rfl rfl (by kernel_rfl) (by kernel_rfl) (by kernel_rfl) hNP hU rfl (fun w' hq => pv_loada (tA rfl) rfl (by first | exact PT.lda hq.2) (by rfl)) ?_) | (refine fw_take 16 rfl (by kernel_rfl) rfl rfl (by kernel_rfl) (by kernel_rfl) (by kernel_rfl) hNP hU rfl (fun w' hq => pv_load (t1 rfl) rfl (by first | exact PT.ld0 (H.mono hq.1) rfl | exact PT.ld (H.mono hq.1) rfl | exact SlR.ld (HY.mono hq.1) hyk rfl | exact SlR.ld1 (HY.mono hq.1) hyk rfl)) ?_) | (refine fw_take 16 rfl (by kernel_rfl) rfl rfl (by kernel_rfl) (by kernel_rfl) (by kernel_rfl) hNP hU rfl (fun w' hq => pv_loada (tA rfl) rfl (by first | exact PT.lda (H.mono hq.1) | exact SlR.lda (HY.mono hq.1) hyk) (by rfl)) ?_)
        first | (refine fw_take 17 rfl (by kernel_rfl) rfl rfl (by kernel_rfl) (by kernel_rfl) (by kernel_rfl) hNP hU rfl (fun w' hq => pv_move rfl) ?_)
        first | (refine fw_take 18 rfl (by kernel_rfl) rfl rfl (by kernel_rfl) (by kernel_rfl) (by kernel_rfl) hNP hU rfl (fun w' hq => pv_ian (tS rfl) rfl rfl (by omega)) ?_) | (refine fw_take 18 rfl (by kernel_rfl) rfl rfl (by kernel_rfl) (by kernel_rfl) (by kernel_rfl) hNP hU rfl (fun w' hq => pv_ia (tS rfl) rfl rfl (by omega)) ?_)
        first | (refine fw_take 19 rfl (by kernel_rfl) rfl rfl (by kernel_rfl) (by kernel_rfl) (by kernel_rfl) hNP hU rfl (fun w' hq => pv_fa (tF rfl) rfl) ?_)
        first | (refine fw_take 20 rfl (by kernel_rfl) rfl rfl (by kernel_rfl) (by kernel_rfl) (by kernel_rfl) hNP hU rfl (fun w' hq => pv_load (t1 rfl) rfl (by first | exact PT.ld0 hq.2 rfl | exact PT.ld hq.2 rfl)) ?_) | (refine fw_take 20 rfl (by kernel_rfl) rfl rfl (by kernel_rfl) (by kernel_rfl) (by kernel_rfl) hNP hU rfl (fun w' hq => pv_loada (tA rfl) rfl (by first | exact PT.lda hq.2) (by rfl)) ?_) | (refine fw_take 20 rfl (by kernel_rfl) rfl rfl (by kernel_rfl) (by kernel_rfl) (by kernel_rfl) hNP hU rfl (fun w' hq => pv_load (t1 rfl) rfl (by first | exact PT.ld0 (H.mono hq.1) rfl | exact PT.ld (H.mono hq.1) rfl | exact SlR.ld (HY.mono hq.1) hyk rfl | exact SlR.ld1 (HY.mono hq.1) hyk rfl)) ?_) | (refine fw_take 20 rfl (by kernel_rfl) rfl rfl (by kernel_rfl) (by kernel_rfl) (by kernel_rfl) hNP hU rfl (fun w' hq => pv_loada (tA rfl) rfl (by first | exact PT.lda (H.mono hq.1) | exact SlR.lda (HY.mono hq.1) hyk) (by rfl)) ?_)
        first | (refine fw_take 21 rfl (by kernel_rfl) rfl rfl (by kernel_rfl) (by kernel_rfl) (by kernel_rfl) hNP hU rfl (fun w' hq => pv_move rfl) ?_)
        first | (refine fw_take 22 rfl (by kernel_rfl) rfl rfl (by kernel_rfl) (by kernel_rfl) (by kernel_rfl) hNP hU rfl (fun w' hq => pv_move rfl) ?_)
        first | (refine fw_take 23 rfl (by kernel_rfl) rfl rfl (by kernel_rfl) (by kernel_rfl) (by kernel_rfl) hNP hU rfl (fun w' hq => pv_sleft (tStr rfl) rfl rfl hk) ?_) | (refine fw_take 23 rfl (by kernel_rfl) rfl rfl (by kernel_rfl) (by kernel_rfl) (by kernel_rfl) hNP hU rfl (fun w' hq => pv_slice_l (tS rfl) rfl rfl (by omega)) ?_) | (refine fw_take 23 rfl (by kernel_rfl) rfl rfl (by kernel_rfl) (by kernel_rfl) (by kernel_rfl) hNP hU rfl (fun w' hq => pv_slice_h (tS rfl) rfl rfl (by omega)) ?_) | (refine fw_take 23 rfl (by kernel_rfl) rfl rfl (by kernel_rfl) (by kernel_rfl) (by kernel_rfl) hNP hU rfl (fun w' hq => pv_slice_lh (tS rfl) rfl rfl rfl (by omega)) ?_)
        first | (refine fw_take 24 rfl (by kernel_rfl) rfl rfl (by kernel_rfl) (by kernel_rfl) (by kernel_rfl) hNP hU rfl (fun w' hq => pv_cat rfl rfl hc) ?_) | (refine fw_take 24 rfl (by kernel_rfl) rfl rfl (by kernel_rfl) (by kernel_rfl) (by kernel_rfl) hNP hU rfl (fun w' hq => pv_lss rfl rfl) ?_) | (refine fw_take 24 rfl (by kernel_rfl) rfl rfl (by kernel_rfl) (by kernel_rfl) (by kernel_rfl) hNP hU rfl (fun w' hq => pv_eql rfl rfl) ?_) | (refine fw_take 24 rfl (by kernel_rfl) rfl rfl (by kernel_rfl) (by kernel_rfl) (by kernel_rfl) hNP hU rfl (fun w' hq => pv_inc rfl rfl (by omega)) ?_) | (refine fw_take 24 rfl (by kernel_rfl) rfl rfl (by kernel_rfl) (by kernel_rfl) (by kernel_rfl) hNP hU rfl (fun w' hq => pv_add rfl rfl (by omega)) ?_) | (refine fw_take 24 rfl (by kernel_rfl) rfl rfl (by kernel_rfl) (by kernel_rfl) (by kernel_rfl) hNP hU rfl (fun w' hq => pv_seqlD rfl rfl) ?_)
        first | (refine fw_take 25 rfl (by kernel_rfl) rfl rfl (by kernel_rfl) (by kernel_rfl) (by kernel_rfl) hNP hU rfl (fun w' hq => tyB_54 rfl rfl rfl) ?_)
        first | (refine fw_take 26 rfl (by kernel_rfl) rfl rfl (by kernel_rfl) (by kernel_rfl) (by kernel_rfl) hNP hU rfl (fun w' hq => pv_ian (tS rfl) rfl rfl (by omega)) ?_) | (refine fw_take 26 rfl (by kernel_rfl) rfl rfl (by kernel_rfl) (by kernel_rfl) (by kernel_rfl) hNP hU rfl (fun w' hq => pv_ia (tS rfl) rfl rfl (by omega)) ?_)
        refine fw_last (by kernel_rfl) rfl rfl rfl rfl (by kernel_rfl) ?_
        obtain ⟨hw, -⟩ := hU; clear hNP
        have hO9 := hO2.mono hw; rw [← hyl] at hO9; refine act_storeO (i := k) (u := ⟨f.name, f.firm ++ f.pend.extract 0 (0 : Int).toNat, emptyB⟩) (tZ rfl) encF_len encF_one rfl (by omega) rfl rfl hO9 (by omega) ?_; intro w8 hO8 hg8 hz8
        have G8 : Gn (vb (.slice (some ⟨b, 0, none⟩) d.fs.length c0)) wr w8 := (Gn.of_below hw).trans (Gn.of_row hg8 (by rw [hvb]; exact List.mem_singleton.2 rfl))
        rw [hyl] at hO8
        rw [← hff] at hO8
        clear hw
        have hw := Below.refl w8.heap.size w8
        repeat' (first | (refine lw_pure rfl (pv_move rfl) ?_) | (refine lw_pure rfl (pv_assign rfl) ?_) | (refine is_cw ?_; first | (refine cw_region ?_)) | (refine is_qw ?_; first | (with_reducible refine qw_then ?_) | (with_reducible refine qw_in ?_)) | (refine lw_nil ?_) | ((refine is_bin ?_; first | (refine lw_pure rfl (pv_inc rfl rfl (by omega)) ?_))))
        exact qw_round (k + 1, t + 1, ys.set k (firmF f (keep.drop t))) (by repeat' (first | exact trivial | refine ⟨rfl, ?_⟩)) (hR.step hxk hp0 G8 hNv (fun hc x hx hm => hka hc x hx (List.mem_cons_of_mem _ hm)) hO8) (by show d.fs.length - (k + 1) < d.fs.length - k; omega)
  · have hke : k = d.fs.length := by omega
    subst hke
    have hfs := hR.fs
    rw [List.drop_length, ← hyl, List.take_length, crashF, List.append_nil] at hfs
    have hO2 := hR.own
    repeat' (first | (refine lw_pure rfl (pv_move rfl) ?_) | (refine is_cw ?_; first | (refine cw_seq ?_) | (refine cw_region ?_) | (refine cw_false rfl (by first | assumption | exact decide_eq_false (by omega) | exact dec_notF (by omega)) ?_) | (refine cw_exit ?_)) | (refine is_qw ?_; first | (with_reducible refine qw_then ?_) | (with_reducible refine qw_in_hit ?_) | (with_reducible refine qw_then_exit ?_)) | (refine lw_nil ?_) | ((refine is_bin ?_; first | (refine lw_pure rfl (pv_lss rfl rfl) ?_))) | ((refine is_load ?_; first | (refine lw_pure rfl (pv_load (t1 rfl) rfl (by first | exact PT.ld0 (H.mono hw) rfl | exact PT.ld (H.mono hw) rfl)) ?_))) | ((refine is_fa ?_; first | (refine lw_pure rfl (pv_fa (tF rfl) rfl) ?_))) | ((refine is_bi ?_; first | (refine lw_pure rfl (pv_lenl (tS rfl) rfl) ?_))) | (refine lw_pure rfl (pv_nilp rfl) ?_))
    refine lw_store (H.mono hw) (tZ rfl) rfl rfl rfl (by simp) ?_; intro w5 H5 hg5 hz5
    have G5 : Gn (N :: vb (.slice a0 d.fs.length c0)) wr w5 := (Gn.of_below hw).trans (Gn.of_row hg5 List.mem_cons_self)
    clear hw
    have hw := Below.refl w5.heap.size w5
    repeat' (first | (refine lw_pure rfl (pv_move rfl) ?_) | (refine is_cw ?_; first | (refine cw_region ?_)) | (refine is_qw ?_; first | (with_reducible refine qw_then ?_)) | (refine lw_nil ?_) | ((refine is_fa ?_; first | (refine lw_pure rfl (pv_fa (tF rfl) rfl) ?_))) | (refine lw_pure rfl (pv_nilp rfl) ?_))
    refine lw_store H5 (tZ rfl) rfl rfl rfl (by simp) ?_; intro w6 H6 hg6 hz6
    have G6 := G5.trans (Gn.of_row hg6 List.mem_cons_self)
    have g1 : Gn [N] wr w6 := (Gn.of_row (grown_in (Below.refl _ _) hg5) (List.mem_singleton.2 rfl)).trans (Gn.of_row hg6 (List.mem_singleton.2 rfl))
    clear hw
    have hw := Below.refl w6.heap.size w6
    repeat' (first | (refine lw_nil ?_))
    exact qw_end0 rfl ⟨rfl, ⟨⟨_, ⟨H6, by show Own _ _ _ _ _ _ (crashF d.fs keep); rw [hfs]; exact hO2.gn g1 (fun q hq hm => by rw [List.mem_singleton] at hm; subst hm; exact h.ne hq), hokc⟩, NewV.refl _ _⟩, hR.gn.trans G6⟩⟩

set_option maxRecDepth 20000 in
set_option maxHeartbeats 1000000 in
theorem crash0_c {w : World} {N B : Nat} {d : Dsk} {kc : Nat} {ka : Option Addr} (h : DkW w N B d) : Calls Tryz.prog 19 #[.pointer (some ⟨N, 0, none⟩), .slice ka 0 kc] w fun e w' => e = .returned (.int .i64 0) ∧ DkW w' N B (crashD d []) ∧ Gw N B w w' := by
  have hlt := h.lt
  have hw := Below.refl w.heap.size w
  refine fn_enter 62 Tryz.func19 rfl rfl rfl ?_
  repeat' (first | (refine lw_pure rfl (pv_move rfl) ?_) | (refine lw_pure rfl (pv_assign rfl) ?_) | (refine is_cw ?_; first | (refine cw_seq ?_) | (refine cw_region ?_) | (refine cw_false rfl rfl ?_) | (refine cw_skip ?_)) | (refine is_qw ?_; first | (with_reducible refine qw_then ?_)) | (refine lw_nil ?_) | ((refine is_bin ?_; first | (refine lw_pure rfl (pv_pnil tpD rfl rfl) ?_))))
  refine lw_call (f := 56) (by kernel_rfl) rfl rfl (names_c (h.mono hw)) ?_; rintro e w2 ⟨⟨nv, rfl, hO⟩, hb⟩; refine ⟨_, rfl, ?_⟩
  replace hw := grow_trans hw hb
  clear hb
  obtain ⟨na, nc, rfl, HN, hnb⟩ := Own.slR encT_len hO
  rw [List.length_map]
  have hw0 := hw
  repeat' (first | (refine lw_pure rfl (pv_move rfl) ?_) | (refine is_cw ?_; first | (refine cw_block ?_)) | (refine is_qw ?_; first | (with_reducible refine qw_then ?_)) | (refine lw_nil ?_) | ((refine is_bi ?_; first | (refine lw_pure rfl (pv_lenl (tS rfl) rfl) ?_))))
  refine cw_loop (σ := Nat × List Fil × List Fil) (fun s => [(0, .pointer (some ⟨N, 0, none⟩)), (1, .slice ka 0 kc), (12, .slice na d.fs.length nc), (13, .int .i64 (d.fs.length : Nat)), (14, .int .i64 (s.1 : Nat))]) (fun s wr => CrR w2 wr N B d [] na nc s.1 s.2.1 s.2.2 [] none 0) (fun s => s.2.2.length) (0, [], d.fs) (by repeat' (first | exact trivial | refine ⟨rfl, ?_⟩)) ⟨h.mono hw, Gw.of_below (Below.refl _ _), HN, SlR.nil w2, fun x hx => (by cases hx), fun x hx => by have := (hnb x hx).1; have := hlt.2; omega, rfl, rfl, rfl⟩ ?_
  clear hw
  rintro ⟨k, pre, rest⟩ wr hR
  replace hR : CrR w2 wr N B d [] na nc k pre rest [] none 0 := hR
  have hall := hR.all
  have H := hR.dk.obj
  obtain ⟨m, hm, hp⟩ := hR.dk.mp
  have hw := Below.refl wr.heap.size wr
  have HN2 := hR.nm
  have hct := h.ok.cnt
  cases rest with
  | nil =>
    rw [List.length_nil] at hall
    repeat' (first | (refine lw_pure rfl (pv_move rfl) ?_) | (refine is_cw ?_; first | (refine cw_seq ?_) | (refine cw_region ?_) | (refine cw_false rfl (by first | assumption | exact decide_eq_false (by omega) | exact dec_notF (by omega)) ?_) | (refine cw_exit ?_)) | (refine is_qw ?_; first | (with_reducible refine qw_then ?_) | (with_reducible refine qw_in_hit ?_) | (with_reducible refine qw_then_exit ?_)) | (refine lw_nil ?_) | ((refine is_bin ?_; first | (refine lw_pure rfl (pv_lss rfl rfl) ?_))) | ((refine is_fa ?_; first | (refine lw_pure rfl (pv_fa (tF rfl) rfl) ?_))) | (refine lw_pure rfl (pv_nilp rfl) ?_))
    refine lw_store (H.mono hw) (tZ rfl) rfl rfl rfl (by simp) ?_; intro w5 H5 hg5 hz5
    have G5 := (Gw.of_below (a := N) (b := B) hw).trans (Gw.of_a hg5)
    clear hw
    have hw := Below.refl w5.heap.size w5
    repeat' (first | ((refine is_fa ?_; first | (refine lw_pure rfl (pv_fa (tF rfl) rfl) ?_))) | (refine lw_pure rfl (pv_nilp rfl) ?_))
    refine lw_store H5 (tZ rfl) rfl rfl rfl (by simp) ?_; intro w6 H6 hg6 hz6
    have G6 := G5.trans (Gw.of_a hg6)
    clear hw
    have hw := Below.refl w6.heap.size w6
    repeat' (first | (refine lw_pure rfl (pv_assign rfl) ?_) | (refine is_cw ?_; first | (refine cw_seq ?_) | (refine cw_region ?_) | (refine cw_ret ?_)) | (refine is_qw ?_; first | (with_reducible refine qw_then ?_)) | (refine lw_nil ?_))
    have hne := hR.dk.ne
    have hfs : pre = crashF d.fs [] := by have := hR.fs; simpa [crashF] using this
    have hm6 := (hm.gw ((Gw.of_below (a := N) (b := N) (Below.refl _ wr)).trans (Gw.of_a hg5)) hne.symm hne.symm).gw (Gw.of_a (a := N) (b := N) hg6) hne.symm hne.symm
    refine qw_ret1 rfl rfl ⟨rfl, ⟨H6, ⟨m, hm6, ?_⟩, h.ok.crash []⟩, (Gw.of_below hw0).trans ((hR.gw.wide N).swap.trans G6)⟩
    rw [List.append_nil] at hp
    rw [show (crashD d []).fs = crashF d.fs [] from rfl, ← hfs]; exact hp
  | cons f r =>
    rw [List.length_cons] at hall
    have hnk := hR.name
    have hs := hR.dk.ok.srt
    have hg : getF (pre ++ f :: r) f.name = some f := (getF_iff hs).2 ⟨by simp, rfl⟩
    have hsz := getF_sz hR.dk.ok hg
    have hn : f.name.size ≤ 9223372036854775807 := by omega
    have hpg : getM m f.name = some (f.firm, f.pend) := by rw [perm_get (φ := fun f => (f.firm, f.pend)) hp hs, hg]; rfl
    obtain ⟨nab, nao, rfl, -, -⟩ := HN2.at (by intro h; rw [h] at hnk; simp at hnk)
    repeat' (first | (refine lw_pure rfl (pv_move rfl) ?_) | (refine lw_pure rfl (pv_assign rfl) ?_) | (refine lw_pure rfl (pv_look (k := f.name) Tryz.underlying58 keyS zF hn hpg rfl rfl (hm.mono hw)) ?_) | (refine is_cw ?_; first | (refine cw_seq ?_) | (refine cw_region ?_) | (refine cw_true rfl (by first | assumption | exact decide_eq_true (by omega) | exact dec_notT (by omega)) ?_) | (refine cw_skip ?_) | (refine cw_block ?_)) | (refine is_qw ?_; first | (with_reducible refine qw_then ?_)) | (refine lw_nil ?_) | ((refine is_bin ?_; first | (refine lw_pure rfl (pv_lss rfl rfl) ?_))) | ((refine is_load ?_; first | (refine lw_pure rfl (pv_load (t1 rfl) rfl (by first | exact SlR.ld (HN2.mono hw) hnk rfl | exact SlR.ld1 (HN2.mono hw) hnk rfl | exact PT.ld0 (H.mono hw) rfl | exact PT.ld (H.mono hw) rfl)) ?_))) | ((refine is_fa ?_; first | (refine lw_pure rfl (pv_fa (tF rfl) rfl) ?_))) | ((refine is_ia ?_; first | (refine lw_pure rfl (pv_ian (tS rfl) rfl rfl (by omega)) ?_))) | (refine lw_pure rfl (pv_nilp rfl) ?_))
    refine lw_varN rfl (by first | exact tyv_35 | exact tyv_36 | exact tyv_53 | exact tyv_54 | exact tyv_56 | exact tyv_57 | exact tyv_59 | exact tyv_60 | exact tyv_62 | exact tyv_63 | exact tyv_122 | exact tyv_123) rfl (tZ rfl) (fun _ => rfl) rfl rfl ?_; intro N7 wn hN7 H7 hb; replace hN7 := Nat.le_trans hw.size hN7; replace hw := grow_trans hw hb; clear hb
    replace H7 : PT wn N7 63 [.string f.firm, .string f.pend] := H7
    have hwB := hw
    replace H := H.mono hw; replace hm := hm.mono hw; clear hw; have hw := Below.refl wn.heap.size wn
    by_cases hp0 : f.pend.size = 0
    · have hE : decide (f.pend = (⟨#[]⟩ : ByteArray)) = true := decide_eq_true (by cases hf : f.pend with | mk a => rw [hf] at hp0; rw [show a = #[] from Array.eq_empty_of_size_eq_zero hp0])
      repeat' (first | (refine lw_pure rfl (pv_move rfl) ?_) | (refine is_cw ?_; first | (refine cw_seq ?_) | (refine cw_region ?_) | (refine cw_true rfl (by first | assumption | exact decide_eq_true (by omega) | exact dec_notT (by omega)) ?_) | (refine cw_exit ?_)) | (refine is_qw ?_; first | (with_reducible refine qw_then ?_) | (with_reducible refine qw_in_hit ?_) | (with_reducible refine qw_then_exit ?_)) | (refine lw_nil ?_) | ((refine is_bin ?_; first | (refine lw_pure rfl (pv_inc rfl rfl (by omega)) ?_) | (refine lw_pure rfl (pv_seqlD rfl rfl) ?_))) | ((refine is_load ?_; first | (refine lw_pure rfl (pv_load (t1 rfl) rfl (by first | exact PT.ld0 (H7.mono hw) rfl | exact PT.ld (H7.mono hw) rfl)) ?_))) | ((refine is_fa ?_; first | (refine lw_pure rfl (pv_fa (tF rfl) rfl) ?_))))
      exact qw_round (k + 1, pre ++ [f], r) (by repeat' (first | exact trivial | refine ⟨rfl, ?_⟩)) (hR.skip (grow_trans hwB hw) hp0) (by show r.length < (f :: r).length; simp)
    · have hE : decide (f.pend = (⟨#[]⟩ : ByteArray)) = false := decide_eq_false (fun e => hp0 (by rw [e]; rfl))
      have hk : 0 ≤ (0 : Int) ∧ (0 : Int) ≤ f.pend.size := by omega
      have hc : f.firm.size + (f.pend.extract 0 (0 : Int).toNat).size ≤ 9223372036854775807 := by rw [size_extract0]; omega
      repeat' (first | (refine lw_pure rfl (pv_move rfl) ?_) | (refine lw_pure rfl (pv_assign rfl) ?_) | (refine is_cw ?_; first | (refine cw_seq ?_) | (refine cw_region ?_) | (refine cw_false rfl rfl ?_) | (refine cw_false rfl (by first | assumption | exact decide_eq_false (by omega) | exact dec_notF (by omega)) ?_) | (refine cw_skip ?_)) | (refine is_qw ?_; first | (with_reducible refine qw_then ?_)) | (refine lw_nil ?_) | ((refine is_bin ?_; first | (refine lw_pure rfl (pv_gtr rfl rfl) ?_) | (refine lw_pure rfl (pv_seqlD rfl rfl) ?_))) | ((refine is_load ?_; first | (refine lw_pure rfl (pv_load (t1 rfl) rfl (by first | exact PT.ld0 (H7.mono hw) rfl | exact PT.ld (H7.mono hw) rfl)) ?_))) | ((refine is_fa ?_; first | (refine lw_pure rfl (pv_fa (tF rfl) rfl) ?_))) | ((refine is_bi ?_; first | (refine lw_pure rfl (pv_lenl (tS rfl) rfl) ?_))))
      refine cw_drawnF 13 (fun w' => Below wn.heap.size wn w' ∧ True) (by kernel_rfl) (by repeat (first | exact NoPanic.body | with_reducible refine NoPanic.then ?_ | with_reducible refine NoPanic.inBlock ?_)) (fun hNP => ?_)
      have hU := And.intro hw.drew trivial
      first | (refine fw_take 0 rfl (by kernel_rfl) rfl rfl (by kernel_rfl) (by kernel_rfl) (by kernel_rfl) hNP hU rfl (fun w' hq => pv_move rfl) ?_)
      first | (refine fw_take 1 rfl (by kernel_rfl) rfl rfl (by kernel_rfl) (by kernel_rfl) (by kernel_rfl) hNP hU rfl (fun w' hq => pv_nilp rfl) ?_)
      first | (refine fw_take 2 rfl (by kernel_rfl) rfl rfl (by kernel_rfl) (by kernel_rfl) (by kernel_rfl) hNP hU rfl (fun w' hq => pv_fa (tF rfl) rfl) ?_)
      first | (refine fw_take 3 rfl (by kernel_rfl) rfl rfl (by kernel_rfl) (by kernel_rfl) (by kernel_rfl) hNP hU rfl (fun w' hq => pv_load (t1 rfl) rfl (by first | exact PT.ld0 hq.2 rfl | exact PT.ld hq.2 rfl)) ?_) | (refine fw_take 3 rfl (by kernel_rfl) rfl rfl (by kernel_rfl) (by kernel_rfl) (by kernel_rfl) hNP hU rfl (fun w' hq => pv_loada (tA rfl) rfl (by first | exact PT.lda hq.2) (by rfl)) ?_) | (refine fw_take 3 rfl (by kernel_rfl) rfl rfl (by kernel_rfl) (by kernel_rfl) (by kernel_rfl) hNP hU rfl (fun w' hq => pv_load (t1 rfl) rfl (by first | exact PT.ld0 (H7.mono hq.1) rfl | exact PT.ld (H7.mono hq.1) rfl | exact PT.ld0 (H.mono hq.1) rfl | exact PT.ld (H.mono hq.1) rfl)) ?_) | (refine fw_take 3 rfl (by kernel_rfl) rfl rfl (by kernel_rfl) (by kernel_rfl) (by kernel_rfl) hNP hU rfl (fun w' hq => pv_loada (tA rfl) rfl (by first | exact PT.lda (H7.mono hq.1) | exact PT.lda (H.mono hq.1)) (by rfl)) ?_)
      first | (refine fw_take 4 rfl (by kernel_rfl) rfl rfl (by kernel_rfl) (by kernel_rfl) (by kernel_rfl) hNP hU rfl (fun w' hq => pv_move rfl) ?_)
      first | (refine fw_take 5 rfl (by kernel_rfl) rfl rfl (by kernel_rfl) (by kernel_rfl) (by kernel_rfl) hNP hU rfl (fun w' hq => pv_fa (tF rfl) rfl) ?_)
      first | (refine fw_take 6 rfl (by kernel_rfl) rfl rfl (by kernel_rfl) (by kernel_rfl) (by kernel_rfl) hNP hU rfl (fun w' hq => pv_load (t1 rfl) rfl (by first | exact PT.ld0 hq.2 rfl | exact PT.ld hq.2 rfl)) ?_) | (refine fw_take 6 rfl (by kernel_rfl) rfl rfl (by kernel_rfl) (by kernel_rfl) (by kernel_rfl) hNP hU rfl (fun w' hq => pv_loada (tA rfl) rfl (by first | exact PT.lda hq.2) (by rfl)) ?_) | (refine fw_take 6 rfl (by kernel_rfl) rfl rfl (by kernel_rfl) (by kernel_rfl) (by kernel_rfl) hNP hU rfl (fun w' hq => pv_load (t1 rfl) rfl (by first | exact PT.ld0 (H7.mono hq.1) rfl | exact PT.ld (H7.mono hq.1) rfl | exact PT.ld0 (H.mono hq.1) rfl | exact PT.ld (H.mono hq.1) rfl)) ?_) | (refine fw_take 6 rfl (by kernel_rfl) rfl rfl (by kernel_rfl) (by kernel_rfl) (by kernel_rfl) hNP hU rfl (fun w' hq => pv_loada (tA rfl) rfl (by first | exact PT.lda (H7.mono hq.1) | exact PT.lda (H.mono hq.1)) (by rfl)) ?_)
      first | (refine fw_take 7 rfl (by kernel_rfl) rfl rfl (by kernel_rfl) (by kernel_rfl) (by kernel_rfl) hNP hU rfl (fun w' hq => pv_fa (tF rfl) rfl) ?_)
      first | (refine fw_take 8 rfl (by kernel_rfl) rfl rfl (by kernel_rfl) (by kernel_rfl) (by kernel_rfl) hNP hU rfl (fun w' hq => pv_load (t1 rfl) rfl (by first | exact PT.ld0 hq.2 rfl | exact PT.ld hq.2 rfl)) ?_) | (refine fw_take 8 rfl (by kernel_rfl) rfl rfl (by kernel_rfl) (by kernel_rfl) (by kernel_rfl) hNP hU rfl (fun w' hq => pv_loada (tA rfl) rfl (by first | exact PT.lda hq.2) (by rfl)) ?_) | (refine fw_take 8 rfl (by kernel_rfl) rfl rfl (by kernel_rfl) (by kernel_rfl) (by kernel_rfl) hNP hU rfl (fun w' hq => pv_load (t1 rfl) rfl (by first | exact PT.ld0 (H7.mono hq.1) rfl | exact PT.ld (H7.mono hq.1) rfl | exact PT.ld0 (H.mono hq.1) rfl | exact PT.ld (H.mono hq.1) rfl)) ?_) | (refine fw_take 8 rfl (by kernel_rfl) rfl rfl (by kernel_rfl) (by kernel_rfl) (by kernel_rfl) hNP hU rfl (fun w' hq => pv_loada (tA rfl) rfl (by first | exact PT.lda (H7.mono hq.1) | exact PT.lda (H.mono hq.1)) (by rfl)) ?_)
      first | (refine fw_take 9 rfl (by kernel_rfl) rfl rfl (by kernel_rfl) (by kernel_rfl) (by kernel_rfl) hNP hU rfl (fun w' hq => pv_move rfl) ?_)
      first | (refine fw_take 10 rfl (by kernel_rfl) rfl rfl (by kernel_rfl) (by kernel_rfl) (by kernel_rfl) hNP hU rfl (fun w' hq => pv_sleft (tStr rfl) rfl rfl hk) ?_) | (refine fw_take 10 rfl (by kernel_rfl) rfl rfl (by kernel_rfl) (by kernel_rfl) (by kernel_rfl) hNP hU rfl (fun w' hq => pv_slice_l (tS rfl) rfl rfl (by omega)) ?_) | (refine fw_take 10 rfl (by kernel_rfl) rfl rfl (by kernel_rfl) (by kernel_rfl) (by kernel_rfl) hNP hU rfl (fun w' hq => pv_slice_h (tS rfl) rfl rfl (by omega)) ?_) | (refine fw_take 10 rfl (by kernel_rfl) rfl rfl (by kernel_rfl) (by kernel_rfl) (by kernel_rfl) hNP hU rfl (fun w' hq => pv_slice_lh (tS rfl) rfl rfl rfl (by omega)) ?_)
      first | (refine fw_take 11 rfl (by kernel_rfl) rfl rfl (by kernel_rfl) (by kernel_rfl) (by kernel_rfl) hNP hU rfl (fun w' hq => pv_cat rfl rfl hc) ?_) | (refine fw_take 11 rfl (by kernel_rfl) rfl rfl (by kernel_rfl) (by kernel_rfl) (by kernel_rfl) hNP hU rfl (fun w' hq => pv_lss rfl rfl) ?_) | (refine fw_take 11 rfl (by kernel_rfl) rfl rfl (by kernel_rfl) (by kernel_rfl) (by kernel_rfl) hNP hU rfl (fun w' hq => pv_eql rfl rfl) ?_) | (refine fw_take 11 rfl (by kernel_rfl) rfl rfl (by kernel_rfl) (by kernel_rfl) (by kernel_rfl) hNP hU rfl (fun w' hq => pv_gtr rfl rfl) ?_) | (refine fw_take 11 rfl (by kernel_rfl) rfl rfl (by kernel_rfl) (by kernel_rfl) (by kernel_rfl) hNP hU rfl (fun w' hq => pv_inc rfl rfl (by omega)) ?_) | (refine fw_take 11 rfl (by kernel_rfl) rfl rfl (by kernel_rfl) (by kernel_rfl) (by kernel_rfl) hNP hU rfl (fun w' hq => pv_add rfl rfl (by omega)) ?_) | (refine fw_take 11 rfl (by kernel_rfl) rfl rfl (by kernel_rfl) (by kernel_rfl) (by kernel_rfl) hNP hU rfl (fun w' hq => pv_seqlD rfl rfl) ?_)
      first | (refine fw_take 12 rfl (by kernel_rfl) rfl rfl (by kernel_rfl) (by kernel_rfl) (by kernel_rfl) hNP hU rfl (fun w' hq => tyB_63 rfl rfl rfl) ?_)
      refine fw_last (by kernel_rfl) rfl rfl rfl rfl (by kernel_rfl) ?_
      obtain ⟨hw, -⟩ := hU; clear hNP
      refine act_svs (some_updB (k := f.name) (v := ((firmF f []).firm, emptyB)) Tryz.underlying58 keyS hn rfl rfl rfl (hm.mono hw)) ?_; rintro w8 ⟨hm8, hg8, hz8⟩
      have G8 := (Gw.of_below (a := B) (b := B) (grow_trans hwB hw)).trans (Gw.of_b hg8)
      clear hw
      have hw := Below.refl w8.heap.size w8
      repeat' (first | (refine lw_pure rfl (pv_move rfl) ?_) | (refine is_cw ?_; first | (refine cw_region ?_)) | (refine is_qw ?_; first | (with_reducible refine qw_then ?_) | (with_reducible refine qw_in ?_)) | (refine lw_nil ?_) | ((refine is_bin ?_; first | (refine lw_pure rfl (pv_inc rfl rfl (by omega)) ?_))))
      exact qw_round (k + 1, pre ++ [firmF f []], r) (by repeat' (first | exact trivial | refine ⟨rfl, ?_⟩)) (hR.step G8 hp0 rfl ⟨_, hm8, perm_put (φ := fun f => (f.firm, f.pend)) hp hs (firmF f [])⟩ hR.ks hR.kn) (by show r.length < (f :: r).length; simp)
theorem crashk_c {w : World} {N B : Nat} {d : Dsk} {keep : List Int} {kn kc : Nat} {ka : Option Addr} (h : DkW w N B d) (hkl : keep.length = kn) (HK : SlR encI 1 w ka kc keep) (hka : 0 < kc → ∀ x, ka = some x → x.block ≠ B) : Calls Tryz.prog 19 #[.pointer (some ⟨N, 0, none⟩), .slice ka kn kc] w fun e w' => e = .returned (.int .i64 0) ∧ DkW w' N B (crashD d keep) ∧ Gw N B w w' := by
  by_cases hc : 0 < kc
  · exact crash_c h hkl HK (hka hc)
  · have h0 := HK.le
    have e : keep = [] := List.eq_nil_of_length_eq_zero (by omega)
    subst e
    subst hkl
    exact crash0_c h
set_option maxRecDepth 20000 in
set_option maxHeartbeats 1000000 in
theorem texts_c {xs : List ByteArray} {v : Value} {n cb base : Nat} {b : Option Addr} {w : World} (hO : Own encT 1 9 base w v xs) (hn : xs.length = n) (HT : SlR encT 1 w b cb xs) (hne : ∀ x, b = some x → v.ownBlock ≠ some x.block) : Calls Tryz.prog 40 #[v, .slice b n cb] w fun e w' => e = .returned (.bool true) ∧ w.grownBy w' v.ownBlock := by
  subst hn
  obtain ⟨na, nc, rfl, HN, hbase⟩ := Own.slR encT_len hO
  have hmx := HN.max
  have hle := HN.le
  have hle2 := HT.le
  have hw := Below.refl w.heap.size w
  refine fn_enter 29 Tryz.func40 rfl rfl rfl ?_
  repeat' (first | (refine lw_pure rfl (pv_move rfl) ?_) | (refine lw_pure rfl (pv_assign rfl) ?_) | (refine is_cw ?_; first | (refine cw_seq ?_) | (refine cw_region ?_) | (refine cw_false rfl (by first | assumption | exact decide_eq_false (by omega) | exact dec_notF (by omega)) ?_) | (refine cw_skip ?_) | (refine cw_block ?_)) | (refine is_qw ?_; first | (with_reducible refine qw_then ?_)) | (refine lw_nil ?_) | ((refine is_bin ?_; first | (refine lw_pure rfl (pv_neq rfl rfl) ?_))) | ((refine is_bi ?_; first | (refine lw_pure rfl (pv_lenl (tS rfl) rfl) ?_))))
  refine cw_loop (σ := Nat × List ByteArray) (fun s => [(0, .slice na xs.length nc), (1, .slice b xs.length cb), (5, .int .i64 (s.1 : Nat))]) (fun s wr => s.1 ≤ xs.length ∧ s.2.length = xs.length ∧ w.grownBy wr (Value.slice na xs.length nc).ownBlock ∧ Own encT 1 9 base wr (.slice na xs.length nc) s.2 ∧ s.2.drop s.1 = xs.drop s.1) (fun s => xs.length - s.1) (0, xs) (by repeat' (first | exact trivial | refine ⟨rfl, ?_⟩)) ⟨Nat.zero_le _, rfl, grown_below hw, hO, rfl⟩ ?_
  clear hw
  rintro ⟨i, ys⟩ wr ⟨hi, hl, hg, hO2, hdr⟩
  replace hi : i ≤ xs.length := hi
  replace hl : ys.length = xs.length := hl
  replace hO2 : Own encT 1 9 base wr (.slice na xs.length nc) ys := hO2
  replace hdr : ys.drop i = xs.drop i := hdr
  change CW Tryz.prog _ _ _ [(0, .slice na xs.length nc), (1, .slice b xs.length cb), (5, .int .i64 (i : Nat))] wr
  have hw := Below.refl wr.heap.size wr
  by_cases hlt : i < xs.length
  · have hxk : xs[i]? = some xs[i] := List.getElem?_eq_getElem hlt
    generalize xs[i] = s at hxk
    have hyk : ys[i]? = some s := by
      have h1 := congrArg (·[0]?) hdr
      simp only [List.getElem?_drop, Nat.add_zero] at h1
      rw [h1]; exact hxk
    have HT2 := HT.grown hg (fun x hx e => hne x hx e.symm)
    obtain ⟨ya, yc, e, HY, hY⟩ := Own.slR encT_len hO2
    injection e with e1 e2 e3
    subst e1 e3
    obtain ⟨bb, off, rfl, -, -⟩ := HN.at (by intro h; rw [h] at hlt; simp at hlt)
    obtain ⟨hge, ho0⟩ := hY _ rfl
    replace ho0 : off = 0 := ho0
    subst ho0
    obtain ⟨tb, to, rfl, -, -⟩ := HT.at (by intro h; rw [h] at hlt; simp at hlt)
    have hE : (!decide (s = s)) = false := by rw [decide_eq_true rfl]; rfl
    repeat' (first | (refine lw_pure rfl (pv_move rfl) ?_) | (refine is_cw ?_; first | (refine cw_seq ?_) | (refine cw_region ?_) | (refine cw_true rfl (by first | assumption | exact decide_eq_true (by omega) | exact dec_notT (by omega)) ?_) | (refine cw_skip ?_) | (refine cw_block ?_)) | (refine is_qw ?_; first | (with_reducible refine qw_then ?_)) | (refine lw_nil ?_) | ((refine is_bin ?_; first | (refine lw_pure rfl (pv_lss rfl rfl) ?_))) | ((refine is_bi ?_; first | (refine lw_pure rfl (pv_lenl (tS rfl) rfl) ?_))))
    refine cw_drawn (fun w' => Below wr.heap.size wr w') (by kernel_rfl) (by repeat (first | exact NoPanic.body | with_reducible refine NoPanic.then ?_ | with_reducible refine NoPanic.inBlock ?_)) (fun hNP => ?_)
    have hS := hw.drew
    (refine at0 0 rfl (fun w' hq => pv_move rfl) ?_)
    (refine at0 1 rfl (fun w' hq => pv_move rfl) ?_)
    (refine at0 2 rfl (fun w' hq => pv_ian (tS rfl) rfl rfl (by omega)) ?_)
    (refine at0 3 rfl (fun w' hq => pv_load (t1 rfl) rfl (by first | exact SlR.ld (HY.mono hq) hyk rfl | exact SlR.ld1 (HY.mono hq) hyk rfl | exact SlR.ld (HT2.mono hq) hxk rfl | exact SlR.ld1 (HT2.mono hq) hxk rfl)) ?_)
    (refine at0 4 rfl (fun w' hq => pv_move rfl) ?_)
    (refine at0 5 rfl (fun w' hq => pv_move rfl) ?_)
    (refine at0 6 rfl (fun w' hq => pv_ian (tS rfl) rfl rfl (by omega)) ?_)
    (refine at0 7 rfl (fun w' hq => pv_load (t1 rfl) rfl (by first | exact SlR.ld (HY.mono hq) hyk rfl | exact SlR.ld1 (HY.mono hq) hyk rfl | exact SlR.ld (HT2.mono hq) hxk rfl | exact SlR.ld1 (HT2.mono hq) hxk rfl)) ?_)
    (refine at0 8 rfl (fun w' hq => pv_sneqD rfl rfl) ?_)
    refine aw_done (by kernel_rfl) ?_
    replace hw := hS; clear hS hNP
    repeat' (first | (refine lw_pure rfl (pv_move rfl) ?_) | (refine is_cw ?_; first | (refine cw_region ?_) | (refine cw_false rfl (by first | assumption | exact decide_eq_false (by omega) | exact dec_notF (by omega)) ?_) | (refine cw_skip ?_)) | (refine is_qw ?_; first | (with_reducible refine qw_then ?_)) | ((refine is_ia ?_; first | (refine lw_pure rfl (pv_ian (tS rfl) rfl rfl (by omega)) ?_))))
    have hO3 := hO2.mono hw
    rw [← hl] at hO3
    refine lw_storeO (i := i) (u := (⟨#[115, 112, 111, 105, 108, 116]⟩ : ByteArray)) (tZ rfl) encT_len encT_one rfl (by omega) rfl rfl hO3 (by omega) ?_; intro w5 hO5 hg5 hz5
    rw [hl] at hO5
    have hg9 := grown_trans (grown_trans hg (grown_below hw)) hg5
    clear hw
    have hw := Below.refl w5.heap.size w5
    repeat' (first | (refine lw_pure rfl (pv_move rfl) ?_) | (refine lw_pure rfl (pv_assign rfl) ?_) | (refine is_cw ?_; first | (refine cw_region ?_)) | (refine is_qw ?_; first | (with_reducible refine qw_then ?_) | (with_reducible refine qw_in ?_)) | (refine lw_nil ?_) | ((refine is_bin ?_; first | (refine lw_pure rfl (pv_inc rfl rfl (by omega)) ?_))))
    exact qw_round (i + 1, ys.set i (⟨#[115, 112, 111, 105, 108, 116]⟩ : ByteArray)) (by repeat' (first | exact trivial | refine ⟨rfl, ?_⟩)) ⟨by show i + 1 ≤ _; omega, by show (ys.set i _).length = _; rw [List.length_set]; exact hl, hg9, hO5, by
      show (ys.set i _).drop (i + 1) = xs.drop (i + 1)
      rw [List.drop_set_of_lt (by omega)]
      have h2 := congrArg (·.drop 1) hdr
      simpa [List.drop_drop] using h2⟩ (by show xs.length - (i + 1) < xs.length - i; omega)
  · repeat' (first | (refine lw_pure rfl (pv_move rfl) ?_) | (refine lw_pure rfl (pv_assign rfl) ?_) | (refine is_cw ?_; first | (refine cw_seq ?_) | (refine cw_region ?_) | (refine cw_false rfl (by first | assumption | exact decide_eq_false (by omega) | exact dec_notF (by omega)) ?_) | (refine cw_exit ?_) | (refine cw_ret ?_)) | (refine is_qw ?_; first | (with_reducible refine qw_then ?_) | (with_reducible refine qw_in_hit ?_) | (with_reducible refine qw_then_exit ?_)) | (refine lw_nil ?_) | ((refine is_bin ?_; first | (refine lw_pure rfl (pv_lss rfl rfl) ?_))) | ((refine is_bi ?_; first | (refine lw_pure rfl (pv_lenl (tS rfl) rfl) ?_))))
    exact qw_ret1 rfl rfl ⟨rfl, grown_trans hg (grown_below hw)⟩

def stepD (x : OpC) (keep : List Int) (d : Dsk) : Dsk :=
  if x.kind = 0 then (createD d x.name).2 else if x.kind = 1 then (appendD d x.name x.bytes).2 else if x.kind = 2 then (syncD d x.name).2 else if x.kind = 3 then (trimD d x.name x.n).2 else if x.kind = 4 then (renameD d x.name x.to).2 else if x.kind = 5 then (deleteD d x.name).2 else if x.kind = 6 then d else if x.kind = 7 then d else if x.kind = 8 then (cutD d x.n).2 else crashD d keep
structure Sep (N B M : Nat) (v : Value) : Prop where
  a : N ≠ M
  b : B ≠ M
  c : v.ownBlock ≠ some N
  d : v.ownBlock ≠ some B
theorem Sep.n1 {N B M : Nat} {v : Value} (h : Sep N B M v) : N ∉ M :: vb v := by simp only [List.mem_cons, not_or]; exact ⟨h.a, vb_not h.c⟩
theorem Sep.n2 {N B M : Nat} {v : Value} (h : Sep N B M v) : B ∉ M :: vb v := by simp only [List.mem_cons, not_or]; exact ⟨h.b, vb_not h.d⟩
structure DoR (w w' : World) (N B base M : Nat) (v : Value) (d' : Dsk) : Prop where
  dk : DkW w' N B d'
  rk : ∃ v', RkW w' base M v' d' ∧ NewV w v v'
  gn : Gn (N :: B :: M :: vb v) w w'
theorem do_fin {w w3 w4 w5 : World} {N B base M : Nat} {v : Value} {d' : Dsk} (hb : Below w.heap.size w w3) (hD4 : DkW w4 N B d') (hG4 : Gw N B w3 w4) (hQ : RkQ w4 w5 base M v d') (hs : Sep N B M v) : DoR w w5 N B base M v d' := by
  obtain ⟨⟨v', h1, h2⟩, h3⟩ := hQ
  refine ⟨hD4.gn h3 hs.n1 hs.n2, ⟨v', h1, (NewV.refl w v).trans h2 (Nat.le_trans hb.size hG4.size)⟩, ((Gn.of_below hb).trans (Gn.of_gw hG4 List.mem_cons_self (List.mem_cons_of_mem _ List.mem_cons_self))).trans (h3.wide fun q hq => List.mem_cons_of_mem _ (List.mem_cons_of_mem _ hq))⟩
theorem do_same {w w' : World} {N B base M : Nat} {v : Value} {d : Dsk} (hD : DkW w N B d) (hR : RkW w base M v d) (hb : Below w.heap.size w w') : DoR w w' N B base M v d := ⟨hD.mono hb, ⟨v, hR.mono hb, NewV.refl _ _⟩, Gn.of_below hb⟩
theorem do_rev {w w3 w5 w6 : World} {N B base M : Nat} {v : Value} {d' : Dsk} (hb : Below w.heap.size w w3) (hQ : RkQ w3 w5 base M v d') (hD6 : DkW w6 N B d') (hG6 : Gw N B w5 w6) (hs : Sep N B M v) (hN : N < w3.heap.size) (hB : B < w3.heap.size) : DoR w w6 N B base M v d' := by
  obtain ⟨⟨v', h1, h2⟩, h3⟩ := hQ
  refine ⟨hD6, ⟨v', h1.gw hG6 ⟨fun e => hs.a e.symm, fun e => hs.b e.symm⟩ ?_, (NewV.refl w v).trans h2 hb.size⟩, ((Gn.of_below hb).trans (h3.wide fun q hq => List.mem_cons_of_mem _ (List.mem_cons_of_mem _ hq))).trans (Gn.of_gw hG6 List.mem_cons_self (List.mem_cons_of_mem _ List.mem_cons_self))⟩
  rcases h2 with rfl | h2
  · exact ⟨hs.c, hs.d⟩
  · exact ⟨fun e => by have := h2 _ e; omega, fun e => by have := h2 _ e; omega⟩
theorem room45_c {w : World} {N B : Nat} {d : Dsk} (h : DkW w N B d) (hk : d.dark = true) : Calls Tryz.prog 38 #[.pointer (some ⟨N, 0, none⟩)] w fun e w' => e = .returned (.tuple #[.int .i64 0, .int .i64 0, .int .i64 45]) ∧ Below w.heap.size w w' := by
  have := room_c h
  rw [hk, if_pos rfl] at this
  exact this
theorem room0_c {w : World} {N B : Nat} {d : Dsk} (h : DkW w N B d) (hk : d.dark = false) : Calls Tryz.prog 38 #[.pointer (some ⟨N, 0, none⟩)] w fun e w' => e = .returned (.tuple #[.int .i64 (d.cap - usedF d.fs), .int .i64 (64 - (d.fs.length : Nat)), .int .i64 0]) ∧ Below w.heap.size w w' := by
  have := room_c h
  rw [hk, if_neg (by simp)] at this
  exact this
set_option maxRecDepth 20000 in
set_option maxHeartbeats 4000000 in
theorem do0_c {w : World} {N B base M : Nat} {v : Value} {d : Dsk} {x : OpC} (hD : DkW w N B d) (hR : RkW w base M v d) (hbs : base ≤ w.heap.size) (hs : Sep N B M v) (hx : OpB x) (hz : OpS x) (k0 : x.kind = 0) : Calls Tryz.prog 10 #[.agg (encQ x).toArray, .pointer (some ⟨N, 0, none⟩), .pointer (some ⟨M, 0, none⟩)] w fun e w' => e = .returned (.bool true) ∧ DoR w w' N B base M v ((createD d x.name).2) := by
  have h1 : x.name.size ≤ 9223372036854775807 := by have := hz.name; omega
  have h2 : x.to.size ≤ 9223372036854775807 := by have := hz.to; omega
  have h3 : x.bytes.size ≤ 4611686018427387903 := by have := hz.bytes; omega
  have hbs' := hbs
  have hs' := hs
  have hkd := hx.kind
  have hxn := hx.n
  have hDl := hD.lt
  have hRl := hR.obj.lt
  have hvl := hR.own.lt
  have hw := Below.refl w.heap.size w
  refine fn_enter 206 Tryz.func10 rfl rfl rfl ?_
  refine cw_seq ?_
  refine cw_region ?_
  refine lw_boxN rfl rfl (cs := encQ x) rfl ?_; intro N3 w3 hN3 H3 hb; replace hw := grow_trans hw hb; clear hb
  have hw0 := hw
  clear hw
  have hw := Below.refl w3.heap.size w3
  have q5 : N3 ≠ N := by omega
  have q6 : N3 ≠ B := by omega
  have q7 : N3 ∉ M :: vb v := by
    simp only [List.mem_cons, not_or]
    refine ⟨by omega, vb_not fun e => ?_⟩
    have := hvl _ e
    omega
  repeat' (first | (refine lw_pure rfl (pv_assign rfl) ?_) | (refine is_cw ?_; first | (refine cw_seq ?_) | (refine cw_region ?_) | (refine cw_true rfl (by first | assumption | exact decide_eq_true (by omega) | exact dec_notT (by omega)) ?_) | (refine cw_block ?_)) | (refine is_qw ?_; first | (with_reducible refine qw_then ?_)) | (refine lw_nil ?_) | ((refine is_bin ?_; first | (refine lw_pure rfl (pv_eql rfl rfl) ?_))) | ((refine is_load ?_; first | (refine lw_pure rfl (pv_load (t1 rfl) rfl (by first | exact PT.ld0 (H3.mono hw) rfl | exact PT.ld (H3.mono hw) rfl)) ?_))) | ((refine is_fa ?_; first | (refine lw_pure rfl (pv_fa (tF rfl) rfl) ?_))))
  have hwx := hw
  have hw1 := grow_trans (grow_trans hw0 hw) (below_drew _)
  have hD1 := hD.mono hw1
  have hR1 := hR.mono hw1
  have hbs1 := Nat.le_trans hbs hw1.size
  clear hw hw0
  refine cw_drawn (fun w' => PT w' N3 36 (encQ x)) (by kernel_rfl) (by repeat (first | exact NoPanic.body | with_reducible refine NoPanic.then ?_ | with_reducible refine NoPanic.inBlock ?_)) (fun hNP => ?_)
  have hS := (H3.mono hwx).mono (below_drew _)
  (refine at0 0 rfl (fun w' hq => pv_move rfl) ?_)
  (refine at0 1 rfl (fun w' hq => pv_fa (tF rfl) rfl) ?_)
  (refine at0 2 rfl (fun w' hq => pv_load (t1 rfl) rfl (by first | exact PT.ld0 hq rfl | exact PT.ld hq rfl)) ?_)
  (refine at0 4 rfl (fun w' hq => pv_move rfl) ?_)
  (refine at0 5 rfl (fun w' hq => pv_fa (tF rfl) rfl) ?_)
  (refine at0 6 rfl (fun w' hq => pv_load (t1 rfl) rfl (by first | exact PT.ld0 hq rfl | exact PT.ld hq rfl)) ?_)
  refine aw_act 3 (by kernel_rfl) rfl rfl rfl ?_
  refine act_call (f := 15) (by kernel_rfl) rfl (create_c hD1 (n := x.name) h1) ?_; rintro e4 w4 ⟨rfl, hD4, hG4⟩; have hR4 := hR1.gw hG4 ⟨fun e => hs.a e.symm, fun e => hs.b e.symm⟩ ⟨hs.c, hs.d⟩; have hbs4 : base ≤ w4.heap.size := Nat.le_trans hbs1 hG4.size; refine ⟨_, rfl, hS.gw hG4 q5 q6, fun hS => ?_⟩
  refine aw_act 7 (by kernel_rfl) rfl rfl rfl ?_
  refine act_call (f := 28) (by kernel_rfl) rfl (rcreate_c hR4 hbs4 (n := x.name) h1) ?_; rintro e5 w5 ⟨rfl, hQ5⟩; refine ⟨_, rfl, hS.gn hQ5.2 q7, fun hS => ?_⟩
  (refine at0 8 rfl (fun w' hq => pv_eql rfl rfl) ?_)
  (refine at0 9 rfl (fun w' hq => pv_assign rfl) ?_)
  refine aw_done (by kernel_rfl) ?_
  replace H3 := hS; clear hS hNP
  have hw := Below.refl w5.heap.size w5
  repeat' (first | (refine is_cw ?_; first | (refine cw_ret ?_)) | (refine is_qw ?_; first | (with_reducible refine qw_then ?_) | (with_reducible refine qw_then_ret ?_) | (with_reducible refine qw_in_ret ?_)))
  exact qw_ret1 rfl rfl ⟨by rw [decide_eq_true rfl], do_fin hw1 hD4 hG4 hQ5 hs⟩
set_option maxRecDepth 20000 in
set_option maxHeartbeats 4000000 in
theorem do1_c {w : World} {N B base M : Nat} {v : Value} {d : Dsk} {x : OpC} (hD : DkW w N B d) (hR : RkW w base M v d) (hbs : base ≤ w.heap.size) (hs : Sep N B M v) (hx : OpB x) (hz : OpS x) (k0 : x.kind = 1) : Calls Tryz.prog 10 #[.agg (encQ x).toArray, .pointer (some ⟨N, 0, none⟩), .pointer (some ⟨M, 0, none⟩)] w fun e w' => e = .returned (.bool true) ∧ DoR w w' N B base M v ((appendD d x.name x.bytes).2) := by
  have h1 : x.name.size ≤ 9223372036854775807 := by have := hz.name; omega
  have h2 : x.to.size ≤ 9223372036854775807 := by have := hz.to; omega
  have h3 : x.bytes.size ≤ 4611686018427387903 := by have := hz.bytes; omega
  have hbs' := hbs
  have hs' := hs
  have hkd := hx.kind
  have hxn := hx.n
  have hDl := hD.lt
  have hRl := hR.obj.lt
  have hvl := hR.own.lt
  have hw := Below.refl w.heap.size w
  refine fn_enter 206 Tryz.func10 rfl rfl rfl ?_
  refine cw_seq ?_
  refine cw_region ?_
  refine lw_boxN rfl rfl (cs := encQ x) rfl ?_; intro N3 w3 hN3 H3 hb; replace hw := grow_trans hw hb; clear hb
  have hw0 := hw
  clear hw
  have hw := Below.refl w3.heap.size w3
  have q5 : N3 ≠ N := by omega
  have q6 : N3 ≠ B := by omega
  have q7 : N3 ∉ M :: vb v := by
    simp only [List.mem_cons, not_or]
    refine ⟨by omega, vb_not fun e => ?_⟩
    have := hvl _ e
    omega
  repeat' (first | (refine lw_pure rfl (pv_assign rfl) ?_) | (refine is_cw ?_; first | (refine cw_seq ?_) | (refine cw_region ?_) | (refine cw_true rfl (by first | assumption | exact decide_eq_true (by omega) | exact dec_notT (by omega)) ?_) | (refine cw_false rfl (by first | assumption | exact decide_eq_false (by omega) | exact dec_notF (by omega)) ?_) | (refine cw_block ?_)) | (refine is_qw ?_; first | (with_reducible refine qw_then ?_)) | (refine lw_nil ?_) | ((refine is_bin ?_; first | (refine lw_pure rfl (pv_eql rfl rfl) ?_))) | ((refine is_load ?_; first | (refine lw_pure rfl (pv_load (t1 rfl) rfl (by first | exact PT.ld0 (H3.mono hw) rfl | exact PT.ld (H3.mono hw) rfl)) ?_))) | ((refine is_fa ?_; first | (refine lw_pure rfl (pv_fa (tF rfl) rfl) ?_))))
  have hwx := hw
  have hw1 := grow_trans (grow_trans hw0 hw) (below_drew _)
  have hD1 := hD.mono hw1
  have hR1 := hR.mono hw1
  have hbs1 := Nat.le_trans hbs hw1.size
  clear hw hw0
  refine cw_drawn (fun w' => PT w' N3 36 (encQ x)) (by kernel_rfl) (by repeat (first | exact NoPanic.body | with_reducible refine NoPanic.then ?_ | with_reducible refine NoPanic.inBlock ?_)) (fun hNP => ?_)
  have hS := (H3.mono hwx).mono (below_drew _)
  (refine at0 0 rfl (fun w' hq => pv_move rfl) ?_)
  (refine at0 1 rfl (fun w' hq => pv_fa (tF rfl) rfl) ?_)
  (refine at0 2 rfl (fun w' hq => pv_load (t1 rfl) rfl (by first | exact PT.ld0 hq rfl | exact PT.ld hq rfl)) ?_)
  (refine at0 3 rfl (fun w' hq => pv_fa (tF rfl) rfl) ?_)
  (refine at0 4 rfl (fun w' hq => pv_load (t1 rfl) rfl (by first | exact PT.ld0 hq rfl | exact PT.ld hq rfl)) ?_)
  (refine at0 6 rfl (fun w' hq => pv_move rfl) ?_)
  (refine at0 7 rfl (fun w' hq => pv_fa (tF rfl) rfl) ?_)
  (refine at0 8 rfl (fun w' hq => pv_load (t1 rfl) rfl (by first | exact PT.ld0 hq rfl | exact PT.ld hq rfl)) ?_)
  (refine at0 9 rfl (fun w' hq => pv_fa (tF rfl) rfl) ?_)
  (refine at0 10 rfl (fun w' hq => pv_load (t1 rfl) rfl (by first | exact PT.ld0 hq rfl | exact PT.ld hq rfl)) ?_)
  refine aw_act 5 (by kernel_rfl) rfl rfl rfl ?_
  refine act_call (f := 16) (by kernel_rfl) rfl (append_c hD1 (n := x.name) (b := x.bytes) h1) ?_; rintro e4 w4 ⟨rfl, hD4, hG4⟩; have hR4 := hR1.gw hG4 ⟨fun e => hs.a e.symm, fun e => hs.b e.symm⟩ ⟨hs.c, hs.d⟩; have hbs4 : base ≤ w4.heap.size := Nat.le_trans hbs1 hG4.size; refine ⟨_, rfl, hS.gw hG4 q5 q6, fun hS => ?_⟩
  refine aw_act 11 (by kernel_rfl) rfl rfl rfl ?_
  refine act_call (f := 29) (by kernel_rfl) rfl (rappend_c hR4 hbs4 (n := x.name) h3) ?_; rintro e5 w5 ⟨rfl, hQ5⟩; refine ⟨_, rfl, hS.gn hQ5.2 q7, fun hS => ?_⟩
  (refine at0 12 rfl (fun w' hq => pv_eql rfl rfl) ?_)
  (refine at0 13 rfl (fun w' hq => pv_assign rfl) ?_)
  refine aw_done (by kernel_rfl) ?_
  replace H3 := hS; clear hS hNP
  have hw := Below.refl w5.heap.size w5
  repeat' (first | (refine is_cw ?_; first | (refine cw_ret ?_)) | (refine is_qw ?_; first | (with_reducible refine qw_then ?_) | (with_reducible refine qw_then_ret ?_) | (with_reducible refine qw_in_ret ?_)))
  exact qw_ret1 rfl rfl ⟨by rw [decide_eq_true rfl], do_fin hw1 hD4 hG4 hQ5 hs⟩
set_option maxRecDepth 20000 in
set_option maxHeartbeats 4000000 in
theorem do2_c {w : World} {N B base M : Nat} {v : Value} {d : Dsk} {x : OpC} (hD : DkW w N B d) (hR : RkW w base M v d) (hbs : base ≤ w.heap.size) (hs : Sep N B M v) (hx : OpB x) (hz : OpS x) (k0 : x.kind = 2) : Calls Tryz.prog 10 #[.agg (encQ x).toArray, .pointer (some ⟨N, 0, none⟩), .pointer (some ⟨M, 0, none⟩)] w fun e w' => e = .returned (.bool true) ∧ DoR w w' N B base M v ((syncD d x.name).2) := by
  have h1 : x.name.size ≤ 9223372036854775807 := by have := hz.name; omega
  have h2 : x.to.size ≤ 9223372036854775807 := by have := hz.to; omega
  have h3 : x.bytes.size ≤ 4611686018427387903 := by have := hz.bytes; omega
  have hbs' := hbs
  have hs' := hs
  have hkd := hx.kind
  have hxn := hx.n
  have hDl := hD.lt
  have hRl := hR.obj.lt
  have hvl := hR.own.lt
  have hw := Below.refl w.heap.size w
  refine fn_enter 206 Tryz.func10 rfl rfl rfl ?_
  refine cw_seq ?_
  refine cw_region ?_
  refine lw_boxN rfl rfl (cs := encQ x) rfl ?_; intro N3 w3 hN3 H3 hb; replace hw := grow_trans hw hb; clear hb
  have hw0 := hw
  clear hw
  have hw := Below.refl w3.heap.size w3
  have q5 : N3 ≠ N := by omega
  have q6 : N3 ≠ B := by omega
  have q7 : N3 ∉ M :: vb v := by
    simp only [List.mem_cons, not_or]
    refine ⟨by omega, vb_not fun e => ?_⟩
    have := hvl _ e
    omega
  repeat' (first | (refine lw_pure rfl (pv_assign rfl) ?_) | (refine is_cw ?_; first | (refine cw_seq ?_) | (refine cw_region ?_) | (refine cw_true rfl (by first | assumption | exact decide_eq_true (by omega) | exact dec_notT (by omega)) ?_) | (refine cw_false rfl (by first | assumption | exact decide_eq_false (by omega) | exact dec_notF (by omega)) ?_) | (refine cw_block ?_)) | (refine is_qw ?_; first | (with_reducible refine qw_then ?_)) | (refine lw_nil ?_) | ((refine is_bin ?_; first | (refine lw_pure rfl (pv_eql rfl rfl) ?_))) | ((refine is_load ?_; first | (refine lw_pure rfl (pv_load (t1 rfl) rfl (by first | exact PT.ld0 (H3.mono hw) rfl | exact PT.ld (H3.mono hw) rfl)) ?_))) | ((refine is_fa ?_; first | (refine lw_pure rfl (pv_fa (tF rfl) rfl) ?_))))
  have hwx := hw
  have hw1 := grow_trans (grow_trans hw0 hw) (below_drew _)
  have hD1 := hD.mono hw1
  have hR1 := hR.mono hw1
  have hbs1 := Nat.le_trans hbs hw1.size
  clear hw hw0
  refine cw_drawn (fun w' => PT w' N3 36 (encQ x)) (by kernel_rfl) (by repeat (first | exact NoPanic.body | with_reducible refine NoPanic.then ?_ | with_reducible refine NoPanic.inBlock ?_)) (fun hNP => ?_)
  have hS := (H3.mono hwx).mono (below_drew _)
  (refine at0 0 rfl (fun w' hq => pv_move rfl) ?_)
  (refine at0 1 rfl (fun w' hq => pv_fa (tF rfl) rfl) ?_)
  (refine at0 2 rfl (fun w' hq => pv_load (t1 rfl) rfl (by first | exact PT.ld0 hq rfl | exact PT.ld hq rfl)) ?_)
  (refine at0 4 rfl (fun w' hq => pv_move rfl) ?_)
  (refine at0 5 rfl (fun w' hq => pv_fa (tF rfl) rfl) ?_)
  (refine at0 6 rfl (fun w' hq => pv_load (t1 rfl) rfl (by first | exact PT.ld0 hq rfl | exact PT.ld hq rfl)) ?_)
  refine aw_act 3 (by kernel_rfl) rfl rfl rfl ?_
  refine act_call (f := 17) (by kernel_rfl) rfl (sync_c hD1 (n := x.name) h1) ?_; rintro e4 w4 ⟨rfl, hD4, hG4⟩; have hR4 := hR1.gw hG4 ⟨fun e => hs.a e.symm, fun e => hs.b e.symm⟩ ⟨hs.c, hs.d⟩; have hbs4 : base ≤ w4.heap.size := Nat.le_trans hbs1 hG4.size; refine ⟨_, rfl, hS.gw hG4 q5 q6, fun hS => ?_⟩
  refine aw_act 7 (by kernel_rfl) rfl rfl rfl ?_
  refine act_call (f := 30) (by kernel_rfl) rfl (rsync_c hR4 hbs4 (n := x.name)) ?_; rintro e5 w5 ⟨rfl, hQ5⟩; refine ⟨_, rfl, hS.gn hQ5.2 q7, fun hS => ?_⟩
  (refine at0 8 rfl (fun w' hq => pv_eql rfl rfl) ?_)
  (refine at0 9 rfl (fun w' hq => pv_assign rfl) ?_)
  refine aw_done (by kernel_rfl) ?_
  replace H3 := hS; clear hS hNP
  have hw := Below.refl w5.heap.size w5
  repeat' (first | (refine is_cw ?_; first | (refine cw_ret ?_)) | (refine is_qw ?_; first | (with_reducible refine qw_then ?_) | (with_reducible refine qw_then_ret ?_) | (with_reducible refine qw_in_ret ?_)))
  exact qw_ret1 rfl rfl ⟨by rw [decide_eq_true rfl], do_fin hw1 hD4 hG4 hQ5 hs⟩
set_option maxRecDepth 20000 in
set_option maxHeartbeats 4000000 in
theorem do3_c {w : World} {N B base M : Nat} {v : Value} {d : Dsk} {x : OpC} (hD : DkW w N B d) (hR : RkW w base M v d) (hbs : base ≤ w.heap.size) (hs : Sep N B M v) (hx : OpB x) (hz : OpS x) (k0 : x.kind = 3) : Calls Tryz.prog 10 #[.agg (encQ x).toArray, .pointer (some ⟨N, 0, none⟩), .pointer (some ⟨M, 0, none⟩)] w fun e w' => e = .returned (.bool true) ∧ DoR w w' N B base M v ((trimD d x.name x.n).2) := by
  have h1 : x.name.size ≤ 9223372036854775807 := by have := hz.name; omega
  have h2 : x.to.size ≤ 9223372036854775807 := by have := hz.to; omega
  have h3 : x.bytes.size ≤ 4611686018427387903 := by have := hz.bytes; omega
  have hbs' := hbs
  have hs' := hs
  have hkd := hx.kind
  have hxn := hx.n
  have hDl := hD.lt
  have hRl := hR.obj.lt
  have hvl := hR.own.lt
  have hw := Below.refl w.heap.size w
  refine fn_enter 206 Tryz.func10 rfl rfl rfl ?_
  refine cw_seq ?_
  refine cw_region ?_
  refine lw_boxN rfl rfl (cs := encQ x) rfl ?_; intro N3 w3 hN3 H3 hb; replace hw := grow_trans hw hb; clear hb
  have hw0 := hw
  clear hw
  have hw := Below.refl w3.heap.size w3
  have q5 : N3 ≠ N := by omega
  have q6 : N3 ≠ B := by omega
  have q7 : N3 ∉ M :: vb v := by
    simp only [List.mem_cons, not_or]
    refine ⟨by omega, vb_not fun e => ?_⟩
    have := hvl _ e
    omega
  repeat' (first | (refine lw_pure rfl (pv_assign rfl) ?_) | (refine is_cw ?_; first | (refine cw_seq ?_) | (refine cw_region ?_) | (refine cw_true rfl (by first | assumption | exact decide_eq_true (by omega) | exact dec_notT (by omega)) ?_) | (refine cw_false rfl (by first | assumption | exact decide_eq_false (by omega) | exact dec_notF (by omega)) ?_) | (refine cw_block ?_)) | (refine is_qw ?_; first | (with_reducible refine qw_then ?_)) | (refine lw_nil ?_) | ((refine is_bin ?_; first | (refine lw_pure rfl (pv_eql rfl rfl) ?_))) | ((refine is_load ?_; first | (refine lw_pure rfl (pv_load (t1 rfl) rfl (by first | exact PT.ld0 (H3.mono hw) rfl | exact PT.ld (H3.mono hw) rfl)) ?_))) | ((refine is_fa ?_; first | (refine lw_pure rfl (pv_fa (tF rfl) rfl) ?_))))
  have hwx := hw
  have hw1 := grow_trans (grow_trans hw0 hw) (below_drew _)
  have hD1 := hD.mono hw1
  have hR1 := hR.mono hw1
  have hbs1 := Nat.le_trans hbs hw1.size
  clear hw hw0
  refine cw_drawn (fun w' => PT w' N3 36 (encQ x)) (by kernel_rfl) (by repeat (first | exact NoPanic.body | with_reducible refine NoPanic.then ?_ | with_reducible refine NoPanic.inBlock ?_)) (fun hNP => ?_)
  have hS := (H3.mono hwx).mono (below_drew _)
  (refine at0 0 rfl (fun w' hq => pv_move rfl) ?_)
  (refine at0 1 rfl (fun w' hq => pv_fa (tF rfl) rfl) ?_)
  (refine at0 2 rfl (fun w' hq => pv_load (t1 rfl) rfl (by first | exact PT.ld0 hq rfl | exact PT.ld hq rfl)) ?_)
  (refine at0 3 rfl (fun w' hq => pv_fa (tF rfl) rfl) ?_)
  (refine at0 4 rfl (fun w' hq => pv_load (t1 rfl) rfl (by first | exact PT.ld0 hq rfl | exact PT.ld hq rfl)) ?_)
  (refine at0 6 rfl (fun w' hq => pv_move rfl) ?_)
  (refine at0 7 rfl (fun w' hq => pv_fa (tF rfl) rfl) ?_)
  (refine at0 8 rfl (fun w' hq => pv_load (t1 rfl) rfl (by first | exact PT.ld0 hq rfl | exact PT.ld hq rfl)) ?_)
  (refine at0 9 rfl (fun w' hq => pv_fa (tF rfl) rfl) ?_)
  (refine at0 10 rfl (fun w' hq => pv_load (t1 rfl) rfl (by first | exact PT.ld0 hq rfl | exact PT.ld hq rfl)) ?_)
  refine aw_act 5 (by kernel_rfl) rfl rfl rfl ?_
  refine act_call (f := 24) (by kernel_rfl) rfl (dtrim_c hD1 (n := x.name) h1 x.n) ?_; rintro e4 w4 ⟨rfl, hD4, hG4⟩; have hR4 := hR1.gw hG4 ⟨fun e => hs.a e.symm, fun e => hs.b e.symm⟩ ⟨hs.c, hs.d⟩; have hbs4 : base ≤ w4.heap.size := Nat.le_trans hbs1 hG4.size; refine ⟨_, rfl, hS.gw hG4 q5 q6, fun hS => ?_⟩
  refine aw_act 11 (by kernel_rfl) rfl rfl rfl ?_
  refine act_call (f := 31) (by kernel_rfl) rfl (rtrim_c hR4 hbs4 (n := x.name) x.n) ?_; rintro e5 w5 ⟨rfl, hQ5⟩; refine ⟨_, rfl, hS.gn hQ5.2 q7, fun hS => ?_⟩
  (refine at0 12 rfl (fun w' hq => pv_eql rfl rfl) ?_)
  (refine at0 13 rfl (fun w' hq => pv_assign rfl) ?_)
  refine aw_done (by kernel_rfl) ?_
  replace H3 := hS; clear hS hNP
  have hw := Below.refl w5.heap.size w5
  repeat' (first | (refine is_cw ?_; first | (refine cw_ret ?_)) | (refine is_qw ?_; first | (with_reducible refine qw_then ?_) | (with_reducible refine qw_then_ret ?_) | (with_reducible refine qw_in_ret ?_)))
  exact qw_ret1 rfl rfl ⟨by rw [decide_eq_true rfl], do_fin hw1 hD4 hG4 hQ5 hs⟩
set_option maxRecDepth 20000 in
set_option maxHeartbeats 4000000 in
theorem do4_c {w : World} {N B base M : Nat} {v : Value} {d : Dsk} {x : OpC} (hD : DkW w N B d) (hR : RkW w base M v d) (hbs : base ≤ w.heap.size) (hs : Sep N B M v) (hx : OpB x) (hz : OpS x) (k0 : x.kind = 4) : Calls Tryz.prog 10 #[.agg (encQ x).toArray, .pointer (some ⟨N, 0, none⟩), .pointer (some ⟨M, 0, none⟩)] w fun e w' => e = .returned (.bool true) ∧ DoR w w' N B base M v ((renameD d x.name x.to).2) := by
  have h1 : x.name.size ≤ 9223372036854775807 := by have := hz.name; omega
  have h2 : x.to.size ≤ 9223372036854775807 := by have := hz.to; omega
  have h3 : x.bytes.size ≤ 4611686018427387903 := by have := hz.bytes; omega
  have hbs' := hbs
  have hs' := hs
  have hkd := hx.kind
  have hxn := hx.n
  have hDl := hD.lt
  have hRl := hR.obj.lt
  have hvl := hR.own.lt
  have hw := Below.refl w.heap.size w
  refine fn_enter 206 Tryz.func10 rfl rfl rfl ?_
  refine cw_seq ?_
  refine cw_region ?_
  refine lw_boxN rfl rfl (cs := encQ x) rfl ?_; intro N3 w3 hN3 H3 hb; replace hw := grow_trans hw hb; clear hb
  have hw0 := hw
  clear hw
  have hw := Below.refl w3.heap.size w3
  have q5 : N3 ≠ N := by omega
  have q6 : N3 ≠ B := by omega
  have q7 : N3 ∉ M :: vb v := by
    simp only [List.mem_cons, not_or]
    refine ⟨by omega, vb_not fun e => ?_⟩
    have := hvl _ e
    omega
  repeat' (first | (refine lw_pure rfl (pv_assign rfl) ?_) | (refine is_cw ?_; first | (refine cw_seq ?_) | (refine cw_region ?_) | (refine cw_true rfl (by first | assumption | exact decide_eq_true (by omega) | exact dec_notT (by omega)) ?_) | (refine cw_false rfl (by first | assumption | exact decide_eq_false (by omega) | exact dec_notF (by omega)) ?_) | (refine cw_block ?_)) | (refine is_qw ?_; first | (with_reducible refine qw_then ?_)) | (refine lw_nil ?_) | ((refine is_bin ?_; first | (refine lw_pure rfl (pv_eql rfl rfl) ?_))) | ((refine is_load ?_; first | (refine lw_pure rfl (pv_load (t1 rfl) rfl (by first | exact PT.ld0 (H3.mono hw) rfl | exact PT.ld (H3.mono hw) rfl)) ?_))) | ((refine is_fa ?_; first | (refine lw_pure rfl (pv_fa (tF rfl) rfl) ?_))))
  have hwx := hw
  have hw1 := grow_trans (grow_trans hw0 hw) (below_drew _)
  have hD1 := hD.mono hw1
  have hR1 := hR.mono hw1
  have hbs1 := Nat.le_trans hbs hw1.size
  clear hw hw0
  refine cw_drawn (fun w' => PT w' N3 36 (encQ x)) (by kernel_rfl) (by repeat (first | exact NoPanic.body | with_reducible refine NoPanic.then ?_ | with_reducible refine NoPanic.inBlock ?_)) (fun hNP => ?_)
  have hS := (H3.mono hwx).mono (below_drew _)
  (refine at0 0 rfl (fun w' hq => pv_move rfl) ?_)
  (refine at0 1 rfl (fun w' hq => pv_fa (tF rfl) rfl) ?_)
  (refine at0 2 rfl (fun w' hq => pv_load (t1 rfl) rfl (by first | exact PT.ld0 hq rfl | exact PT.ld hq rfl)) ?_)
  (refine at0 3 rfl (fun w' hq => pv_fa (tF rfl) rfl) ?_)
  (refine at0 4 rfl (fun w' hq => pv_load (t1 rfl) rfl (by first | exact PT.ld0 hq rfl | exact PT.ld hq rfl)) ?_)
  (refine at0 6 rfl (fun w' hq => pv_move rfl) ?_)
  (refine at0 7 rfl (fun w' hq => pv_fa (tF rfl) rfl) ?_)
  (refine at0 8 rfl (fun w' hq => pv_load (t1 rfl) rfl (by first | exact PT.ld0 hq rfl | exact PT.ld hq rfl)) ?_)
  (refine at0 9 rfl (fun w' hq => pv_fa (tF rfl) rfl) ?_)
  (refine at0 10 rfl (fun w' hq => pv_load (t1 rfl) rfl (by first | exact PT.ld0 hq rfl | exact PT.ld hq rfl)) ?_)
  refine aw_act 5 (by kernel_rfl) rfl rfl rfl ?_
  refine act_call (f := 23) (by kernel_rfl) rfl (rename_c hD1 (n := x.name) (t := x.to) h1 h2) ?_; rintro e4 w4 ⟨rfl, hD4, hG4⟩; have hR4 := hR1.gw hG4 ⟨fun e => hs.a e.symm, fun e => hs.b e.symm⟩ ⟨hs.c, hs.d⟩; have hbs4 : base ≤ w4.heap.size := Nat.le_trans hbs1 hG4.size; refine ⟨_, rfl, hS.gw hG4 q5 q6, fun hS => ?_⟩
  refine aw_act 11 (by kernel_rfl) rfl rfl rfl ?_
  refine act_call (f := 32) (by kernel_rfl) rfl (rrename_c hR4 hbs4 (n := x.name) (t := x.to) h2) ?_; rintro e5 w5 ⟨rfl, hQ5⟩; refine ⟨_, rfl, hS.gn hQ5.2 q7, fun hS => ?_⟩
  (refine at0 12 rfl (fun w' hq => pv_eql rfl rfl) ?_)
  (refine at0 13 rfl (fun w' hq => pv_assign rfl) ?_)
  refine aw_done (by kernel_rfl) ?_
  replace H3 := hS; clear hS hNP
  have hw := Below.refl w5.heap.size w5
  repeat' (first | (refine is_cw ?_; first | (refine cw_ret ?_)) | (refine is_qw ?_; first | (with_reducible refine qw_then ?_) | (with_reducible refine qw_then_ret ?_) | (with_reducible refine qw_in_ret ?_)))
  exact qw_ret1 rfl rfl ⟨by rw [decide_eq_true rfl], do_fin hw1 hD4 hG4 hQ5 hs⟩
set_option maxRecDepth 20000 in
set_option maxHeartbeats 4000000 in
theorem do5_c {w : World} {N B base M : Nat} {v : Value} {d : Dsk} {x : OpC} (hD : DkW w N B d) (hR : RkW w base M v d) (hbs : base ≤ w.heap.size) (hs : Sep N B M v) (hx : OpB x) (hz : OpS x) (k0 : x.kind = 5) : Calls Tryz.prog 10 #[.agg (encQ x).toArray, .pointer (some ⟨N, 0, none⟩), .pointer (some ⟨M, 0, none⟩)] w fun e w' => e = .returned (.bool true) ∧ DoR w w' N B base M v ((deleteD d x.name).2) := by
  have h1 : x.name.size ≤ 9223372036854775807 := by have := hz.name; omega
  have h2 : x.to.size ≤ 9223372036854775807 := by have := hz.to; omega
  have h3 : x.bytes.size ≤ 4611686018427387903 := by have := hz.bytes; omega
  have hbs' := hbs
  have hs' := hs
  have hkd := hx.kind
  have hxn := hx.n
  have hDl := hD.lt
  have hRl := hR.obj.lt
  have hvl := hR.own.lt
  have hw := Below.refl w.heap.size w
  refine fn_enter 206 Tryz.func10 rfl rfl rfl ?_
  refine cw_seq ?_
  refine cw_region ?_
  refine lw_boxN rfl rfl (cs := encQ x) rfl ?_; intro N3 w3 hN3 H3 hb; replace hw := grow_trans hw hb; clear hb
  have hw0 := hw
  clear hw
  have hw := Below.refl w3.heap.size w3
  have q5 : N3 ≠ N := by omega
  have q6 : N3 ≠ B := by omega
  have q7 : N3 ∉ M :: vb v := by
    simp only [List.mem_cons, not_or]
    refine ⟨by omega, vb_not fun e => ?_⟩
    have := hvl _ e
    omega
  repeat' (first | (refine lw_pure rfl (pv_assign rfl) ?_) | (refine is_cw ?_; first | (refine cw_seq ?_) | (refine cw_region ?_) | (refine cw_true rfl (by first | assumption | exact decide_eq_true (by omega) | exact dec_notT (by omega)) ?_) | (refine cw_false rfl (by first | assumption | exact decide_eq_false (by omega) | exact dec_notF (by omega)) ?_) | (refine cw_block ?_)) | (refine is_qw ?_; first | (with_reducible refine qw_then ?_)) | (refine lw_nil ?_) | ((refine is_bin ?_; first | (refine lw_pure rfl (pv_eql rfl rfl) ?_))) | ((refine is_load ?_; first | (refine lw_pure rfl (pv_load (t1 rfl) rfl (by first | exact PT.ld0 (H3.mono hw) rfl | exact PT.ld (H3.mono hw) rfl)) ?_))) | ((refine is_fa ?_; first | (refine lw_pure rfl (pv_fa (tF rfl) rfl) ?_))))
  have hwx := hw
  have hw1 := grow_trans (grow_trans hw0 hw) (below_drew _)
  have hD1 := hD.mono hw1
  have hR1 := hR.mono hw1
  have hbs1 := Nat.le_trans hbs hw1.size
  clear hw hw0
  refine cw_drawn (fun w' => PT w' N3 36 (encQ x)) (by kernel_rfl) (by repeat (first | exact NoPanic.body | with_reducible refine NoPanic.then ?_ | with_reducible refine NoPanic.inBlock ?_)) (fun hNP => ?_)
  have hS := (H3.mono hwx).mono (below_drew _)
  (refine at0 0 rfl (fun w' hq => pv_move rfl) ?_)
  (refine at0 1 rfl (fun w' hq => pv_fa (tF rfl) rfl) ?_)
  (refine at0 2 rfl (fun w' hq => pv_load (t1 rfl) rfl (by first | exact PT.ld0 hq rfl | exact PT.ld hq rfl)) ?_)
  (refine at0 4 rfl (fun w' hq => pv_move rfl) ?_)
  (refine at0 5 rfl (fun w' hq => pv_fa (tF rfl) rfl) ?_)
  (refine at0 6 rfl (fun w' hq => pv_load (t1 rfl) rfl (by first | exact PT.ld0 hq rfl | exact PT.ld hq rfl)) ?_)
  refine aw_act 3 (by kernel_rfl) rfl rfl rfl ?_
  refine act_call (f := 33) (by kernel_rfl) rfl (delete_c hD1 (n := x.name) h1) ?_; rintro e4 w4 ⟨rfl, hD4, hG4⟩; have hR4 := hR1.gw hG4 ⟨fun e => hs.a e.symm, fun e => hs.b e.symm⟩ ⟨hs.c, hs.d⟩; have hbs4 : base ≤ w4.heap.size := Nat.le_trans hbs1 hG4.size; refine ⟨_, rfl, hS.gw hG4 q5 q6, fun hS => ?_⟩
  refine aw_act 7 (by kernel_rfl) rfl rfl rfl ?_
  refine act_call (f := 34) (by kernel_rfl) rfl (rdelete_c hR4 hbs4 (n := x.name)) ?_; rintro e5 w5 ⟨rfl, hQ5⟩; refine ⟨_, rfl, hS.gn hQ5.2 q7, fun hS => ?_⟩
  (refine at0 8 rfl (fun w' hq => pv_eql rfl rfl) ?_)
  (refine at0 9 rfl (fun w' hq => pv_assign rfl) ?_)
  refine aw_done (by kernel_rfl) ?_
  replace H3 := hS; clear hS hNP
  have hw := Below.refl w5.heap.size w5
  repeat' (first | (refine is_cw ?_; first | (refine cw_ret ?_)) | (refine is_qw ?_; first | (with_reducible refine qw_then ?_) | (with_reducible refine qw_then_ret ?_) | (with_reducible refine qw_in_ret ?_)))
  exact qw_ret1 rfl rfl ⟨by rw [decide_eq_true rfl], do_fin hw1 hD4 hG4 hQ5 hs⟩
set_option maxRecDepth 20000 in
set_option maxHeartbeats 4000000 in
theorem do8_c {w : World} {N B base M : Nat} {v : Value} {d : Dsk} {x : OpC} (hD : DkW w N B d) (hR : RkW w base M v d) (hbs : base ≤ w.heap.size) (hs : Sep N B M v) (hx : OpB x) (hz : OpS x) (k0 : x.kind = 8) : Calls Tryz.prog 10 #[.agg (encQ x).toArray, .pointer (some ⟨N, 0, none⟩), .pointer (some ⟨M, 0, none⟩)] w fun e w' => e = .returned (.bool true) ∧ DoR w w' N B base M v ((cutD d x.n).2) := by
  have h1 : x.name.size ≤ 9223372036854775807 := by have := hz.name; omega
  have h2 : x.to.size ≤ 9223372036854775807 := by have := hz.to; omega
  have h3 : x.bytes.size ≤ 4611686018427387903 := by have := hz.bytes; omega
  have hbs' := hbs
  have hs' := hs
  have hkd := hx.kind
  have hxn := hx.n
  have hDl := hD.lt
  have hRl := hR.obj.lt
  have hvl := hR.own.lt
  have hw := Below.refl w.heap.size w
  refine fn_enter 206 Tryz.func10 rfl rfl rfl ?_
  refine cw_seq ?_
  refine cw_region ?_
  refine lw_boxN rfl rfl (cs := encQ x) rfl ?_; intro N3 w3 hN3 H3 hb; replace hw := grow_trans hw hb; clear hb
  have hw0 := hw
  clear hw
  have hw := Below.refl w3.heap.size w3
  have q5 : N3 ≠ N := by omega
  have q6 : N3 ≠ B := by omega
  have q7 : N3 ∉ M :: vb v := by
    simp only [List.mem_cons, not_or]
    refine ⟨by omega, vb_not fun e => ?_⟩
    have := hvl _ e
    omega
  repeat' (first | (refine lw_pure rfl (pv_assign rfl) ?_) | (refine is_cw ?_; first | (refine cw_seq ?_) | (refine cw_region ?_) | (refine cw_true rfl (by first | assumption | exact decide_eq_true (by omega) | exact dec_notT (by omega)) ?_) | (refine cw_false rfl (by first | assumption | exact decide_eq_false (by omega) | exact dec_notF (by omega)) ?_) | (refine cw_block ?_)) | (refine is_qw ?_; first | (with_reducible refine qw_then ?_)) | (refine lw_nil ?_) | ((refine is_bin ?_; first | (refine lw_pure rfl (pv_eql rfl rfl) ?_))) | ((refine is_load ?_; first | (refine lw_pure rfl (pv_load (t1 rfl) rfl (by first | exact PT.ld0 (H3.mono hw) rfl | exact PT.ld (H3.mono hw) rfl)) ?_))) | ((refine is_fa ?_; first | (refine lw_pure rfl (pv_fa (tF rfl) rfl) ?_))))
  have hwx := hw
  have hw1 := grow_trans (grow_trans hw0 hw) (below_drew _)
  have hD1 := hD.mono hw1
  have hR1 := hR.mono hw1
  have hbs1 := Nat.le_trans hbs hw1.size
  clear hw hw0
  refine cw_drawn (fun w' => PT w' N3 36 (encQ x)) (by kernel_rfl) (by repeat (first | exact NoPanic.body | with_reducible refine NoPanic.then ?_ | with_reducible refine NoPanic.inBlock ?_)) (fun hNP => ?_)
  have hS := (H3.mono hwx).mono (below_drew _)
  (refine at0 0 rfl (fun w' hq => pv_move rfl) ?_)
  (refine at0 1 rfl (fun w' hq => pv_fa (tF rfl) rfl) ?_)
  (refine at0 2 rfl (fun w' hq => pv_load (t1 rfl) rfl (by first | exact PT.ld0 hq rfl | exact PT.ld hq rfl)) ?_)
  (refine at0 4 rfl (fun w' hq => pv_move rfl) ?_)
  (refine at0 5 rfl (fun w' hq => pv_fa (tF rfl) rfl) ?_)
  (refine at0 6 rfl (fun w' hq => pv_load (t1 rfl) rfl (by first | exact PT.ld0 hq rfl | exact PT.ld hq rfl)) ?_)
  refine aw_act 3 (by kernel_rfl) rfl rfl rfl ?_
  refine act_call (f := 20) (by kernel_rfl) rfl (cut_c hD1 (k := x.n) hxn.2) ?_; rintro e4 w4 ⟨rfl, hD4, hG4⟩; have hR4 := hR1.gw hG4 ⟨fun e => hs.a e.symm, fun e => hs.b e.symm⟩ ⟨hs.c, hs.d⟩; have hbs4 : base ≤ w4.heap.size := Nat.le_trans hbs1 hG4.size; refine ⟨_, rfl, hS.gw hG4 q5 q6, fun hS => ?_⟩
  refine aw_act 7 (by kernel_rfl) rfl rfl rfl ?_
  refine act_call (f := 41) (by kernel_rfl) rfl (rcut_c hR4 (k := x.n) hxn.2) ?_; rintro e5 w5 ⟨rfl, hQ5⟩; refine ⟨_, rfl, hS.gn hQ5.2 q7, fun hS => ?_⟩
  (refine at0 8 rfl (fun w' hq => pv_eql rfl rfl) ?_)
  (refine at0 9 rfl (fun w' hq => pv_assign rfl) ?_)
  refine aw_done (by kernel_rfl) ?_
  replace H3 := hS; clear hS hNP
  have hw := Below.refl w5.heap.size w5
  repeat' (first | (refine is_cw ?_; first | (refine cw_ret ?_)) | (refine is_qw ?_; first | (with_reducible refine qw_then ?_) | (with_reducible refine qw_then_ret ?_) | (with_reducible refine qw_in_ret ?_)))
  exact qw_ret1 rfl rfl ⟨by rw [decide_eq_true rfl], do_fin hw1 hD4 hG4 hQ5 hs⟩
set_option maxRecDepth 20000 in
set_option maxHeartbeats 4000000 in
theorem do6_c {w : World} {N B base M : Nat} {v : Value} {d : Dsk} {x : OpC} (hD : DkW w N B d) (hR : RkW w base M v d) (hbs : base ≤ w.heap.size) (hs : Sep N B M v) (hx : OpB x) (hz : OpS x) (k0 : x.kind = 6) : Calls Tryz.prog 10 #[.agg (encQ x).toArray, .pointer (some ⟨N, 0, none⟩), .pointer (some ⟨M, 0, none⟩)] w fun e w' => e = .returned (.bool true) ∧ DoR w w' N B base M v (d) := by
  have h1 : x.name.size ≤ 9223372036854775807 := by have := hz.name; omega
  have h2 : x.to.size ≤ 9223372036854775807 := by have := hz.to; omega
  have h3 : x.bytes.size ≤ 4611686018427387903 := by have := hz.bytes; omega
  have hbs' := hbs
  have hs' := hs
  have hkd := hx.kind
  have hxn := hx.n
  have hDl := hD.lt
  have hRl := hR.obj.lt
  have hvl := hR.own.lt
  have hw := Below.refl w.heap.size w
  refine fn_enter 206 Tryz.func10 rfl rfl rfl ?_
  refine cw_seq ?_
  refine cw_region ?_
  refine lw_boxN rfl rfl (cs := encQ x) rfl ?_; intro N3 w3 hN3 H3 hb; replace hw := grow_trans hw hb; clear hb
  have hw0 := hw
  clear hw
  have hw := Below.refl w3.heap.size w3
  have q5 : N3 ≠ N := by omega
  have q6 : N3 ≠ B := by omega
  have q7 : N3 ∉ M :: vb v := by
    simp only [List.mem_cons, not_or]
    refine ⟨by omega, vb_not fun e => ?_⟩
    have := hvl _ e
    omega
  have hE : decide ((readD d x.name).1 = (readD d x.name).1) = true := decide_eq_true rfl
  repeat' (first | (refine lw_pure rfl (pv_move rfl) ?_) | (refine lw_pure rfl (pv_assign rfl) ?_) | (refine is_cw ?_; first | (refine cw_seq ?_) | (refine cw_region ?_) | (refine cw_true rfl (by first | assumption | exact decide_eq_true (by omega) | exact dec_notT (by omega)) ?_) | (refine cw_false rfl (by first | assumption | exact decide_eq_false (by omega) | exact dec_notF (by omega)) ?_) | (refine cw_block ?_)) | (refine is_qw ?_; first | (with_reducible refine qw_then ?_)) | (refine lw_nil ?_) | ((refine is_bin ?_; first | (refine lw_pure rfl (pv_eql rfl rfl) ?_))) | ((refine is_load ?_; first | (refine lw_pure rfl (pv_load (t1 rfl) rfl (by first | exact PT.ld0 (H3.mono hw) rfl | exact PT.ld (H3.mono hw) rfl)) ?_))) | ((refine is_fa ?_; first | (refine lw_pure rfl (pv_fa (tF rfl) rfl) ?_))))
  refine lw_call (f := 22) (by kernel_rfl) rfl rfl (read_c (hD.mono (grow_trans hw0 hw)) (n := x.name) h1) ?_; rintro e w1 ⟨rfl, hb⟩; refine ⟨_, rfl, ?_⟩; replace hw := grow_trans hw hb; clear hb
  repeat' (first | (refine lw_pure rfl (pv_move rfl) ?_) | (refine lw_pure rfl (pv_assign rfl) ?_) | (refine is_cw ?_; first | (refine cw_seq ?_) | (refine cw_region ?_)) | (refine is_qw ?_; first | (with_reducible refine qw_then ?_)) | (refine lw_nil ?_) | ((refine is_load ?_; first | (refine lw_pure rfl (pv_load (t1 rfl) rfl (by first | exact PT.ld0 (H3.mono hw) rfl | exact PT.ld (H3.mono hw) rfl)) ?_))) | ((refine is_fa ?_; first | (refine lw_pure rfl (pv_fa (tF rfl) rfl) ?_))) | (refine lw_pure rfl (pv_extract rfl rfl) ?_))
  refine lw_call (f := 35) (by kernel_rfl) rfl rfl (rread_c (hR.mono (grow_trans hw0 hw)) (n := x.name)) ?_; rintro e w1 ⟨rfl, hb⟩; refine ⟨_, rfl, ?_⟩; replace hw := grow_trans hw hb; clear hb
  repeat' (first | (refine lw_pure rfl (pv_move rfl) ?_) | (refine lw_pure rfl (pv_assign rfl) ?_) | (refine is_cw ?_; first | (refine cw_seq ?_) | (refine cw_region ?_) | (refine cw_ret ?_)) | (refine is_qw ?_; first | (with_reducible refine qw_then ?_) | (with_reducible refine qw_then_ret ?_) | (with_reducible refine qw_in_ret ?_)) | (refine lw_nil ?_) | (refine is_guarded ?_; first | (refine lw_on rfl rfl (by first | assumption | exact decide_eq_true (by omega) | exact decide_eq_false (by omega) | exact dec_notT (by omega) | exact dec_notF (by omega)) ?_)) | ((refine is_bin ?_; first | (refine lw_pure rfl (pv_eql rfl rfl) ?_) | (refine lw_pure rfl (pv_seqlD rfl rfl) ?_))) | (refine lw_pure rfl (pv_pick_t rfl (by first | assumption | exact decide_eq_true (by omega) | exact dec_notT (by omega)) rfl) ?_) | (refine lw_pure rfl (pv_extract rfl rfl) ?_))
  exact qw_ret1 rfl rfl ⟨by rw [decide_eq_true rfl], do_same hD hR (grow_trans hw0 hw)⟩
set_option maxRecDepth 20000 in
set_option maxHeartbeats 4000000 in
theorem do7_c {w : World} {N B base M : Nat} {v : Value} {d : Dsk} {x : OpC} (hD : DkW w N B d) (hR : RkW w base M v d) (hbs : base ≤ w.heap.size) (hs : Sep N B M v) (hx : OpB x) (hz : OpS x) (k0 : x.kind = 7) : Calls Tryz.prog 10 #[.agg (encQ x).toArray, .pointer (some ⟨N, 0, none⟩), .pointer (some ⟨M, 0, none⟩)] w fun e w' => e = .returned (.bool true) ∧ DoR w w' N B base M v (d) := by
  have h1 : x.name.size ≤ 9223372036854775807 := by have := hz.name; omega
  have h2 : x.to.size ≤ 9223372036854775807 := by have := hz.to; omega
  have h3 : x.bytes.size ≤ 4611686018427387903 := by have := hz.bytes; omega
  have hbs' := hbs
  have hs' := hs
  have hkd := hx.kind
  have hxn := hx.n
  have hDl := hD.lt
  have hRl := hR.obj.lt
  have hvl := hR.own.lt
  have hw := Below.refl w.heap.size w
  refine fn_enter 206 Tryz.func10 rfl rfl rfl ?_
  refine cw_seq ?_
  refine cw_region ?_
  refine lw_boxN rfl rfl (cs := encQ x) rfl ?_; intro N3 w3 hN3 H3 hb; replace hw := grow_trans hw hb; clear hb
  have hw0 := hw
  clear hw
  have hw := Below.refl w3.heap.size w3
  have q5 : N3 ≠ N := by omega
  have q6 : N3 ≠ B := by omega
  have q7 : N3 ∉ M :: vb v := by
    simp only [List.mem_cons, not_or]
    refine ⟨by omega, vb_not fun e => ?_⟩
    have := hvl _ e
    omega
  obtain ⟨ra, rc, rfl, -, -⟩ := Own.slR encF_len hR.own
  have hD3 := hD.mono hw0
  have hR3 := hR.mono hw0
  have HR := hR3.obj
  have hus := hD.ok.used
  have hcp := hD.ok.cap
  have hct := hD.ok.cnt
  repeat' (first | (refine lw_pure rfl (pv_move rfl) ?_) | (refine lw_pure rfl (pv_assign rfl) ?_) | (refine is_cw ?_; first | (refine cw_seq ?_) | (refine cw_region ?_) | (refine cw_true rfl (by first | assumption | exact decide_eq_true (by omega) | exact dec_notT (by omega)) ?_) | (refine cw_false rfl (by first | assumption | exact decide_eq_false (by omega) | exact dec_notF (by omega)) ?_) | (refine cw_block ?_)) | (refine is_qw ?_; first | (with_reducible refine qw_then ?_)) | (refine lw_nil ?_) | ((refine is_bin ?_; first | (refine lw_pure rfl (pv_eql rfl rfl) ?_))) | ((refine is_load ?_; first | (refine lw_pure rfl (pv_load (t1 rfl) rfl (by first | exact PT.ld0 (H3.mono hw) rfl | exact PT.ld (H3.mono hw) rfl)) ?_))) | ((refine is_fa ?_; first | (refine lw_pure rfl (pv_fa (tF rfl) rfl) ?_))))
  cases hk : d.dark with
  | true =>
    refine lw_call (f := 36) (by kernel_rfl) rfl rfl (list45_c (hD3.mono hw) hk) ?_; rintro e w1 ⟨rfl, hb⟩; refine ⟨_, rfl, ?_⟩; replace hw := grow_trans hw hb; clear hb
    repeat' (first | (refine lw_pure rfl (pv_move rfl) ?_) | (refine lw_pure rfl (pv_assign rfl) ?_) | (refine is_cw ?_; first | (refine cw_seq ?_) | (refine cw_region ?_)) | (refine is_qw ?_; first | (with_reducible refine qw_then ?_)) | (refine lw_nil ?_) | (refine lw_pure rfl (pv_extract rfl rfl) ?_))
    refine lw_call (f := 37) (by kernel_rfl) rfl rfl (rlist45_c (hR3.mono hw) hk) ?_; rintro e w1 ⟨rfl, hb⟩; refine ⟨_, rfl, ?_⟩; replace hw := grow_trans hw hb; clear hb
    repeat' (first | (refine lw_pure rfl (pv_move rfl) ?_) | (refine lw_pure rfl (pv_assign rfl) ?_) | (refine is_cw ?_; first | (refine cw_seq ?_) | (refine cw_region ?_)) | (refine is_qw ?_; first | (with_reducible refine qw_then ?_)) | (refine lw_nil ?_) | (refine lw_pure rfl (pv_extract rfl rfl) ?_))
    refine lw_call (f := 38) (by kernel_rfl) rfl rfl (room45_c (hD3.mono hw) hk) ?_; rintro e w1 ⟨rfl, hb⟩; refine ⟨_, rfl, ?_⟩; replace hw := grow_trans hw hb; clear hb
    repeat' (first | (refine lw_pure rfl (pv_move rfl) ?_) | (refine lw_pure rfl (pv_assign rfl) ?_) | (refine is_cw ?_; first | (refine cw_seq ?_)) | (refine is_qw ?_; first | (with_reducible refine qw_then ?_)) | (refine lw_nil ?_) | (refine lw_pure rfl (pv_extract rfl rfl) ?_))
    refine cw_drawn (fun w' => Below w3.heap.size w3 w') (by kernel_rfl) (by repeat (first | exact NoPanic.body | with_reducible refine NoPanic.then ?_ | with_reducible refine NoPanic.inBlock ?_)) (fun hNP => ?_)
    have hS := hw.drew
    all_goals (refine at0 0 rfl (fun w' hq => pv_move rfl) ?_)
    all_goals (refine at0 1 rfl (fun w' hq => pv_move rfl) ?_)
    all_goals (refine at0 2 rfl (fun w' hq => pv_neq rfl rfl) ?_)
    all_goals (refine at0 3 rfl (fun w' hq => pv_move rfl) ?_)
    all_goals (refine at1 4 rfl rfl rfl rfl (fun w' hq => pv_move rfl) ?_)
    all_goals (refine at1 5 rfl rfl rfl rfl (fun w' hq => pv_eql rfl rfl) ?_)
    all_goals (refine at1 6 rfl rfl rfl rfl (fun w' hq => pv_move rfl) ?_)
    all_goals (refine an1 7 rfl rfl rfl rfl ?_)
    all_goals (refine an1 8 rfl rfl rfl rfl ?_)
    all_goals (refine an1 9 rfl rfl rfl rfl ?_)
    all_goals (refine an1 10 rfl rfl rfl rfl ?_)
    all_goals (refine an1 11 rfl rfl rfl rfl ?_)
    all_goals (refine an1 12 rfl rfl rfl rfl ?_)
    all_goals first | (refine an3 13 rfl rfl rfl ?_) | (refine an0 13 rfl rfl rfl ?_) | (refine aw_act_g 13 (by kernel_rfl) rfl rfl rfl (by first | rfl | assumption | exact decide_eq_true (by omega) | exact decide_eq_false (by omega) | exact dec_notT (by omega) | exact dec_notF (by omega)) rfl ?_; refine act_call (f := 39) (by kernel_rfl) rfl (rused_c (hR3.mono hS)) ?_; rintro e1 w1 ⟨rfl, hb⟩; refine ⟨_, rfl, grow_trans hS hb, fun hS => ?_⟩)
    all_goals (refine an1 14 rfl rfl rfl rfl ?_)
    all_goals (refine an1 15 rfl rfl rfl rfl ?_)
    all_goals (refine an1 16 rfl rfl rfl rfl ?_)
    all_goals (refine an0 17 rfl rfl rfl ?_)
    all_goals (refine an0 18 rfl rfl rfl ?_)
    all_goals (refine an0 19 rfl rfl rfl ?_)
    all_goals (refine an0 20 rfl rfl rfl ?_)
    all_goals (refine an0 21 rfl rfl rfl ?_)
    all_goals (refine an0 22 rfl rfl rfl ?_)
    all_goals (refine an0 23 rfl rfl rfl ?_)
    all_goals (refine an0 24 rfl rfl rfl ?_)
    all_goals (refine an1 25 rfl rfl rfl rfl ?_)
    all_goals (refine at1 26 rfl rfl rfl rfl (fun w' hq => pv_pick_f rfl rfl rfl) ?_)
    all_goals (refine at0 27 rfl (fun w' hq => pv_pick_f rfl rfl rfl) ?_)
    all_goals (refine at0 28 rfl (fun w' hq => pv_move rfl) ?_)
    all_goals (refine at1 29 rfl rfl rfl rfl (fun w' hq => pv_move rfl) ?_)
    all_goals (refine at1 30 rfl rfl rfl rfl (fun w' hq => pv_neq rfl rfl) ?_)
    all_goals (refine at1 31 rfl rfl rfl rfl (fun w' hq => pv_move rfl) ?_)
    all_goals (refine at1 32 rfl rfl rfl rfl (fun w' hq => pv_move rfl) ?_)
    all_goals (refine at1 33 rfl rfl rfl rfl (fun w' hq => pv_move rfl) ?_)
    all_goals (refine at1 34 rfl rfl rfl rfl (fun w' hq => pv_add rfl rfl (by omega)) ?_)
    all_goals (refine at1 35 rfl rfl rfl rfl (fun w' hq => pv_neq rfl rfl) ?_)
    all_goals (refine at1 36 rfl rfl rfl rfl (fun w' hq => pv_pick_t rfl rfl rfl) ?_)
    all_goals (refine at0 37 rfl (fun w' hq => pv_pick_f rfl rfl rfl) ?_)
    all_goals (refine aw_done (by kernel_rfl) ?_; replace hw := hS; clear hS hNP)
    repeat' (first | (refine lw_pure rfl (pv_move rfl) ?_) | (refine is_cw ?_; first | (refine cw_seq ?_) | (refine cw_region ?_) | (refine cw_false rfl rfl ?_) | (refine cw_skip ?_)) | (refine is_qw ?_; first | (with_reducible refine qw_then ?_)))
    refine lw_call (f := 40) (by kernel_rfl) rfl rfl (texts_c (xs := []) (v := .slice none 0 0) (base := 0) (Own.nil _) rfl (SlR.nil _) (fun x hx => (by cases hx))) ?_; rintro e1 w1 ⟨rfl, hg⟩; refine ⟨_, rfl, ?_⟩
    replace hw := hw.grown hg hw.size (fun q hq => by cases hq)
    repeat' (first | (refine lw_pure rfl (pv_move rfl) ?_) | (refine lw_pure rfl (pv_assign rfl) ?_) | (refine is_cw ?_; first | (refine cw_ret ?_)) | (refine is_qw ?_; first | (with_reducible refine qw_then ?_) | (with_reducible refine qw_then_ret ?_) | (with_reducible refine qw_in_ret ?_)) | (refine lw_nil ?_) | (refine is_guarded ?_; first | (refine lw_on rfl rfl rfl ?_)) | ((refine is_bin ?_; first | (refine lw_pure rfl (pv_eql rfl rfl) ?_))) | (refine lw_pure rfl (pv_pick_t rfl rfl rfl) ?_))
    exact qw_ret1 rfl rfl ⟨by rw [decide_eq_true rfl], do_same hD hR (grow_trans hw0 hw)⟩
  | false =>
    refine lw_call (f := 36) (by kernel_rfl) rfl rfl (list_c (hD3.mono hw) hk) ?_; rintro e1 wa ⟨⟨v1, rfl, hO1⟩, hb⟩; refine ⟨_, rfl, ?_⟩
    replace hO1 := hO1.weaken hw.size
    replace hw := grow_trans hw hb
    clear hb
    repeat' (first | (refine lw_pure rfl (pv_move rfl) ?_) | (refine lw_pure rfl (pv_assign rfl) ?_) | (refine is_cw ?_; first | (refine cw_seq ?_) | (refine cw_region ?_)) | (refine is_qw ?_; first | (with_reducible refine qw_then ?_)) | (refine lw_nil ?_) | (refine lw_pure rfl (pv_extract rfl rfl) ?_))
    refine lw_call (f := 37) (by kernel_rfl) rfl rfl (rlist_c (hR3.mono hw) hk) ?_; rintro e1 wc ⟨⟨v2, rfl, hO2⟩, hb⟩; refine ⟨_, rfl, ?_⟩
    have hne2 : ∀ q, v1.ownBlock = some q → q < wa.heap.size := fun q hq => (hO1.lt q hq).2
    obtain ⟨a2, c2, rfl, HS2, hb2⟩ := Own.slR encT_len hO2
    have hO1c := hO1.mono hb
    replace hw := grow_trans hw hb
    clear hb hO2
    have hwc := hw
    clear hw
    have hw := Below.refl wc.heap.size wc
    have hD3c := hD3.mono hwc
    have hR3c := hR3.mono hwc
    clear hD3 hR3 HR
    have HR := hR3c.obj
    have hR3 := hR3c
    repeat' (first | (refine lw_pure rfl (pv_move rfl) ?_) | (refine lw_pure rfl (pv_assign rfl) ?_) | (refine is_cw ?_; first | (refine cw_seq ?_) | (refine cw_region ?_)) | (refine is_qw ?_; first | (with_reducible refine qw_then ?_)) | (refine lw_nil ?_) | (refine lw_pure rfl (pv_extract rfl rfl) ?_))
    refine lw_call (f := 38) (by kernel_rfl) rfl rfl (room0_c (hD3c.mono hw) hk) ?_; rintro e w1 ⟨rfl, hb⟩; refine ⟨_, rfl, ?_⟩; replace hw := grow_trans hw hb; clear hb
    repeat' (first | (refine lw_pure rfl (pv_move rfl) ?_) | (refine lw_pure rfl (pv_assign rfl) ?_) | (refine is_cw ?_; first | (refine cw_seq ?_)) | (refine is_qw ?_; first | (with_reducible refine qw_then ?_)) | (refine lw_nil ?_) | (refine lw_pure rfl (pv_extract rfl rfl) ?_))
    refine cw_drawn (fun w' => Below wc.heap.size wc w') (by kernel_rfl) (by repeat (first | exact NoPanic.body | with_reducible refine NoPanic.then ?_ | with_reducible refine NoPanic.inBlock ?_)) (fun hNP => ?_)
    have hS := hw.drew
    all_goals (refine at0 0 rfl (fun w' hq => pv_move rfl) ?_)
    all_goals (refine at0 1 rfl (fun w' hq => pv_move rfl) ?_)
    all_goals (refine at0 2 rfl (fun w' hq => pv_neq rfl rfl) ?_)
    all_goals (refine at0 3 rfl (fun w' hq => pv_move rfl) ?_)
    all_goals (refine at1 4 rfl rfl rfl rfl (fun w' hq => pv_move rfl) ?_)
    all_goals (refine at1 5 rfl rfl rfl rfl (fun w' hq => pv_eql rfl rfl) ?_)
    all_goals (refine at1 6 rfl rfl rfl rfl (fun w' hq => pv_move rfl) ?_)
    all_goals (refine at1 7 rfl rfl rfl rfl (fun w' hq => pv_move rfl) ?_)
    all_goals (refine at1 8 rfl rfl rfl rfl (fun w' hq => pv_move rfl) ?_)
    all_goals (refine at1 9 rfl rfl rfl rfl (fun w' hq => pv_nilp rfl) ?_)
    all_goals (refine at1 10 rfl rfl rfl rfl (fun w' hq => pv_fa (tF rfl) rfl) ?_)
    all_goals (refine at1 11 rfl rfl rfl rfl (fun w' hq => pv_load (t1 rfl) rfl (by first | exact PT.ld0 (HR.mono hq) rfl | exact PT.ld (HR.mono hq) rfl)) ?_)
    all_goals (refine at1 12 rfl rfl rfl rfl (fun w' hq => pv_move rfl) ?_)
    all_goals first | (refine an3 13 rfl rfl rfl ?_) | (refine an0 13 rfl rfl rfl ?_) | (refine aw_act_g 13 (by kernel_rfl) rfl rfl rfl (by first | rfl | assumption | exact decide_eq_true (by omega) | exact decide_eq_false (by omega) | exact dec_notT (by omega) | exact dec_notF (by omega)) rfl ?_; refine act_call (f := 39) (by kernel_rfl) rfl (rused_c (hR3.mono hS)) ?_; rintro e1 w1 ⟨rfl, hb⟩; refine ⟨_, rfl, grow_trans hS hb, fun hS => ?_⟩)
    all_goals (refine at1 14 rfl rfl rfl rfl (fun w' hq => pv_sub rfl rfl (by omega)) ?_)
    all_goals (refine at1 15 rfl rfl rfl rfl (fun w' hq => pv_neq rfl rfl) ?_)
    all_goals (refine at1 16 rfl rfl rfl rfl (fun w' hq => pv_move rfl) ?_)
    all_goals (refine at2 17 rfl rfl rfl (fun w' hq => pv_move rfl) ?_)
    all_goals (refine at2 18 rfl rfl rfl (fun w' hq => pv_move rfl) ?_)
    all_goals (refine at2 19 rfl rfl rfl (fun w' hq => pv_nilp rfl) ?_)
    all_goals (refine at2 20 rfl rfl rfl (fun w' hq => pv_fa (tF rfl) rfl) ?_)
    all_goals (refine at2 21 rfl rfl rfl (fun w' hq => pv_load (t1 rfl) rfl (by first | exact PT.ld0 (HR.mono hq) rfl | exact PT.ld (HR.mono hq) rfl)) ?_)
    all_goals (refine at2 22 rfl rfl rfl (fun w' hq => pv_lenl (tS rfl) rfl) ?_)
    all_goals (refine at2 23 rfl rfl rfl (fun w' hq => pv_sub rfl rfl (by omega)) ?_)
    all_goals (refine at2 24 rfl rfl rfl (fun w' hq => pv_neq rfl rfl) ?_)
    all_goals (refine at1 25 rfl rfl rfl rfl (fun w' hq => pv_pick_f rfl (by first | assumption | exact decide_eq_false (by omega) | exact dec_notF (by omega)) rfl) ?_)
    all_goals (refine at1 26 rfl rfl rfl rfl (fun w' hq => pv_pick_t rfl rfl rfl) ?_)
    all_goals (refine at0 27 rfl (fun w' hq => pv_pick_f rfl rfl rfl) ?_)
    all_goals (refine at0 28 rfl (fun w' hq => pv_move rfl) ?_)
    all_goals (refine at2 29 rfl rfl rfl (fun w' hq => pv_move rfl) ?_)
    all_goals (refine at2 30 rfl rfl rfl (fun w' hq => pv_neq rfl rfl) ?_)
    all_goals (refine at2 31 rfl rfl rfl (fun w' hq => pv_move rfl) ?_)
    all_goals (refine an1 32 rfl rfl rfl rfl ?_)
    all_goals (refine an1 33 rfl rfl rfl rfl ?_)
    all_goals (refine an1 34 rfl rfl rfl rfl ?_)
    all_goals (refine an1 35 rfl rfl rfl rfl ?_)
    all_goals (refine at2 36 rfl rfl rfl (fun w' hq => pv_pick_f rfl rfl rfl) ?_)
    all_goals (refine at0 37 rfl (fun w' hq => pv_pick_f rfl (by first | assumption | exact decide_eq_false (by omega) | exact dec_notF (by omega)) rfl) ?_)
    all_goals (refine aw_done (by kernel_rfl) ?_; replace hw := hS; clear hS hNP)
    repeat' (first | (refine lw_pure rfl (pv_move rfl) ?_) | (refine is_cw ?_; first | (refine cw_seq ?_) | (refine cw_region ?_) | (refine cw_false rfl rfl ?_) | (refine cw_skip ?_)) | (refine is_qw ?_; first | (with_reducible refine qw_then ?_)))
    refine lw_call (f := 40) (by kernel_rfl) rfl rfl (texts_c (hO1c.mono hw) rfl (HS2.mono hw) (fun y hy e => by have := (hb2 y hy).1; have := hne2 _ e; omega)) ?_; rintro e1 w1 ⟨rfl, hg⟩; refine ⟨_, rfl, ?_⟩
    have hwf := (grow_trans hwc hw).grown hg (grow_trans hwc hw).size (fun q hq => (hO1c.lt q hq).1)
    repeat' (first | (refine lw_pure rfl (pv_move rfl) ?_) | (refine lw_pure rfl (pv_assign rfl) ?_) | (refine is_cw ?_; first | (refine cw_ret ?_)) | (refine is_qw ?_; first | (with_reducible refine qw_then ?_) | (with_reducible refine qw_then_ret ?_) | (with_reducible refine qw_in_ret ?_)) | (refine lw_nil ?_) | (refine is_guarded ?_; first | (refine lw_on rfl rfl rfl ?_)) | ((refine is_bin ?_; first | (refine lw_pure rfl (pv_eql rfl rfl) ?_))) | (refine lw_pure rfl (pv_pick_t rfl rfl rfl) ?_))
    exact qw_ret1 rfl rfl ⟨by rw [decide_eq_true rfl], do_same hD hR (grow_trans hw0 hwf)⟩
set_option maxRecDepth 20000 in
set_option maxHeartbeats 4000000 in
theorem do9_c {w : World} {N B base M : Nat} {v : Value} {d : Dsk} {x : OpC} (hD : DkW w N B d) (hR : RkW w base M v d) (hbs : base ≤ w.heap.size) (hs : Sep N B M v) (hx : OpB x) (hz : OpS x) {keep : List Int} (hkl : keep.length = x.km) (HK : SlR encI 1 w x.ka x.kc keep) (hk1 : 0 < x.kc → ∀ y, x.ka = some y → y.block ≠ B ∧ y.block ≠ N ∧ y.block ∉ M :: vb v) (k0 : 8 < x.kind) : Calls Tryz.prog 10 #[.agg (encQ x).toArray, .pointer (some ⟨N, 0, none⟩), .pointer (some ⟨M, 0, none⟩)] w fun e w' => e = .returned (.bool true) ∧ DoR w w' N B base M v (crashD d keep) := by
  have h1 : x.name.size ≤ 9223372036854775807 := by have := hz.name; omega
  have h2 : x.to.size ≤ 9223372036854775807 := by have := hz.to; omega
  have h3 : x.bytes.size ≤ 4611686018427387903 := by have := hz.bytes; omega
  have hbs' := hbs
  have hs' := hs
  have hkd := hx.kind
  have hxn := hx.n
  have hDl := hD.lt
  have hRl := hR.obj.lt
  have hvl := hR.own.lt
  have hw := Below.refl w.heap.size w
  refine fn_enter 206 Tryz.func10 rfl rfl rfl ?_
  refine cw_seq ?_
  refine cw_region ?_
  refine lw_boxN rfl rfl (cs := encQ x) rfl ?_; intro N3 w3 hN3 H3 hb; replace hw := grow_trans hw hb; clear hb
  have hw0 := hw
  clear hw
  have hw := Below.refl w3.heap.size w3
  have q5 : N3 ≠ N := by omega
  have q6 : N3 ≠ B := by omega
  have q7 : N3 ∉ M :: vb v := by
    simp only [List.mem_cons, not_or]
    refine ⟨by omega, vb_not fun e => ?_⟩
    have := hvl _ e
    omega
  repeat' (first | (refine lw_pure rfl (pv_move rfl) ?_) | (refine lw_pure rfl (pv_assign rfl) ?_) | (refine is_cw ?_; first | (refine cw_seq ?_) | (refine cw_region ?_) | (refine cw_false rfl (by first | assumption | exact decide_eq_false (by omega) | exact dec_notF (by omega)) ?_) | (refine cw_skip ?_) | (refine cw_block ?_)) | (refine is_qw ?_; first | (with_reducible refine qw_then ?_) | (with_reducible refine qw_in ?_)) | (refine lw_nil ?_) | ((refine is_bin ?_; first | (refine lw_pure rfl (pv_eql rfl rfl) ?_))) | ((refine is_load ?_; first | (refine lw_pure rfl (pv_load (t1 rfl) rfl (by first | exact PT.ld0 (H3.mono hw) rfl | exact PT.ld (H3.mono hw) rfl)) ?_))) | ((refine is_fa ?_; first | (refine lw_pure rfl (pv_fa (tF rfl) rfl) ?_))))
  refine lw_call (f := 42) (by kernel_rfl) rfl rfl (rcrash_c (hR.mono (grow_trans hw0 hw)) hkl (HK.mono (grow_trans hw0 hw)) (fun hc y hy => (hk1 hc y hy).2.2)) ?_; rintro e5 w5 ⟨rfl, hQ5⟩; refine ⟨_, rfl, ?_⟩
  have hw3 := grow_trans hw0 hw
  have hD5 := (hD.mono hw3).gn hQ5.2 hs.n1 hs.n2
  have HK5 := (HK.mono hw3).gn hQ5.2 (fun hc y hy => (hk1 hc y hy).2.2)
  have H5 := (H3.mono hw).gn hQ5.2 q7
  have hs3 := hw3.size
  clear hw
  have hw := Below.refl w5.heap.size w5
  repeat' (first | (refine lw_pure rfl (pv_move rfl) ?_) | (refine is_cw ?_; first | (refine cw_seq ?_) | (refine cw_region ?_)) | (refine is_qw ?_; first | (with_reducible refine qw_then ?_)) | (refine lw_nil ?_) | ((refine is_load ?_; first | (refine lw_pure rfl (pv_load (t1 rfl) rfl (by first | exact PT.ld0 (H5.mono hw) rfl | exact PT.ld (H5.mono hw) rfl)) ?_))) | ((refine is_fa ?_; first | (refine lw_pure rfl (pv_fa (tF rfl) rfl) ?_))))
  refine lw_call (f := 19) (by kernel_rfl) rfl rfl (crashk_c hD5 hkl HK5 (fun hc y hy => (hk1 hc y hy).1)) ?_; rintro e6 w6 ⟨rfl, hD6, hG6⟩; refine ⟨_, rfl, ?_⟩
  clear hw
  have hw := Below.refl w6.heap.size w6
  repeat' (first | (refine lw_pure rfl (pv_assign rfl) ?_) | (refine is_cw ?_; first | (refine cw_ret ?_)) | (refine is_qw ?_; first | (with_reducible refine qw_then ?_)) | (refine lw_nil ?_) | ((refine is_bin ?_; first | (refine lw_pure rfl (pv_eql rfl rfl) ?_))))
  exact qw_ret1 rfl rfl ⟨rfl, do_rev hw3 hQ5 hD6 hG6 hs (by omega) (by omega)⟩
theorem ldo_c {w : World} {N B base M : Nat} {v : Value} {d : Dsk} {x : OpC} (hD : DkW w N B d) (hR : RkW w base M v d) (hbs : base ≤ w.heap.size) (hs : Sep N B M v) (hx : OpB x) (hz : OpS x) {keep : List Int} (hkl : keep.length = x.km) (HK : SlR encI 1 w x.ka x.kc keep) (hk1 : 0 < x.kc → ∀ y, x.ka = some y → y.block ≠ B ∧ y.block ≠ N ∧ y.block ∉ M :: vb v) : Calls Tryz.prog 10 #[.agg (encQ x).toArray, .pointer (some ⟨N, 0, none⟩), .pointer (some ⟨M, 0, none⟩)] w fun e w' => e = .returned (.bool true) ∧ DoR w w' N B base M v (stepD x keep d) := by
  have hkd := hx.kind
  unfold stepD
  split
  · exact do0_c hD hR hbs hs hx hz (by assumption)
  split
  · exact do1_c hD hR hbs hs hx hz (by assumption)
  split
  · exact do2_c hD hR hbs hs hx hz (by assumption)
  split
  · exact do3_c hD hR hbs hs hx hz (by assumption)
  split
  · exact do4_c hD hR hbs hs hx hz (by assumption)
  split
  · exact do5_c hD hR hbs hs hx hz (by assumption)
  split
  · exact do6_c hD hR hbs hs hx hz (by assumption)
  split
  · exact do7_c hD hR hbs hs hx hz (by assumption)
  split
  · exact do8_c hD hR hbs hs hx hz (by assumption)
  · exact do9_c hD hR hbs hs hx hz hkl HK hk1 (by omega)

theorem RkW.weaken {w : World} {base B N : Nat} {v : Value} {d : Dsk} (h : RkW w base N v d) (hb : B ≤ base) : RkW w B N v d := ⟨h.obj, h.own.weaken hb, h.ok⟩
theorem not_in {q N B M : Nat} {v : Value} {S : Nat} (hN : N < S) (hB : B < S) (hM : M < S) (hv : ∀ b, v.ownBlock = some b → b < S) (hq : S ≤ q) : q ∉ N :: B :: M :: vb v := by
  simp only [List.mem_cons, not_or]
  exact ⟨by omega, by omega, by omega, vb_not fun e => by have := hv _ e; omega⟩
theorem not_in2 {q N B M : Nat} {v : Value} {S : Nat} (hN : S ≤ N) (hB : S ≤ B) (hM : S ≤ M) (hv : ∀ b, v.ownBlock = some b → S ≤ b) (hq : q < S) : q ∉ N :: B :: M :: vb v := by
  simp only [List.mem_cons, not_or]
  exact ⟨by omega, by omega, by omega, vb_not fun e => by have := hv _ e; omega⟩
set_option maxRecDepth 20000 in
set_option maxHeartbeats 4000000 in
theorem runslaw_c {xs : List OpC} {m : Nat} {cap : Int} {a : Option Addr} {ca : Nat} {w : World} (hm : xs.length = m) (hcap : -9223372036854775808 ≤ cap ∧ cap ≤ 9223372036854775807) (HX : SlR encQ 6 w a ca xs) (bX : ∀ x ∈ xs, OpB x) (KX : ∀ x ∈ xs, ∃ keep : List Int, keep.length = x.km ∧ SlR encI 1 w x.ka x.kc keep) : Calls Tryz.prog 3 #[.int .i64 cap, .slice a m ca] w fun e w' => e = .returned (.bool true) ∧ Below w.heap.size w w' := by
  subst hm
  have hle := HX.le
  have hmx := HX.max
  have hw := Below.refl w.heap.size w
  refine fn_enter 94 Tryz.func3 rfl rfl rfl ?_
  repeat' (first | (refine lw_pure rfl (pv_move rfl) ?_) | (refine lw_pure rfl (pv_assign rfl) ?_) | (refine is_cw ?_; first | (refine cw_seq ?_) | (refine cw_region ?_)) | (refine is_qw ?_; first | (with_reducible refine qw_then ?_)) | (refine lw_nil ?_))
  refine lw_call (f := 4) (by kernel_rfl) rfl rfl (long_c rfl (HX.mono hw)) ?_; rintro e w1 ⟨⟨b1, rfl, hL1⟩, hb⟩; refine ⟨_, rfl, ?_⟩; replace hw := grow_trans hw hb; clear hb
  cases b1 with
  | true =>
    repeat' (first | (refine is_cw ?_; first | (refine cw_seq ?_) | (refine cw_region ?_) | (refine cw_true rfl rfl ?_)) | (refine is_qw ?_; first | (with_reducible refine qw_then ?_)) | (refine lw_nil ?_))
    (refine lw_call (f := 5) (by kernel_rfl) rfl rfl (awake_c _) ?_; rintro e1 wz ⟨rfl, hb⟩; refine ⟨_, rfl, ?_⟩; replace hw := grow_trans hw hb; clear hb)
    repeat' (first | (refine lw_pure rfl (pv_assign rfl) ?_) | (refine is_cw ?_; first | (refine cw_ret ?_)) | (refine is_qw ?_; first | (with_reducible refine qw_then ?_) | (with_reducible refine qw_then_ret ?_)) | (refine lw_nil ?_))
    exact qw_ret1 rfl rfl ⟨rfl, hw⟩
  | false =>
    obtain ⟨hx60, hxs⟩ := hL1 rfl
    clear hL1
    repeat' (first | (refine lw_pure rfl (pv_move rfl) ?_) | (refine is_cw ?_; first | (refine cw_seq ?_) | (refine cw_region ?_) | (refine cw_false rfl rfl ?_) | (refine cw_skip ?_)) | (refine is_qw ?_; first | (with_reducible refine qw_then ?_)) | (refine lw_nil ?_))
    refine lw_call (f := 6) (by kernel_rfl) rfl rfl (new_c hcap.2 _) ?_; rintro e w2 ⟨hL, hb⟩
    by_cases hc0 : cap < 0
    · have e4 : loadD cap [] = (1, default) := by unfold loadD; rw [if_pos hc0]
      rcases hL with ⟨_, rfl⟩ | ⟨h1, _⟩
      · refine ⟨_, rfl, ?_⟩
        rw [e4]
        replace hw := grow_trans hw hb
        clear hb
        repeat' (first | (refine lw_pure rfl (pv_move rfl) ?_) | (refine lw_pure rfl (pv_assign rfl) ?_) | (refine is_cw ?_; first | (refine cw_seq ?_) | (refine cw_region ?_)) | (refine is_qw ?_; first | (with_reducible refine qw_then ?_)) | (refine lw_nil ?_) | (refine lw_pure rfl (pv_extract rfl rfl) ?_))
        refine lw_call (f := 7) (by kernel_rfl) rfl rfl (rload_c (l := []) rfl hcap.2 (fun f hf => by cases hf) (SlR.nil _)) ?_; rintro e w3 ⟨hL, hb⟩
        rcases hL with ⟨_, rfl⟩ | ⟨h1, _⟩
        · refine ⟨_, rfl, ?_⟩
          rw [e4]
          replace hw := grow_trans hw hb
          clear hb
          repeat' (first | (refine lw_pure rfl (pv_move rfl) ?_) | (refine lw_pure rfl (pv_assign rfl) ?_) | (refine is_cw ?_; first | (refine cw_seq ?_) | (refine cw_region ?_) | (refine cw_true rfl rfl ?_) | (refine cw_false rfl rfl ?_) | (refine cw_skip ?_)) | (refine is_qw ?_; first | (with_reducible refine qw_then ?_)) | (refine lw_nil ?_) | (refine is_guarded ?_; first | (refine lw_on rfl rfl rfl ?_)) | ((refine is_bin ?_; first | (refine lw_pure rfl (pv_pnil tpD rfl rfl) ?_) | (refine lw_pure rfl (pv_neq rfl rfl) ?_) | (refine lw_pure rfl (pv_bneq (tBo rfl) rfl rfl) ?_))) | (refine lw_pure rfl (pv_pick_f rfl rfl rfl) ?_) | (refine lw_pure rfl (pv_extract rfl rfl) ?_))
          (refine lw_call (f := 5) (by kernel_rfl) rfl rfl (awake_c _) ?_; rintro e1 wz ⟨rfl, hb⟩; refine ⟨_, rfl, ?_⟩; replace hw := grow_trans hw hb; clear hb)
          repeat' (first | (refine lw_pure rfl (pv_assign rfl) ?_) | (refine is_cw ?_; first | (refine cw_ret ?_)) | (refine is_qw ?_; first | (with_reducible refine qw_then ?_) | (with_reducible refine qw_then_ret ?_)) | (refine lw_nil ?_))
          exact qw_ret1 rfl rfl ⟨rfl, hw⟩
        · rw [e4] at h1; exact absurd h1 (by decide)
      · rw [e4] at h1; exact absurd h1 (by decide)
    · have e4 := load0 (cap := cap) (by omega)
      rcases hL with ⟨h1, _⟩ | ⟨_, N, B, rfl, hN, hB, hD⟩
      · rw [e4] at h1; exact absurd rfl h1
      · refine ⟨_, rfl, ?_⟩
        have hs1 := hw.size
        replace hw := grow_trans hw hb
        clear hb
        have hDl := hD.lt
        repeat' (first | (refine lw_pure rfl (pv_move rfl) ?_) | (refine lw_pure rfl (pv_assign rfl) ?_) | (refine is_cw ?_; first | (refine cw_seq ?_) | (refine cw_region ?_)) | (refine is_qw ?_; first | (with_reducible refine qw_then ?_)) | (refine lw_nil ?_) | (refine lw_pure rfl (pv_extract rfl rfl) ?_))
        refine lw_call (f := 7) (by kernel_rfl) rfl rfl (rload_c (l := []) rfl hcap.2 (fun f hf => by cases hf) (SlR.nil _)) ?_; rintro e w3 ⟨hL, hb⟩
        rcases hL with ⟨h1, _⟩ | ⟨_, M, v, rfl, hM, hR⟩
        · rw [e4] at h1; exact absurd rfl h1
        · refine ⟨_, rfl, ?_⟩
          have hs2 := hw.size
          have hS : Sep N B M v := ⟨by omega, by omega, fun e => by have := (hR.own.lt _ e).1; omega, fun e => by have := (hR.own.lt _ e).1; omega⟩
          replace hR := hR.weaken hs2
          replace hD := hD.mono hb
          replace hw := grow_trans hw hb
          clear hb
          have hN0 : w.heap.size ≤ N := by omega
          have hB0 : w.heap.size ≤ B := by omega
          have hM0 : w.heap.size ≤ M := by omega
          clear hDl hs1 hs2 hN hB hM
          repeat' (first | (refine lw_pure rfl (pv_move rfl) ?_) | (refine lw_pure rfl (pv_assign rfl) ?_) | (refine is_cw ?_; first | (refine cw_seq ?_) | (refine cw_region ?_) | (refine cw_false rfl rfl ?_) | (refine cw_skip ?_) | (refine cw_block ?_)) | (refine is_qw ?_; first | (with_reducible refine qw_then ?_)) | (refine lw_nil ?_) | (refine is_guarded ?_; first | (refine lw_on rfl rfl rfl ?_)) | ((refine is_bin ?_; first | (refine lw_pure rfl (pv_pnil tpD rfl rfl) ?_) | (refine lw_pure rfl (pv_neq rfl rfl) ?_) | (refine lw_pure rfl (pv_bneq (tBo rfl) rfl rfl) ?_))) | (refine lw_pure rfl (pv_pick_f rfl rfl rfl) ?_) | (refine lw_pure rfl (pv_extract rfl rfl) ?_))
          refine cw_loop (σ := Nat × Dsk × Value) (fun s => [(1, .slice a xs.length ca), (5, .pointer (some ⟨N, 0, none⟩)), (7, .pointer (some ⟨M, 0, none⟩)), (9, .int .i64 (s.1 : Nat))]) (fun s wr => s.1 ≤ xs.length ∧ Below w.heap.size w wr ∧ DkW wr N B s.2.1 ∧ RkW wr w.heap.size M s.2.2 s.2.1 ∧ Sep N B M s.2.2) (fun s => xs.length - s.1) (0, ⟨[], cap, -1, false⟩, v) (by repeat' (first | exact trivial | refine ⟨rfl, ?_⟩)) ⟨Nat.zero_le _, hw, hD, hR, hS⟩ ?_
          clear hw hD hR hS
          rintro ⟨k, d, v⟩ wr ⟨hk1, hw, hD, hR, hS⟩
          replace hk1 : k ≤ xs.length := hk1
          replace hD : DkW wr N B d := hD
          replace hR : RkW wr w.heap.size M v d := hR
          replace hS : Sep N B M v := hS
          change CW Tryz.prog _ _ _ [(1, .slice a xs.length ca), (5, .pointer (some ⟨N, 0, none⟩)), (7, .pointer (some ⟨M, 0, none⟩)), (9, .int .i64 (k : Nat))] wr
          by_cases hlt : k < xs.length
          · have hxk : xs[k]? = some xs[k] := List.getElem?_eq_getElem hlt
            generalize xs[k] = x at hxk
            have hxm := List.mem_of_getElem? hxk
            obtain ⟨keep, hkl, HKx⟩ := KX x hxm
            obtain ⟨ab, ao, rfl, -, -⟩ := HX.at (by intro h; rw [h] at hlt; simp at hlt)
            have hw0 := hw
            have hsr := hw.size
            have hDl := hD.lt
            have hRl := hR.obj.lt
            have hvl := hR.own.lt
            have HX0 := HX
            replace HX := HX.mono hw; clear hw; have hw := Below.refl wr.heap.size wr
            repeat' (first | (refine lw_pure rfl (pv_move rfl) ?_) | (refine is_cw ?_; first | (refine cw_seq ?_) | (refine cw_region ?_) | (refine cw_true rfl (by first | assumption | exact decide_eq_true (by omega) | exact dec_notT (by omega)) ?_) | (refine cw_skip ?_) | (refine cw_block ?_)) | (refine is_qw ?_; first | (with_reducible refine qw_then ?_)) | (refine lw_nil ?_) | ((refine is_bin ?_; first | (refine lw_pure rfl (pv_lss rfl rfl) ?_))) | ((refine is_bi ?_; first | (refine lw_pure rfl (pv_lenl (tS rfl) rfl) ?_))))
            refine lw_call (f := 8) (by kernel_rfl) rfl rfl (copy_c (hD.mono hw)) ?_; rintro e w4 ⟨⟨N4, B4, rfl, hN4, hB4, hC⟩, hb⟩; refine ⟨_, rfl, ?_⟩
            replace hN4 := Nat.le_trans hw.size hN4
            replace hB4 := Nat.le_trans hw.size hB4
            replace hw := grow_trans hw hb
            have hCl := hC.lt
            clear hb
            repeat' (first | (refine lw_pure rfl (pv_move rfl) ?_))
            refine lw_call (f := 9) (by kernel_rfl) rfl rfl (rcopy_c (hR.mono hw)) ?_; rintro e w5 ⟨⟨M5, v5, rfl, hM5, hY⟩, hb⟩; refine ⟨_, rfl, ?_⟩
            have hS4 : Sep N4 B4 M5 v5 := ⟨by omega, by omega, fun e => by have := (hY.own.lt _ e).1; omega, fun e => by have := (hY.own.lt _ e).1; omega⟩
            replace hC := hC.mono hb
            have hs4 := hw.size
            replace hw := grow_trans hw hb
            have hs5 := hb.size
            clear hb
            replace hD := hD.mono hw
            replace hR := hR.mono hw
            have hYl := hY.obj.lt
            have hyl := hY.own.lt
            have hsz5 := hw.size
            repeat' (first | (refine lw_pure rfl (pv_move rfl) ?_) | (refine lw_pure rfl (pv_assign rfl) ?_) | (refine is_cw ?_; first | (refine cw_seq ?_) | (refine cw_region ?_)) | (refine is_qw ?_; first | (with_reducible refine qw_then ?_)) | (refine lw_nil ?_) | ((refine is_load ?_; first | (refine lw_pure rfl (pv_loada (tA rfl) rfl (by first | exact SlR.lda (HX.mono hw) hxk) (by rfl)) ?_))) | ((refine is_ia ?_; first | (refine lw_pure rfl (pv_ian (tS rfl) rfl rfl (by omega)) ?_))))
            have hbs1 : w.heap.size ≤ w5.heap.size := by omega
            refine lw_call (f := 10) (by kernel_rfl) rfl rfl (ldo_c hD hR hbs1 hS (bX x hxm) (hxs x hxm) hkl (HKx.mono (grow_trans hw0 hw)) (fun hc y hy => by have h7 := (HKx.ofSome y hy hc).2.1; have h8 := hR.own.lt; exact ⟨by omega, by omega, by simp only [List.mem_cons, not_or]; exact ⟨by omega, vb_not fun e => by have := h8 _ e; omega⟩⟩)) ?_; rintro e g1w ⟨rfl, g1⟩; refine ⟨_, rfl, ?_⟩
            obtain ⟨hD1, ⟨v1, hR1, hv1⟩, hg1⟩ := g1
            replace hC := hC.gn hg1 (not_in (S := wr.heap.size) hDl.1 hDl.2 hRl (fun b e => (hvl b e).2) hN4) (not_in (S := wr.heap.size) hDl.1 hDl.2 hRl (fun b e => (hvl b e).2) hB4)
            replace hY := hY.gn hg1 (not_in (S := wr.heap.size) hDl.1 hDl.2 hRl (fun b e => (hvl b e).2) (by omega)) (fun b e => not_in (S := wr.heap.size) hDl.1 hDl.2 hRl (fun b e => (hvl b e).2) (by have := (hyl b e).1; omega))
            have hBd : ∀ q ∈ N :: B :: M :: vb v, w.heap.size ≤ q := fun q hq => by
              simp only [List.mem_cons] at hq
              rcases hq with rfl | rfl | rfl | hq
              · exact hN0
              · exact hB0
              · exact hM0
              · by_cases h9 : v.ownBlock = some q
                · exact (hvl q h9).1
                · exact absurd hq (vb_not h9)
            have hW1 := hg1.below (grow_trans hw0 hw) hBd
            have hs6 := hg1.size
            clear hw hw0
            have hw0 := hW1
            have hw := Below.refl g1w.heap.size g1w
            replace HX := HX0.mono hW1
            clear hD hR
            repeat' (first | (refine lw_pure rfl (pv_move rfl) ?_) | (refine is_guarded ?_; first | (refine lw_on rfl rfl rfl ?_)) | ((refine is_un ?_; first | (refine lw_pure rfl (pv_not rfl) ?_))))
            refine lw_call (f := 11) (by kernel_rfl) rfl rfl (like_c (hD1.mono hw) (hR1.mono hw)) ?_; rintro e w1 ⟨rfl, hb⟩; refine ⟨_, rfl, ?_⟩; replace hw := grow_trans hw hb; clear hb
            repeat' (first | (refine lw_pure rfl (pv_move rfl) ?_) | (refine is_guarded ?_; first | (refine lw_on rfl rfl rfl ?_)) | ((refine is_un ?_; first | (refine lw_pure rfl (pv_not rfl) ?_))) | (refine lw_pure rfl (pv_pick_f rfl rfl rfl) ?_))
            refine lw_call (f := 11) (by kernel_rfl) rfl rfl (like_c (hC.mono hw) (hY.mono hw)) ?_; rintro e w1 ⟨rfl, hb⟩; refine ⟨_, rfl, ?_⟩; replace hw := grow_trans hw hb; clear hb
            repeat' (first | (refine lw_pure rfl (pv_move rfl) ?_) | (refine is_guarded ?_; first | (refine lw_on rfl rfl rfl ?_)) | ((refine is_un ?_; first | (refine lw_pure rfl (pv_not rfl) ?_))) | (refine lw_pure rfl (pv_pick_f rfl rfl rfl) ?_))
            refine lw_call (f := 12) (by kernel_rfl) rfl rfl (same_c (hD1.mono hw) (hC.mono hw)) ?_; rintro e w1 ⟨rfl, hb⟩; refine ⟨_, rfl, ?_⟩; replace hw := grow_trans hw hb; clear hb
            repeat' (first | (refine lw_pure rfl (pv_move rfl) ?_) | (refine is_guarded ?_; first | (refine lw_on rfl rfl rfl ?_)))
            refine lw_call (f := 13) (by kernel_rfl) rfl rfl (rsame_c (hR1.mono hw) (hY.mono hw)) ?_; rintro e w1 ⟨rfl, hb⟩; refine ⟨_, rfl, ?_⟩; replace hw := grow_trans hw hb; clear hb
            obtain ⟨c, hc⟩ : ∃ c, decide (stepD x keep d = d) = c := ⟨_, rfl⟩
            rw [hc]
            have hE : (!(c == c)) = false := by simp
            repeat' (first | (refine lw_pure rfl (pv_move rfl) ?_) | (refine is_guarded ?_; first | (refine lw_on rfl rfl rfl ?_) | (refine lw_on rfl rfl (by first | assumption | exact decide_eq_true (by omega) | exact decide_eq_false (by omega) | exact dec_notT (by omega) | exact dec_notF (by omega)) ?_)) | ((refine is_bin ?_; first | (refine lw_pure rfl (pv_bneq (tBo rfl) rfl rfl) ?_))) | ((refine is_load ?_; first | (refine lw_pure rfl (pv_loada (tA rfl) rfl (by first | exact SlR.lda (HX.mono hw) hxk) (by rfl)) ?_))) | ((refine is_ia ?_; first | (refine lw_pure rfl (pv_ian (tS rfl) rfl rfl (by omega)) ?_))) | (refine lw_pure rfl (pv_pick_f rfl rfl rfl) ?_))
            have hs7 := hw.size
            replace hD1 := hD1.mono hw
            replace hR1 := hR1.mono hw
            replace hC := hC.mono hw
            replace hY := hY.mono hw
            have hbs2 : w4.heap.size ≤ w1.heap.size := by omega
            refine lw_call (f := 10) (by kernel_rfl) rfl rfl (ldo_c hC hY hbs2 hS4 (bX x hxm) (hxs x hxm) hkl (HKx.mono (grow_trans hw0 hw)) (fun hc y hy => by have h7 := (HKx.ofSome y hy hc).2.1; have h8 := hY.own.lt; exact ⟨by omega, by omega, by simp only [List.mem_cons, not_or]; exact ⟨by omega, vb_not fun e => by have := h8 _ e; omega⟩⟩)) ?_; rintro e g2w ⟨rfl, g2⟩; refine ⟨_, rfl, ?_⟩
            obtain ⟨hC2, -, hg2⟩ := g2
            have hn : ∀ q, q < wr.heap.size → q ∉ N4 :: B4 :: M5 :: vb v5 := fun q hq => not_in2 (S := wr.heap.size) hN4 hB4 (by omega) (fun b e => by have := (hyl b e).1; omega) hq
            have hD2 := hD1.gn hg2 (hn _ hDl.1) (hn _ hDl.2)
            have hR2 := hR1.gn hg2 (hn _ hRl) (fun b e => by
              rcases hv1 with rfl | hv1
              · exact hn _ (hvl b e).2
              · exact not_in (S := w5.heap.size) (by omega) (by omega) (by omega) (fun b e => (hyl b e).2) (hv1 b e))
            have hS2 : Sep N B M v1 := by
              rcases hv1 with rfl | hv1
              · exact hS
              · exact ⟨hS.a, hS.b, fun e => by have := hv1 _ e; omega, fun e => by have := hv1 _ e; omega⟩
            have hBd2 : ∀ q ∈ N4 :: B4 :: M5 :: vb v5, w.heap.size ≤ q := fun q hq => by
              by_cases h9 : q < wr.heap.size
              · exact absurd hq (hn q h9)
              · omega
            have hW2 := hg2.below (grow_trans hw0 hw) hBd2
            clear hw
            have hw := Below.refl g2w.heap.size g2w
            repeat' (first | (refine lw_pure rfl (pv_move rfl) ?_) | (refine is_guarded ?_; first | (refine lw_on rfl rfl rfl ?_) | (refine lw_on rfl rfl (by first | assumption | exact decide_eq_true (by omega) | exact decide_eq_false (by omega) | exact dec_notT (by omega) | exact dec_notF (by omega)) ?_)) | ((refine is_un ?_; first | (refine lw_pure rfl (pv_not rfl) ?_))) | (refine lw_pure rfl (pv_pick_f rfl (by first | assumption | exact decide_eq_false (by omega) | exact dec_notF (by omega)) rfl) ?_))
            refine lw_call (f := 12) (by kernel_rfl) rfl rfl (same_is (c := true) (hD2.mono hw) (hC2.mono hw) (decide_eq_true rfl)) ?_; rintro e w1 ⟨rfl, hb⟩; refine ⟨_, rfl, ?_⟩; replace hw := grow_trans hw hb; clear hb
            repeat' (first | (refine lw_pure rfl (pv_move rfl) ?_) | (refine lw_pure rfl (pv_assign rfl) ?_) | (refine is_cw ?_; first | (refine cw_region ?_) | (refine cw_false rfl rfl ?_) | (refine cw_skip ?_)) | (refine is_qw ?_; first | (with_reducible refine qw_then ?_) | (with_reducible refine qw_in ?_)) | (refine lw_nil ?_) | (refine is_guarded ?_; first | (refine lw_on rfl rfl rfl ?_)) | ((refine is_bin ?_; first | (refine lw_pure rfl (pv_inc rfl rfl (by omega)) ?_))) | ((refine is_un ?_; first | (refine lw_pure rfl (pv_not rfl) ?_))) | (refine lw_pure rfl (pv_pick_f rfl rfl rfl) ?_))
            exact qw_round (k + 1, stepD x keep d, v1) (by repeat' (first | exact trivial | refine ⟨rfl, ?_⟩)) ⟨by show k + 1 ≤ _; omega, grow_trans hW2 hw, hD2.mono hw, hR2.mono hw, hS2⟩ (by show xs.length - (k + 1) < xs.length - k; omega)
          · have hke : k = xs.length := by omega
            subst hke
            repeat' (first | (refine lw_pure rfl (pv_move rfl) ?_) | (refine is_cw ?_; first | (refine cw_seq ?_) | (refine cw_region ?_) | (refine cw_false rfl (by first | assumption | exact decide_eq_false (by omega) | exact dec_notF (by omega)) ?_) | (refine cw_exit ?_)) | (refine is_qw ?_; first | (with_reducible refine qw_then ?_) | (with_reducible refine qw_in_hit ?_) | (with_reducible refine qw_then_exit ?_)) | (refine lw_nil ?_) | ((refine is_bin ?_; first | (refine lw_pure rfl (pv_lss rfl rfl) ?_))) | ((refine is_bi ?_; first | (refine lw_pure rfl (pv_lenl (tS rfl) rfl) ?_))))
            (refine lw_call (f := 5) (by kernel_rfl) rfl rfl (awake_c _) ?_; rintro e1 wz ⟨rfl, hb⟩; refine ⟨_, rfl, ?_⟩; replace hw := grow_trans hw hb; clear hb)
            repeat' (first | (refine lw_pure rfl (pv_assign rfl) ?_) | (refine is_cw ?_; first | (refine cw_ret ?_)) | (refine is_qw ?_; first | (with_reducible refine qw_then ?_)) | (refine lw_nil ?_))
            exact qw_ret1 rfl rfl ⟨rfl, hw⟩
end Go.Proofs.YtncicecmhibpcaaGreatDoor
namespace Go.Proofs.YtncicecmhibpcaaGreatDoor
open Go.ChangeShapes Go.WideShapes Go.ChangeAt Go.RowKit

set_option maxRecDepth 100000 in
theorem diskRuns_lifted (os : Os) (started : os.Started) (H : Type) (enc : TypeId × Value → H) :
    ReturnsInHanded {} Tryz.checked os 3 .any (fun w args => (Rows.diskRunsSpec.pre enc Tryz.prog Tryz.f3 [] false w args ∧ laidMetH Tryz.prog Rows.diskRunsRow.laid w) ∧ sizedMet enc Tryz.prog Tryz.f3 (OpenSpec.ofChange Rows.diskRunsSpec) false w args)
      (Rows.diskRunsSpec.post enc Tryz.prog Tryz.f3 false true false false) := by
  refine returnsInHanded_of_change_and (C := Tryz.checked) (X := fun w _ => laidMetH Tryz.prog Rows.diskRunsRow.laid w) (fun _ _ _ hh h => h.of_heap hh) seatOwn started (by kernel_rfl) Tryz.func3
    (ChangeSpec.witness_shaped (enc := enc) (C := Tryz.checked) (os := os) (X := fun w _ => laidMetH Tryz.prog Rows.diskRunsRow.laid w) false (World.laidAll Tryz.prog os seatLaid) #[.int .i64 0, .slice none 0 0] 8 (World.laidAll_os _ _ _) (World.shaped_of_ZipB (by kernel_rfl) (by kernel_rfl)) (by kernel_rfl) (by kernel_rfl) (by kernel_rfl) (door_met os _)) ?_
  intro W base args ds gs before hval0 hW _ _ hL _
  have hval : ∀ (j : Nat) t v, Tryz.f3.params[j]? = some t → args[j]? = some v → Value.okWide Tryz.prog W .any base t v := hval0
  have hW' := hW
  obtain ⟨p, q, hA0, hV, hpq, hfz, hnd⟩ := hW
  have hA : DataW.TrodAll enc Tryz.prog W 0 (fun _ => true) true Tryz.f3.params.toList args.toList ds p := hA0
  rw [Tryz.params3] at hA hval
  obtain ⟨args⟩ := args
  have hA1 : DataW.TrodAll enc Tryz.prog W 0 (fun _ => true) true _ args ds p := hA
  clear hA
  obtain ⟨v0, vs0, d0, ds0, p0, q0, hv0, hd0, hp0, h0, hr0⟩ := trodAll_cons hA1
  obtain ⟨v1, vs1, d1, ds1, p1, q1, hv1, hd1, hp1, h1, hr1⟩ := trodAll_cons hr0
  obtain ⟨hvn, hdn, hpn⟩ := trodAll_nil hr1
  subst hvn hdn hpn
  subst hv1 hd1 hp1
  subst hv0 hd0 hp0
  obtain ⟨rfl, rfl⟩ := trodVars_none hV
  obtain ⟨nn, rfl, nnl, nnu⟩ := i64_open Tryz.underlying3 (hval 0 _ v0 rfl rfl) h0
  obtain ⟨xxa, xxc, xx, rfl, xxs, xxb, xxk⟩ := opsK_open (hval 1 _ v1 rfl rfl) h1
  clear hL
  subst hpq
  refine (runslaw_c rfl ⟨nnl, nnu⟩ xxs xxb xxk).mono fun e W' ⟨he, hw⟩ => ?_
  subst he
  have hB := below_trodAll hw (by decide +kernel) hA1
  rw [← Tryz.params3] at hB
  exact ⟨_, rfl, _, _, _, [], _, [], hW', trodAll_mk1 (shut_bool Tryz.underlying4 true), hB, rfl, hw.frame _, fun h => by cases h⟩
theorem diskRuns_holds : Rows.DiskRunsSaid :=
  OpenClaim.holds_of_wide 3 Tryz.f3 rfl rfl rfl rfl rfl rfl rfl ⟨rfl, rfl, rfl, rfl, rfl⟩ rfl rfl rfl rfl rfl (by kernel_rfl) Tryz.func3 (by kernel_rfl)
    (of_decide_eq_true (by kernel_rfl)) (by unfold Func.isWrapper; first | (rw [if_pos (by decide +kernel)]; kernel_rfl) | (rw [if_neg (by decide +kernel)]; exact ⟨rfl, rfl⟩))
    (fun os started H enc _ => diskRuns_lifted os started H enc)
theorem diskRuns_card : Rows.DiskRunsCardSaid :=
  Claim7.holds_tied_plain_at .later [] [.data, .pinned] true (true, "d30cdcfed2791edc7370f4beb9748f3e06d1dbc18b16cafacd55ef40760d591f") true
    diskRuns_holds (fun _ h => by cases h) (by kernel_rfl) (fun _ h => by cases h) diskRuns_row_tie rfl ⟨rfl, rfl⟩ (by kernel_rfl) rfl
    (fun f fn hf hfn => by
      obtain rfl : f = 3 := Option.some.inj ((show Tryz.prog.funcNamed Rows.diskRunsRow.func = some 3 by kernel_rfl).symm.trans hf) |>.symm
      obtain rfl : fn = Tryz.f3 := (Option.some.inj (Tryz.func3.symm.trans hfn)).symm
      exact ⟨by kernel_rfl, fun j t ht => by
        have hall : (Tryz.f3.params.toList.all fun u => !Tryz.prog.wantsStandIn u) = true := by kernel_rfl
        have hm : t ∈ Tryz.f3.params.toList := Array.mem_toList_iff.2 (Array.mem_of_getElem? ht)
        exact (show Tryz.prog.wantsStandIn t = false by simpa using List.all_eq_true.1 hall t hm)⟩)
    (by kernel_rfl)
#print axioms diskRuns_card
end Go.Proofs.YtncicecmhibpcaaGreatDoor
