/-
  Part 2 of the texts of: OrdersNames: its row and its card: whatever the input: true; the input reads as it did. Conditions: what the row prints (the table of functions reads as the program's text lays it).
-/
import Derived.Test.YtkehmbgcglbffaaDoorZR1
import Derived.Laws.StructEq
namespace Go.Proofs.YtkehmbgcglbffaaDoor
open Go.RowKit Go.PlainAid

theorem nth_eq {e : Evt} {ns : List Int} (h : e.nums = ns) {i : Nat} {n : Int} (hx : ns[i]? = some n) : nth e i = n := by
  unfold nth; rw [h, List.getD_eq_getElem?_getD, hx]; rfl
set_option maxRecDepth 20000 in
set_option maxHeartbeats 4000000 in
theorem opened_c {p : List Opn} {t : List Lt} {ev0 : Evt} {w0 w : World} {N m : Nat} {a : Option Addr} {c : Nat} {ns : List Int} {n0 n1 n2 n3 : Int} {vo vt : Value} (hev : ev0.nums = ns) (hm : ns.length = m) (hx0 : ns[0]? = some n0) (hx1 : ns[1]? = some n1) (hx2 : ns[2]? = some n2) (hx3 : ns[3]? = some n3) (hb0 : Below w0.heap.size w0 w) (hW : WkO w0.heap.size w N p t vo vt) (HN : SlR encI 1 w0 a c ns) (hp1 : t.Pairwise keyT) (hl : t.length ≤ 32) :
    Calls Tryd.prog 33 #[.pointer (some ⟨N, 0, none⟩), .slice a m c] w fun e w' => e = .returned (.int .i64 (openedR p t ev0).2.2) ∧ ((openedR p t ev0).2.2 = 0 → ∃ vo vt, WkO w0.heap.size w' N (openedR p t ev0).1 (openedR p t ev0).2.1 vo vt) ∧ Below w0.heap.size w0 w' := by
  subst hm
  have hlen : 3 < ns.length := (List.getElem?_eq_some_iff.1 hx3).1
  obtain ⟨HW, HO, HT, hNb⟩ := hW
  obtain ⟨ab, ao, rfl, -, -⟩ := HN.at (by intro h; rw [h] at hlen; simp at hlen)
  obtain ⟨ta, tc, rfl, HTs, -⟩ := Own.slR encL_len HT
  have hR : openedR p t ev0 = if (findT t n0).isSome then ([], [], 6) else if t.length = 32 then ([], [], 40) else (p, insT t ⟨n0, n1, n2, n3⟩, 0) := by unfold openedR; rw [nth_eq hev hx0, nth_eq hev hx1, nth_eq hev hx2, nth_eq hev hx3]
  rw [hR]
  clear hR hev
  have HNw := HN.mono hb0
  have hw := Below.refl w.heap.size w
  refine fn_enter 49 Tryd.func33 rfl rfl rfl ?_
  repeat' (first | (refine lw_pure rfl (pv_assign rfl) ?_) | (refine is_cw ?_; first | (refine cw_seq ?_) | (refine cw_region ?_) | (refine cw_block ?_)) | (refine is_qw ?_; first | (with_reducible refine qw_then ?_)) | (refine lw_nil ?_))
  refine cw_drawn (fun w' => Below w.heap.size w w') (by kernel_rfl) (by repeat (first | exact NoPanic.body | with_reducible refine NoPanic.then ?_ | with_reducible refine NoPanic.inBlock ?_)) (fun hNP => ?_)
  have hS := hw.drew
  (refine at0 0 rfl (fun w' hq => pv_move rfl) ?_)
  (refine at0 1 rfl (fun w' hq => pv_nilp rfl) ?_)
  (refine at0 2 rfl (fun w' hq => pv_fa (tF rfl) rfl) ?_)
  (refine at0 3 rfl (fun w' hq => pv_load (t1 rfl) rfl (by first | exact PT.ld0 (HW.mono hq) rfl | exact PT.ld (HW.mono hq) rfl | exact SlR.ld (HNw.mono hq) hx0 rfl | exact SlR.ld1 (HNw.mono hq) hx0 rfl)) ?_)
  (refine at0 4 rfl (fun w' hq => pv_move rfl) ?_)
  (refine at0 5 rfl (fun w' hq => pv_ia (tS rfl) rfl rfl (by omega)) ?_)
  (refine at0 6 rfl (fun w' hq => pv_load (t1 rfl) rfl (by first | exact PT.ld0 (HW.mono hq) rfl | exact PT.ld (HW.mono hq) rfl | exact SlR.ld (HNw.mono hq) hx0 rfl | exact SlR.ld1 (HNw.mono hq) hx0 rfl)) ?_)
  refine aw_act 7 (by kernel_rfl) rfl rfl rfl ?_
  refine act_call (f := 51) (by kernel_rfl) rfl (lot_c n0 rfl (HTs.mono hS)) ?_; rintro e1 w1 ⟨⟨i, rfl, hi⟩, hb1⟩; refine ⟨_, rfl, grow_trans hS hb1, fun hS => ?_⟩
  (refine at0 8 rfl (fun w' hq => pv_geq rfl rfl) ?_)
  (refine at0 9 rfl (fun w' hq => pv_assign rfl) ?_)
  refine aw_done (by kernel_rfl) ?_
  replace hw := hS; clear hS hNP
  have hb2 := grow_trans hb0 hw
  rcases hi with ⟨rfl, hn⟩ | ⟨k, r, rfl, hxk, hr, hn⟩
  · have hf : findT t n0 = none := find_none hn
    rw [hf]
    by_cases h128 : t.length = 32
    · rw [if_neg (by simp), if_pos h128]
      repeat' (first | (refine lw_pure rfl (pv_move rfl) ?_) | (refine lw_pure rfl (pv_assign rfl) ?_) | (refine is_cw ?_; first | (refine cw_seq ?_) | (refine cw_region ?_) | (refine cw_false rfl rfl ?_) | (refine is_cd ?_; refine cw_true rfl (by first | assumption | exact decide_eq_true (by omega) | exact dec_notT (by omega)) ?_) | (refine cw_ret ?_)) | (refine is_qw ?_; first | (with_reducible refine qw_then ?_) | (with_reducible refine qw_then_ret ?_) | (with_reducible refine qw_in_ret ?_)) | (refine lw_nil ?_) | ((refine is_bin ?_; first | (refine lw_pure rfl (pv_eql rfl rfl) ?_))) | ((refine is_load ?_; first | (refine lw_pure rfl (pv_load (t1 rfl) rfl (by first | exact PT.ld0 (HW.mono hw) rfl | exact PT.ld (HW.mono hw) rfl)) ?_))) | ((refine is_fa ?_; first | (refine lw_pure rfl (pv_fa (tF rfl) rfl) ?_))) | ((refine is_bi ?_; first | (refine lw_pure rfl (pv_lenl (tS rfl) rfl) ?_))) | (refine lw_pure rfl (pv_nilp rfl) ?_))
      exact qw_ret1 rfl rfl ⟨rfl, by simp, hb2⟩
    · rw [if_neg (by simp), if_neg h128]
      repeat' (first | (refine lw_pure rfl (pv_move rfl) ?_) | (refine lw_pure rfl (pv_assign rfl) ?_) | (refine is_cw ?_; first | (refine cw_seq ?_) | (refine cw_region ?_) | (refine cw_false rfl rfl ?_) | (refine is_cd ?_; refine cw_false rfl (by first | assumption | exact decide_eq_false (by omega) | exact dec_notF (by omega)) ?_) | (refine cw_skip ?_)) | (refine is_qw ?_; first | (with_reducible refine qw_then ?_) | (with_reducible refine qw_in ?_)) | (refine lw_nil ?_) | ((refine is_bin ?_; first | (refine lw_pure rfl (pv_eql rfl rfl) ?_))) | ((refine is_load ?_; first | (refine lw_pure rfl (pv_load (t1 rfl) rfl (by first | exact PT.ld0 (HW.mono hw) rfl | exact PT.ld (HW.mono hw) rfl)) ?_))) | ((refine is_fa ?_; first | (refine lw_pure rfl (pv_fa (tF rfl) rfl) ?_))) | ((refine is_bi ?_; first | (refine lw_pure rfl (pv_lenl (tS rfl) rfl) ?_))) | (refine lw_pure rfl (pv_nilp rfl) ?_))
      have hO2 := HO.mono hw
      have hT2 := HT.mono hw
      have hwz := hb2.size
      refine cw_drawnF 22 (fun w' => Below w0.heap.size w0 w' ∧ PT w' N 51 [vo, .slice ta t.length tc]) (by kernel_rfl) (by repeat (first | exact NoPanic.body | with_reducible refine NoPanic.then ?_ | with_reducible refine NoPanic.inBlock ?_)) (fun hNP => ?_)
      have hU := And.intro hb2.drew ((HW.mono hw).mono (below_drew _))
      first | (refine fw_take 0 rfl (by kernel_rfl) rfl rfl (by kernel_rfl) (by kernel_rfl) (by kernel_rfl) hNP hU rfl (fun w' hq => pv_move rfl) ?_)
      first | (refine fw_take 1 rfl (by kernel_rfl) rfl rfl (by kernel_rfl) (by kernel_rfl) (by kernel_rfl) hNP hU rfl (fun w' hq => pv_move rfl) ?_)
      first | (refine fw_take 2 rfl (by kernel_rfl) rfl rfl (by kernel_rfl) (by kernel_rfl) (by kernel_rfl) hNP hU rfl (fun w' hq => pv_nilp rfl) ?_)
      first | (refine fw_take 3 rfl (by kernel_rfl) rfl rfl (by kernel_rfl) (by kernel_rfl) (by kernel_rfl) hNP hU rfl (fun w' hq => pv_fa (tF rfl) rfl) ?_)
      first | (refine fw_take 4 rfl (by kernel_rfl) rfl rfl (by kernel_rfl) (by kernel_rfl) (by kernel_rfl) hNP hU rfl (fun w' hq => pv_load (t1 rfl) rfl (by first | exact PT.ld0 hq.2 rfl | exact PT.ld hq.2 rfl)) ?_) | (refine fw_take 4 rfl (by kernel_rfl) rfl rfl (by kernel_rfl) (by kernel_rfl) (by kernel_rfl) hNP hU rfl (fun w' hq => pv_loada (tA rfl) rfl (by first | exact PT.lda hq.2) (by rfl)) ?_) | (refine fw_take 4 rfl (by kernel_rfl) rfl rfl (by kernel_rfl) (by kernel_rfl) (by kernel_rfl) hNP hU rfl (fun w' hq => pv_load (t1 rfl) rfl (by first | exact SlR.ld (HN.mono hq.1) hx0 rfl | exact SlR.ld1 (HN.mono hq.1) hx0 rfl | exact SlR.ld (HN.mono hq.1) hx1 rfl | exact SlR.ld1 (HN.mono hq.1) hx1 rfl | exact SlR.ld (HN.mono hq.1) hx2 rfl | exact SlR.ld1 (HN.mono hq.1) hx2 rfl | exact SlR.ld (HN.mono hq.1) hx3 rfl | exact SlR.ld1 (HN.mono hq.1) hx3 rfl)) ?_) | (refine fw_take 4 rfl (by kernel_rfl) rfl rfl (by kernel_rfl) (by kernel_rfl) (by kernel_rfl) hNP hU rfl (fun w' hq => pv_loada (tA rfl) rfl (by first | exact SlR.lda (HN.mono hq.1) hx0 | exact SlR.lda (HN.mono hq.1) hx1 | exact SlR.lda (HN.mono hq.1) hx2 | exact SlR.lda (HN.mono hq.1) hx3) (by rfl)) ?_)
      first | (refine fw_take 5 rfl (by kernel_rfl) rfl rfl (by kernel_rfl) (by kernel_rfl) (by kernel_rfl) hNP hU rfl (fun w' hq => pv_move rfl) ?_)
      first | (refine fw_take 6 rfl (by kernel_rfl) rfl rfl (by kernel_rfl) (by kernel_rfl) (by kernel_rfl) hNP hU rfl (fun w' hq => pv_ian (tS rfl) rfl rfl (by omega)) ?_) | (refine fw_take 6 rfl (by kernel_rfl) rfl rfl (by kernel_rfl) (by kernel_rfl) (by kernel_rfl) hNP hU rfl (fun w' hq => pv_ia (tS rfl) rfl rfl (by omega)) ?_)
      first | (refine fw_take 7 rfl (by kernel_rfl) rfl rfl (by kernel_rfl) (by kernel_rfl) (by kernel_rfl) hNP hU rfl (fun w' hq => pv_load (t1 rfl) rfl (by first | exact PT.ld0 hq.2 rfl | exact PT.ld hq.2 rfl)) ?_) | (refine fw_take 7 rfl (by kernel_rfl) rfl rfl (by kernel_rfl) (by kernel_rfl) (by kernel_rfl) hNP hU rfl (fun w' hq => pv_loada (tA rfl) rfl (by first | exact PT.lda hq.2) (by rfl)) ?_) | (refine fw_take 7 rfl (by kernel_rfl) rfl rfl (by kernel_rfl) (by kernel_rfl) (by kernel_rfl) hNP hU rfl (fun w' hq => pv_load (t1 rfl) rfl (by first | exact SlR.ld (HN.mono hq.1) hx0 rfl | exact SlR.ld1 (HN.mono hq.1) hx0 rfl | exact SlR.ld (HN.mono hq.1) hx1 rfl | exact SlR.ld1 (HN.mono hq.1) hx1 rfl | exact SlR.ld (HN.mono hq.1) hx2 rfl | exact SlR.ld1 (HN.mono hq.1) hx2 rfl | exact SlR.ld (HN.mono hq.1) hx3 rfl | exact SlR.ld1 (HN.mono hq.1) hx3 rfl)) ?_) | (refine fw_take 7 rfl (by kernel_rfl) rfl rfl (by kernel_rfl) (by kernel_rfl) (by kernel_rfl) hNP hU rfl (fun w' hq => pv_loada (tA rfl) rfl (by first | exact SlR.lda (HN.mono hq.1) hx0 | exact SlR.lda (HN.mono hq.1) hx1 | exact SlR.lda (HN.mono hq.1) hx2 | exact SlR.lda (HN.mono hq.1) hx3) (by rfl)) ?_)
      first | (refine fw_take 8 rfl (by kernel_rfl) rfl rfl (by kernel_rfl) (by kernel_rfl) (by kernel_rfl) hNP hU rfl (fun w' hq => pv_move rfl) ?_)
      first | (refine fw_take 9 rfl (by kernel_rfl) rfl rfl (by kernel_rfl) (by kernel_rfl) (by kernel_rfl) hNP hU rfl (fun w' hq => pv_ian (tS rfl) rfl rfl (by omega)) ?_) | (refine fw_take 9 rfl (by kernel_rfl) rfl rfl (by kernel_rfl) (by kernel_rfl) (by kernel_rfl) hNP hU rfl (fun w' hq => pv_ia (tS rfl) rfl rfl (by omega)) ?_)
      first | (refine fw_take 10 rfl (by kernel_rfl) rfl rfl (by kernel_rfl) (by kernel_rfl) (by kernel_rfl) hNP hU rfl (fun w' hq => pv_load (t1 rfl) rfl (by first | exact PT.ld0 hq.2 rfl | exact PT.ld hq.2 rfl)) ?_) | (refine fw_take 10 rfl (by kernel_rfl) rfl rfl (by kernel_rfl) (by kernel_rfl) (by kernel_rfl) hNP hU rfl (fun w' hq => pv_loada (tA rfl) rfl (by first | exact PT.lda hq.2) (by rfl)) ?_) | (refine fw_take 10 rfl (by kernel_rfl) rfl rfl (by kernel_rfl) (by kernel_rfl) (by kernel_rfl) hNP hU rfl (fun w' hq => pv_load (t1 rfl) rfl (by first | exact SlR.ld (HN.mono hq.1) hx0 rfl | exact SlR.ld1 (HN.mono hq.1) hx0 rfl | exact SlR.ld (HN.mono hq.1) hx1 rfl | exact SlR.ld1 (HN.mono hq.1) hx1 rfl | exact SlR.ld (HN.mono hq.1) hx2 rfl | exact SlR.ld1 (HN.mono hq.1) hx2 rfl | exact SlR.ld (HN.mono hq.1) hx3 rfl | exact SlR.ld1 (HN.mono hq.1) hx3 rfl)) ?_) | (refine fw_take 10 rfl (by kernel_rfl) rfl rfl (by kernel_rfl) (by kernel_rfl) (by kernel_rfl) hNP hU rfl (fun w' hq => pv_loada (tA rfl) rfl (by first | exact SlR.lda (HN.mono hq.1) hx0 | exact SlR.lda (HN.mono hq.1) hx1 | exact SlR.lda (HN.mono hq.1) hx2 | exact SlR.lda (HN.mono hq.1) hx3) (by rfl)) ?_)
      first | (refine fw_take 11 rfl (by kernel_rfl) rfl rfl (by kernel_rfl) (by kernel_rfl) (by kernel_rfl) hNP hU rfl (fun w' hq => pv_move rfl) ?_)
      first | (refine fw_take 12 rfl (by kernel_rfl) rfl rfl (by kernel_rfl) (by kernel_rfl) (by kernel_rfl) hNP hU rfl (fun w' hq => pv_ian (tS rfl) rfl rfl (by omega)) ?_) | (refine fw_take 12 rfl (by kernel_rfl) rfl rfl (by kernel_rfl) (by kernel_rfl) (by kernel_rfl) hNP hU rfl (fun w' hq => pv_ia (tS rfl) rfl rfl (by omega)) ?_)
      first | (refine fw_take 13 rfl (by kernel_rfl) rfl rfl (by kernel_rfl) (by kernel_rfl) (by kernel_rfl) hNP hU rfl (fun w' hq => pv_load (t1 rfl) rfl (by first | exact PT.ld0 hq.2 rfl | exact PT.ld hq.2 rfl)) ?_) | (refine fw_take 13 rfl (by kernel_rfl) rfl rfl (by kernel_rfl) (by kernel_rfl) (by kernel_rfl) hNP hU rfl (fun w' hq => pv_loada (tA rfl) rfl (by first | exact PT.lda hq.2) (by rfl)) ?_) | (refine fw_take 13 rfl (by kernel_rfl) rfl rfl (by kernel_rfl) (by kernel_rfl) (by kernel_rfl) hNP hU rfl (fun w' hq => pv_load (t1 rfl) rfl (by first | exact SlR.ld (HN.mono hq.1) hx0 rfl | exact SlR.ld1 (HN.mono hq.1) hx0 rfl | exact SlR.ld (HN.mono hq.1) hx1 rfl | exact SlR.ld1 (HN.mono hq.1) hx1 rfl | exact SlR.ld (HN.mono hq.1) hx2 rfl | exact SlR.ld1 (HN.mono hq.1) hx2 rfl | exact SlR.ld (HN.mono hq.1) hx3 rfl | exact SlR.ld1 (HN.mono hq.1) hx3 rfl)) ?_) | (refine fw_take 13 rfl (by kernel_rfl) rfl rfl (by kernel_rfl) (by kernel_rfl) (by kernel_rfl) hNP hU rfl (fun w' hq => pv_loada (tA rfl) rfl (by first | exact SlR.lda (HN.mono hq.1) hx0 | exact SlR.lda (HN.mono hq.1) hx1 | exact SlR.lda (HN.mono hq.1) hx2 | exact SlR.lda (HN.mono hq.1) hx3) (by rfl)) ?_)
      first | (refine fw_take 14 rfl (by kernel_rfl) rfl rfl (by kernel_rfl) (by kernel_rfl) (by kernel_rfl) hNP hU rfl (fun w' hq => pv_move rfl) ?_)
      first | (refine fw_take 15 rfl (by kernel_rfl) rfl rfl (by kernel_rfl) (by kernel_rfl) (by kernel_rfl) hNP hU rfl (fun w' hq => pv_ian (tS rfl) rfl rfl (by omega)) ?_) | (refine fw_take 15 rfl (by kernel_rfl) rfl rfl (by kernel_rfl) (by kernel_rfl) (by kernel_rfl) hNP hU rfl (fun w' hq => pv_ia (tS rfl) rfl rfl (by omega)) ?_)
      first | (refine fw_take 16 rfl (by kernel_rfl) rfl rfl (by kernel_rfl) (by kernel_rfl) (by kernel_rfl) hNP hU rfl (fun w' hq => pv_load (t1 rfl) rfl (by first | exact PT.ld0 hq.2 rfl | exact PT.ld hq.2 rfl)) ?_) | (refine fw_take 16 rfl (by kernel_rfl) rfl rfl (by kernel_rfl) (by kernel_rfl) (by kernel_rfl) hNP hU rfl (fun w' hq => pv_loada (tA rfl) rfl (by first | exact PT.lda hq.2) (by rfl)) ?_) | (refine fw_take 16 rfl (by kernel_rfl) rfl rfl (by kernel_rfl) (by kernel_rfl) (by kernel_rfl) hNP hU rfl (fun w' hq => pv_load (t1 rfl) rfl (by first | exact SlR.ld (HN.mono hq.1) hx0 rfl | exact SlR.ld1 (HN.mono hq.1) hx0 rfl | exact SlR.ld (HN.mono hq.1) hx1 rfl | exact SlR.ld1 (HN.mono hq.1) hx1 rfl | exact SlR.ld (HN.mono hq.1) hx2 rfl | exact SlR.ld1 (HN.mono hq.1) hx2 rfl | exact SlR.ld (HN.mono hq.1) hx3 rfl | exact SlR.ld1 (HN.mono hq.1) hx3 rfl)) ?_) | (refine fw_take 16 rfl (by kernel_rfl) rfl rfl (by kernel_rfl) (by kernel_rfl) (by kernel_rfl) hNP hU rfl (fun w' hq => pv_loada (tA rfl) rfl (by first | exact SlR.lda (HN.mono hq.1) hx0 | exact SlR.lda (HN.mono hq.1) hx1 | exact SlR.lda (HN.mono hq.1) hx2 | exact SlR.lda (HN.mono hq.1) hx3) (by rfl)) ?_)
      first | (refine fw_take 17 rfl (by kernel_rfl) rfl rfl (by kernel_rfl) (by kernel_rfl) (by kernel_rfl) hNP hU rfl (fun w' hq => tyB_36 rfl rfl rfl) ?_)
      refine fw_act 18 (by kernel_rfl) rfl rfl rfl ?_
      refine act_bs (vs := [.agg (encL ⟨n0, n1, n2, n3⟩).toArray]) (cs := encL ⟨n0, n1, n2, n3⟩) elemL rfl rfl (by omega) (by omega) rfl (by simp [Value.cells, encL]) ?_; intro wb HB hbb; have hO3 := (hO2.mono (below_drew _)).mono hbb; have hT3 := (hT2.mono (below_drew _)).mono hbb; have hbz := hbb.size; refine ⟨⟨grow_trans hU.1 hbb, hU.2.mono hbb⟩, fun hU => ?_⟩
      refine fw_act 19 (by kernel_rfl) rfl rfl rfl ?_
      refine act_app elemL encL_len encL_one rfl rfl hT3 (HB.slR (xs := [⟨n0, n1, n2, n3⟩]) encL_len rfl (by omega)) rfl hU.1.size (by simp; omega) (by simp [maxLen]; omega) ?_; intro v9 w9 hT9 hg9 hb9; refine ⟨⟨hU.1.grown hg9 hU.1.size (fun q hq => (Own.lt hT3 q hq).1), hU.2.grown hg9 (fun e => own_pt_ne hT3 hU.2 (by decide) e)⟩, fun hU => ?_⟩
      first | (refine fw_act 20 (by kernel_rfl) rfl rfl rfl ?_; refine act_pv (pv_nilp rfl) ?_; refine ⟨hU, fun hU => ?_⟩)
      first | (refine fw_take 21 rfl (by kernel_rfl) rfl rfl (by kernel_rfl) (by kernel_rfl) (by kernel_rfl) hNP hU rfl (fun w' hq => pv_fa (tF rfl) rfl) ?_)
      refine fw_last (by kernel_rfl) rfl rfl rfl rfl (by kernel_rfl) ?_
      obtain ⟨hb3, HW3⟩ := hU; clear hNP
      obtain ⟨va, vc, rfl, -, -⟩ := Own.slR encL_len hT9; refine act_store HW3 (tZ rfl) rfl rfl rfl (by simp) ?_; intro wz HWz hgz hzz
      have hO9 := hO3.kept hg9 (own_ne_T hO3 hT3 (by decide))
      have hOz := hO9.kept hgz (Or.inr (own_pt_ne hO9 HW3 (by decide)))
      have hTz := hT9.kept hgz (Or.inr (own_pt_ne hT9 HW3 (by decide)))
      have hbz4 := hb3.grown hgz hb3.size (by intro q hq; injection hq with hq; omega)
      obtain ⟨va', vc', hv', hSz, hvb⟩ := Own.slR encL_len hTz
      injection hv' with hv1 _ hv3; subst hv1 hv3
      obtain ⟨vb, vo2, rfl, -, -⟩ := hSz.at (by simp)
      obtain ⟨hvb1, hvb2⟩ := hvb _ rfl
      simp only at hvb1 hvb2; subst hvb2
      have hw := Below.refl wz.heap.size wz
      have hids : ∀ x ∈ t, x.id ≠ n0 := findT_none hf
      have hll : (t ++ [(⟨n0, n1, n2, n3⟩ : Lt)]).length ≤ 1000000 := by simp; omega
      repeat' (first | (refine lw_pure rfl (pv_move rfl) ?_) | (refine is_cw ?_; first | (refine cw_seq ?_) | (refine cw_region ?_)) | (refine is_qw ?_; first | (with_reducible refine qw_then ?_)) | ((refine is_load ?_; first | (refine lw_pure rfl (pv_load (t1 rfl) rfl (by first | exact PT.ld0 (HWz.mono hw) rfl | exact PT.ld (HWz.mono hw) rfl)) ?_))) | ((refine is_fa ?_; first | (refine lw_pure rfl (pv_fa (tF rfl) rfl) ?_))) | (refine lw_pure rfl (pv_nilp rfl) ?_))
      refine lw_call (f := 52) (by kernel_rfl) rfl rfl (sort_L w0.heap.size vb vc _ wz hTz hll (putT_pw hp1 hids)) ?_; rintro e1 w5 ⟨rfl, ⟨zs, hz1, hz2, hTs2⟩, hg5⟩; refine ⟨_, rfl, ?_⟩
      have hze := putT_sorted hp1 hids hz1 hz2
      have hO5 := hOz.kept hg5 (own_ne_T hOz hTz (by decide))
      have hW5 := HWz.grown hg5 (own_pt_ne hTz HWz (by decide))
      have hb5 := hbz4.grown hg5 hbz4.size (by intro q hq; injection hq with hq; omega)
      have hw := Below.refl w5.heap.size w5
      repeat' (first | (refine lw_pure rfl (pv_assign rfl) ?_) | (refine is_cw ?_; first | (refine cw_seq ?_) | (refine cw_region ?_) | (refine cw_ret ?_)) | (refine is_qw ?_; first | (with_reducible refine qw_then ?_)) | (refine lw_nil ?_))
      refine qw_ret1 rfl rfl ⟨rfl, fun _ => ⟨_, _, ⟨hW5, hO5, ?_, hNb⟩⟩, hb5⟩
      rw [← hze]
      rw [show (t ++ [(⟨n0, n1, n2, n3⟩ : Lt)]).length = zs.length from hz1.length_eq.symm] at hTs2 ⊢
      exact hTs2
  · have hf : findT t n0 = some r := find_at hxk hr hn
    rw [hf, if_pos (by rfl)]
    repeat' (first | (refine lw_pure rfl (pv_assign rfl) ?_) | (refine is_cw ?_; first | (refine cw_seq ?_) | (refine cw_region ?_) | (refine cw_true rfl rfl ?_) | (refine cw_ret ?_)) | (refine is_qw ?_; first | (with_reducible refine qw_then ?_) | (with_reducible refine qw_then_ret ?_) | (with_reducible refine qw_in_ret ?_)) | (refine lw_nil ?_))
    exact qw_ret1 rfl rfl ⟨rfl, by simp, hb2⟩
set_option maxRecDepth 20000 in
set_option maxHeartbeats 4000000 in
theorem cancelled_c {p : List Opn} {t : List Lt} {ev0 : Evt} {w0 w : World} {N : Nat} {a : Option Addr} {c : Nat} {n0 : Int} {vo vt : Value} (hev : ev0.nums = [n0]) (hb0 : Below w0.heap.size w0 w) (hW : WkO w0.heap.size w N p t vo vt) (HN : SlR encI 1 w0 a c [n0]) (hnd : (p.map (·.id)).Nodup) (hpos : ∀ x ∈ p, 0 < x.left) (hl : p.length ≤ 128) :
    Calls Tryd.prog 31 #[.pointer (some ⟨N, 0, none⟩), .slice a 1 c] w fun e w' => e = .returned (.int .i64 (cancelR p t ev0).2.2) ∧ ((cancelR p t ev0).2.2 = 0 → ∃ vo vt, WkO w0.heap.size w' N (cancelR p t ev0).1 (cancelR p t ev0).2.1 vo vt) ∧ Below w0.heap.size w0 w' := by
  obtain ⟨HW, HO, HT, hNb⟩ := hW
  obtain ⟨ab, ao, rfl, -, -⟩ := HN.at (by simp)
  obtain ⟨oa, oc, rfl, HOs, -⟩ := Own.slR encP_len HO
  have hx0 : [n0][0]? = some n0 := rfl
  have hn0 := nth_eq hev hx0
  have HNw := HN.mono hb0
  have hw := Below.refl w.heap.size w
  refine fn_enter 27 Tryd.func31 rfl rfl rfl ?_
  repeat' (first | (refine lw_pure rfl (pv_assign rfl) ?_) | (refine is_cw ?_; first | (refine cw_seq ?_) | (refine cw_region ?_)) | (refine is_qw ?_; first | (with_reducible refine qw_then ?_)) | (refine lw_nil ?_))
  refine cw_drawn (fun w' => Below w.heap.size w w') (by kernel_rfl) (by repeat (first | exact NoPanic.body | with_reducible refine NoPanic.then ?_ | with_reducible refine NoPanic.inBlock ?_)) (fun hNP => ?_)
  have hS := hw.drew
  (refine at0 0 rfl (fun w' hq => pv_move rfl) ?_)
  (refine at0 1 rfl (fun w' hq => pv_nilp rfl) ?_)
  (refine at0 2 rfl (fun w' hq => pv_fa (tF rfl) rfl) ?_)
  (refine at0 3 rfl (fun w' hq => pv_load (t1 rfl) rfl (by first | exact PT.ld0 (HW.mono hq) rfl | exact PT.ld (HW.mono hq) rfl | exact SlR.ld (HNw.mono hq) hx0 rfl | exact SlR.ld1 (HNw.mono hq) hx0 rfl)) ?_)
  (refine at0 4 rfl (fun w' hq => pv_move rfl) ?_)
  (refine at0 5 rfl (fun w' hq => pv_ia (tS rfl) rfl rfl (by omega)) ?_)
  (refine at0 6 rfl (fun w' hq => pv_load (t1 rfl) rfl (by first | exact PT.ld0 (HW.mono hq) rfl | exact PT.ld (HW.mono hq) rfl | exact SlR.ld (HNw.mono hq) hx0 rfl | exact SlR.ld1 (HNw.mono hq) hx0 rfl)) ?_)
  refine aw_act 7 (by kernel_rfl) rfl rfl rfl ?_
  refine act_call (f := 46) (by kernel_rfl) rfl (at_c n0 rfl (HOs.mono hS)) ?_; rintro e1 w1 ⟨⟨i, rfl, hi⟩, hb1⟩; refine ⟨_, rfl, grow_trans hS hb1, fun hS => ?_⟩
  (refine at0 8 rfl (fun w' hq => pv_assign rfl) ?_)
  refine aw_done (by kernel_rfl) ?_
  replace hw := hS; clear hS hNP
  have hb2 := grow_trans hb0 hw
  rcases hi with ⟨rfl, hn⟩ | ⟨k, r, rfl, hxk, hr, hn⟩
  · have hf : findP p n0 = none := find_none hn
    have hR : cancelR p t ev0 = ([], [], 5) := by unfold cancelR; rw [hn0, hf]
    rw [hR]
    repeat' (first | (refine lw_pure rfl (pv_move rfl) ?_) | (refine lw_pure rfl (pv_assign rfl) ?_) | (refine is_cw ?_; first | (refine cw_seq ?_) | (refine cw_region ?_) | (refine cw_true rfl rfl ?_) | (refine cw_ret ?_)) | (refine is_qw ?_; first | (with_reducible refine qw_then ?_) | (with_reducible refine qw_then_ret ?_)) | (refine lw_nil ?_) | ((refine is_bin ?_; first | (refine lw_pure rfl (pv_lss rfl rfl) ?_))))
    exact qw_ret1 rfl rfl ⟨rfl, by simp, hb2⟩
  · have hf : findP p n0 = some r := find_at hxk hr hn
    have hR : cancelR p t ev0 = (lessP p n0 r.left, t, 0) := by unfold cancelR; rw [hn0, hf]
    rw [hR]
    have hrid : r.id = n0 := by simpa using hr
    have hlt : k < p.length := (List.getElem?_eq_some_iff.1 hxk).1
    have hce := cancel_eq hxk hnd hpos
    rw [hrid] at hce
    repeat' (first | (refine lw_pure rfl (pv_move rfl) ?_) | (refine is_cw ?_; first | (refine cw_seq ?_) | (refine cw_region ?_) | (refine cw_false rfl rfl ?_) | (refine cw_skip ?_)) | (refine is_qw ?_; first | (with_reducible refine qw_then ?_)) | (refine lw_nil ?_) | ((refine is_bin ?_; first | (refine lw_pure rfl (pv_lss rfl rfl) ?_) | (refine lw_pure rfl (pv_inc rfl rfl (by omega)) ?_))) | ((refine is_load ?_; first | (refine lw_pure rfl (pv_load (t1 rfl) rfl (by first | exact PT.ld0 (HW.mono hw) rfl | exact PT.ld (HW.mono hw) rfl)) ?_))) | ((refine is_fa ?_; first | (refine lw_pure rfl (pv_fa (tF rfl) rfl) ?_))) | (refine lw_pure rfl (pv_nilp rfl) ?_))
    refine lw_call (f := 48) (by kernel_rfl) rfl rfl (delone_P w0.heap.size k hlt hb2.size (HO.mono hw)) ?_; rintro e1 w5 ⟨⟨v', rfl, hO5⟩, hg5, hb5⟩; refine ⟨_, rfl, ?_⟩
    have HW5 := (HW.mono hw).grown hg5 (own_pt_ne (HO.mono hw) (HW.mono hw) (by decide))
    have hT5 := (HT.mono hw).kept hg5 (own_ne_T (HT.mono hw) (HO.mono hw) (by decide))
    have hb6 := hb2.trans hb5
    obtain ⟨va, vc, rfl, -, -⟩ := Own.slR encP_len hO5
    have hw := Below.refl w5.heap.size w5
    repeat' (first | ((refine is_fa ?_; first | (refine lw_pure rfl (pv_fa (tF rfl) rfl) ?_))) | (refine lw_pure rfl (pv_nilp rfl) ?_))
    refine lw_store HW5 (tZ rfl) rfl rfl rfl (by simp) ?_; intro w6 HW6 hg6 hz6
    have hO6 := hO5.kept hg6 (Or.inr (own_pt_ne hO5 HW5 (by decide)))
    have hT6 := hT5.kept hg6 (Or.inr (own_pt_ne hT5 HW5 (by decide)))
    have hb7 := hb6.grown hg6 hb6.size (by intro q hq; injection hq with hq; omega)
    have hw := Below.refl w6.heap.size w6
    repeat' (first | (refine lw_pure rfl (pv_assign rfl) ?_) | (refine is_cw ?_; first | (refine cw_seq ?_) | (refine cw_region ?_) | (refine cw_ret ?_)) | (refine is_qw ?_; first | (with_reducible refine qw_then ?_)) | (refine lw_nil ?_))
    refine qw_ret1 rfl rfl ⟨rfl, fun _ => ⟨_, _, ⟨HW6, ?_, hT6, hNb⟩⟩, hb7⟩
    rw [hce]; exact hO6
set_option maxRecDepth 20000 in
set_option maxHeartbeats 4000000 in
theorem gone_c {p : List Opn} {t : List Lt} {ev0 : Evt} {w0 w : World} {N m : Nat} {a : Option Addr} {c : Nat} {ns : List Int} {n0 : Int} {vo vt : Value} (hev : ev0.nums = ns) (hm : ns.length = m) (hx0 : ns[0]? = some n0) (hb0 : Below w0.heap.size w0 w) (hW : WkO w0.heap.size w N p t vo vt) (HN : SlR encI 1 w0 a c ns) (hp1 : t.Pairwise keyT) (hl : t.length ≤ 32) :
    Calls Tryd.prog 34 #[.pointer (some ⟨N, 0, none⟩), .slice a m c] w fun e w' => e = .returned (.int .i64 (goneR p t ev0).2.2) ∧ ((goneR p t ev0).2.2 = 0 → ∃ vo vt, WkO w0.heap.size w' N (goneR p t ev0).1 (goneR p t ev0).2.1 vo vt) ∧ Below w0.heap.size w0 w' := by
  subst hm
  have hlen : 0 < ns.length := (List.getElem?_eq_some_iff.1 hx0).1
  obtain ⟨HW, HO, HT, hNb⟩ := hW
  obtain ⟨ab, ao, rfl, -, -⟩ := HN.at (by intro h; rw [h] at hlen; simp at hlen)
  obtain ⟨ta, tc, rfl, HTs, -⟩ := Own.slR encL_len HT
  have hn0 := nth_eq hev hx0
  have HNw := HN.mono hb0
  have hw := Below.refl w.heap.size w
  refine fn_enter 27 Tryd.func34 rfl rfl rfl ?_
  repeat' (first | (refine lw_pure rfl (pv_assign rfl) ?_) | (refine is_cw ?_; first | (refine cw_seq ?_) | (refine cw_region ?_)) | (refine is_qw ?_; first | (with_reducible refine qw_then ?_)) | (refine lw_nil ?_))
  refine cw_drawn (fun w' => Below w.heap.size w w') (by kernel_rfl) (by repeat (first | exact NoPanic.body | with_reducible refine NoPanic.then ?_ | with_reducible refine NoPanic.inBlock ?_)) (fun hNP => ?_)
  have hS := hw.drew
  (refine at0 0 rfl (fun w' hq => pv_move rfl) ?_)
  (refine at0 1 rfl (fun w' hq => pv_nilp rfl) ?_)
  (refine at0 2 rfl (fun w' hq => pv_fa (tF rfl) rfl) ?_)
  (refine at0 3 rfl (fun w' hq => pv_load (t1 rfl) rfl (by first | exact PT.ld0 (HW.mono hq) rfl | exact PT.ld (HW.mono hq) rfl | exact SlR.ld (HNw.mono hq) hx0 rfl | exact SlR.ld1 (HNw.mono hq) hx0 rfl)) ?_)
  (refine at0 4 rfl (fun w' hq => pv_move rfl) ?_)
  (refine at0 5 rfl (fun w' hq => pv_ian (tS rfl) rfl rfl (by omega)) ?_)
  (refine at0 6 rfl (fun w' hq => pv_load (t1 rfl) rfl (by first | exact PT.ld0 (HW.mono hq) rfl | exact PT.ld (HW.mono hq) rfl | exact SlR.ld (HNw.mono hq) hx0 rfl | exact SlR.ld1 (HNw.mono hq) hx0 rfl)) ?_)
  refine aw_act 7 (by kernel_rfl) rfl rfl rfl ?_
  refine act_call (f := 51) (by kernel_rfl) rfl (lot_c n0 rfl (HTs.mono hS)) ?_; rintro e1 w1 ⟨⟨i, rfl, hi⟩, hb1⟩; refine ⟨_, rfl, grow_trans hS hb1, fun hS => ?_⟩
  (refine at0 8 rfl (fun w' hq => pv_assign rfl) ?_)
  refine aw_done (by kernel_rfl) ?_
  replace hw := hS; clear hS hNP
  have hb2 := grow_trans hb0 hw
  rcases hi with ⟨rfl, hn⟩ | ⟨k, r, rfl, hxk, hr, hn⟩
  · have hf : findT t n0 = none := find_none hn
    have hR : goneR p t ev0 = ([], [], 5) := by unfold goneR; rw [hn0, hf]; rfl
    rw [hR]
    repeat' (first | (refine lw_pure rfl (pv_move rfl) ?_) | (refine lw_pure rfl (pv_assign rfl) ?_) | (refine is_cw ?_; first | (refine cw_seq ?_) | (refine cw_region ?_) | (refine cw_true rfl rfl ?_) | (refine cw_ret ?_)) | (refine is_qw ?_; first | (with_reducible refine qw_then ?_) | (with_reducible refine qw_then_ret ?_)) | (refine lw_nil ?_) | ((refine is_bin ?_; first | (refine lw_pure rfl (pv_lss rfl rfl) ?_))))
    exact qw_ret1 rfl rfl ⟨rfl, by simp, hb2⟩
  · have hf : findT t n0 = some r := find_at hxk hr hn
    have hR : goneR p t ev0 = (p, gone t n0, 0) := by unfold goneR; rw [hn0, hf]; rfl
    rw [hR]
    have hrid : r.id = n0 := by simpa using hr
    have hlt : k < t.length := (List.getElem?_eq_some_iff.1 hxk).1
    have hce := gone_eq hxk hp1
    rw [hrid] at hce
    repeat' (first | (refine lw_pure rfl (pv_move rfl) ?_) | (refine is_cw ?_; first | (refine cw_seq ?_) | (refine cw_region ?_) | (refine cw_false rfl rfl ?_) | (refine cw_skip ?_)) | (refine is_qw ?_; first | (with_reducible refine qw_then ?_)) | (refine lw_nil ?_) | ((refine is_bin ?_; first | (refine lw_pure rfl (pv_lss rfl rfl) ?_) | (refine lw_pure rfl (pv_inc rfl rfl (by omega)) ?_))) | ((refine is_load ?_; first | (refine lw_pure rfl (pv_load (t1 rfl) rfl (by first | exact PT.ld0 (HW.mono hw) rfl | exact PT.ld (HW.mono hw) rfl)) ?_))) | ((refine is_fa ?_; first | (refine lw_pure rfl (pv_fa (tF rfl) rfl) ?_))) | (refine lw_pure rfl (pv_nilp rfl) ?_))
    refine lw_call (f := 53) (by kernel_rfl) rfl rfl (delone_L w0.heap.size k hlt hb2.size (HT.mono hw)) ?_; rintro e1 w5 ⟨⟨v', rfl, hT5⟩, hg5, hb5⟩; refine ⟨_, rfl, ?_⟩
    have HW5 := (HW.mono hw).grown hg5 (own_pt_ne (HT.mono hw) (HW.mono hw) (by decide))
    have hO5 := (HO.mono hw).kept hg5 (own_ne_T (HO.mono hw) (HT.mono hw) (by decide))
    have hb6 := hb2.trans hb5
    obtain ⟨va, vc, rfl, -, -⟩ := Own.slR encL_len hT5
    have hw := Below.refl w5.heap.size w5
    repeat' (first | ((refine is_fa ?_; first | (refine lw_pure rfl (pv_fa (tF rfl) rfl) ?_))) | (refine lw_pure rfl (pv_nilp rfl) ?_))
    refine lw_store HW5 (tZ rfl) rfl rfl rfl (by simp) ?_; intro w6 HW6 hg6 hz6
    have hO6 := hO5.kept hg6 (Or.inr (own_pt_ne hO5 HW5 (by decide)))
    have hT6 := hT5.kept hg6 (Or.inr (own_pt_ne hT5 HW5 (by decide)))
    have hb7 := hb6.grown hg6 hb6.size (by intro q hq; injection hq with hq; omega)
    have hw := Below.refl w6.heap.size w6
    repeat' (first | (refine lw_pure rfl (pv_assign rfl) ?_) | (refine is_cw ?_; first | (refine cw_seq ?_) | (refine cw_region ?_) | (refine cw_ret ?_)) | (refine is_qw ?_; first | (with_reducible refine qw_then ?_)) | (refine lw_nil ?_))
    refine qw_ret1 rfl rfl ⟨rfl, fun _ => ⟨_, _, ⟨HW6, hO6, ?_, hNb⟩⟩, hb7⟩
    rw [hce]; exact hT6

set_option maxRecDepth 20000 in
theorem zeroF_c (o : Opn) (w : World) : Calls Tryd.prog 50 #[.agg (encP o).toArray] w fun e w' => e = .returned (.bool (o.left == 0)) ∧ Below w.heap.size w w' := by
  have hE := Ext.refl w
  have hw := Below.refl w.heap.size w
  refine fn_enter 6 Tryd.func50 rfl rfl rfl ?_
  repeat' (first | (refine is_cw ?_; first | (refine cw_seq ?_) | (refine cw_region ?_)))
  refine lw_boxN rfl rfl (cs := encP o) rfl ?_; intro N1 wn hN HA hb
  replace hw := grow_trans hw hb
  clear hb
  replace hE := hE.mono hw; clear hw; have hw := Below.refl wn.heap.size wn
  repeat' (first | (refine lw_pure rfl (pv_assign rfl) ?_) | (refine is_cw ?_; first | (refine cw_seq ?_) | (refine cw_region ?_) | (refine cw_ret ?_)) | (refine is_qw ?_; first | (with_reducible refine qw_then ?_)) | (refine lw_nil ?_) | ((refine is_bin ?_; first | (refine lw_pure rfl (pv_eql rfl rfl) ?_))) | ((refine is_load ?_; first | (refine lw_pure rfl (pv_load (t1 rfl) rfl (by first | exact PT.ld0 (HA.mono hw) rfl | exact PT.ld (HA.mono hw) rfl)) ?_))) | ((refine is_fa ?_; first | (refine lw_pure rfl (pv_fa (tF rfl) rfl) ?_))))
  exact qw_ret1 rfl rfl ⟨ret_bool rfl, (hE.mono hw).b⟩
set_option maxRecDepth 20000 in
set_option maxHeartbeats 8000000 in
theorem traded_c {p : List Opn} {t : List Lt} {ev0 : Evt} {w0 w : World} {N m : Nat} {a : Option Addr} {c : Nat} {ns : List Int} {n0 n1 n3 : Int} {vo vt : Value} (hev : ev0.nums = ns) (hm : ns.length = m) (hx0 : ns[0]? = some n0) (hx1 : ns[1]? = some n1) (hx3 : ns[3]? = some n3) (hq : 1 ≤ n3 ∧ n3 ≤ 1048576) (hb0 : Below w0.heap.size w0 w) (hW : WkO w0.heap.size w N p t vo vt) (HN : SlR encI 1 w0 a c ns) (hnd : (p.map (·.id)).Nodup) (hpos : ∀ x ∈ p, 0 < x.left ∧ x.left ≤ 1048576) :
    Calls Tryd.prog 32 #[.pointer (some ⟨N, 0, none⟩), .slice a m c] w fun e w' => e = .returned (.int .i64 (tradedR p t ev0).2.2) ∧ ((tradedR p t ev0).2.2 = 0 → ∃ vo vt, WkO w0.heap.size w' N (tradedR p t ev0).1 (tradedR p t ev0).2.1 vo vt) ∧ Below w0.heap.size w0 w' := by
  subst hm
  have hlen : 3 < ns.length := (List.getElem?_eq_some_iff.1 hx3).1
  obtain ⟨HW, HO, HT, hNb⟩ := hW
  obtain ⟨ab, ao, rfl, -, -⟩ := HN.at (by intro h; rw [h] at hlen; simp at hlen)
  obtain ⟨oa, oc, rfl, HOs, hob⟩ := Own.slR encP_len HO
  have hn0 := nth_eq hev hx0
  have hn1 := nth_eq hev hx1
  have hn3 := nth_eq hev hx3
  have hR : tradedR p t ev0 = match findP p n0, findP p n1 with | some a, some b => if n0 = n1 ∨ a.left < n3 ∨ b.left < n3 then ([], [], 1) else (lessP (lessP p n0 n3) n1 n3, t, 0) | _, _ => ([], [], 5) := by
    unfold tradedR; rw [hn0, hn1, hn3]; rfl
  have HNw := HN.mono hb0
  have hw := Below.refl w.heap.size w
  refine fn_enter 94 Tryd.func32 rfl rfl rfl ?_
  repeat' (first | (refine lw_pure rfl (pv_assign rfl) ?_) | (refine is_cw ?_; first | (refine cw_seq ?_) | (refine cw_region ?_)) | (refine is_qw ?_; first | (with_reducible refine qw_then ?_)) | (refine lw_nil ?_))
  refine cw_drawn (fun w' => Below w.heap.size w w') (by kernel_rfl) (by repeat (first | exact NoPanic.body | with_reducible refine NoPanic.then ?_ | with_reducible refine NoPanic.inBlock ?_)) (fun hNP => ?_)
  have hS := hw.drew
  (refine at0 0 rfl (fun w' hq => pv_move rfl) ?_)
  (refine at0 1 rfl (fun w' hq => pv_nilp rfl) ?_)
  (refine at0 2 rfl (fun w' hq => pv_fa (tF rfl) rfl) ?_)
  (refine at0 3 rfl (fun w' hq => pv_load (t1 rfl) rfl (by first | exact PT.ld0 (HW.mono hq) rfl | exact PT.ld (HW.mono hq) rfl | exact SlR.ld (HNw.mono hq) hx0 rfl | exact SlR.ld1 (HNw.mono hq) hx0 rfl | exact SlR.ld (HNw.mono hq) hx1 rfl | exact SlR.ld1 (HNw.mono hq) hx1 rfl | exact SlR.ld (HNw.mono hq) hx3 rfl | exact SlR.ld1 (HNw.mono hq) hx3 rfl)) ?_)
  (refine at0 4 rfl (fun w' hq => pv_move rfl) ?_)
  (refine at0 5 rfl (fun w' hq => pv_ia (tS rfl) rfl rfl (by omega)) ?_)
  (refine at0 6 rfl (fun w' hq => pv_load (t1 rfl) rfl (by first | exact PT.ld0 (HW.mono hq) rfl | exact PT.ld (HW.mono hq) rfl | exact SlR.ld (HNw.mono hq) hx0 rfl | exact SlR.ld1 (HNw.mono hq) hx0 rfl | exact SlR.ld (HNw.mono hq) hx1 rfl | exact SlR.ld1 (HNw.mono hq) hx1 rfl | exact SlR.ld (HNw.mono hq) hx3 rfl | exact SlR.ld1 (HNw.mono hq) hx3 rfl)) ?_)
  (refine at0 8 rfl (fun w' hq => pv_move rfl) ?_)
  (refine at0 9 rfl (fun w' hq => pv_nilp rfl) ?_)
  (refine at0 10 rfl (fun w' hq => pv_fa (tF rfl) rfl) ?_)
  (refine at0 11 rfl (fun w' hq => pv_load (t1 rfl) rfl (by first | exact PT.ld0 (HW.mono hq) rfl | exact PT.ld (HW.mono hq) rfl | exact SlR.ld (HNw.mono hq) hx0 rfl | exact SlR.ld1 (HNw.mono hq) hx0 rfl | exact SlR.ld (HNw.mono hq) hx1 rfl | exact SlR.ld1 (HNw.mono hq) hx1 rfl | exact SlR.ld (HNw.mono hq) hx3 rfl | exact SlR.ld1 (HNw.mono hq) hx3 rfl)) ?_)
  (refine at0 12 rfl (fun w' hq => pv_move rfl) ?_)
  (refine at0 13 rfl (fun w' hq => pv_ia (tS rfl) rfl rfl (by omega)) ?_)
  (refine at0 14 rfl (fun w' hq => pv_load (t1 rfl) rfl (by first | exact PT.ld0 (HW.mono hq) rfl | exact PT.ld (HW.mono hq) rfl | exact SlR.ld (HNw.mono hq) hx0 rfl | exact SlR.ld1 (HNw.mono hq) hx0 rfl | exact SlR.ld (HNw.mono hq) hx1 rfl | exact SlR.ld1 (HNw.mono hq) hx1 rfl | exact SlR.ld (HNw.mono hq) hx3 rfl | exact SlR.ld1 (HNw.mono hq) hx3 rfl)) ?_)
  (refine at0 16 rfl (fun w' hq => pv_move rfl) ?_)
  (refine at0 17 rfl (fun w' hq => pv_ian (tS rfl) rfl rfl (by omega)) ?_)
  (refine at0 18 rfl (fun w' hq => pv_load (t1 rfl) rfl (by first | exact PT.ld0 (HW.mono hq) rfl | exact PT.ld (HW.mono hq) rfl | exact SlR.ld (HNw.mono hq) hx0 rfl | exact SlR.ld1 (HNw.mono hq) hx0 rfl | exact SlR.ld (HNw.mono hq) hx1 rfl | exact SlR.ld1 (HNw.mono hq) hx1 rfl | exact SlR.ld (HNw.mono hq) hx3 rfl | exact SlR.ld1 (HNw.mono hq) hx3 rfl)) ?_)
  refine aw_act 7 (by kernel_rfl) rfl rfl rfl ?_
  refine act_call (f := 46) (by kernel_rfl) rfl (at_c n0 rfl (HOs.mono hS)) ?_; rintro e1 w1 ⟨⟨i, rfl, hi⟩, hb1⟩; refine ⟨_, rfl, grow_trans hS hb1, fun hS => ?_⟩
  refine aw_act 15 (by kernel_rfl) rfl rfl rfl ?_
  refine act_call (f := 46) (by kernel_rfl) rfl (at_c n1 rfl (HOs.mono hS)) ?_; rintro e1 w1 ⟨⟨j, rfl, hj⟩, hb1⟩; refine ⟨_, rfl, grow_trans hS hb1, fun hS => ?_⟩
  (refine at0 19 rfl (fun w' hq => pv_assign rfl) ?_)
  (refine at0 20 rfl (fun w' hq => pv_assign rfl) ?_)
  (refine at0 21 rfl (fun w' hq => pv_assign rfl) ?_)
  refine aw_done (by kernel_rfl) ?_
  replace hw := hS; clear hS hNP
  have hb2 := grow_trans hb0 hw
  rcases hi with ⟨rfl, hi⟩ | ⟨i, r, rfl, hxi, hri, hi⟩
  · have hf : findP p n0 = none := find_none hi
    rw [hf] at hR
    rw [hR]
    rcases hj with ⟨rfl, hj⟩ | ⟨j, s, rfl, hxj, hrj, hj⟩
    all_goals repeat' (first | (refine lw_pure rfl (pv_move rfl) ?_) | (refine lw_pure rfl (pv_assign rfl) ?_) | (refine is_cw ?_; first | (refine cw_seq ?_) | (refine cw_region ?_) | (refine cw_true rfl rfl ?_) | (refine cw_block ?_) | (refine cw_ret ?_)) | (refine is_qw ?_; first | (with_reducible refine qw_then ?_) | (with_reducible refine qw_then_ret ?_) | (with_reducible refine qw_in_ret ?_)) | (refine lw_nil ?_) | (refine is_guarded ?_; first | (refine lw_not rfl rfl rfl rfl ?_)) | ((refine is_bin ?_; first | (refine lw_pure rfl (pv_lss rfl rfl) ?_))) | (refine is_pk ?_; refine lw_pure rfl (pv_pick_t rfl rfl rfl) ?_))
    all_goals exact qw_ret1 rfl rfl ⟨rfl, by simp, hb2⟩
  · have hf : findP p n0 = some r := find_at hxi hri hi
    have hrid : r.id = n0 := by simpa using hri
    rcases hj with ⟨rfl, hj⟩ | ⟨j, s, rfl, hxj, hrj, hj⟩
    · have hg : findP p n1 = none := find_none hj
      rw [hf, hg] at hR
      rw [hR]
      repeat' (first | (refine lw_pure rfl (pv_move rfl) ?_) | (refine lw_pure rfl (pv_assign rfl) ?_) | (refine is_cw ?_; first | (refine cw_seq ?_) | (refine cw_region ?_) | (refine cw_true rfl rfl ?_) | (refine cw_block ?_) | (refine cw_ret ?_)) | (refine is_qw ?_; first | (with_reducible refine qw_then ?_) | (with_reducible refine qw_then_ret ?_) | (with_reducible refine qw_in_ret ?_)) | (refine lw_nil ?_) | (refine is_guarded ?_; first | (refine lw_on rfl rfl rfl ?_)) | ((refine is_bin ?_; first | (refine lw_pure rfl (pv_lss rfl rfl) ?_))) | (refine is_pk ?_; refine lw_pure rfl (pv_pick_f rfl rfl rfl) ?_))
      all_goals exact qw_ret1 rfl rfl ⟨rfl, by simp, hb2⟩
    · have hg : findP p n1 = some s := find_at hxj hrj hj
      have hsid : s.id = n1 := by simpa using hrj
      rw [hf, hg] at hR
      dsimp only at hR
      rw [hR]
      have hlti : i < p.length := (List.getElem?_eq_some_iff.1 hxi).1
      have hltj : j < p.length := (List.getElem?_eq_some_iff.1 hxj).1
      have hij : i = j ↔ n0 = n1 := by
        constructor
        · rintro rfl; rw [hxi] at hxj; injection hxj with hxj; subst hxj; rw [← hrid, ← hsid]
        · intro e
          have hrs : r = s := inj_of_nodup hnd (List.mem_of_getElem? hxi) (List.mem_of_getElem? hxj) (by rw [hrid, hsid, e])
          subst hrs
          have h1 : (p.map (·.id))[i]? = some r.id := by rw [List.getElem?_map, hxi]; rfl
          have h2 : (p.map (·.id))[j]? = some r.id := by rw [List.getElem?_map, hxj]; rfl
          rcases Nat.lt_trichotomy i j with h3 | h3 | h3
          · exact absurd rfl (pwg_get (List.nodup_iff_pairwise_ne.1 hnd) h3 h1 h2)
          · exact h3
          · exact absurd rfl (pwg_get (List.nodup_iff_pairwise_ne.1 hnd) h3 h2 h1)
      obtain ⟨ob, oo, rfl, -, -⟩ := HOs.at (by intro h; rw [h] at hlti; simp at hlti)
      obtain ⟨hob1, hob2⟩ := hob _ rfl
      simp only at hob1 hob2; subst hob2
      have hrl := hpos r (List.mem_of_getElem? hxi)
      have hsl := hpos s (List.mem_of_getElem? hxj)
      have HOw := HOs
      by_cases hbad : n0 = n1 ∨ r.left < n3 ∨ s.left < n3
      · rw [if_pos hbad]
        repeat' (first | (refine lw_pure rfl (pv_move rfl) ?_) | (refine lw_pure rfl (pv_assign rfl) ?_) | (refine is_cw ?_; first | (refine cw_seq ?_) | (refine cw_region ?_) | (refine cw_true rfl rfl ?_) | (refine cw_false rfl rfl ?_) | (refine is_cd ?_; refine cw_true rfl (by first | assumption | exact decide_eq_true (by omega) | exact dec_notT (by omega)) ?_) | (refine cw_block ?_) | (refine cw_ret ?_)) | (refine is_qw ?_; first | (with_reducible refine qw_then ?_) | (with_reducible refine qw_then_ret ?_) | (with_reducible refine qw_in_ret ?_)) | (refine lw_nil ?_) | (refine is_guarded ?_; first | (refine lw_not rfl rfl rfl rfl ?_) | (refine lw_on rfl rfl rfl ?_) | (refine lw_on rfl rfl (by first | assumption | exact decide_eq_true (by omega) | exact decide_eq_false (by omega) | exact dec_notT (by omega) | exact dec_notF (by omega)) ?_) | (refine lw_not rfl rfl rfl (by first | assumption | exact decide_eq_true (by omega) | exact decide_eq_false (by omega) | exact dec_notT (by omega) | exact dec_notF (by omega)) ?_) | (refine lw_gs_f rfl rfl rfl (fun hc => ?_) (fun hc => ?_) <;> (first | replace hc := of_decide_eq_true hc | replace hc := of_decide_eq_false hc | replace hc := dec_nT hc | replace hc := dec_nF hc | skip) <;> (try (exfalso; omega)))) | ((refine is_bin ?_; first | (refine lw_pure rfl (pv_lss rfl rfl) ?_) | (refine lw_pure rfl (pv_eql rfl rfl) ?_) | (refine lw_pure rfl (pv_gtr rfl rfl) ?_))) | ((refine is_load ?_; first | (refine lw_pure rfl (pv_load (t1 rfl) rfl (by first | exact PT.ld0 (HW.mono hw) rfl | exact PT.ld (HW.mono hw) rfl | exact SlR.ld (HOw.mono hw) hxi rfl | exact SlR.ld1 (HOw.mono hw) hxi rfl | exact SlR.ld (HOw.mono hw) hxj rfl | exact SlR.ld1 (HOw.mono hw) hxj rfl)) ?_))) | ((refine is_fa ?_; first | (refine lw_pure rfl (pv_fa (tF rfl) rfl) ?_))) | ((refine is_ia ?_; first | (refine lw_pure rfl (pv_ian (tS rfl) rfl rfl (by omega)) ?_))) | (refine is_pk ?_; refine lw_pure rfl (pv_pick_t rfl rfl rfl) ?_) | (refine is_pk ?_; refine lw_pure rfl (pv_pick_f rfl rfl rfl) ?_) | (refine is_pk ?_; refine lw_pure rfl (pv_pick_t rfl (by first | assumption | exact decide_eq_true (by omega) | exact dec_notT (by omega)) rfl) ?_) | (refine is_pk ?_; refine lw_pure rfl (pv_pick_f rfl (by first | assumption | exact decide_eq_false (by omega) | exact dec_notF (by omega)) rfl) ?_) | (refine lw_pure rfl (pv_nilp rfl) ?_))
        all_goals first | (exfalso; omega) | exact qw_ret1 rfl rfl ⟨rfl, by simp, hb2⟩
      · rw [if_neg hbad]
        have hne : ¬ i = j := fun e => hbad (Or.inl (hij.1 e))
        have hg1 : ¬ r.left < n3 := fun e => hbad (Or.inr (Or.inl e))
        have hg2 : ¬ s.left < n3 := fun e => hbad (Or.inr (Or.inr e))
        repeat' (first | (refine lw_pure rfl (pv_move rfl) ?_) | (refine lw_pure rfl (pv_assign rfl) ?_) | (refine is_cw ?_; first | (refine cw_seq ?_) | (refine cw_region ?_) | (refine cw_false rfl rfl ?_) | (refine is_cd ?_; refine cw_false rfl (by first | assumption | exact decide_eq_false (by omega) | exact dec_notF (by omega)) ?_) | (refine cw_skip ?_) | (refine cw_block ?_)) | (refine is_qw ?_; first | (with_reducible refine qw_then ?_) | (with_reducible refine qw_in ?_)) | (refine lw_nil ?_) | (refine is_guarded ?_; first | (refine lw_on rfl rfl rfl ?_) | (refine lw_on rfl rfl (by first | assumption | exact decide_eq_true (by omega) | exact decide_eq_false (by omega) | exact dec_notT (by omega) | exact dec_notF (by omega)) ?_)) | ((refine is_bin ?_; first | (refine lw_pure rfl (pv_lss rfl rfl) ?_) | (refine lw_pure rfl (pv_eql rfl rfl) ?_) | (refine lw_pure rfl (pv_gtr rfl rfl) ?_) | (refine lw_pure rfl (pv_sub rfl rfl (by omega)) ?_))) | ((refine is_load ?_; first | (refine lw_pure rfl (pv_load (t1 rfl) rfl (by first | exact PT.ld0 (HW.mono hw) rfl | exact PT.ld (HW.mono hw) rfl | exact SlR.ld (HOw.mono hw) hxi rfl | exact SlR.ld1 (HOw.mono hw) hxi rfl | exact SlR.ld (HOw.mono hw) hxj rfl | exact SlR.ld1 (HOw.mono hw) hxj rfl)) ?_))) | ((refine is_fa ?_; first | (refine lw_pure rfl (pv_fa (tF rfl) rfl) ?_))) | ((refine is_ia ?_; first | (refine lw_pure rfl (pv_ian (tS rfl) rfl rfl (by omega)) ?_))) | (refine is_pk ?_; refine lw_pure rfl (pv_pick_f rfl rfl rfl) ?_) | (refine is_pk ?_; refine lw_pure rfl (pv_pick_f rfl (by first | assumption | exact decide_eq_false (by omega) | exact dec_notF (by omega)) rfl) ?_) | (refine lw_pure rfl (pv_nilp rfl) ?_))
        refine lw_storeF (i := i) (f := 5) (u := { r with left := r.left - n3 }) encP_len (tZ rfl) rfl (by omega) rfl rfl (HO.mono hw) hxi rfl (by omega) ?_; intro w3 hO3 hg3 hz3
        have HW3 := (HW.mono hw).grown hg3 (own_pt_ne (HO.mono hw) (HW.mono hw) (by decide))
        have hT3 := (HT.mono hw).kept hg3 (own_ne_T (HT.mono hw) (HO.mono hw) (by decide))
        have hb3 := hb2.grown hg3 hb2.size (by intro q hq; injection hq with hq; omega)
        have hl3 : (p.set i { r with left := r.left - n3 }).length = p.length := List.length_set
        rw [← hl3] at hO3
        obtain ⟨a3, c3, hv3, HO3, -⟩ := Own.slR encP_len hO3
        injection hv3 with hv31 _ hv33; subst hv31 hv33
        have hxj3 : (p.set i { r with left := r.left - n3 })[j]? = some s := by rw [List.getElem?_set, if_neg hne]; exact hxj
        have hltj3 : j < (p.set i { r with left := r.left - n3 }).length := by omega
        clear hw
        have hw := Below.refl w3.heap.size w3
        repeat' (first | (refine lw_pure rfl (pv_move rfl) ?_) | (refine is_cw ?_; first | (refine cw_seq ?_) | (refine cw_region ?_)) | (refine is_qw ?_; first | (with_reducible refine qw_then ?_)) | (refine lw_nil ?_) | ((refine is_bin ?_; first | (refine lw_pure rfl (pv_sub rfl rfl (by omega)) ?_))) | ((refine is_load ?_; first | (refine lw_pure rfl (pv_load (t1 rfl) rfl (by first | exact PT.ld0 (HW3.mono hw) rfl | exact PT.ld (HW3.mono hw) rfl | exact SlR.ld (HO3.mono hw) hxj3 rfl | exact SlR.ld1 (HO3.mono hw) hxj3 rfl)) ?_))) | ((refine is_fa ?_; first | (refine lw_pure rfl (pv_fa (tF rfl) rfl) ?_))) | ((refine is_ia ?_; first | (refine lw_pure rfl (pv_ian (tS rfl) rfl rfl (by omega)) ?_))) | (refine lw_pure rfl (pv_nilp rfl) ?_))
        refine lw_storeF (i := j) (f := 5) (u := { s with left := s.left - n3 }) encP_len (tZ rfl) rfl (by omega) rfl rfl hO3 hxj3 rfl (by omega) ?_; intro w4 hO4 hg4 hz4
        have HW4 := HW3.grown hg4 (own_pt_ne hO3 HW3 (by decide))
        have hT4 := hT3.kept hg4 (own_ne_T hT3 hO3 (by decide))
        have hb4 := hb3.grown hg4 hb3.size (by intro q hq; injection hq with hq; omega)
        have hl4 : ((p.set i { r with left := r.left - n3 }).set j { s with left := s.left - n3 }).length = (p.set i { r with left := r.left - n3 }).length := List.length_set
        rw [← hl4] at hO4
        clear hw
        have hw := Below.refl w4.heap.size w4
        have hte := traded_eq (q := n3) hxi hxj hnd (fun x hx => (hpos x hx).1) (by rw [hrid, hsid]; exact fun e => hbad (Or.inl e)) (by omega) (by omega)
        repeat' (first | (refine lw_pure rfl (pv_move rfl) ?_) | (refine is_cw ?_; first | (refine cw_seq ?_) | (refine cw_region ?_)) | (refine is_qw ?_; first | (with_reducible refine qw_then ?_)) | (refine lw_nil ?_) | ((refine is_load ?_; first | (refine lw_pure rfl (pv_load (t1 rfl) rfl (by first | exact PT.ld0 (HW4.mono hw) rfl | exact PT.ld (HW4.mono hw) rfl)) ?_))) | ((refine is_fa ?_; first | (refine lw_pure rfl (pv_fa (tF rfl) rfl) ?_))) | (refine lw_pure rfl (pv_nilp rfl) ?_))
        rw [← hl3, ← hl4]
        refine lw_call (f := 49) (by kernel_rfl) rfl rfl (delfg_P w0.heap.size (fun o => o.left == 0) 50 #[] (by kernel_rfl) hb4.size (fun x _ w' _ => by simpa using zeroF_c x w') hO4) ?_; rintro e1 w5 ⟨⟨v', rfl, hO5⟩, hg5, hb5⟩; refine ⟨_, rfl, ?_⟩
        have HW5 := HW4.grown hg5 (own_pt_ne hO4 HW4 (by decide))
        have hT5 := hT4.kept hg5 (own_ne_T hT4 hO4 (by decide))
        have hb6 := hb4.trans hb5
        obtain ⟨va, vc, rfl, -, -⟩ := Own.slR encP_len hO5
        clear hw
        have hw := Below.refl w5.heap.size w5
        repeat' (first | ((refine is_fa ?_; first | (refine lw_pure rfl (pv_fa (tF rfl) rfl) ?_))) | (refine lw_pure rfl (pv_nilp rfl) ?_))
        refine lw_store HW5 (tZ rfl) rfl rfl rfl (by simp) ?_; intro w6 HW6 hg6 hz6
        have hO6 := hO5.kept hg6 (Or.inr (own_pt_ne hO5 HW5 (by decide)))
        have hT6 := hT5.kept hg6 (Or.inr (own_pt_ne hT5 HW5 (by decide)))
        have hb7 := hb6.grown hg6 hb6.size (by intro q hq; injection hq with hq; omega)
        have hw := Below.refl w6.heap.size w6
        repeat' (first | (refine lw_pure rfl (pv_assign rfl) ?_) | (refine is_cw ?_; first | (refine cw_seq ?_) | (refine cw_region ?_) | (refine cw_ret ?_)) | (refine is_qw ?_; first | (with_reducible refine qw_then ?_)) | (refine lw_nil ?_))
        refine qw_ret1 rfl rfl ⟨rfl, fun _ => ⟨_, _, ⟨HW6, ?_, hT6, hNb⟩⟩, hb7⟩
        rw [hte, hrid, hsid] at hO6 ⊢; exact hO6
end Go.Proofs.YtkehmbgcglbffaaDoor
namespace Go.Proofs.YtkehmbgcglbffaaDoor
open Go.RowKit Go.PlainAid Go.ChangeShapes Go.WideShapes Go.Maps

section
variable {κ ν : Type} [DecidableEq κ] {eK : κ → Value} {eV : ν → Value} {P : Program} {n : Nat} {l : Fr} {w : World} {B : Nat} {Q : Exit → Act → World → Prop} {ops : Array Oper} {os : List Oper} {d : Option Nat} {ty : TypeId} {pos : String} {af : Array Edge} {g : Option (Nat × Bool)} {T K V : TypeId} {x y z : Operand}
theorem lw_insertM (ht : P.underlying T = some (.map K V)) (E : KeyE P K eK) {m : List (κ × ν)} (k : κ) (v : ν) (hx : ev l x = some (.map (some B))) (hy : ev l y = some (eK k)) (hz : ev l z = some (eV v)) (h : Mp eK eV w B m)
    (hc : ∀ w', Mp eK eV w' B (putM m k v) → w.grownBy w' (some B) → w'.heap.size = w.heap.size → LW P n ops Q os l w') : LW P n ops Q (⟨none, .insert T x y z, ty, pos, af, none⟩ :: os) l w :=
  lw_skips (Φ := fun w' => Mp eK eV w' B (putM m k v) ∧ w.grownBy w' (some B) ∧ w'.heap.size = w.heap.size) (fun A hA => by
    obtain ⟨w', h1, h2⟩ := run_updateM (w := w) ht E h k v
    exact ⟨w', by simp [execOp, hA.ev hx, hA.ev hy, hA.ev hz, h1], h2⟩) fun w' ⟨h1, h2, h3⟩ => hc w' h1 h2 h3
end
def kU (q : Fin 256) : Value := .int .u8 (q.val : Int)
def vF (f : Option Nat) : Value := match f with | some f => .func (.func f) #[] #[] | none => .nilFunc
theorem keyU : KeyE Tryd.prog 5 kU := ⟨int_keyed Tryd.underlying5, fun q => ⟨_, keyOf_int_mk Tryd.underlying5 (by have := q.isLt; simp only [Lit.wf, Bool.and_eq_true, decide_eq_true_eq]; exact ⟨show (0 : Int) ≤ _ by omega, show _ ≤ (255 : Int) by omega⟩)⟩, fun a b h => by
  simp only [kU, Value.int.injEq, true_and] at h
  exact Fin.ext (by omega)⟩
theorem zF (w : World) : (zeroValue 52).run Tryd.prog w = .ok (vF none) w := by kernel_rfl
def doesM : List (Fin 256 × Option Nat) := [(11, some 30), (12, some 31), (13, some 32), (14, some 33), (16, some 33), (18, some 34), (19, some 34)]
set_option maxRecDepth 20000 in
set_option maxHeartbeats 1000000 in
theorem does_c (w : World) : Calls Tryd.prog 16 #[] w fun e w' => (∃ N, e = .returned (.map (some N)) ∧ Mp kU vF w' N doesM ∧ w.heap.size ≤ N) ∧ Below w.heap.size w w' := by
  have hW := Below.refl w.heap.size w
  refine fn_enter 3 Tryd.func16 rfl rfl rfl ?_
  have hw := Below.refl w.heap.size w
  repeat' (first | (refine lw_pure rfl (pv_assign rfl) ?_) | (refine is_cw ?_; first | (refine cw_seq ?_) | (refine cw_region ?_)) | (refine is_qw ?_; first | (with_reducible refine qw_then ?_)) | (refine lw_nil ?_))
  refine lw_makeMap kU vF rfl ?_; intro N w1 hN HM hb
  replace hW := hW.trans hb
  refine lw_insertM (eV := vF) Tryd.underlying54 keyU 11 (some 30) rfl rfl rfl HM ?_; clear HM; intro w1 HM hg hz; replace hW := hW.grown hg hW.size (by intro q hq; injection hq with hq; omega); clear hg hz
  refine lw_insertM (eV := vF) Tryd.underlying54 keyU 12 (some 31) rfl rfl rfl HM ?_; clear HM; intro w1 HM hg hz; replace hW := hW.grown hg hW.size (by intro q hq; injection hq with hq; omega); clear hg hz
  refine lw_insertM (eV := vF) Tryd.underlying54 keyU 13 (some 32) rfl rfl rfl HM ?_; clear HM; intro w1 HM hg hz; replace hW := hW.grown hg hW.size (by intro q hq; injection hq with hq; omega); clear hg hz
  refine lw_insertM (eV := vF) Tryd.underlying54 keyU 14 (some 33) rfl rfl rfl HM ?_; clear HM; intro w1 HM hg hz; replace hW := hW.grown hg hW.size (by intro q hq; injection hq with hq; omega); clear hg hz
  refine lw_insertM (eV := vF) Tryd.underlying54 keyU 16 (some 33) rfl rfl rfl HM ?_; clear HM; intro w1 HM hg hz; replace hW := hW.grown hg hW.size (by intro q hq; injection hq with hq; omega); clear hg hz
  refine lw_insertM (eV := vF) Tryd.underlying54 keyU 18 (some 34) rfl rfl rfl HM ?_; clear HM; intro w1 HM hg hz; replace hW := hW.grown hg hW.size (by intro q hq; injection hq with hq; omega); clear hg hz
  refine lw_insertM (eV := vF) Tryd.underlying54 keyU 19 (some 34) rfl rfl rfl HM ?_; clear HM; intro w1 HM hg hz; replace hW := hW.grown hg hW.size (by intro q hq; injection hq with hq; omega); clear hg hz
  clear hw
  have hw := Below.refl w1.heap.size w1
  repeat' (first | (refine lw_pure rfl (pv_move rfl) ?_) | (refine lw_pure rfl (pv_assign rfl) ?_) | (refine is_cw ?_; first | (refine cw_ret ?_)) | (refine is_qw ?_; first | (with_reducible refine qw_then ?_)) | (refine lw_nil ?_))
  exact qw_ret1 rfl rfl ⟨⟨N, rfl, HM, hN⟩, hW⟩
theorem fld11 : fieldsR 3 11 = some ({ data := #[111, 97, 105, 115, 112, 113] }, false) := by kernel_rfl
theorem fld12 : fieldsR 3 12 = some ({ data := #[111] }, false) := by kernel_rfl
theorem fld13 : fieldsR 3 13 = some ({ data := #[111, 111, 112, 113, 122] }, false) := by kernel_rfl
theorem fld14 : fieldsR 3 14 = some ({ data := #[99, 97, 105, 113, 109, 109, 116] }, false) := by kernel_rfl
theorem fld16 : fieldsR 3 16 = some ({ data := #[99, 97, 105, 113, 109, 116] }, false) := by kernel_rfl
theorem fld18 : fieldsR 3 18 = some ({ data := #[99, 97, 109, 122] }, false) := by kernel_rfl
theorem fld19 : fieldsR 3 19 = some ({ data := #[99] }, false) := by kernel_rfl
theorem nums11 {e : Evt} (h : mayE e = true) (hv : e.v = 3) (hk : e.kind = 11) : ∃ n0 n1 n2 n3 n4 n5, e.nums = [n0, n1, n2, n3, n4, n5] ∧ (1 ≤ n0 ∧ n0 ≤ 1099511627776) ∧ (1 ≤ n1 ∧ n1 ≤ 64) ∧ (1 ≤ n2 ∧ n2 ≤ 16) ∧ (1 ≤ n3 ∧ n3 ≤ 2) ∧ (1 ≤ n4 ∧ n4 ≤ 1073741824) ∧ (1 ≤ n5 ∧ n5 ≤ 1048576) := by
  have h1 : allR 3 [111, 97, 105, 115, 112, 113] e.nums = true := (may_nums h hv hk fld11).1
  obtain ⟨n0, r0, e0, f0, h1⟩ := all_cons h1
  obtain ⟨n1, r1, rfl, f1, h1⟩ := all_cons h1
  obtain ⟨n2, r2, rfl, f2, h1⟩ := all_cons h1
  obtain ⟨n3, r3, rfl, f3, h1⟩ := all_cons h1
  obtain ⟨n4, r4, rfl, f4, h1⟩ := all_cons h1
  obtain ⟨n5, r5, rfl, f5, h1⟩ := all_cons h1
  have h2 := all_nil h1; subst h2
  exact ⟨n0, n1, n2, n3, n4, n5, e0, fits_lo f0 bnd_o, fits_lo f1 bnd_a, fits_lo f2 bnd_i, fits_lo f3 bnd_s, fits_lo f4 bnd_p, fits_lo f5 bnd_q⟩
theorem nums12 {e : Evt} (h : mayE e = true) (hv : e.v = 3) (hk : e.kind = 12) : ∃ n0, e.nums = [n0] ∧ (1 ≤ n0 ∧ n0 ≤ 1099511627776) := by
  have h1 : allR 3 [111] e.nums = true := (may_nums h hv hk fld12).1
  obtain ⟨n0, r0, e0, f0, h1⟩ := all_cons h1
  have h2 := all_nil h1; subst h2
  exact ⟨n0, e0, fits_lo f0 bnd_o⟩
theorem nums13 {e : Evt} (h : mayE e = true) (hv : e.v = 3) (hk : e.kind = 13) : ∃ n0 n1 n2 n3 n4, e.nums = [n0, n1, n2, n3, n4] ∧ (1 ≤ n0 ∧ n0 ≤ 1099511627776) ∧ (1 ≤ n1 ∧ n1 ≤ 1099511627776) ∧ (1 ≤ n2 ∧ n2 ≤ 1073741824) ∧ (1 ≤ n3 ∧ n3 ≤ 1048576) ∧ (0 ≤ n4 ∧ n4 ≤ 1125899906842624) := by
  have h1 : allR 3 [111, 111, 112, 113, 122] e.nums = true := (may_nums h hv hk fld13).1
  obtain ⟨n0, r0, e0, f0, h1⟩ := all_cons h1
  obtain ⟨n1, r1, rfl, f1, h1⟩ := all_cons h1
  obtain ⟨n2, r2, rfl, f2, h1⟩ := all_cons h1
  obtain ⟨n3, r3, rfl, f3, h1⟩ := all_cons h1
  obtain ⟨n4, r4, rfl, f4, h1⟩ := all_cons h1
  have h2 := all_nil h1; subst h2
  exact ⟨n0, n1, n2, n3, n4, e0, fits_lo f0 bnd_o, fits_lo f1 bnd_o, fits_lo f2 bnd_p, fits_lo f3 bnd_q, fits_lo f4 bnd_z⟩
theorem nums14 {e : Evt} (h : mayE e = true) (hv : e.v = 3) (hk : e.kind = 14 ∨ e.kind = 16) : ∃ n0 n1 n2 n3 r, e.nums = n0 :: n1 :: n2 :: n3 :: r ∧ (1 ≤ n0 ∧ n0 ≤ 1099511627776) ∧ (1 ≤ n1 ∧ n1 ≤ 64) ∧ (1 ≤ n2 ∧ n2 ≤ 16) ∧ (1 ≤ n3 ∧ n3 ≤ 1048576) := by
  have key : ∃ cs, allR 3 (99 :: 97 :: 105 :: 113 :: cs) e.nums = true := by
    rcases hk with hk | hk
    · exact ⟨[109, 109, 116], (may_nums h hv hk fld14).1⟩
    · exact ⟨[109, 116], (may_nums h hv hk fld16).1⟩
  obtain ⟨cs, h1⟩ := key
  obtain ⟨n0, r0, e0, f0, h1⟩ := all_cons h1
  obtain ⟨n1, r1, rfl, f1, h1⟩ := all_cons h1
  obtain ⟨n2, r2, rfl, f2, h1⟩ := all_cons h1
  obtain ⟨n3, r3, rfl, f3, h1⟩ := all_cons h1
  exact ⟨n0, n1, n2, n3, r3, e0, fits_lo f0 bnd_c, fits_lo f1 bnd_a, fits_lo f2 bnd_i, fits_lo f3 bnd_q⟩
theorem nums18 {e : Evt} (h : mayE e = true) (hv : e.v = 3) (hk : e.kind = 18) : ∃ n0 n1 n2 n3, e.nums = [n0, n1, n2, n3] ∧ (1 ≤ n0 ∧ n0 ≤ 1099511627776) ∧ (1 ≤ n1 ∧ n1 ≤ 64) ∧ (1 ≤ n2 ∧ n2 ≤ 1125899906842624) ∧ (0 ≤ n3 ∧ n3 ≤ 1125899906842624) := by
  have h1 : allR 3 [99, 97, 109, 122] e.nums = true := (may_nums h hv hk fld18).1
  obtain ⟨n0, r0, e0, f0, h1⟩ := all_cons h1
  obtain ⟨n1, r1, rfl, f1, h1⟩ := all_cons h1
  obtain ⟨n2, r2, rfl, f2, h1⟩ := all_cons h1
  obtain ⟨n3, r3, rfl, f3, h1⟩ := all_cons h1
  have h2 := all_nil h1; subst h2
  exact ⟨n0, n1, n2, n3, e0, fits_lo f0 bnd_c, fits_lo f1 bnd_a, fits_lo f2 bnd_m, fits_lo f3 bnd_z⟩
theorem nums19 {e : Evt} (h : mayE e = true) (hv : e.v = 3) (hk : e.kind = 19) : ∃ n0, e.nums = [n0] ∧ (1 ≤ n0 ∧ n0 ≤ 1099511627776) := by
  have h1 : allR 3 [99] e.nums = true := (may_nums h hv hk fld19).1
  obtain ⟨n0, r0, e0, f0, h1⟩ := all_cons h1
  have h2 := all_nil h1; subst h2
  exact ⟨n0, e0, fits_lo f0 bnd_c⟩
def methR (k : Int) : Option Nat := if k = 11 then some 30 else if k = 12 then some 31 else if k = 13 then some 32 else if k = 14 ∨ k = 16 then some 33 else if k = 18 ∨ k = 19 then some 34 else none
set_option maxHeartbeats 1000000 in
theorem meth_c {p : List Opn} {t : List Lt} {ev0 : Evt} {w0 w : World} {N m F : Nat} {a : Option Addr} {c : Nat} {vo vt : Value} (hF : methR ev0.kind = some F) (hM : MayV p t) (hE : mayE ev0 = true) (hv : ev0.v = 3) (hm : ev0.nums.length = m) (hb0 : Below w0.heap.size w0 w) (hW : WkO w0.heap.size w N p t vo vt) (HN : SlR encI 1 w0 a c ev0.nums) :
    Calls Tryd.prog F #[.pointer (some ⟨N, 0, none⟩), .slice a m c] w fun e w' => e = .returned (.int .i64 (doneR p t ev0).2.2) ∧ ((doneR p t ev0).2.2 = 0 → ∃ vo vt, WkO w0.heap.size w' N (doneR p t ev0).1 (doneR p t ev0).2.1 vo vt) ∧ Below w0.heap.size w0 w' := by
  obtain ⟨⟨hl1, hl2⟩, hp1, ht1, hmo, hnd, hml⟩ := hM
  subst hm
  unfold methR at hF
  unfold doneR
  by_cases k1 : ev0.kind = 11
  · rw [if_pos k1] at hF ⊢
    injection hF with hF; subst hF
    obtain ⟨n0, n1, n2, n3, n4, n5, hn, h0, h1, h2, h3, h4, h5⟩ := nums11 hE hv k1
    rw [hn] at HN ⊢
    exact placed_c hn hb0 hW HN hp1 hl1 (by omega)
  rw [if_neg k1] at hF ⊢
  by_cases k2 : ev0.kind = 12
  · rw [if_pos k2] at hF ⊢
    injection hF with hF; subst hF
    obtain ⟨n0, hn, h0⟩ := nums12 hE hv k2
    rw [hn] at HN ⊢
    exact cancelled_c hn hb0 hW HN hnd (fun x hx => by have := hmo x hx; unfold MayO at this; omega) hl1
  rw [if_neg k2] at hF ⊢
  by_cases k3 : ev0.kind = 13
  · rw [if_pos k3] at hF ⊢
    injection hF with hF; subst hF
    obtain ⟨n0, n1, n2, n3, n4, hn, h0, h1, h2, h3, h4⟩ := nums13 hE hv k3
    exact traded_c rfl rfl (by rw [hn]; rfl) (by rw [hn]; rfl) (by rw [hn]; rfl) h3 hb0 hW HN hnd (fun x hx => by have := hmo x hx; unfold MayO at this; omega)
  rw [if_neg k3] at hF ⊢
  by_cases k4 : ev0.kind = 14 ∨ ev0.kind = 16
  · rw [if_pos k4] at hF ⊢
    injection hF with hF; subst hF
    obtain ⟨n0, n1, n2, n3, r, hn, h0, h1, h2, h3⟩ := nums14 hE hv k4
    exact opened_c rfl rfl (by rw [hn]; rfl) (by rw [hn]; rfl) (by rw [hn]; rfl) (by rw [hn]; rfl) hb0 hW HN ht1 hl2
  rw [if_neg k4] at hF ⊢
  by_cases k5 : ev0.kind = 18 ∨ ev0.kind = 19
  · rw [if_pos k5] at hF ⊢
    injection hF with hF; subst hF
    have key : ∃ n0, ev0.nums[0]? = some n0 := by
      rcases k5 with k5 | k5
      · obtain ⟨n0, n1, n2, n3, hn, _⟩ := nums18 hE hv k5; exact ⟨n0, by rw [hn]; rfl⟩
      · obtain ⟨n0, hn, _⟩ := nums19 hE hv k5; exact ⟨n0, by rw [hn]; rfl⟩
    obtain ⟨n0, hn⟩ := key
    exact gone_c rfl rfl hn hb0 hW HN ht1 hl2
  rw [if_neg k5] at hF; cases hF

theorem err_empty (p : List Opn) (t : List Lt) (e : Evt) : (doneR p t e).2.2 = 0 ∨ ((doneR p t e).1 = [] ∧ (doneR p t e).2.1 = []) := by
  unfold doneR placedR cancelR tradedR openedR goneR
  (repeat' split) <;> first | exact Or.inl rfl | exact Or.inr ⟨rfl, rfl⟩
theorem event_no {p : List Opn} {t : List Lt} {e : Evt} (h : ¬ (mayV p t = true ∧ e.v = 3 ∧ mayE e = true)) : eventR p t e = ([], [], 4) := by unfold eventR; rw [if_neg h]
theorem event_yes {p : List Opn} {t : List Lt} {e : Evt} (h : mayV p t = true ∧ e.v = 3 ∧ mayE e = true) : eventR p t e = doneR p t e := by unfold eventR; rw [if_pos h]
theorem mayV_e {p : List Opn} {t : List Lt} {m n : Nat} {a b : Option Addr} {ca cb : Nat} {r : Bool} {w : World} (h : mayV p t = r) (hm : p.length = m) (hn : t.length = n) (HP : SlR encP 6 w a ca p) (HL : SlR encL 4 w b cb t) : Calls Tryd.prog 11 #[.slice a m ca, .slice b n cb] w fun e w' => e = .returned (.bool r) ∧ Below w.heap.size w w' := by
  subst h; exact mayV_c hm hn HP HL
theorem mayE_e {e : Evt} {m n : Nat} {a b : Option Addr} {ca cb : Nat} {r : Bool} {w : World} (h : mayE e = r) (h8 : 0 ≤ e.kind ∧ e.kind ≤ 255) (hm : e.nums.length = m) (hn : e.texts.length = n) (HN : SlR encI 1 w a ca e.nums) (HT : SlR encT 1 w b cb e.texts) (hT : TxtIn e.texts) (hK : KnW w) : Calls Tryd.prog 13 #[.agg #[.int .u8 e.v, .int .u8 e.kind, .slice a m ca, .slice b n cb]] w fun e1 w' => e1 = .returned (.bool r) ∧ Below w.heap.size w w' := by
  subst h; exact mayE_c h8 hm hn HN HT hT hK
def keyOf8 (k : Int) (h : 0 ≤ k ∧ k ≤ 255) : Fin 256 := ⟨k.toNat, by omega⟩
theorem kU_of (k : Int) (h : 0 ≤ k ∧ k ≤ 255) : kU (keyOf8 k h) = .int .u8 k := by unfold kU keyOf8; congr 1; simp; omega
set_option maxRecDepth 20000 in
theorem does_at : (List.range 256).all (fun k => decide ((getM doesM (Fin.ofNat 256 k)) = (methR (k : Nat)).map some)) = true := by kernel_rfl
theorem does_get (k : Int) (h : 0 ≤ k ∧ k ≤ 255) : getM doesM (keyOf8 k h) = (methR k).map some := by
  have h1 := List.all_eq_true.1 does_at k.toNat (List.mem_range.2 (by omega))
  have h2 := of_decide_eq_true h1
  rw [show ((k.toNat : Nat) : Int) = k by omega] at h2
  rw [← h2]
  congr 1
  apply Fin.ext
  show k.toNat = k.toNat % 256
  omega
set_option maxRecDepth 20000 in
theorem meth_enters {k : Int} {F : Nat} (h : methR k = some F) : entersB Tryd.prog F = true := by
  unfold methR at h
  (repeat' split at h) <;> first | (injection h with h; subst h; kernel_rfl) | (cases h; done)
theorem done_none {p : List Opn} {t : List Lt} {e : Evt} (h : methR e.kind = none) : doneR p t e = (p, t, 0) := by
  unfold methR at h
  unfold doneR
  by_cases k1 : e.kind = 11
  · rw [if_pos k1] at h; cases h
  rw [if_neg k1] at h ⊢
  by_cases k2 : e.kind = 12
  · rw [if_pos k2] at h; cases h
  rw [if_neg k2] at h ⊢
  by_cases k3 : e.kind = 13
  · rw [if_pos k3] at h; cases h
  rw [if_neg k3] at h ⊢
  by_cases k4 : e.kind = 14 ∨ e.kind = 16
  · rw [if_pos k4] at h; cases h
  rw [if_neg k4] at h ⊢
  by_cases k5 : e.kind = 18 ∨ e.kind = 19
  · rw [if_pos k5] at h; cases h
  rw [if_neg k5]
theorem look_e {P : Program} {n : Nat} {l : Fr} {w : World} {d : Option Nat} {ty : TypeId} {pos : String} {af : Array Edge} {g : Option (Nat × Bool)} {T K V : TypeId} {x y : Operand} {B : Nat} {κ ν : Type} [DecidableEq κ] {eK : κ → Value} {eV : ν → Value} (ht : P.underlying T = some (.map K V)) (E : KeyE P K eK) {zv : ν} (hz : ∀ w, (zeroValue V).run P w = .ok (eV zv) w) {m : List (κ × ν)} {k : κ} {o : Option ν} (ho : getM m k = o) (hx : ev l x = some (.map (some B))) (hy : ev l y = some (eK k)) (h : Mp eK eV w B m) :
    Pv P n l ⟨d, .lookup T x y true, ty, pos, af, g⟩ (.tuple #[eV (o.getD zv), .bool o.isSome]) w := by subst ho; exact pv_lookupM_ok ht E hz hx hy h
set_option maxRecDepth 20000 in
set_option maxHeartbeats 8000000 in
theorem ev_c {p : List Opn} {t : List Lt} {e : Evt} {mp mt mn mx : Nat} {ap at_ an ax : Option Addr} {cp ct cn cx : Nat} {w : World} (h8 : 0 ≤ e.kind ∧ e.kind ≤ 255) (hmp : p.length = mp) (hmt : t.length = mt) (hmn : e.nums.length = mn) (hmx : e.texts.length = mx) (HP : SlR encP 6 w ap cp p) (HL : SlR encL 4 w at_ ct t) (HN : SlR encI 1 w an cn e.nums) (HX : SlR encT 1 w ax cx e.texts) (hT : TxtIn e.texts) (hK : KnW w) :
    Calls Tryd.prog 8 #[.slice ap mp cp, .slice at_ mt ct, .agg #[.int .u8 e.v, .int .u8 e.kind, .slice an mn cn, .slice ax mx cx]] w fun e1 w' => (∃ vo vt, e1 = .returned (.tuple #[vo, vt, .int .i64 (eventR p t e).2.2]) ∧ Own encP 6 34 w.heap.size w' vo (eventR p t e).1 ∧ Own encL 4 36 w.heap.size w' vt (eventR p t e).2.1) ∧ Below w.heap.size w w' := by
  subst hmp hmt hmn hmx
  have hw := Below.refl w.heap.size w
  refine fn_enter 57 Tryd.func8 rfl rfl rfl ?_
  repeat' (first | (refine is_cw ?_; first | (refine cw_seq ?_) | (refine cw_region ?_)))
  refine lw_boxN rfl rfl (cs := [.int .u8 e.v, .int .u8 e.kind, .slice an e.nums.length cn, .slice ax e.texts.length cx]) rfl ?_; intro NE w1 hNE H hb
  replace hw := grow_trans hw hb
  clear hb
  have hE := Ext.mk hw
  replace HP := HP.mono hw
  replace HL := HL.mono hw
  have HN1 := HN.mono hw
  replace HX := HX.mono hw
  replace hK := hK.mono hw
  have hw0 := hw
  clear hw
  have hw := Below.refl w1.heap.size w1
  by_cases hgood : mayV p t = true ∧ e.v = 3 ∧ mayE e = true
  · rw [event_yes hgood]
    obtain ⟨hg1, hg2, hg3⟩ := hgood
    have hM := mayV_iff.1 hg1
    have hl1 := hM.1
    repeat' (first | (refine lw_pure rfl (pv_move rfl) ?_) | (refine lw_pure rfl (pv_assign rfl) ?_) | (refine lw_call (f := 11) (by kernel_rfl) rfl rfl (mayV_e hg1 rfl rfl HP HL) ?_; rintro e w1 ⟨rfl, hb⟩; refine ⟨_, rfl, ?_⟩; replace hw := grow_trans hw hb; clear hb) | (refine lw_call (f := 13) (by kernel_rfl) rfl rfl (mayE_e hg3 h8 rfl rfl (HN1.mono hw) (HX.mono hw) hT (hK.mono hw)) ?_; rintro e w1 ⟨rfl, hb⟩; refine ⟨_, rfl, ?_⟩; replace hw := grow_trans hw hb; clear hb) | (refine is_cw ?_; first | (refine cw_seq ?_) | (refine cw_region ?_) | (refine cw_false rfl rfl ?_) | (refine cw_skip ?_)) | (refine is_qw ?_; first | (with_reducible refine qw_then ?_)) | (refine lw_nil ?_) | (refine is_guarded ?_; first | (refine lw_on rfl rfl rfl ?_) | (refine lw_on rfl rfl (by first | assumption | exact decide_eq_true (by omega) | exact decide_eq_false (by omega) | exact dec_notT (by omega) | exact dec_notF (by omega)) ?_)) | ((refine is_bin ?_; first | (refine lw_pure rfl (pv_neq rfl rfl) ?_))) | ((refine is_load ?_; first | (refine lw_pure rfl (pv_load (t1 rfl) rfl (by first | exact PT.ld0 (H.mono hw) rfl | exact PT.ld (H.mono hw) rfl)) ?_) | (refine lw_pure rfl (pv_loada (tA rfl) rfl (by first | exact PT.lda (H.mono hw)) (by rfl)) ?_))) | ((refine is_fa ?_; first | (refine lw_pure rfl (pv_fa (tF rfl) rfl) ?_))) | ((refine is_un ?_; first | (refine lw_pure rfl (pv_not rfl) ?_))) | (refine is_pk ?_; refine lw_pure rfl (pv_pick_f rfl rfl rfl) ?_) | (refine is_pk ?_; refine lw_pure rfl (pv_pick_f rfl (by first | assumption | exact decide_eq_false (by omega) | exact dec_notF (by omega)) rfl) ?_))
    refine lw_call (f := 14) (by kernel_rfl) rfl rfl (clone_P rfl (HP.mono hw) (by omega)) ?_; rintro e1 w2 ⟨⟨vo, rfl, hO⟩, hb⟩; refine ⟨_, rfl, ?_⟩
    have hz1 := hw.size
    have hze := hE.le
    replace hw := grow_trans hw hb
    replace hO := hO.weaken (Nat.le_trans hze hz1)
    obtain ⟨oa, oc, rfl, -, -⟩ := Own.slR encP_len hO
    clear hb
    repeat' (first | (refine lw_pure rfl (pv_move rfl) ?_))
    refine lw_call (f := 15) (by kernel_rfl) rfl rfl (clone_L rfl (HL.mono hw) (by omega)) ?_; rintro e1 w3 ⟨⟨vt, rfl, hTt⟩, hb⟩; refine ⟨_, rfl, ?_⟩
    have hz2 := hw.size
    replace hw := grow_trans hw hb
    replace hO := hO.mono hb
    replace hTt := hTt.weaken (Nat.le_trans hze hz2)
    obtain ⟨ta, tc, rfl, -, -⟩ := Own.slR encL_len hTt
    clear hb
    repeat' (first | ((refine is_bd ?_; first | (refine lw_pure rfl (tyB_51 rfl rfl rfl) ?_))))
    refine lw_boxN rfl rfl (cs := [.slice oa p.length oc, .slice ta t.length tc]) rfl ?_; intro NW w4 hNW HW hb
    have hz3 := hw.size
    replace hw := grow_trans hw hb
    replace hO := hO.mono hb
    replace hTt := hTt.mono hb
    clear hb
    have hb0 := grow_trans hw0 hw
    have hWk : WkO w.heap.size w4 NW p t (.slice oa p.length oc) (.slice ta t.length tc) := ⟨HW, hO, hTt, by omega⟩
    replace H := H.mono hw
    clear hw
    have hw := Below.refl w4.heap.size w4
    repeat' (first | (refine lw_pure rfl (pv_assign rfl) ?_) | (refine is_cw ?_; first | (refine cw_seq ?_)) | (refine is_qw ?_; first | (with_reducible refine qw_then ?_)) | (refine lw_nil ?_))
    cases hmr : methR e.kind with
    | none =>
      have hget : getM doesM (keyOf8 e.kind h8) = none := by rw [does_get, hmr]; rfl
      rw [done_none hmr]
      refine cw_drawn (fun w' => Below w4.heap.size w4 w') (by kernel_rfl) (by repeat (first | exact NoPanic.body | with_reducible refine NoPanic.then ?_ | with_reducible refine NoPanic.inBlock ?_)) (fun hNP => ?_)
      have hS := hw.drew
      (refine at0 1 rfl (fun w' hq => pv_fa (tF rfl) rfl) ?_)
      (refine at0 2 rfl (fun w' hq => pv_load (t1 rfl) rfl (by first | exact PT.ld0 (H.mono hq) rfl | exact PT.ld (H.mono hq) rfl)) ?_)
      refine aw_act 0 (by kernel_rfl) rfl rfl rfl ?_
      refine act_call (f := 16) (by kernel_rfl) rfl (does_c _) ?_; rintro e1 w5 ⟨⟨NM, rfl, HM, hNM⟩, hb5⟩; refine ⟨_, rfl, grow_trans hS hb5, fun hS => ?_⟩
      refine aw_act 3 (by kernel_rfl) rfl rfl rfl ?_
      refine act_pv (look_e (k := keyOf8 e.kind h8) Tryd.underlying54 keyU zF hget rfl (by rw [kU_of]; rfl) HM) ?_; refine ⟨hS, fun hS => ?_⟩
      (refine at0 4 rfl (fun w' hq => pv_move rfl) ?_)
      (refine at0 5 rfl (fun w' hq => pv_extract rfl rfl) ?_)
      (refine at0 6 rfl (fun w' hq => pv_extract rfl rfl) ?_)
      (refine at0 7 rfl (fun w' hq => pv_assign rfl) ?_)
      (refine at0 8 rfl (fun w' hq => pv_assign rfl) ?_)
      refine aw_done (by kernel_rfl) ?_
      replace hw := hS; clear hS hNP
      repeat' (first | (refine lw_pure rfl (pv_move rfl) ?_) | (refine is_cw ?_; first | (refine cw_seq ?_) | (refine cw_region ?_) | (refine cw_false rfl rfl ?_) | (refine cw_skip ?_)) | (refine is_qw ?_; first | (with_reducible refine qw_then ?_)) | (refine lw_nil ?_))
      refine cw_drawn (fun w' => Below w4.heap.size w4 w') (by kernel_rfl) (by repeat (first | exact NoPanic.body | with_reducible refine NoPanic.then ?_ | with_reducible refine NoPanic.inBlock ?_)) (fun hNP => ?_)
      have hS := hw.drew
      (refine at0 0 rfl (fun w' hq => pv_move rfl) ?_)
      (refine at0 1 rfl (fun w' hq => pv_nilp rfl) ?_)
      (refine at0 2 rfl (fun w' hq => pv_fa (tF rfl) rfl) ?_)
      (refine at0 3 rfl (fun w' hq => pv_load (t1 rfl) rfl (by first | exact PT.ld0 (HW.mono hq) rfl | exact PT.ld (HW.mono hq) rfl)) ?_)
      (refine at0 4 rfl (fun w' hq => pv_move rfl) ?_)
      (refine at0 5 rfl (fun w' hq => pv_nilp rfl) ?_)
      (refine at0 6 rfl (fun w' hq => pv_fa (tF rfl) rfl) ?_)
      (refine at0 7 rfl (fun w' hq => pv_load (t1 rfl) rfl (by first | exact PT.ld0 (HW.mono hq) rfl | exact PT.ld (HW.mono hq) rfl)) ?_)
      (refine at0 8 rfl (fun w' hq => pv_assign rfl) ?_)
      (refine at0 9 rfl (fun w' hq => pv_assign rfl) ?_)
      (refine at0 10 rfl (fun w' hq => pv_assign rfl) ?_)
      refine aw_done (by kernel_rfl) ?_
      replace hw := hS; clear hS hNP
      have hbz := grow_trans hb0 hw
      repeat' (first | (refine is_cw ?_; first | (refine cw_ret ?_)) | (refine is_qw ?_; first | (with_reducible refine qw_then ?_)))
      exact qw_ret3 rfl rfl rfl rfl ⟨⟨_, _, rfl, hO.mono hw, hTt.mono hw⟩, hbz⟩
    | some F =>
      have hget : getM doesM (keyOf8 e.kind h8) = some (some F) := by rw [does_get, hmr]; rfl
      refine cw_drawn (fun w' => Below w4.heap.size w4 w') (by kernel_rfl) (by repeat (first | exact NoPanic.body | with_reducible refine NoPanic.then ?_ | with_reducible refine NoPanic.inBlock ?_)) (fun hNP => ?_)
      have hS := hw.drew
      (refine at0 1 rfl (fun w' hq => pv_fa (tF rfl) rfl) ?_)
      (refine at0 2 rfl (fun w' hq => pv_load (t1 rfl) rfl (by first | exact PT.ld0 (H.mono hq) rfl | exact PT.ld (H.mono hq) rfl)) ?_)
      refine aw_act 0 (by kernel_rfl) rfl rfl rfl ?_
      refine act_call (f := 16) (by kernel_rfl) rfl (does_c _) ?_; rintro e1 w5 ⟨⟨NM, rfl, HM, hNM⟩, hb5⟩; refine ⟨_, rfl, grow_trans hS hb5, fun hS => ?_⟩
      refine aw_act 3 (by kernel_rfl) rfl rfl rfl ?_
      refine act_pv (look_e (k := keyOf8 e.kind h8) Tryd.underlying54 keyU zF hget rfl (by rw [kU_of]; rfl) HM) ?_; refine ⟨hS, fun hS => ?_⟩
      (refine at0 4 rfl (fun w' hq => pv_move rfl) ?_)
      (refine at0 5 rfl (fun w' hq => pv_extract rfl rfl) ?_)
      (refine at0 6 rfl (fun w' hq => pv_extract rfl rfl) ?_)
      (refine at0 7 rfl (fun w' hq => pv_assign rfl) ?_)
      (refine at0 8 rfl (fun w' hq => pv_assign rfl) ?_)
      refine aw_done (by kernel_rfl) ?_
      replace hw := hS; clear hS hNP
      repeat' (first | (refine lw_pure rfl (pv_move rfl) ?_) | (refine is_cw ?_; first | (refine cw_seq ?_) | (refine cw_region ?_) | (refine cw_true rfl rfl ?_)) | (refine is_qw ?_; first | (with_reducible refine qw_then ?_)) | (refine lw_nil ?_) | ((refine is_load ?_; first | (refine lw_pure rfl (pv_load (t1 rfl) rfl (by first | exact PT.ld0 (H.mono hw) rfl | exact PT.ld (H.mono hw) rfl)) ?_))) | ((refine is_fa ?_; first | (refine lw_pure rfl (pv_fa (tF rfl) rfl) ?_))))
      refine lw_callv (f := F) rfl (meth_enters hmr) rfl rfl (by simpa using meth_c hmr hM hg3 hg2 rfl (grow_trans hb0 hw) (hWk.mono hw) HN) ?_; rintro e1 w6 ⟨rfl, hpost, hb6⟩; refine ⟨_, rfl, ?_⟩
      clear hw
      have hw := Below.refl w6.heap.size w6
      by_cases h0 : (doneR p t e).2.2 = 0
      · obtain ⟨vo2, vt2, HW6, hO6, hT6, -⟩ := hpost h0
        repeat' (first | (refine lw_pure rfl (pv_move rfl) ?_) | (refine lw_pure rfl (pv_assign rfl) ?_) | (refine is_cw ?_; first | (refine cw_seq ?_) | (refine cw_region ?_) | (refine is_cd ?_; refine cw_false rfl (by first | assumption | exact decide_eq_false (by omega) | exact dec_notF (by omega)) ?_) | (refine cw_skip ?_)) | (refine is_qw ?_; first | (with_reducible refine qw_then ?_)) | (refine lw_nil ?_) | ((refine is_bin ?_; first | (refine lw_pure rfl (pv_neq rfl rfl) ?_))))
        refine cw_drawn (fun w' => Below w6.heap.size w6 w') (by kernel_rfl) (by repeat (first | exact NoPanic.body | with_reducible refine NoPanic.then ?_ | with_reducible refine NoPanic.inBlock ?_)) (fun hNP => ?_)
        have hS := hw.drew
        (refine at0 0 rfl (fun w' hq => pv_move rfl) ?_)
        (refine at0 1 rfl (fun w' hq => pv_nilp rfl) ?_)
        (refine at0 2 rfl (fun w' hq => pv_fa (tF rfl) rfl) ?_)
        (refine at0 3 rfl (fun w' hq => pv_load (t1 rfl) rfl (by first | exact PT.ld0 (HW6.mono hq) rfl | exact PT.ld (HW6.mono hq) rfl)) ?_)
        (refine at0 4 rfl (fun w' hq => pv_move rfl) ?_)
        (refine at0 5 rfl (fun w' hq => pv_nilp rfl) ?_)
        (refine at0 6 rfl (fun w' hq => pv_fa (tF rfl) rfl) ?_)
        (refine at0 7 rfl (fun w' hq => pv_load (t1 rfl) rfl (by first | exact PT.ld0 (HW6.mono hq) rfl | exact PT.ld (HW6.mono hq) rfl)) ?_)
        (refine at0 8 rfl (fun w' hq => pv_assign rfl) ?_)
        (refine at0 9 rfl (fun w' hq => pv_assign rfl) ?_)
        (refine at0 10 rfl (fun w' hq => pv_assign rfl) ?_)
        refine aw_done (by kernel_rfl) ?_
        replace hw := hS; clear hS hNP
        have hbz := grow_trans hb6 hw
        repeat' (first | (refine is_cw ?_; first | (refine cw_ret ?_)) | (refine is_qw ?_; first | (with_reducible refine qw_then ?_)))
        exact qw_ret3 rfl rfl rfl rfl ⟨⟨_, _, by rw [h0], hO6.mono hw, hT6.mono hw⟩, hbz⟩
      · obtain ⟨he1, he2⟩ := (err_empty p t e).resolve_left h0
        repeat' (first | (refine lw_pure rfl (pv_move rfl) ?_) | (refine lw_pure rfl (pv_assign rfl) ?_) | (refine is_cw ?_; first | (refine cw_seq ?_) | (refine cw_region ?_) | (refine is_cd ?_; refine cw_true rfl (by first | assumption | exact decide_eq_true (by omega) | exact dec_notT (by omega)) ?_) | (refine cw_ret ?_)) | (refine is_qw ?_; first | (with_reducible refine qw_then ?_) | (with_reducible refine qw_then_ret ?_)) | (refine lw_nil ?_) | ((refine is_bin ?_; first | (refine lw_pure rfl (pv_neq rfl rfl) ?_))))
        refine qw_ret3 rfl rfl rfl rfl ⟨⟨_, _, rfl, ?_, ?_⟩, hb6⟩
        · rw [he1]; exact Own.nil _
        · rw [he2]; exact Own.nil _
  · rw [event_no hgood]
    cases hg1 : mayV p t with
    | false =>
      repeat' (first | (refine lw_pure rfl (pv_move rfl) ?_) | (refine lw_pure rfl (pv_assign rfl) ?_) | (refine lw_call (f := 11) (by kernel_rfl) rfl rfl (mayV_e hg1 rfl rfl HP HL) ?_; rintro e w1 ⟨rfl, hb⟩; refine ⟨_, rfl, ?_⟩; replace hw := grow_trans hw hb; clear hb) | (refine is_cw ?_; first | (refine cw_seq ?_) | (refine cw_region ?_) | (refine cw_true rfl rfl ?_) | (refine cw_ret ?_)) | (refine is_qw ?_; first | (with_reducible refine qw_then ?_) | (with_reducible refine qw_then_ret ?_)) | (refine lw_nil ?_) | (refine is_guarded ?_; first | (refine lw_not rfl rfl rfl rfl ?_)) | ((refine is_un ?_; first | (refine lw_pure rfl (pv_not rfl) ?_))) | (refine is_pk ?_; refine lw_pure rfl (pv_pick_t rfl rfl rfl) ?_))
      all_goals exact qw_ret3 rfl rfl rfl rfl ⟨⟨_, _, rfl, Own.nil _, Own.nil _⟩, grow_trans hw0 hw⟩
    | true =>
      by_cases hg2 : e.v = 3
      · have hg3 : mayE e = false := by rw [Bool.eq_false_iff]; exact fun h => hgood ⟨hg1, hg2, h⟩
        repeat' (first | (refine lw_pure rfl (pv_move rfl) ?_) | (refine lw_pure rfl (pv_assign rfl) ?_) | (refine lw_call (f := 11) (by kernel_rfl) rfl rfl (mayV_e hg1 rfl rfl HP HL) ?_; rintro e w1 ⟨rfl, hb⟩; refine ⟨_, rfl, ?_⟩; replace hw := grow_trans hw hb; clear hb) | (refine lw_call (f := 13) (by kernel_rfl) rfl rfl (mayE_e hg3 h8 rfl rfl (HN1.mono hw) (HX.mono hw) hT (hK.mono hw)) ?_; rintro e w1 ⟨rfl, hb⟩; refine ⟨_, rfl, ?_⟩; replace hw := grow_trans hw hb; clear hb) | (refine is_cw ?_; first | (refine cw_seq ?_) | (refine cw_region ?_) | (refine cw_true rfl rfl ?_) | (refine cw_ret ?_)) | (refine is_qw ?_; first | (with_reducible refine qw_then ?_) | (with_reducible refine qw_then_ret ?_)) | (refine lw_nil ?_) | (refine is_guarded ?_; first | (refine lw_on rfl rfl rfl ?_) | (refine lw_on rfl rfl (by first | assumption | exact decide_eq_true (by omega) | exact decide_eq_false (by omega) | exact dec_notT (by omega) | exact dec_notF (by omega)) ?_)) | ((refine is_bin ?_; first | (refine lw_pure rfl (pv_neq rfl rfl) ?_))) | ((refine is_load ?_; first | (refine lw_pure rfl (pv_load (t1 rfl) rfl (by first | exact PT.ld0 (H.mono hw) rfl | exact PT.ld (H.mono hw) rfl)) ?_) | (refine lw_pure rfl (pv_loada (tA rfl) rfl (by first | exact PT.lda (H.mono hw)) (by rfl)) ?_))) | ((refine is_fa ?_; first | (refine lw_pure rfl (pv_fa (tF rfl) rfl) ?_))) | ((refine is_un ?_; first | (refine lw_pure rfl (pv_not rfl) ?_))) | (refine is_pk ?_; refine lw_pure rfl (pv_pick_f rfl rfl rfl) ?_) | (refine is_pk ?_; refine lw_pure rfl (pv_pick_f rfl (by first | assumption | exact decide_eq_false (by omega) | exact dec_notF (by omega)) rfl) ?_))
        all_goals exact qw_ret3 rfl rfl rfl rfl ⟨⟨_, _, rfl, Own.nil _, Own.nil _⟩, grow_trans hw0 hw⟩
      · repeat' (first | (refine lw_pure rfl (pv_move rfl) ?_) | (refine lw_pure rfl (pv_assign rfl) ?_) | (refine lw_call (f := 11) (by kernel_rfl) rfl rfl (mayV_e hg1 rfl rfl HP HL) ?_; rintro e w1 ⟨rfl, hb⟩; refine ⟨_, rfl, ?_⟩; replace hw := grow_trans hw hb; clear hb) | (refine is_cw ?_; first | (refine cw_seq ?_) | (refine cw_region ?_) | (refine cw_true rfl rfl ?_) | (refine cw_ret ?_)) | (refine is_qw ?_; first | (with_reducible refine qw_then ?_) | (with_reducible refine qw_then_ret ?_)) | (refine lw_nil ?_) | (refine is_guarded ?_; first | (refine lw_on rfl rfl rfl ?_) | (refine lw_not rfl rfl rfl (by first | assumption | exact decide_eq_true (by omega) | exact decide_eq_false (by omega) | exact dec_notT (by omega) | exact dec_notF (by omega)) ?_)) | ((refine is_bin ?_; first | (refine lw_pure rfl (pv_neq rfl rfl) ?_))) | ((refine is_load ?_; first | (refine lw_pure rfl (pv_load (t1 rfl) rfl (by first | exact PT.ld0 (H.mono hw) rfl | exact PT.ld (H.mono hw) rfl)) ?_))) | ((refine is_fa ?_; first | (refine lw_pure rfl (pv_fa (tF rfl) rfl) ?_))) | ((refine is_un ?_; first | (refine lw_pure rfl (pv_not rfl) ?_))) | (refine is_pk ?_; refine lw_pure rfl (pv_pick_f rfl rfl rfl) ?_) | (refine is_pk ?_; refine lw_pure rfl (pv_pick_t rfl (by first | assumption | exact decide_eq_true (by omega) | exact dec_notT (by omega)) rfl) ?_))
        all_goals exact qw_ret3 rfl rfl rfl rfl ⟨⟨_, _, rfl, Own.nil _, Own.nil _⟩, grow_trans hw0 hw⟩
end Go.Proofs.YtkehmbgcglbffaaDoor
namespace Go.Proofs.YtkehmbgcglbffaaDoor
open Go.RowKit Go.PlainAid

theorem neq_P (x y : Opn) (w : World) : (binOp .neq 34 (.agg (encP x).toArray) (.agg (encP y).toArray)).run Tryd.prog w = .ok (.bool (!decide (x = y))) w := by
  have hS : (Tryd.prog).underlying 34 = some (.struct ((Tryd.prog).fieldsOf 34)) := by kernel_rfl
  have hp : (Tryd.prog).stoodInHeld 34 = false := by kernel_rfl
  unfold encP
  rw [run_neq_struct, show (10000 : Nat) = 9999 + 1 from rfl, run_equalIn_agg w 9999 34 _ _ hS hp]
  have h : (decide (x = y)) = (x.acct == y.acct && (x.id == y.id && (x.inst == y.inst && (x.side == y.side && (x.price == y.price && x.left == y.left))))) := by
    rw [Bool.eq_iff_iff]
    cases x; cases y; simp
  rw [h]
  simp only [Program.fieldsOf, Tryd.underlying34]
  go_simp
  by_cases h1 : x.acct = y.acct <;> by_cases h2 : x.id = y.id <;> by_cases h3 : x.inst = y.inst <;> by_cases h4 : x.side = y.side <;> by_cases h5 : x.price = y.price <;> by_cases h6 : x.left = y.left <;> simp [*]
theorem eql_P (x y : Opn) (w : World) : (binOp .eql 34 (.agg (encP x).toArray) (.agg (encP y).toArray)).run Tryd.prog w = .ok (.bool (decide (x = y))) w := by
  have hS : (Tryd.prog).underlying 34 = some (.struct ((Tryd.prog).fieldsOf 34)) := by kernel_rfl
  have hp : (Tryd.prog).stoodInHeld 34 = false := by kernel_rfl
  unfold encP
  rw [run_eql_struct, show (10000 : Nat) = 9999 + 1 from rfl, run_equalIn_agg w 9999 34 _ _ hS hp]
  have h : (decide (x = y)) = (x.acct == y.acct && (x.id == y.id && (x.inst == y.inst && (x.side == y.side && (x.price == y.price && x.left == y.left))))) := by
    rw [Bool.eq_iff_iff]
    cases x; cases y; simp
  rw [h]
  simp only [Program.fieldsOf, Tryd.underlying34]
  go_simp
  by_cases h1 : x.acct = y.acct <;> by_cases h2 : x.id = y.id <;> by_cases h3 : x.inst = y.inst <;> by_cases h4 : x.side = y.side <;> by_cases h5 : x.price = y.price <;> by_cases h6 : x.left = y.left <;> simp [*]
theorem pv_neqP {n : Nat} {l : Fr} {w : World} {d : Option Nat} {t' ty : TypeId} {x y : Operand} {pos : String} {af : Array Edge} {g : Option (Nat × Bool)} (a b : Opn) (hx : ev l x = some (.agg (encP a).toArray)) (hy : ev l y = some (.agg (encP b).toArray)) : Pv Tryd.prog n l ⟨d, .binOp .neq 34 x y t', ty, pos, af, g⟩ (.bool (!decide (a = b))) w := ⟨fun A hA => by
  have h1 : (eqGuard .neq 34 x y (.agg (encP a).toArray) (.agg (encP b).toArray)).run Tryd.prog w = .ok () w := run_eqGuard_agg w .neq 34 x y _ _ (by kernel_rfl)
  have h2 := neq_P a b w
  simp [execOp, hA.ev hx, hA.ev hy, h1, h2]⟩
theorem pv_eqlP {n : Nat} {l : Fr} {w : World} {d : Option Nat} {t' ty : TypeId} {x y : Operand} {pos : String} {af : Array Edge} {g : Option (Nat × Bool)} (a b : Opn) (hx : ev l x = some (.agg (encP a).toArray)) (hy : ev l y = some (.agg (encP b).toArray)) : Pv Tryd.prog n l ⟨d, .binOp .eql 34 x y t', ty, pos, af, g⟩ (.bool (decide (a = b))) w := ⟨fun A hA => by
  have h1 : (eqGuard .eql 34 x y (.agg (encP a).toArray) (.agg (encP b).toArray)).run Tryd.prog w = .ok () w := run_eqGuard_agg w .eql 34 x y _ _ (by kernel_rfl)
  have h2 := eql_P a b w
  simp [execOp, hA.ev hx, hA.ev hy, h1, h2]⟩

theorem neq_L (x y : Lt) (w : World) : (binOp .neq 36 (.agg (encL x).toArray) (.agg (encL y).toArray)).run Tryd.prog w = .ok (.bool (!decide (x = y))) w := by
  have hS : (Tryd.prog).underlying 36 = some (.struct ((Tryd.prog).fieldsOf 36)) := by kernel_rfl
  have hp : (Tryd.prog).stoodInHeld 36 = false := by kernel_rfl
  unfold encL
  rw [run_neq_struct, show (10000 : Nat) = 9999 + 1 from rfl, run_equalIn_agg w 9999 36 _ _ hS hp]
  have h : (decide (x = y)) = (x.id == y.id && (x.seller == y.seller && (x.inst == y.inst && x.qty == y.qty))) := by
    rw [Bool.eq_iff_iff]
    cases x; cases y; simp
  rw [h]
  simp only [Program.fieldsOf, Tryd.underlying36]
  go_simp
  by_cases h1 : x.id = y.id <;> by_cases h2 : x.seller = y.seller <;> by_cases h3 : x.inst = y.inst <;> by_cases h4 : x.qty = y.qty <;> simp [*]
theorem eql_L (x y : Lt) (w : World) : (binOp .eql 36 (.agg (encL x).toArray) (.agg (encL y).toArray)).run Tryd.prog w = .ok (.bool (decide (x = y))) w := by
  have hS : (Tryd.prog).underlying 36 = some (.struct ((Tryd.prog).fieldsOf 36)) := by kernel_rfl
  have hp : (Tryd.prog).stoodInHeld 36 = false := by kernel_rfl
  unfold encL
  rw [run_eql_struct, show (10000 : Nat) = 9999 + 1 from rfl, run_equalIn_agg w 9999 36 _ _ hS hp]
  have h : (decide (x = y)) = (x.id == y.id && (x.seller == y.seller && (x.inst == y.inst && x.qty == y.qty))) := by
    rw [Bool.eq_iff_iff]
    cases x; cases y; simp
  rw [h]
  simp only [Program.fieldsOf, Tryd.underlying36]
  go_simp
  by_cases h1 : x.id = y.id <;> by_cases h2 : x.seller = y.seller <;> by_cases h3 : x.inst = y.inst <;> by_cases h4 : x.qty = y.qty <;> simp [*]
theorem pv_neqL {n : Nat} {l : Fr} {w : World} {d : Option Nat} {t' ty : TypeId} {x y : Operand} {pos : String} {af : Array Edge} {g : Option (Nat × Bool)} (a b : Lt) (hx : ev l x = some (.agg (encL a).toArray)) (hy : ev l y = some (.agg (encL b).toArray)) : Pv Tryd.prog n l ⟨d, .binOp .neq 36 x y t', ty, pos, af, g⟩ (.bool (!decide (a = b))) w := ⟨fun A hA => by
  have h1 : (eqGuard .neq 36 x y (.agg (encL a).toArray) (.agg (encL b).toArray)).run Tryd.prog w = .ok () w := run_eqGuard_agg w .neq 36 x y _ _ (by kernel_rfl)
  have h2 := neq_L a b w
  simp [execOp, hA.ev hx, hA.ev hy, h1, h2]⟩
theorem pv_eqlL {n : Nat} {l : Fr} {w : World} {d : Option Nat} {t' ty : TypeId} {x y : Operand} {pos : String} {af : Array Edge} {g : Option (Nat × Bool)} (a b : Lt) (hx : ev l x = some (.agg (encL a).toArray)) (hy : ev l y = some (.agg (encL b).toArray)) : Pv Tryd.prog n l ⟨d, .binOp .eql 36 x y t', ty, pos, af, g⟩ (.bool (decide (a = b))) w := ⟨fun A hA => by
  have h1 : (eqGuard .eql 36 x y (.agg (encL a).toArray) (.agg (encL b).toArray)).run Tryd.prog w = .ok () w := run_eqGuard_agg w .eql 36 x y _ _ (by kernel_rfl)
  have h2 := eql_L a b w
  simp [execOp, hA.ev hx, hA.ev hy, h1, h2]⟩



set_option maxRecDepth 20000 in
theorem rsame_P {p q : List Opn} {m n : Nat} {a b : Option Addr} {ca cb : Nat} {w : World} (hm : p.length = m) (hn : q.length = n) (HP : SlR encP 6 w a ca p) (HQ : SlR encP 6 w b cb q) : Calls Tryd.prog 9 #[.slice a m ca, .slice b n cb] w fun e w' => e = .returned (.bool (decide (p = q))) ∧ Below w.heap.size w w' := by
  subst hm hn
  have hw := Below.refl w.heap.size w
  have hca := HP.le
  have hcm := HP.max
  refine fn_enter 26 Tryd.func9 rfl rfl rfl ?_
  by_cases hl : p.length = q.length
  · repeat' ((fail_if_success (refine is_seqb ?_)); (fail_if_success (refine is_blk ?_)); first | (refine lw_pure rfl (pv_move rfl) ?_) | (refine lw_pure rfl (pv_assign rfl) ?_) | (refine is_cw ?_; first | (refine cw_seq ?_) | (refine cw_region ?_) | (refine cw_true rfl rfl ?_) | (refine cw_false rfl rfl ?_) | (refine is_cd ?_; refine cw_true rfl (by first | assumption | exact decide_eq_true (by omega) | exact dec_notT (by omega)) ?_) | (refine is_cd ?_; refine cw_false rfl (by first | assumption | exact decide_eq_false (by omega) | exact dec_notF (by omega)) ?_) | (refine cw_skip ?_) | (refine cw_block ?_) | (refine cw_exit ?_) | (refine cw_ret ?_)) | (refine is_qw ?_; first | (with_reducible refine qw_then ?_) | (with_reducible refine qw_in ?_) | (with_reducible refine qw_in_hit ?_) | (refine qw_in_miss rfl ?_) | (with_reducible refine qw_then_exit ?_) | (with_reducible refine qw_then_ret ?_) | (with_reducible refine qw_in_ret ?_)) | (refine lw_nil ?_) | ((refine is_bin ?_; first | (refine lw_pure rfl (pv_lss rfl rfl) ?_) | (refine lw_pure rfl (pv_neq rfl rfl) ?_) | (refine lw_pure rfl (pv_inc rfl rfl (by omega)) ?_) | (refine lw_pure rfl (pv_add rfl rfl (by omega)) ?_))) | ((refine is_load ?_; first | (refine lw_pure rfl (pv_load (t1 rfl) rfl (by first | fail)) ?_) | (refine lw_pure rfl (pv_loada (tA rfl) rfl (by first | fail) (by rfl)) ?_))) | ((refine is_ia ?_; first | (refine lw_pure rfl (pv_ian (tS rfl) rfl rfl (by omega)) ?_) | (refine lw_pure rfl (pv_ia (tS rfl) rfl rfl (by omega)) ?_))) | ((refine is_bi ?_; first | (refine lw_pure rfl (pv_lenl (tS rfl) rfl) ?_) | (refine lw_pure rfl (pv_lens (tStr rfl) rfl) ?_))) | (refine is_cw ?_; refine cw_split rfl (fun hc => ?_) (fun hc => ?_) <;> (first | replace hc := of_decide_eq_true hc | replace hc := of_decide_eq_false hc | replace hc := dec_nT hc | replace hc := dec_nF hc | skip) <;> (try (exfalso; omega))))
    repeat' (first | (refine lw_pure rfl (pv_move rfl) ?_) | (refine lw_pure rfl (pv_assign rfl) ?_) | (refine is_cw ?_; first | (refine cw_seq ?_) | (refine cw_region ?_) | (refine cw_true rfl rfl ?_) | (refine cw_false rfl rfl ?_) | (refine is_cd ?_; refine cw_true rfl (by first | assumption | exact decide_eq_true (by omega) | exact dec_notT (by omega)) ?_) | (refine is_cd ?_; refine cw_false rfl (by first | assumption | exact decide_eq_false (by omega) | exact dec_notF (by omega)) ?_) | (refine cw_skip ?_) | (refine cw_block ?_) | (refine cw_exit ?_) | (refine cw_ret ?_)) | (refine is_qw ?_; first | (with_reducible refine qw_then ?_) | (with_reducible refine qw_in ?_) | (with_reducible refine qw_in_hit ?_) | (refine qw_in_miss rfl ?_) | (with_reducible refine qw_then_exit ?_) | (with_reducible refine qw_then_ret ?_) | (with_reducible refine qw_in_ret ?_)) | (refine lw_nil ?_) | ((refine is_bin ?_; first | (refine lw_pure rfl (pv_lss rfl rfl) ?_) | (refine lw_pure rfl (pv_neq rfl rfl) ?_) | (refine lw_pure rfl (pv_inc rfl rfl (by omega)) ?_) | (refine lw_pure rfl (pv_add rfl rfl (by omega)) ?_))) | ((refine is_load ?_; first | (refine lw_pure rfl (pv_load (t1 rfl) rfl (by first | fail)) ?_) | (refine lw_pure rfl (pv_loada (tA rfl) rfl (by first | fail) (by rfl)) ?_))) | ((refine is_ia ?_; first | (refine lw_pure rfl (pv_ian (tS rfl) rfl rfl (by omega)) ?_) | (refine lw_pure rfl (pv_ia (tS rfl) rfl rfl (by omega)) ?_))) | ((refine is_bi ?_; first | (refine lw_pure rfl (pv_lenl (tS rfl) rfl) ?_) | (refine lw_pure rfl (pv_lens (tStr rfl) rfl) ?_))))
    refine cw_loop (σ := Nat) (fun k => [(0, .slice a p.length ca), (1, .slice b q.length cb), (5, .int .i64 (k : Nat))]) (fun k wr => k ≤ p.length ∧ Below w.heap.size w wr ∧ ∀ j, j < k → p[j]? = q[j]?) (fun k => p.length - k) 0 (by repeat' (first | exact trivial | refine ⟨rfl, ?_⟩)) ⟨Nat.zero_le _, hw, by omega⟩ ?_
    clear hw
    rintro k wr ⟨hk, hw, hn⟩
    by_cases hlt : k < p.length
    · have hxk : p[k]? = some p[k] := List.getElem?_eq_getElem hlt
      have hyk : q[k]? = some (q[k]'(by omega)) := List.getElem?_eq_getElem _
      obtain ⟨ab, ao, rfl, -, -⟩ := HP.at (by intro h; rw [h] at hlt; simp at hlt)
      obtain ⟨bb, bo, rfl, -, -⟩ := HQ.at (by intro h; rw [h] at hl; rw [hl] at hlt; simp at hlt)
      generalize p[k] = x at hxk
      generalize q[k] = y at hyk
      repeat' (first | (refine lw_pure rfl (pv_move rfl) ?_) | (refine lw_pure rfl (pv_assign rfl) ?_) | (refine is_cw ?_; first | (refine cw_seq ?_) | (refine cw_region ?_) | (refine cw_true rfl rfl ?_) | (refine cw_false rfl rfl ?_) | (refine is_cd ?_; refine cw_true rfl (by first | assumption | exact decide_eq_true (by omega) | exact dec_notT (by omega)) ?_) | (refine is_cd ?_; refine cw_false rfl (by first | assumption | exact decide_eq_false (by omega) | exact dec_notF (by omega)) ?_) | (refine cw_skip ?_) | (refine cw_block ?_) | (refine cw_exit ?_) | (refine cw_ret ?_)) | (refine is_qw ?_; first | (with_reducible refine qw_then ?_) | (with_reducible refine qw_in ?_) | (with_reducible refine qw_in_hit ?_) | (refine qw_in_miss rfl ?_) | (with_reducible refine qw_then_exit ?_) | (with_reducible refine qw_then_ret ?_) | (with_reducible refine qw_in_ret ?_)) | (refine lw_nil ?_) | ((refine is_bin ?_; first | (refine lw_pure rfl (pv_lss rfl rfl) ?_) | (refine lw_pure rfl (pv_neq rfl rfl) ?_) | (refine lw_pure rfl (pv_inc rfl rfl (by omega)) ?_) | (refine lw_pure rfl (pv_add rfl rfl (by omega)) ?_))) | ((refine is_load ?_; first | (refine lw_pure rfl (pv_load (t1 rfl) rfl (by first | fail)) ?_) | (refine lw_pure rfl (pv_loada (tA rfl) rfl (by first | fail) (by rfl)) ?_))) | ((refine is_ia ?_; first | (refine lw_pure rfl (pv_ian (tS rfl) rfl rfl (by omega)) ?_) | (refine lw_pure rfl (pv_ia (tS rfl) rfl rfl (by omega)) ?_))) | ((refine is_bi ?_; first | (refine lw_pure rfl (pv_lenl (tS rfl) rfl) ?_) | (refine lw_pure rfl (pv_lens (tStr rfl) rfl) ?_))))
      refine cw_drawn (fun w' => Below w.heap.size w w') (by kernel_rfl) (by repeat (first | exact NoPanic.body | with_reducible refine NoPanic.then ?_ | with_reducible refine NoPanic.inBlock ?_)) (fun hNP => ?_)
      have hS := hw.drew
      (refine at0 0 rfl (fun w' hq => pv_move rfl) ?_)
      (refine at0 1 rfl (fun w' hq => pv_move rfl) ?_)
      first | (refine at0 2 rfl (fun w' hq => pv_ian (tS rfl) rfl rfl (by omega)) ?_) | (refine at0 2 rfl (fun w' hq => pv_ia (tS rfl) rfl rfl (by omega)) ?_)
      first | (refine at0 3 rfl (fun w' hq => pv_load (t1 rfl) rfl (by first | exact SlR.ld (HP.mono hq) hxk rfl | exact SlR.ld1 (HP.mono hq) hxk rfl | exact SlR.ld (HQ.mono hq) hyk rfl | exact SlR.ld1 (HQ.mono hq) hyk rfl)) ?_) | (refine at0 3 rfl (fun w' hq => pv_loada (tA rfl) rfl (by first | exact SlR.lda (HP.mono hq) hxk | exact SlR.lda (HQ.mono hq) hyk) (by rfl)) ?_)
      (refine at0 4 rfl (fun w' hq => pv_move rfl) ?_)
      (refine at0 5 rfl (fun w' hq => pv_move rfl) ?_)
      first | (refine at0 6 rfl (fun w' hq => pv_ian (tS rfl) rfl rfl (by omega)) ?_) | (refine at0 6 rfl (fun w' hq => pv_ia (tS rfl) rfl rfl (by omega)) ?_)
      first | (refine at0 7 rfl (fun w' hq => pv_load (t1 rfl) rfl (by first | exact SlR.ld (HP.mono hq) hxk rfl | exact SlR.ld1 (HP.mono hq) hxk rfl | exact SlR.ld (HQ.mono hq) hyk rfl | exact SlR.ld1 (HQ.mono hq) hyk rfl)) ?_) | (refine at0 7 rfl (fun w' hq => pv_loada (tA rfl) rfl (by first | exact SlR.lda (HP.mono hq) hxk | exact SlR.lda (HQ.mono hq) hyk) (by rfl)) ?_)
      first | (refine at0 8 rfl (fun w' hq => pv_neqP _ _ rfl rfl) ?_) | (refine at0 8 rfl (fun w' hq => pv_lss rfl rfl) ?_) | (refine at0 8 rfl (fun w' hq => pv_neq rfl rfl) ?_) | (refine at0 8 rfl (fun w' hq => pv_inc rfl rfl (by omega)) ?_) | (refine at0 8 rfl (fun w' hq => pv_add rfl rfl (by omega)) ?_)
      refine aw_done (by kernel_rfl) ?_
      replace hw := hS; clear hS hNP
      by_cases hxy : x = y
      · repeat' (first | (refine lw_pure rfl (pv_move rfl) ?_) | (refine lw_pure rfl (pv_assign rfl) ?_) | (refine is_cw ?_; first | (refine cw_seq ?_) | (refine cw_region ?_) | (refine cw_true rfl rfl ?_) | (refine cw_false rfl rfl ?_) | (refine is_cd ?_; refine cw_true rfl (by first | assumption | exact decide_eq_true (by omega) | exact dec_notT (by omega)) ?_) | (refine is_cd ?_; refine cw_false rfl (by first | assumption | exact decide_eq_false (by omega) | exact dec_notF (by omega)) ?_) | (refine cw_skip ?_) | (refine cw_block ?_) | (refine cw_exit ?_) | (refine cw_ret ?_)) | (refine is_qw ?_; first | (with_reducible refine qw_then ?_) | (with_reducible refine qw_in ?_) | (with_reducible refine qw_in_hit ?_) | (refine qw_in_miss rfl ?_) | (with_reducible refine qw_then_exit ?_) | (with_reducible refine qw_then_ret ?_) | (with_reducible refine qw_in_ret ?_)) | (refine lw_nil ?_) | ((refine is_bin ?_; first | (refine lw_pure rfl (pv_lss rfl rfl) ?_) | (refine lw_pure rfl (pv_neq rfl rfl) ?_) | (refine lw_pure rfl (pv_inc rfl rfl (by omega)) ?_) | (refine lw_pure rfl (pv_add rfl rfl (by omega)) ?_))) | ((refine is_load ?_; first | (refine lw_pure rfl (pv_load (t1 rfl) rfl (by first | fail)) ?_) | (refine lw_pure rfl (pv_loada (tA rfl) rfl (by first | fail) (by rfl)) ?_))) | ((refine is_ia ?_; first | (refine lw_pure rfl (pv_ian (tS rfl) rfl rfl (by omega)) ?_) | (refine lw_pure rfl (pv_ia (tS rfl) rfl rfl (by omega)) ?_))) | ((refine is_bi ?_; first | (refine lw_pure rfl (pv_lenl (tS rfl) rfl) ?_) | (refine lw_pure rfl (pv_lens (tStr rfl) rfl) ?_))) | (refine is_cw ?_; refine cw_split rfl (fun hc => ?_) (fun hc => ?_) <;> (first | replace hc := of_decide_eq_true hc | replace hc := of_decide_eq_false hc | replace hc := dec_nT hc | replace hc := dec_nF hc | skip) <;> (try (exfalso; omega))))
        refine qw_round (k + 1) (by repeat' (first | exact trivial | refine ⟨rfl, ?_⟩)) ⟨by omega, hw, ?_⟩ (by omega)
        intro j hj
        by_cases hjk : j = k
        · subst hjk; rw [hxk, hyk, hxy]
        · exact hn j (by omega)
      · repeat' (first | (refine lw_pure rfl (pv_move rfl) ?_) | (refine lw_pure rfl (pv_assign rfl) ?_) | (refine is_cw ?_; first | (refine cw_seq ?_) | (refine cw_region ?_) | (refine cw_true rfl rfl ?_) | (refine cw_false rfl rfl ?_) | (refine is_cd ?_; refine cw_true rfl (by first | assumption | exact decide_eq_true (by omega) | exact dec_notT (by omega)) ?_) | (refine is_cd ?_; refine cw_false rfl (by first | assumption | exact decide_eq_false (by omega) | exact dec_notF (by omega)) ?_) | (refine cw_skip ?_) | (refine cw_block ?_) | (refine cw_exit ?_) | (refine cw_ret ?_)) | (refine is_qw ?_; first | (with_reducible refine qw_then ?_) | (with_reducible refine qw_in ?_) | (with_reducible refine qw_in_hit ?_) | (refine qw_in_miss rfl ?_) | (with_reducible refine qw_then_exit ?_) | (with_reducible refine qw_then_ret ?_) | (with_reducible refine qw_in_ret ?_)) | (refine lw_nil ?_) | ((refine is_bin ?_; first | (refine lw_pure rfl (pv_lss rfl rfl) ?_) | (refine lw_pure rfl (pv_neq rfl rfl) ?_) | (refine lw_pure rfl (pv_inc rfl rfl (by omega)) ?_) | (refine lw_pure rfl (pv_add rfl rfl (by omega)) ?_))) | ((refine is_load ?_; first | (refine lw_pure rfl (pv_load (t1 rfl) rfl (by first | fail)) ?_) | (refine lw_pure rfl (pv_loada (tA rfl) rfl (by first | fail) (by rfl)) ?_))) | ((refine is_ia ?_; first | (refine lw_pure rfl (pv_ian (tS rfl) rfl rfl (by omega)) ?_) | (refine lw_pure rfl (pv_ia (tS rfl) rfl rfl (by omega)) ?_))) | ((refine is_bi ?_; first | (refine lw_pure rfl (pv_lenl (tS rfl) rfl) ?_) | (refine lw_pure rfl (pv_lens (tStr rfl) rfl) ?_))) | (refine is_cw ?_; refine cw_split rfl (fun hc => ?_) (fun hc => ?_) <;> (first | replace hc := of_decide_eq_true hc | replace hc := of_decide_eq_false hc | replace hc := dec_nT hc | replace hc := dec_nF hc | skip) <;> (try (exfalso; omega))))
        refine qw_ret1 rfl rfl ⟨ret_bool ?_, hw⟩
        symm; rw [decide_eq_false_iff_not]; rintro rfl
        rw [hxk] at hyk; injection hyk with hyk; exact hxy hyk
    · have hkl : k = p.length := by omega
      subst hkl
      have he : p = q := List.ext_getElem? fun j => by
        by_cases hj : j < p.length
        · exact hn j hj
        · rw [List.getElem?_eq_none (by omega), List.getElem?_eq_none (by omega)]
      repeat' (first | (refine lw_pure rfl (pv_move rfl) ?_) | (refine lw_pure rfl (pv_assign rfl) ?_) | (refine is_cw ?_; first | (refine cw_seq ?_) | (refine cw_region ?_) | (refine cw_true rfl rfl ?_) | (refine cw_false rfl rfl ?_) | (refine is_cd ?_; refine cw_true rfl (by first | assumption | exact decide_eq_true (by omega) | exact dec_notT (by omega)) ?_) | (refine is_cd ?_; refine cw_false rfl (by first | assumption | exact decide_eq_false (by omega) | exact dec_notF (by omega)) ?_) | (refine cw_skip ?_) | (refine cw_block ?_) | (refine cw_exit ?_) | (refine cw_ret ?_)) | (refine is_qw ?_; first | (with_reducible refine qw_then ?_) | (with_reducible refine qw_in ?_) | (with_reducible refine qw_in_hit ?_) | (refine qw_in_miss rfl ?_) | (with_reducible refine qw_then_exit ?_) | (with_reducible refine qw_then_ret ?_) | (with_reducible refine qw_in_ret ?_)) | (refine lw_nil ?_) | ((refine is_bin ?_; first | (refine lw_pure rfl (pv_lss rfl rfl) ?_) | (refine lw_pure rfl (pv_neq rfl rfl) ?_) | (refine lw_pure rfl (pv_inc rfl rfl (by omega)) ?_) | (refine lw_pure rfl (pv_add rfl rfl (by omega)) ?_))) | ((refine is_load ?_; first | (refine lw_pure rfl (pv_load (t1 rfl) rfl (by first | fail)) ?_) | (refine lw_pure rfl (pv_loada (tA rfl) rfl (by first | fail) (by rfl)) ?_))) | ((refine is_ia ?_; first | (refine lw_pure rfl (pv_ian (tS rfl) rfl rfl (by omega)) ?_) | (refine lw_pure rfl (pv_ia (tS rfl) rfl rfl (by omega)) ?_))) | ((refine is_bi ?_; first | (refine lw_pure rfl (pv_lenl (tS rfl) rfl) ?_) | (refine lw_pure rfl (pv_lens (tStr rfl) rfl) ?_))))
      exact qw_ret1 rfl rfl ⟨ret_bool (by simp [he]), hw⟩
  · repeat' (first | (refine lw_pure rfl (pv_move rfl) ?_) | (refine lw_pure rfl (pv_assign rfl) ?_) | (refine is_cw ?_; first | (refine cw_seq ?_) | (refine cw_region ?_) | (refine cw_true rfl rfl ?_) | (refine cw_false rfl rfl ?_) | (refine is_cd ?_; refine cw_true rfl (by first | assumption | exact decide_eq_true (by omega) | exact dec_notT (by omega)) ?_) | (refine is_cd ?_; refine cw_false rfl (by first | assumption | exact decide_eq_false (by omega) | exact dec_notF (by omega)) ?_) | (refine cw_skip ?_) | (refine cw_block ?_) | (refine cw_exit ?_) | (refine cw_ret ?_)) | (refine is_qw ?_; first | (with_reducible refine qw_then ?_) | (with_reducible refine qw_in ?_) | (with_reducible refine qw_in_hit ?_) | (refine qw_in_miss rfl ?_) | (with_reducible refine qw_then_exit ?_) | (with_reducible refine qw_then_ret ?_) | (with_reducible refine qw_in_ret ?_)) | (refine lw_nil ?_) | ((refine is_bin ?_; first | (refine lw_pure rfl (pv_lss rfl rfl) ?_) | (refine lw_pure rfl (pv_neq rfl rfl) ?_) | (refine lw_pure rfl (pv_inc rfl rfl (by omega)) ?_) | (refine lw_pure rfl (pv_add rfl rfl (by omega)) ?_))) | ((refine is_load ?_; first | (refine lw_pure rfl (pv_load (t1 rfl) rfl (by first | fail)) ?_) | (refine lw_pure rfl (pv_loada (tA rfl) rfl (by first | fail) (by rfl)) ?_))) | ((refine is_ia ?_; first | (refine lw_pure rfl (pv_ian (tS rfl) rfl rfl (by omega)) ?_) | (refine lw_pure rfl (pv_ia (tS rfl) rfl rfl (by omega)) ?_))) | ((refine is_bi ?_; first | (refine lw_pure rfl (pv_lenl (tS rfl) rfl) ?_) | (refine lw_pure rfl (pv_lens (tStr rfl) rfl) ?_))) | (refine is_cw ?_; refine cw_split rfl (fun hc => ?_) (fun hc => ?_) <;> (first | replace hc := of_decide_eq_true hc | replace hc := of_decide_eq_false hc | replace hc := dec_nT hc | replace hc := dec_nF hc | skip) <;> (try (exfalso; omega))))
    exact qw_ret1 rfl rfl ⟨ret_bool (by symm; rw [decide_eq_false_iff_not]; rintro rfl; exact hl rfl), hw⟩

set_option maxRecDepth 20000 in
theorem rsame_L {p q : List Lt} {m n : Nat} {a b : Option Addr} {ca cb : Nat} {w : World} (hm : p.length = m) (hn : q.length = n) (HP : SlR encL 4 w a ca p) (HQ : SlR encL 4 w b cb q) : Calls Tryd.prog 10 #[.slice a m ca, .slice b n cb] w fun e w' => e = .returned (.bool (decide (p = q))) ∧ Below w.heap.size w w' := by
  subst hm hn
  have hw := Below.refl w.heap.size w
  have hca := HP.le
  have hcm := HP.max
  refine fn_enter 26 Tryd.func10 rfl rfl rfl ?_
  by_cases hl : p.length = q.length
  · repeat' ((fail_if_success (refine is_seqb ?_)); (fail_if_success (refine is_blk ?_)); first | (refine lw_pure rfl (pv_move rfl) ?_) | (refine lw_pure rfl (pv_assign rfl) ?_) | (refine is_cw ?_; first | (refine cw_seq ?_) | (refine cw_region ?_) | (refine cw_true rfl rfl ?_) | (refine cw_false rfl rfl ?_) | (refine is_cd ?_; refine cw_true rfl (by first | assumption | exact decide_eq_true (by omega) | exact dec_notT (by omega)) ?_) | (refine is_cd ?_; refine cw_false rfl (by first | assumption | exact decide_eq_false (by omega) | exact dec_notF (by omega)) ?_) | (refine cw_skip ?_) | (refine cw_block ?_) | (refine cw_exit ?_) | (refine cw_ret ?_)) | (refine is_qw ?_; first | (with_reducible refine qw_then ?_) | (with_reducible refine qw_in ?_) | (with_reducible refine qw_in_hit ?_) | (refine qw_in_miss rfl ?_) | (with_reducible refine qw_then_exit ?_) | (with_reducible refine qw_then_ret ?_) | (with_reducible refine qw_in_ret ?_)) | (refine lw_nil ?_) | ((refine is_bin ?_; first | (refine lw_pure rfl (pv_lss rfl rfl) ?_) | (refine lw_pure rfl (pv_neq rfl rfl) ?_) | (refine lw_pure rfl (pv_inc rfl rfl (by omega)) ?_) | (refine lw_pure rfl (pv_add rfl rfl (by omega)) ?_))) | ((refine is_load ?_; first | (refine lw_pure rfl (pv_load (t1 rfl) rfl (by first | fail)) ?_) | (refine lw_pure rfl (pv_loada (tA rfl) rfl (by first | fail) (by rfl)) ?_))) | ((refine is_ia ?_; first | (refine lw_pure rfl (pv_ian (tS rfl) rfl rfl (by omega)) ?_) | (refine lw_pure rfl (pv_ia (tS rfl) rfl rfl (by omega)) ?_))) | ((refine is_bi ?_; first | (refine lw_pure rfl (pv_lenl (tS rfl) rfl) ?_) | (refine lw_pure rfl (pv_lens (tStr rfl) rfl) ?_))) | (refine is_cw ?_; refine cw_split rfl (fun hc => ?_) (fun hc => ?_) <;> (first | replace hc := of_decide_eq_true hc | replace hc := of_decide_eq_false hc | replace hc := dec_nT hc | replace hc := dec_nF hc | skip) <;> (try (exfalso; omega))))
    repeat' (first | (refine lw_pure rfl (pv_move rfl) ?_) | (refine lw_pure rfl (pv_assign rfl) ?_) | (refine is_cw ?_; first | (refine cw_seq ?_) | (refine cw_region ?_) | (refine cw_true rfl rfl ?_) | (refine cw_false rfl rfl ?_) | (refine is_cd ?_; refine cw_true rfl (by first | assumption | exact decide_eq_true (by omega) | exact dec_notT (by omega)) ?_) | (refine is_cd ?_; refine cw_false rfl (by first | assumption | exact decide_eq_false (by omega) | exact dec_notF (by omega)) ?_) | (refine cw_skip ?_) | (refine cw_block ?_) | (refine cw_exit ?_) | (refine cw_ret ?_)) | (refine is_qw ?_; first | (with_reducible refine qw_then ?_) | (with_reducible refine qw_in ?_) | (with_reducible refine qw_in_hit ?_) | (refine qw_in_miss rfl ?_) | (with_reducible refine qw_then_exit ?_) | (with_reducible refine qw_then_ret ?_) | (with_reducible refine qw_in_ret ?_)) | (refine lw_nil ?_) | ((refine is_bin ?_; first | (refine lw_pure rfl (pv_lss rfl rfl) ?_) | (refine lw_pure rfl (pv_neq rfl rfl) ?_) | (refine lw_pure rfl (pv_inc rfl rfl (by omega)) ?_) | (refine lw_pure rfl (pv_add rfl rfl (by omega)) ?_))) | ((refine is_load ?_; first | (refine lw_pure rfl (pv_load (t1 rfl) rfl (by first | fail)) ?_) | (refine lw_pure rfl (pv_loada (tA rfl) rfl (by first | fail) (by rfl)) ?_))) | ((refine is_ia ?_; first | (refine lw_pure rfl (pv_ian (tS rfl) rfl rfl (by omega)) ?_) | (refine lw_pure rfl (pv_ia (tS rfl) rfl rfl (by omega)) ?_))) | ((refine is_bi ?_; first | (refine lw_pure rfl (pv_lenl (tS rfl) rfl) ?_) | (refine lw_pure rfl (pv_lens (tStr rfl) rfl) ?_))))
    refine cw_loop (σ := Nat) (fun k => [(0, .slice a p.length ca), (1, .slice b q.length cb), (5, .int .i64 (k : Nat))]) (fun k wr => k ≤ p.length ∧ Below w.heap.size w wr ∧ ∀ j, j < k → p[j]? = q[j]?) (fun k => p.length - k) 0 (by repeat' (first | exact trivial | refine ⟨rfl, ?_⟩)) ⟨Nat.zero_le _, hw, by omega⟩ ?_
    clear hw
    rintro k wr ⟨hk, hw, hn⟩
    by_cases hlt : k < p.length
    · have hxk : p[k]? = some p[k] := List.getElem?_eq_getElem hlt
      have hyk : q[k]? = some (q[k]'(by omega)) := List.getElem?_eq_getElem _
      obtain ⟨ab, ao, rfl, -, -⟩ := HP.at (by intro h; rw [h] at hlt; simp at hlt)
      obtain ⟨bb, bo, rfl, -, -⟩ := HQ.at (by intro h; rw [h] at hl; rw [hl] at hlt; simp at hlt)
      generalize p[k] = x at hxk
      generalize q[k] = y at hyk
      repeat' (first | (refine lw_pure rfl (pv_move rfl) ?_) | (refine lw_pure rfl (pv_assign rfl) ?_) | (refine is_cw ?_; first | (refine cw_seq ?_) | (refine cw_region ?_) | (refine cw_true rfl rfl ?_) | (refine cw_false rfl rfl ?_) | (refine is_cd ?_; refine cw_true rfl (by first | assumption | exact decide_eq_true (by omega) | exact dec_notT (by omega)) ?_) | (refine is_cd ?_; refine cw_false rfl (by first | assumption | exact decide_eq_false (by omega) | exact dec_notF (by omega)) ?_) | (refine cw_skip ?_) | (refine cw_block ?_) | (refine cw_exit ?_) | (refine cw_ret ?_)) | (refine is_qw ?_; first | (with_reducible refine qw_then ?_) | (with_reducible refine qw_in ?_) | (with_reducible refine qw_in_hit ?_) | (refine qw_in_miss rfl ?_) | (with_reducible refine qw_then_exit ?_) | (with_reducible refine qw_then_ret ?_) | (with_reducible refine qw_in_ret ?_)) | (refine lw_nil ?_) | ((refine is_bin ?_; first | (refine lw_pure rfl (pv_lss rfl rfl) ?_) | (refine lw_pure rfl (pv_neq rfl rfl) ?_) | (refine lw_pure rfl (pv_inc rfl rfl (by omega)) ?_) | (refine lw_pure rfl (pv_add rfl rfl (by omega)) ?_))) | ((refine is_load ?_; first | (refine lw_pure rfl (pv_load (t1 rfl) rfl (by first | fail)) ?_) | (refine lw_pure rfl (pv_loada (tA rfl) rfl (by first | fail) (by rfl)) ?_))) | ((refine is_ia ?_; first | (refine lw_pure rfl (pv_ian (tS rfl) rfl rfl (by omega)) ?_) | (refine lw_pure rfl (pv_ia (tS rfl) rfl rfl (by omega)) ?_))) | ((refine is_bi ?_; first | (refine lw_pure rfl (pv_lenl (tS rfl) rfl) ?_) | (refine lw_pure rfl (pv_lens (tStr rfl) rfl) ?_))))
      refine cw_drawn (fun w' => Below w.heap.size w w') (by kernel_rfl) (by repeat (first | exact NoPanic.body | with_reducible refine NoPanic.then ?_ | with_reducible refine NoPanic.inBlock ?_)) (fun hNP => ?_)
      have hS := hw.drew
      (refine at0 0 rfl (fun w' hq => pv_move rfl) ?_)
      (refine at0 1 rfl (fun w' hq => pv_move rfl) ?_)
      first | (refine at0 2 rfl (fun w' hq => pv_ian (tS rfl) rfl rfl (by omega)) ?_) | (refine at0 2 rfl (fun w' hq => pv_ia (tS rfl) rfl rfl (by omega)) ?_)
      first | (refine at0 3 rfl (fun w' hq => pv_load (t1 rfl) rfl (by first | exact SlR.ld (HP.mono hq) hxk rfl | exact SlR.ld1 (HP.mono hq) hxk rfl | exact SlR.ld (HQ.mono hq) hyk rfl | exact SlR.ld1 (HQ.mono hq) hyk rfl)) ?_) | (refine at0 3 rfl (fun w' hq => pv_loada (tA rfl) rfl (by first | exact SlR.lda (HP.mono hq) hxk | exact SlR.lda (HQ.mono hq) hyk) (by rfl)) ?_)
      (refine at0 4 rfl (fun w' hq => pv_move rfl) ?_)
      (refine at0 5 rfl (fun w' hq => pv_move rfl) ?_)
      first | (refine at0 6 rfl (fun w' hq => pv_ian (tS rfl) rfl rfl (by omega)) ?_) | (refine at0 6 rfl (fun w' hq => pv_ia (tS rfl) rfl rfl (by omega)) ?_)
      first | (refine at0 7 rfl (fun w' hq => pv_load (t1 rfl) rfl (by first | exact SlR.ld (HP.mono hq) hxk rfl | exact SlR.ld1 (HP.mono hq) hxk rfl | exact SlR.ld (HQ.mono hq) hyk rfl | exact SlR.ld1 (HQ.mono hq) hyk rfl)) ?_) | (refine at0 7 rfl (fun w' hq => pv_loada (tA rfl) rfl (by first | exact SlR.lda (HP.mono hq) hxk | exact SlR.lda (HQ.mono hq) hyk) (by rfl)) ?_)
      first | (refine at0 8 rfl (fun w' hq => pv_neqL _ _ rfl rfl) ?_) | (refine at0 8 rfl (fun w' hq => pv_lss rfl rfl) ?_) | (refine at0 8 rfl (fun w' hq => pv_neq rfl rfl) ?_) | (refine at0 8 rfl (fun w' hq => pv_inc rfl rfl (by omega)) ?_) | (refine at0 8 rfl (fun w' hq => pv_add rfl rfl (by omega)) ?_)
      refine aw_done (by kernel_rfl) ?_
      replace hw := hS; clear hS hNP
      by_cases hxy : x = y
      · repeat' (first | (refine lw_pure rfl (pv_move rfl) ?_) | (refine lw_pure rfl (pv_assign rfl) ?_) | (refine is_cw ?_; first | (refine cw_seq ?_) | (refine cw_region ?_) | (refine cw_true rfl rfl ?_) | (refine cw_false rfl rfl ?_) | (refine is_cd ?_; refine cw_true rfl (by first | assumption | exact decide_eq_true (by omega) | exact dec_notT (by omega)) ?_) | (refine is_cd ?_; refine cw_false rfl (by first | assumption | exact decide_eq_false (by omega) | exact dec_notF (by omega)) ?_) | (refine cw_skip ?_) | (refine cw_block ?_) | (refine cw_exit ?_) | (refine cw_ret ?_)) | (refine is_qw ?_; first | (with_reducible refine qw_then ?_) | (with_reducible refine qw_in ?_) | (with_reducible refine qw_in_hit ?_) | (refine qw_in_miss rfl ?_) | (with_reducible refine qw_then_exit ?_) | (with_reducible refine qw_then_ret ?_) | (with_reducible refine qw_in_ret ?_)) | (refine lw_nil ?_) | ((refine is_bin ?_; first | (refine lw_pure rfl (pv_lss rfl rfl) ?_) | (refine lw_pure rfl (pv_neq rfl rfl) ?_) | (refine lw_pure rfl (pv_inc rfl rfl (by omega)) ?_) | (refine lw_pure rfl (pv_add rfl rfl (by omega)) ?_))) | ((refine is_load ?_; first | (refine lw_pure rfl (pv_load (t1 rfl) rfl (by first | fail)) ?_) | (refine lw_pure rfl (pv_loada (tA rfl) rfl (by first | fail) (by rfl)) ?_))) | ((refine is_ia ?_; first | (refine lw_pure rfl (pv_ian (tS rfl) rfl rfl (by omega)) ?_) | (refine lw_pure rfl (pv_ia (tS rfl) rfl rfl (by omega)) ?_))) | ((refine is_bi ?_; first | (refine lw_pure rfl (pv_lenl (tS rfl) rfl) ?_) | (refine lw_pure rfl (pv_lens (tStr rfl) rfl) ?_))) | (refine is_cw ?_; refine cw_split rfl (fun hc => ?_) (fun hc => ?_) <;> (first | replace hc := of_decide_eq_true hc | replace hc := of_decide_eq_false hc | replace hc := dec_nT hc | replace hc := dec_nF hc | skip) <;> (try (exfalso; omega))))
        refine qw_round (k + 1) (by repeat' (first | exact trivial | refine ⟨rfl, ?_⟩)) ⟨by omega, hw, ?_⟩ (by omega)
        intro j hj
        by_cases hjk : j = k
        · subst hjk; rw [hxk, hyk, hxy]
        · exact hn j (by omega)
      · repeat' (first | (refine lw_pure rfl (pv_move rfl) ?_) | (refine lw_pure rfl (pv_assign rfl) ?_) | (refine is_cw ?_; first | (refine cw_seq ?_) | (refine cw_region ?_) | (refine cw_true rfl rfl ?_) | (refine cw_false rfl rfl ?_) | (refine is_cd ?_; refine cw_true rfl (by first | assumption | exact decide_eq_true (by omega) | exact dec_notT (by omega)) ?_) | (refine is_cd ?_; refine cw_false rfl (by first | assumption | exact decide_eq_false (by omega) | exact dec_notF (by omega)) ?_) | (refine cw_skip ?_) | (refine cw_block ?_) | (refine cw_exit ?_) | (refine cw_ret ?_)) | (refine is_qw ?_; first | (with_reducible refine qw_then ?_) | (with_reducible refine qw_in ?_) | (with_reducible refine qw_in_hit ?_) | (refine qw_in_miss rfl ?_) | (with_reducible refine qw_then_exit ?_) | (with_reducible refine qw_then_ret ?_) | (with_reducible refine qw_in_ret ?_)) | (refine lw_nil ?_) | ((refine is_bin ?_; first | (refine lw_pure rfl (pv_lss rfl rfl) ?_) | (refine lw_pure rfl (pv_neq rfl rfl) ?_) | (refine lw_pure rfl (pv_inc rfl rfl (by omega)) ?_) | (refine lw_pure rfl (pv_add rfl rfl (by omega)) ?_))) | ((refine is_load ?_; first | (refine lw_pure rfl (pv_load (t1 rfl) rfl (by first | fail)) ?_) | (refine lw_pure rfl (pv_loada (tA rfl) rfl (by first | fail) (by rfl)) ?_))) | ((refine is_ia ?_; first | (refine lw_pure rfl (pv_ian (tS rfl) rfl rfl (by omega)) ?_) | (refine lw_pure rfl (pv_ia (tS rfl) rfl rfl (by omega)) ?_))) | ((refine is_bi ?_; first | (refine lw_pure rfl (pv_lenl (tS rfl) rfl) ?_) | (refine lw_pure rfl (pv_lens (tStr rfl) rfl) ?_))) | (refine is_cw ?_; refine cw_split rfl (fun hc => ?_) (fun hc => ?_) <;> (first | replace hc := of_decide_eq_true hc | replace hc := of_decide_eq_false hc | replace hc := dec_nT hc | replace hc := dec_nF hc | skip) <;> (try (exfalso; omega))))
        refine qw_ret1 rfl rfl ⟨ret_bool ?_, hw⟩
        symm; rw [decide_eq_false_iff_not]; rintro rfl
        rw [hxk] at hyk; injection hyk with hyk; exact hxy hyk
    · have hkl : k = p.length := by omega
      subst hkl
      have he : p = q := List.ext_getElem? fun j => by
        by_cases hj : j < p.length
        · exact hn j hj
        · rw [List.getElem?_eq_none (by omega), List.getElem?_eq_none (by omega)]
      repeat' (first | (refine lw_pure rfl (pv_move rfl) ?_) | (refine lw_pure rfl (pv_assign rfl) ?_) | (refine is_cw ?_; first | (refine cw_seq ?_) | (refine cw_region ?_) | (refine cw_true rfl rfl ?_) | (refine cw_false rfl rfl ?_) | (refine is_cd ?_; refine cw_true rfl (by first | assumption | exact decide_eq_true (by omega) | exact dec_notT (by omega)) ?_) | (refine is_cd ?_; refine cw_false rfl (by first | assumption | exact decide_eq_false (by omega) | exact dec_notF (by omega)) ?_) | (refine cw_skip ?_) | (refine cw_block ?_) | (refine cw_exit ?_) | (refine cw_ret ?_)) | (refine is_qw ?_; first | (with_reducible refine qw_then ?_) | (with_reducible refine qw_in ?_) | (with_reducible refine qw_in_hit ?_) | (refine qw_in_miss rfl ?_) | (with_reducible refine qw_then_exit ?_) | (with_reducible refine qw_then_ret ?_) | (with_reducible refine qw_in_ret ?_)) | (refine lw_nil ?_) | ((refine is_bin ?_; first | (refine lw_pure rfl (pv_lss rfl rfl) ?_) | (refine lw_pure rfl (pv_neq rfl rfl) ?_) | (refine lw_pure rfl (pv_inc rfl rfl (by omega)) ?_) | (refine lw_pure rfl (pv_add rfl rfl (by omega)) ?_))) | ((refine is_load ?_; first | (refine lw_pure rfl (pv_load (t1 rfl) rfl (by first | fail)) ?_) | (refine lw_pure rfl (pv_loada (tA rfl) rfl (by first | fail) (by rfl)) ?_))) | ((refine is_ia ?_; first | (refine lw_pure rfl (pv_ian (tS rfl) rfl rfl (by omega)) ?_) | (refine lw_pure rfl (pv_ia (tS rfl) rfl rfl (by omega)) ?_))) | ((refine is_bi ?_; first | (refine lw_pure rfl (pv_lenl (tS rfl) rfl) ?_) | (refine lw_pure rfl (pv_lens (tStr rfl) rfl) ?_))))
      exact qw_ret1 rfl rfl ⟨ret_bool (by simp [he]), hw⟩
  · repeat' (first | (refine lw_pure rfl (pv_move rfl) ?_) | (refine lw_pure rfl (pv_assign rfl) ?_) | (refine is_cw ?_; first | (refine cw_seq ?_) | (refine cw_region ?_) | (refine cw_true rfl rfl ?_) | (refine cw_false rfl rfl ?_) | (refine is_cd ?_; refine cw_true rfl (by first | assumption | exact decide_eq_true (by omega) | exact dec_notT (by omega)) ?_) | (refine is_cd ?_; refine cw_false rfl (by first | assumption | exact decide_eq_false (by omega) | exact dec_notF (by omega)) ?_) | (refine cw_skip ?_) | (refine cw_block ?_) | (refine cw_exit ?_) | (refine cw_ret ?_)) | (refine is_qw ?_; first | (with_reducible refine qw_then ?_) | (with_reducible refine qw_in ?_) | (with_reducible refine qw_in_hit ?_) | (refine qw_in_miss rfl ?_) | (with_reducible refine qw_then_exit ?_) | (with_reducible refine qw_then_ret ?_) | (with_reducible refine qw_in_ret ?_)) | (refine lw_nil ?_) | ((refine is_bin ?_; first | (refine lw_pure rfl (pv_lss rfl rfl) ?_) | (refine lw_pure rfl (pv_neq rfl rfl) ?_) | (refine lw_pure rfl (pv_inc rfl rfl (by omega)) ?_) | (refine lw_pure rfl (pv_add rfl rfl (by omega)) ?_))) | ((refine is_load ?_; first | (refine lw_pure rfl (pv_load (t1 rfl) rfl (by first | fail)) ?_) | (refine lw_pure rfl (pv_loada (tA rfl) rfl (by first | fail) (by rfl)) ?_))) | ((refine is_ia ?_; first | (refine lw_pure rfl (pv_ian (tS rfl) rfl rfl (by omega)) ?_) | (refine lw_pure rfl (pv_ia (tS rfl) rfl rfl (by omega)) ?_))) | ((refine is_bi ?_; first | (refine lw_pure rfl (pv_lenl (tS rfl) rfl) ?_) | (refine lw_pure rfl (pv_lens (tStr rfl) rfl) ?_))) | (refine is_cw ?_; refine cw_split rfl (fun hc => ?_) (fun hc => ?_) <;> (first | replace hc := of_decide_eq_true hc | replace hc := of_decide_eq_false hc | replace hc := dec_nT hc | replace hc := dec_nF hc | skip) <;> (try (exfalso; omega))))
    exact qw_ret1 rfl rfl ⟨ret_bool (by symm; rw [decide_eq_false_iff_not]; rintro rfl; exact hl rfl), hw⟩


theorem insP_end {o : Opn} : ∀ {l : List Opn}, (∀ x ∈ l, ¬ keyO o x) → insP l o = l ++ [o]
  | [], _ => rfl
  | x :: r, h => by unfold insP; rw [if_neg (h x (by simp)), insP_end (fun y hy => h y (List.mem_cons_of_mem _ hy))]; rfl
theorem insP_here {o y : Opn} (hk : keyO o y) : ∀ {l : List Opn}, (∀ x ∈ l, ¬ keyO o x) → insP (l ++ [y]) o = l ++ [o] ++ [y]
  | [], _ => by simp [insP, hk]
  | x :: r, h => by
    rw [List.cons_append]; unfold insP
    rw [if_neg (h x (by simp)), insP_here hk (fun y hy => h y (List.mem_cons_of_mem _ hy))]; rfl
theorem insP_past {o y : Opn} : ∀ {l : List Opn}, (∃ x ∈ l, keyO o x) → insP (l ++ [y]) o = insP l o ++ [y]
  | [], h => by obtain ⟨x, hx, _⟩ := h; cases hx
  | x :: r, h => by
    rw [List.cons_append]; unfold insP
    by_cases hk : keyO o x
    · rw [if_pos hk, if_pos hk]; rfl
    · rw [if_neg hk, if_neg hk]
      obtain ⟨z, hz, hkz⟩ := h
      rcases List.mem_cons.1 hz with rfl | hz
      · exact absurd hkz hk
      · rw [insP_past ⟨z, hz, hkz⟩]; rfl
theorem insT_end {o : Lt} : ∀ {l : List Lt}, (∀ x ∈ l, ¬ keyT o x) → insT l o = l ++ [o]
  | [], _ => rfl
  | x :: r, h => by unfold insT; rw [if_neg (h x (by simp)), insT_end (fun y hy => h y (List.mem_cons_of_mem _ hy))]; rfl
theorem insT_here {o y : Lt} (hk : keyT o y) : ∀ {l : List Lt}, (∀ x ∈ l, ¬ keyT o x) → insT (l ++ [y]) o = l ++ [o] ++ [y]
  | [], _ => by simp [insT, hk]
  | x :: r, h => by
    rw [List.cons_append]; unfold insT
    rw [if_neg (h x (by simp)), insT_here hk (fun y hy => h y (List.mem_cons_of_mem _ hy))]; rfl
theorem insT_past {o y : Lt} : ∀ {l : List Lt}, (∃ x ∈ l, keyT o x) → insT (l ++ [y]) o = insT l o ++ [y]
  | [], h => by obtain ⟨x, hx, _⟩ := h; cases hx
  | x :: r, h => by
    rw [List.cons_append]; unfold insT
    by_cases hk : keyT o x
    · rw [if_pos hk, if_pos hk]; rfl
    · rw [if_neg hk, if_neg hk]
      obtain ⟨z, hz, hkz⟩ := h
      rcases List.mem_cons.1 hz with rfl | hz
      · exact absurd hkz hk
      · rw [insT_past ⟨z, hz, hkz⟩]; rfl
theorem take_snoc {α : Type} {l : List α} {k : Nat} {x : α} (h : l[k]? = some x) : l.take (k + 1) = l.take k ++ [x] := by rw [List.take_add_one, h]; rfl
def putI (p : List Opn) (o : Opn) (k : Nat) (done : Bool) (L : List Opn) : Prop := (done = false ∧ L = p.take k ∧ ∀ x ∈ p.take k, ¬ keyO o x) ∨ (done = true ∧ L = insP (p.take k) o ∧ ∃ x ∈ p.take k, keyO o x)
theorem putI.len {p : List Opn} {o : Opn} {k : Nat} {d : Bool} {L : List Opn} (h : putI p o k d L) : L.length ≤ k + 1 := by
  have ht : (p.take k).length ≤ k := by rw [List.length_take]; omega
  rcases h with ⟨_, rfl, _⟩ | ⟨_, rfl, _⟩
  · omega
  · have := (insP_perm o (p.take k)).length_eq
    rw [this, List.length_append]; simp; omega
theorem putI.end_f {p : List Opn} {o : Opn} {L : List Opn} (h : putI p o p.length false L) : L ++ [o] = insP p o := by
  rcases h with ⟨_, rfl, h⟩ | ⟨h, _⟩
  · rw [List.take_length] at h ⊢; exact (insP_end h).symm
  · cases h
theorem putI.end_t {p : List Opn} {o : Opn} {L : List Opn} (h : putI p o p.length true L) : L = insP p o := by
  rcases h with ⟨h, _⟩ | ⟨_, rfl, _⟩
  · cases h
  · rw [List.take_length]
theorem putI.past {p : List Opn} {o x : Opn} {k : Nat} {L : List Opn} (h : putI p o k true L) (hx : p[k]? = some x) : putI p o (k + 1) true (L ++ [x]) := by
  rcases h with ⟨h, _⟩ | ⟨_, rfl, z, hz, hk⟩
  · cases h
  · exact Or.inr ⟨rfl, by rw [take_snoc hx, insP_past ⟨z, hz, hk⟩], z, by rw [take_snoc hx]; exact List.mem_append_left _ hz, hk⟩
theorem putI.here {p : List Opn} {o x : Opn} {k : Nat} {L : List Opn} (h : putI p o k false L) (hx : p[k]? = some x) (hk : keyO o x) : putI p o (k + 1) true (L ++ [o] ++ [x]) := by
  rcases h with ⟨_, rfl, h⟩ | ⟨h, _⟩
  · exact Or.inr ⟨rfl, by rw [take_snoc hx, insP_here hk h], x, by rw [take_snoc hx]; simp, hk⟩
  · cases h
theorem putI.yet {p : List Opn} {o x : Opn} {k : Nat} {L : List Opn} (h : putI p o k false L) (hx : p[k]? = some x) (hk : ¬ keyO o x) : putI p o (k + 1) false (L ++ [x]) := by
  rcases h with ⟨_, rfl, h⟩ | ⟨h, _⟩
  · refine Or.inl ⟨rfl, (take_snoc hx).symm, fun y hy => ?_⟩
    rw [take_snoc hx] at hy
    rcases List.mem_append.1 hy with hy | hy
    · exact h y hy
    · simp at hy; subst hy; exact hk
  · cases h
def putJ (p : List Lt) (o : Lt) (k : Nat) (done : Bool) (L : List Lt) : Prop := (done = false ∧ L = p.take k ∧ ∀ x ∈ p.take k, ¬ keyT o x) ∨ (done = true ∧ L = insT (p.take k) o ∧ ∃ x ∈ p.take k, keyT o x)
theorem putJ.len {p : List Lt} {o : Lt} {k : Nat} {d : Bool} {L : List Lt} (h : putJ p o k d L) : L.length ≤ k + 1 := by
  have ht : (p.take k).length ≤ k := by rw [List.length_take]; omega
  rcases h with ⟨_, rfl, _⟩ | ⟨_, rfl, _⟩
  · omega
  · have := (insT_perm o (p.take k)).length_eq
    rw [this, List.length_append]; simp; omega
theorem putJ.end_f {p : List Lt} {o : Lt} {L : List Lt} (h : putJ p o p.length false L) : L ++ [o] = insT p o := by
  rcases h with ⟨_, rfl, h⟩ | ⟨h, _⟩
  · rw [List.take_length] at h ⊢; exact (insT_end h).symm
  · cases h
theorem putJ.end_t {p : List Lt} {o : Lt} {L : List Lt} (h : putJ p o p.length true L) : L = insT p o := by
  rcases h with ⟨h, _⟩ | ⟨_, rfl, _⟩
  · cases h
  · rw [List.take_length]
theorem putJ.past {p : List Lt} {o x : Lt} {k : Nat} {L : List Lt} (h : putJ p o k true L) (hx : p[k]? = some x) : putJ p o (k + 1) true (L ++ [x]) := by
  rcases h with ⟨h, _⟩ | ⟨_, rfl, z, hz, hk⟩
  · cases h
  · exact Or.inr ⟨rfl, by rw [take_snoc hx, insT_past ⟨z, hz, hk⟩], z, by rw [take_snoc hx]; exact List.mem_append_left _ hz, hk⟩
theorem putJ.here {p : List Lt} {o x : Lt} {k : Nat} {L : List Lt} (h : putJ p o k false L) (hx : p[k]? = some x) (hk : keyT o x) : putJ p o (k + 1) true (L ++ [o] ++ [x]) := by
  rcases h with ⟨_, rfl, h⟩ | ⟨h, _⟩
  · exact Or.inr ⟨rfl, by rw [take_snoc hx, insT_here hk h], x, by rw [take_snoc hx]; simp, hk⟩
  · cases h
theorem putJ.yet {p : List Lt} {o x : Lt} {k : Nat} {L : List Lt} (h : putJ p o k false L) (hx : p[k]? = some x) (hk : ¬ keyT o x) : putJ p o (k + 1) false (L ++ [x]) := by
  rcases h with ⟨_, rfl, h⟩ | ⟨h, _⟩
  · refine Or.inl ⟨rfl, (take_snoc hx).symm, fun y hy => ?_⟩
    rw [take_snoc hx] at hy
    rcases List.mem_append.1 hy with hy | hy
    · exact h y hy
    · simp at hy; subst hy; exact hk
  · cases h
theorem less_take {p : List Opn} {k : Nat} {x : Opn} (id q : Int) (h : p[k]? = some x) : lessP (p.take (k + 1)) id q = lessP (p.take k) id q ++ if 0 < (cutP id q x).left then [cutP id q x] else [] := by
  unfold lessP
  rw [take_snoc h, List.map_append, List.filter_append]
  congr 1
  by_cases hl : 0 < (cutP id q x).left <;> simp [hl]
theorem less_len (p : List Opn) (id q : Int) : (lessP p id q).length ≤ p.length := by
  unfold lessP
  exact Nat.le_trans (List.length_filter_le _ _) (by simp)

def capN (n : Nat) : Int := if (n : Int) < 400 then (n : Int) else 400
theorem capN_le (n : Nat) : 0 ≤ capN n ∧ capN n ≤ 400 := by unfold capN; split <;> omega
theorem capN_lt {n : Nat} (h : capN n < 400) : n < 400 := by unfold capN at h; split at h <;> omega
set_option maxRecDepth 20000 in
set_option maxHeartbeats 4000000 in
theorem heavy_c {xs : List EvC} {m n o ca cb cc : Nat} {a b c : Option Addr} {w : World} (hm : m ≤ 9223372036854775807) (hn : n ≤ 9223372036854775807) (ho : xs.length = o) (HV : SlR encV 4 w c cc xs) :
    Calls Tryd.prog 12 #[.slice a m ca, .slice b n cb, .slice c o cc] w fun e w' => (∃ r, e = .returned (.bool r) ∧ (r = false → m ≤ 150 ∧ n ≤ 50 ∧ xs.length < 400 ∧ ∀ j, j < xs.length → ∀ x, xs[j]? = some x → x.mn < 400 ∧ x.mx < 400)) ∧ Below w.heap.size w w' := by
  subst ho
  have hcc := HV.le
  have hcm := HV.max
  have hw := Below.refl w.heap.size w
  refine fn_enter 49 Tryd.func12 rfl rfl rfl ?_
  repeat' (first | (refine lw_pure rfl (pv_move rfl) ?_) | (refine lw_pure rfl (pv_assign rfl) ?_) | (refine is_cw ?_; first | (refine cw_seq ?_) | (refine cw_region ?_) | (refine cw_true rfl rfl ?_) | (refine cw_false rfl rfl ?_) | (refine is_cd ?_; refine cw_true rfl (by first | assumption | exact decide_eq_true (by omega) | exact dec_notT (by omega)) ?_) | (refine is_cd ?_; refine cw_false rfl (by first | assumption | exact decide_eq_false (by omega) | exact dec_notF (by omega)) ?_) | (refine cw_skip ?_) | (refine cw_block ?_) | (refine cw_exit ?_) | (refine cw_ret ?_)) | (refine is_qw ?_; first | (with_reducible refine qw_then ?_) | (with_reducible refine qw_in ?_) | (with_reducible refine qw_in_hit ?_) | (refine qw_in_miss rfl ?_) | (with_reducible refine qw_then_exit ?_) | (with_reducible refine qw_then_ret ?_) | (with_reducible refine qw_in_ret ?_)) | (refine lw_nil ?_) | (refine is_guarded ?_; first | (refine lw_not rfl rfl rfl rfl ?_) | (refine lw_not_u rfl rfl rfl ?_) | (refine lw_on rfl rfl rfl ?_)) | ((refine is_bin ?_; first | (refine lw_pure rfl (pv_lss rfl rfl) ?_) | (refine lw_pure rfl (pv_gtr rfl rfl) ?_) | (refine lw_pure rfl (pv_geq rfl rfl) ?_) | (refine lw_pure rfl (pv_inc rfl rfl (by omega)) ?_) | (refine lw_pure rfl (pv_add rfl rfl (by omega)) ?_))) | ((refine is_load ?_; first | (refine lw_pure rfl (pv_load (t1 rfl) rfl (by first | fail)) ?_) | (refine lw_pure rfl (pv_loada (tA rfl) rfl (by first | fail) (by rfl)) ?_))) | ((refine is_fa ?_; first | (refine lw_pure rfl (pv_fa (tF rfl) rfl) ?_))) | ((refine is_ia ?_; first | (refine lw_pure rfl (pv_ian (tS rfl) rfl rfl (by omega)) ?_) | (refine lw_pure rfl (pv_ia (tS rfl) rfl rfl (by omega)) ?_))) | ((refine is_bi ?_; first | (refine lw_pure rfl (pv_lenl (tS rfl) rfl) ?_) | (refine lw_pure rfl (pv_lens (tStr rfl) rfl) ?_) | (refine lw_pure rfl (pv_min rfl rfl) ?_))) | (refine is_pk ?_; refine lw_pure rfl (pv_pick_t rfl rfl rfl) ?_) | (refine is_pk ?_; refine lw_pure rfl (pv_pick_f rfl rfl rfl) ?_) | (refine is_pk ?_; refine lw_pure rfl (pv_pick_t rfl (by first | assumption | exact decide_eq_true (by omega) | exact dec_notT (by omega)) rfl) ?_) | (refine is_pk ?_; refine lw_pure rfl (pv_pick_f rfl (by first | assumption | exact decide_eq_false (by omega) | exact dec_notF (by omega)) rfl) ?_) | (refine is_pk ?_; refine lw_pure rfl (pv_pick rfl rfl rfl) ?_))
  refine cw_loop (σ := Nat × Int) (fun s => [(0, .slice a m ca), (1, .slice b n cb), (2, .slice c xs.length cc), (7, .int .i64 s.2), (8, .int .i64 (s.1 : Nat))]) (fun s wr => s.1 ≤ xs.length ∧ Below w.heap.size w wr ∧ (s.1 : Int) ≤ s.2 ∧ s.2 ≤ 1300 ∧ (s.2 < 400 → ∀ j, j < s.1 → ∀ x, xs[j]? = some x → x.mn < 400 ∧ x.mx < 400)) (fun s => xs.length - s.1) (0, 0) (by repeat' (first | exact trivial | refine ⟨rfl, ?_⟩)) ⟨Nat.zero_le _, hw, by simp, by simp, fun _ j hj => absurd hj (by simp)⟩ ?_
  clear hw
  rintro ⟨k, t⟩ wr ⟨hk, hw, ht1, ht2, hI⟩
  dsimp only at hk ht1 ht2 hI
  change CW _ _ _ _ [(0, .slice a m ca), (1, .slice b n cb), (2, .slice c xs.length cc), (7, .int .i64 t), (8, .int .i64 (k : Nat))] wr
  by_cases hlt : k < xs.length
  · by_cases h4 : t < 400
    · have hxk : xs[k]? = some xs[k] := List.getElem?_eq_getElem hlt
      obtain ⟨ab, ao, rfl, -, -⟩ := HV.at (by intro h; rw [h] at hlt; simp at hlt)
      generalize xs[k] = x at hxk
      have hc1 := capN_le x.mn
      have hc2 := capN_le x.mx
      repeat' (first | (refine lw_pure rfl (pv_move rfl) ?_) | (refine lw_pure rfl (pv_assign rfl) ?_) | (refine is_cw ?_; first | (refine cw_seq ?_) | (refine cw_region ?_) | (refine cw_true rfl rfl ?_) | (refine cw_false rfl rfl ?_) | (refine is_cd ?_; refine cw_true rfl (by first | assumption | exact decide_eq_true (by omega) | exact dec_notT (by omega)) ?_) | (refine is_cd ?_; refine cw_false rfl (by first | assumption | exact decide_eq_false (by omega) | exact dec_notF (by omega)) ?_) | (refine cw_skip ?_) | (refine cw_block ?_) | (refine cw_exit ?_) | (refine cw_ret ?_)) | (refine is_qw ?_; first | (with_reducible refine qw_then ?_) | (with_reducible refine qw_in ?_) | (with_reducible refine qw_in_hit ?_) | (refine qw_in_miss rfl ?_) | (with_reducible refine qw_then_exit ?_) | (with_reducible refine qw_then_ret ?_) | (with_reducible refine qw_in_ret ?_)) | (refine lw_nil ?_) | (refine is_guarded ?_; first | (refine lw_not rfl rfl rfl rfl ?_) | (refine lw_not_u rfl rfl rfl ?_) | (refine lw_on rfl rfl rfl ?_) | (refine lw_on rfl rfl (by first | assumption | exact decide_eq_true (by omega) | exact decide_eq_false (by omega) | exact dec_notT (by omega) | exact dec_notF (by omega)) ?_) | (refine lw_not rfl rfl rfl (by first | assumption | exact decide_eq_true (by omega) | exact decide_eq_false (by omega) | exact dec_notT (by omega) | exact dec_notF (by omega)) ?_) | (refine lw_gs_t rfl rfl rfl (fun hc => ?_) (fun hc => ?_) <;> (first | replace hc := of_decide_eq_true hc | replace hc := of_decide_eq_false hc | replace hc := dec_nT hc | replace hc := dec_nF hc | skip) <;> (try (exfalso; omega))) | (refine lw_gs_f rfl rfl rfl (fun hc => ?_) (fun hc => ?_) <;> (first | replace hc := of_decide_eq_true hc | replace hc := of_decide_eq_false hc | replace hc := dec_nT hc | replace hc := dec_nF hc | skip) <;> (try (exfalso; omega)))) | ((refine is_bin ?_; first | (refine lw_pure rfl (pv_lss rfl rfl) ?_) | (refine lw_pure rfl (pv_gtr rfl rfl) ?_) | (refine lw_pure rfl (pv_geq rfl rfl) ?_) | (refine lw_pure rfl (pv_inc rfl rfl (by omega)) ?_) | (refine lw_pure rfl (pv_add rfl rfl (by omega)) ?_))) | ((refine is_load ?_; first | (refine lw_pure rfl (pv_load (t1 rfl) rfl (by first | fail)) ?_) | (refine lw_pure rfl (pv_loada (tA rfl) rfl (by first | fail) (by rfl)) ?_))) | ((refine is_fa ?_; first | (refine lw_pure rfl (pv_fa (tF rfl) rfl) ?_))) | ((refine is_ia ?_; first | (refine lw_pure rfl (pv_ian (tS rfl) rfl rfl (by omega)) ?_) | (refine lw_pure rfl (pv_ia (tS rfl) rfl rfl (by omega)) ?_))) | ((refine is_bi ?_; first | (refine lw_pure rfl (pv_lenl (tS rfl) rfl) ?_) | (refine lw_pure rfl (pv_lens (tStr rfl) rfl) ?_) | (refine lw_pure rfl (pv_min rfl rfl) ?_))) | (refine is_pk ?_; refine lw_pure rfl (pv_pick_t rfl rfl rfl) ?_) | (refine is_pk ?_; refine lw_pure rfl (pv_pick_f rfl rfl rfl) ?_) | (refine is_pk ?_; refine lw_pure rfl (pv_pick_t rfl (by first | assumption | exact decide_eq_true (by omega) | exact dec_notT (by omega)) rfl) ?_) | (refine is_pk ?_; refine lw_pure rfl (pv_pick_f rfl (by first | assumption | exact decide_eq_false (by omega) | exact dec_notF (by omega)) rfl) ?_) | (refine is_pk ?_; refine lw_pure rfl (pv_pick rfl rfl rfl) ?_) | (refine is_cw ?_; refine cw_split rfl (fun hc => ?_) (fun hc => ?_) <;> (first | replace hc := of_decide_eq_true hc | replace hc := of_decide_eq_false hc | replace hc := dec_nT hc | replace hc := dec_nF hc | skip) <;> (try (exfalso; omega))))
      refine cw_drawn (fun w' => Below w.heap.size w w') (by kernel_rfl) (by repeat (first | exact NoPanic.body | with_reducible refine NoPanic.then ?_ | with_reducible refine NoPanic.inBlock ?_)) (fun hNP => ?_)
      have hS := hw.drew
      (refine at0 0 rfl (fun w' hq => pv_move rfl) ?_)
      first | (refine at0 1 rfl (fun w' hq => pv_lss rfl rfl) ?_) | (refine at0 1 rfl (fun w' hq => pv_gtr rfl rfl) ?_) | (refine at0 1 rfl (fun w' hq => pv_geq rfl rfl) ?_) | (refine at0 1 rfl (fun w' hq => pv_inc rfl rfl (by omega)) ?_) | (refine at0 1 rfl (fun w' hq => pv_add rfl rfl (by omega)) ?_)
      (refine at0 2 rfl (fun w' hq => pv_move rfl) ?_)
      (refine at0 3 rfl (fun w' hq => pv_move rfl) ?_)
      first | (refine at0 4 rfl (fun w' hq => pv_ian (tS rfl) rfl rfl (by omega)) ?_) | (refine at0 4 rfl (fun w' hq => pv_ia (tS rfl) rfl rfl (by omega)) ?_)
      (refine at0 5 rfl (fun w' hq => pv_fa (tF rfl) rfl) ?_)
      first | (refine at0 6 rfl (fun w' hq => pv_load (t1 rfl) rfl (by first | exact SlR.ld (HV.mono hq) hxk rfl | exact SlR.ld1 (HV.mono hq) hxk rfl)) ?_) | (refine at0 6 rfl (fun w' hq => pv_loada (tA rfl) rfl (by first | exact SlR.lda (HV.mono hq) hxk) (by rfl)) ?_)
      first | (refine at0 7 rfl (fun w' hq => pv_lenl (tS rfl) rfl) ?_) | (refine at0 7 rfl (fun w' hq => pv_lens (tStr rfl) rfl) ?_)
      first | (refine at0 8 rfl (fun w' hq => pv_min rfl rfl) ?_) | (refine at0 8 rfl (fun w' hq => pv_min rfl rfl) ?_)
      first | (refine at0 9 rfl (fun w' hq => pv_lss rfl rfl) ?_) | (refine at0 9 rfl (fun w' hq => pv_gtr rfl rfl) ?_) | (refine at0 9 rfl (fun w' hq => pv_geq rfl rfl) ?_) | (refine at0 9 rfl (fun w' hq => pv_inc rfl rfl (by omega)) ?_) | (refine at0 9 rfl (fun w' hq => pv_add rfl rfl (by omega)) ?_)
      (refine at0 10 rfl (fun w' hq => pv_move rfl) ?_)
      (refine at0 11 rfl (fun w' hq => pv_move rfl) ?_)
      first | (refine at0 12 rfl (fun w' hq => pv_ian (tS rfl) rfl rfl (by omega)) ?_) | (refine at0 12 rfl (fun w' hq => pv_ia (tS rfl) rfl rfl (by omega)) ?_)
      (refine at0 13 rfl (fun w' hq => pv_fa (tF rfl) rfl) ?_)
      first | (refine at0 14 rfl (fun w' hq => pv_load (t1 rfl) rfl (by first | exact SlR.ld (HV.mono hq) hxk rfl | exact SlR.ld1 (HV.mono hq) hxk rfl)) ?_) | (refine at0 14 rfl (fun w' hq => pv_loada (tA rfl) rfl (by first | exact SlR.lda (HV.mono hq) hxk) (by rfl)) ?_)
      first | (refine at0 15 rfl (fun w' hq => pv_lenl (tS rfl) rfl) ?_) | (refine at0 15 rfl (fun w' hq => pv_lens (tStr rfl) rfl) ?_)
      first | (refine at0 16 rfl (fun w' hq => pv_min rfl rfl) ?_) | (refine at0 16 rfl (fun w' hq => pv_min rfl rfl) ?_)
      first | (refine at0 17 rfl (fun w' hq => pv_lss rfl rfl) ?_) | (refine at0 17 rfl (fun w' hq => pv_gtr rfl rfl) ?_) | (refine at0 17 rfl (fun w' hq => pv_geq rfl rfl) ?_) | (refine at0 17 rfl (fun w' hq => pv_inc rfl rfl (by omega)) ?_) | (refine at0 17 rfl (fun w' hq => pv_add rfl rfl (by omega)) ?_)
      (refine at0 18 rfl (fun w' hq => pv_assign rfl) ?_)
      refine aw_done (by kernel_rfl) ?_
      replace hw := hS; clear hS hNP
      repeat' (first | (refine lw_pure rfl (pv_move rfl) ?_) | (refine lw_pure rfl (pv_assign rfl) ?_) | (refine is_cw ?_; first | (refine cw_seq ?_) | (refine cw_region ?_) | (refine cw_true rfl rfl ?_) | (refine cw_false rfl rfl ?_) | (refine is_cd ?_; refine cw_true rfl (by first | assumption | exact decide_eq_true (by omega) | exact dec_notT (by omega)) ?_) | (refine is_cd ?_; refine cw_false rfl (by first | assumption | exact decide_eq_false (by omega) | exact dec_notF (by omega)) ?_) | (refine cw_skip ?_) | (refine cw_block ?_) | (refine cw_exit ?_) | (refine cw_ret ?_)) | (refine is_qw ?_; first | (with_reducible refine qw_then ?_) | (with_reducible refine qw_in ?_) | (with_reducible refine qw_in_hit ?_) | (refine qw_in_miss rfl ?_) | (with_reducible refine qw_then_exit ?_) | (with_reducible refine qw_then_ret ?_) | (with_reducible refine qw_in_ret ?_)) | (refine lw_nil ?_) | (refine is_guarded ?_; first | (refine lw_not rfl rfl rfl rfl ?_) | (refine lw_not_u rfl rfl rfl ?_) | (refine lw_on rfl rfl rfl ?_)) | ((refine is_bin ?_; first | (refine lw_pure rfl (pv_lss rfl rfl) ?_) | (refine lw_pure rfl (pv_gtr rfl rfl) ?_) | (refine lw_pure rfl (pv_geq rfl rfl) ?_) | (refine lw_pure rfl (pv_inc rfl rfl (by omega)) ?_) | (refine lw_pure rfl (pv_add rfl rfl (by omega)) ?_))) | ((refine is_load ?_; first | (refine lw_pure rfl (pv_load (t1 rfl) rfl (by first | fail)) ?_) | (refine lw_pure rfl (pv_loada (tA rfl) rfl (by first | fail) (by rfl)) ?_))) | ((refine is_fa ?_; first | (refine lw_pure rfl (pv_fa (tF rfl) rfl) ?_))) | ((refine is_ia ?_; first | (refine lw_pure rfl (pv_ian (tS rfl) rfl rfl (by omega)) ?_) | (refine lw_pure rfl (pv_ia (tS rfl) rfl rfl (by omega)) ?_))) | ((refine is_bi ?_; first | (refine lw_pure rfl (pv_lenl (tS rfl) rfl) ?_) | (refine lw_pure rfl (pv_lens (tStr rfl) rfl) ?_) | (refine lw_pure rfl (pv_min rfl rfl) ?_))) | (refine is_pk ?_; refine lw_pure rfl (pv_pick_t rfl rfl rfl) ?_) | (refine is_pk ?_; refine lw_pure rfl (pv_pick_f rfl rfl rfl) ?_) | (refine is_pk ?_; refine lw_pure rfl (pv_pick_t rfl (by first | assumption | exact decide_eq_true (by omega) | exact dec_notT (by omega)) rfl) ?_) | (refine is_pk ?_; refine lw_pure rfl (pv_pick_f rfl (by first | assumption | exact decide_eq_false (by omega) | exact dec_notF (by omega)) rfl) ?_) | (refine is_pk ?_; refine lw_pure rfl (pv_pick rfl rfl rfl) ?_))
      refine qw_round (k + 1, t + 1 + capN x.mn + capN x.mx) (by repeat' (first | exact trivial | refine ⟨rfl, ?_⟩)) ⟨by show k + 1 ≤ _; omega, hw, by show ((k + 1 : Nat) : Int) ≤ t + 1 + _ + _; omega, by show t + 1 + _ + _ ≤ 1300; omega, ?_⟩ (by show xs.length - (k + 1) < xs.length - k; omega)
      intro hlt4 j hj y hy
      have hlt5 : t + 1 + capN x.mn + capN x.mx < 400 := hlt4
      have hj2 : j < k + 1 := hj
      by_cases hjk : j = k
      · subst hjk; rw [hxk] at hy; injection hy with hy; subst hy
        exact ⟨capN_lt (by omega), capN_lt (by omega)⟩
      · exact hI (by omega) j (by omega) y hy
    · repeat' (first | (refine lw_pure rfl (pv_move rfl) ?_) | (refine lw_pure rfl (pv_assign rfl) ?_) | (refine is_cw ?_; first | (refine cw_seq ?_) | (refine cw_region ?_) | (refine cw_true rfl rfl ?_) | (refine cw_false rfl rfl ?_) | (refine is_cd ?_; refine cw_true rfl (by first | assumption | exact decide_eq_true (by omega) | exact dec_notT (by omega)) ?_) | (refine is_cd ?_; refine cw_false rfl (by first | assumption | exact decide_eq_false (by omega) | exact dec_notF (by omega)) ?_) | (refine cw_skip ?_) | (refine cw_block ?_) | (refine cw_exit ?_) | (refine cw_ret ?_)) | (refine is_qw ?_; first | (with_reducible refine qw_then ?_) | (with_reducible refine qw_in ?_) | (with_reducible refine qw_in_hit ?_) | (refine qw_in_miss rfl ?_) | (with_reducible refine qw_then_exit ?_) | (with_reducible refine qw_then_ret ?_) | (with_reducible refine qw_in_ret ?_)) | (refine lw_nil ?_) | (refine is_guarded ?_; first | (refine lw_not rfl rfl rfl rfl ?_) | (refine lw_not_u rfl rfl rfl ?_) | (refine lw_on rfl rfl rfl ?_) | (refine lw_on rfl rfl (by first | assumption | exact decide_eq_true (by omega) | exact decide_eq_false (by omega) | exact dec_notT (by omega) | exact dec_notF (by omega)) ?_) | (refine lw_not rfl rfl rfl (by first | assumption | exact decide_eq_true (by omega) | exact decide_eq_false (by omega) | exact dec_notT (by omega) | exact dec_notF (by omega)) ?_) | (refine lw_gs_t rfl rfl rfl (fun hc => ?_) (fun hc => ?_) <;> (first | replace hc := of_decide_eq_true hc | replace hc := of_decide_eq_false hc | replace hc := dec_nT hc | replace hc := dec_nF hc | skip) <;> (try (exfalso; omega))) | (refine lw_gs_f rfl rfl rfl (fun hc => ?_) (fun hc => ?_) <;> (first | replace hc := of_decide_eq_true hc | replace hc := of_decide_eq_false hc | replace hc := dec_nT hc | replace hc := dec_nF hc | skip) <;> (try (exfalso; omega)))) | ((refine is_bin ?_; first | (refine lw_pure rfl (pv_lss rfl rfl) ?_) | (refine lw_pure rfl (pv_gtr rfl rfl) ?_) | (refine lw_pure rfl (pv_geq rfl rfl) ?_) | (refine lw_pure rfl (pv_inc rfl rfl (by omega)) ?_) | (refine lw_pure rfl (pv_add rfl rfl (by omega)) ?_))) | ((refine is_load ?_; first | (refine lw_pure rfl (pv_load (t1 rfl) rfl (by first | fail)) ?_) | (refine lw_pure rfl (pv_loada (tA rfl) rfl (by first | fail) (by rfl)) ?_))) | ((refine is_fa ?_; first | (refine lw_pure rfl (pv_fa (tF rfl) rfl) ?_))) | ((refine is_ia ?_; first | (refine lw_pure rfl (pv_ian (tS rfl) rfl rfl (by omega)) ?_) | (refine lw_pure rfl (pv_ia (tS rfl) rfl rfl (by omega)) ?_))) | ((refine is_bi ?_; first | (refine lw_pure rfl (pv_lenl (tS rfl) rfl) ?_) | (refine lw_pure rfl (pv_lens (tStr rfl) rfl) ?_) | (refine lw_pure rfl (pv_min rfl rfl) ?_))) | (refine is_pk ?_; refine lw_pure rfl (pv_pick_t rfl rfl rfl) ?_) | (refine is_pk ?_; refine lw_pure rfl (pv_pick_f rfl rfl rfl) ?_) | (refine is_pk ?_; refine lw_pure rfl (pv_pick_t rfl (by first | assumption | exact decide_eq_true (by omega) | exact dec_notT (by omega)) rfl) ?_) | (refine is_pk ?_; refine lw_pure rfl (pv_pick_f rfl (by first | assumption | exact decide_eq_false (by omega) | exact dec_notF (by omega)) rfl) ?_) | (refine is_pk ?_; refine lw_pure rfl (pv_pick rfl rfl rfl) ?_) | (refine is_cw ?_; refine cw_split rfl (fun hc => ?_) (fun hc => ?_) <;> (first | replace hc := of_decide_eq_true hc | replace hc := of_decide_eq_false hc | replace hc := dec_nT hc | replace hc := dec_nF hc | skip) <;> (try (exfalso; omega))))
      all_goals exact qw_ret1 rfl rfl ⟨⟨_, rfl, fun h => by simp at h; try omega⟩, hw⟩
  · have hkl : k = xs.length := by omega
    subst hkl
    repeat' (first | (refine lw_pure rfl (pv_move rfl) ?_) | (refine lw_pure rfl (pv_assign rfl) ?_) | (refine is_cw ?_; first | (refine cw_seq ?_) | (refine cw_region ?_) | (refine cw_true rfl rfl ?_) | (refine cw_false rfl rfl ?_) | (refine is_cd ?_; refine cw_true rfl (by first | assumption | exact decide_eq_true (by omega) | exact dec_notT (by omega)) ?_) | (refine is_cd ?_; refine cw_false rfl (by first | assumption | exact decide_eq_false (by omega) | exact dec_notF (by omega)) ?_) | (refine cw_skip ?_) | (refine cw_block ?_) | (refine cw_exit ?_) | (refine cw_ret ?_)) | (refine is_qw ?_; first | (with_reducible refine qw_then ?_) | (with_reducible refine qw_in ?_) | (with_reducible refine qw_in_hit ?_) | (refine qw_in_miss rfl ?_) | (with_reducible refine qw_then_exit ?_) | (with_reducible refine qw_then_ret ?_) | (with_reducible refine qw_in_ret ?_)) | (refine lw_nil ?_) | (refine is_guarded ?_; first | (refine lw_not rfl rfl rfl rfl ?_) | (refine lw_not_u rfl rfl rfl ?_) | (refine lw_on rfl rfl rfl ?_) | (refine lw_on rfl rfl (by first | assumption | exact decide_eq_true (by omega) | exact decide_eq_false (by omega) | exact dec_notT (by omega) | exact dec_notF (by omega)) ?_) | (refine lw_not rfl rfl rfl (by first | assumption | exact decide_eq_true (by omega) | exact decide_eq_false (by omega) | exact dec_notT (by omega) | exact dec_notF (by omega)) ?_) | (refine lw_gs_t rfl rfl rfl (fun hc => ?_) (fun hc => ?_) <;> (first | replace hc := of_decide_eq_true hc | replace hc := of_decide_eq_false hc | replace hc := dec_nT hc | replace hc := dec_nF hc | skip) <;> (try (exfalso; omega))) | (refine lw_gs_f rfl rfl rfl (fun hc => ?_) (fun hc => ?_) <;> (first | replace hc := of_decide_eq_true hc | replace hc := of_decide_eq_false hc | replace hc := dec_nT hc | replace hc := dec_nF hc | skip) <;> (try (exfalso; omega)))) | ((refine is_bin ?_; first | (refine lw_pure rfl (pv_lss rfl rfl) ?_) | (refine lw_pure rfl (pv_gtr rfl rfl) ?_) | (refine lw_pure rfl (pv_geq rfl rfl) ?_) | (refine lw_pure rfl (pv_inc rfl rfl (by omega)) ?_) | (refine lw_pure rfl (pv_add rfl rfl (by omega)) ?_))) | ((refine is_load ?_; first | (refine lw_pure rfl (pv_load (t1 rfl) rfl (by first | fail)) ?_) | (refine lw_pure rfl (pv_loada (tA rfl) rfl (by first | fail) (by rfl)) ?_))) | ((refine is_fa ?_; first | (refine lw_pure rfl (pv_fa (tF rfl) rfl) ?_))) | ((refine is_ia ?_; first | (refine lw_pure rfl (pv_ian (tS rfl) rfl rfl (by omega)) ?_) | (refine lw_pure rfl (pv_ia (tS rfl) rfl rfl (by omega)) ?_))) | ((refine is_bi ?_; first | (refine lw_pure rfl (pv_lenl (tS rfl) rfl) ?_) | (refine lw_pure rfl (pv_lens (tStr rfl) rfl) ?_) | (refine lw_pure rfl (pv_min rfl rfl) ?_))) | (refine is_pk ?_; refine lw_pure rfl (pv_pick_t rfl rfl rfl) ?_) | (refine is_pk ?_; refine lw_pure rfl (pv_pick_f rfl rfl rfl) ?_) | (refine is_pk ?_; refine lw_pure rfl (pv_pick_t rfl (by first | assumption | exact decide_eq_true (by omega) | exact dec_notT (by omega)) rfl) ?_) | (refine is_pk ?_; refine lw_pure rfl (pv_pick_f rfl (by first | assumption | exact decide_eq_false (by omega) | exact dec_notF (by omega)) rfl) ?_) | (refine is_pk ?_; refine lw_pure rfl (pv_pick rfl rfl rfl) ?_) | (refine is_cw ?_; refine cw_split rfl (fun hc => ?_) (fun hc => ?_) <;> (first | replace hc := of_decide_eq_true hc | replace hc := of_decide_eq_false hc | replace hc := dec_nT hc | replace hc := dec_nF hc | skip) <;> (try (exfalso; omega))))
    all_goals refine qw_ret1 rfl rfl ⟨⟨_, rfl, fun h => ?_⟩, hw⟩
    all_goals first | (simp at h; done) | (simp only [decide_eq_false_iff_not] at h; exact ⟨by omega, by omega, by omega, hI (by omega)⟩)
set_option maxRecDepth 20000 in
set_option maxHeartbeats 4000000 in
theorem evnew_c (k : Int) (a : Option Addr) (m c : Nat) (w : World) :
    Calls Tryd.prog 6 #[.int .u8 k, .slice a m c] w fun e w' => e = .returned (.agg #[.int .u8 3, .int .u8 k, .slice a m c, .slice none 0 0]) ∧ Below w.heap.size w w' := by
  have hE := Ext.refl w
  have hw := Below.refl w.heap.size w
  refine fn_enter 8 Tryd.func6 rfl rfl rfl ?_
  repeat' (first | (refine lw_pure rfl (pv_move rfl) ?_) | (refine lw_pure rfl (pv_assign rfl) ?_) | (refine is_cw ?_; first | (refine cw_seq ?_) | (refine cw_region ?_) | (refine cw_ret ?_)) | (refine is_qw ?_; first | (with_reducible refine qw_then ?_) | (with_reducible refine qw_then_ret ?_)) | (refine lw_nil ?_) | ((refine is_bd ?_; first | (refine lw_pure rfl (tyB_26 rfl rfl rfl) ?_))))
  refine lw_allocN rfl (by first | exact tyv_25 | exact tyv_26 | exact tyv_33 | exact tyv_34 | exact tyv_35 | exact tyv_36 | exact tyv_37 | exact tyv_50 | exact tyv_51 | exact tyv_81 | exact tyv_82) rfl ?_; intro N w1 hN H hb
  replace hE := hE.mono hb
  clear hb hw
  have hw := Below.refl w1.heap.size w1
  repeat' (first | (refine lw_pure rfl (pv_move rfl) ?_) | (refine lw_pure rfl (pv_assign rfl) ?_) | (refine is_cw ?_; first | (refine cw_seq ?_) | (refine cw_region ?_) | (refine cw_ret ?_)) | (refine is_qw ?_; first | (with_reducible refine qw_then ?_) | (with_reducible refine qw_then_ret ?_)) | (refine lw_nil ?_) | ((refine is_bd ?_; first | (refine lw_pure rfl (tyB_26 rfl rfl rfl) ?_))))
  refine lw_storea (vs := [.int .u8 3, .int .u8 k, .slice a m c, .slice none 0 0]) (H.mono hw) (tZ rfl) rfl rfl rfl rfl (by intro v hv; simp at hv; rcases hv with rfl | rfl | rfl | rfl <;> rfl) ?_; intro w3 H2 hg hz
  replace hE := (hE.mono hw).grown hg (by intro q hq; injection hq with hq; omega)
  clear hw
  have hw := Below.refl w3.heap.size w3
  repeat' (first | (refine lw_pure rfl (pv_move rfl) ?_) | (refine lw_pure rfl (pv_assign rfl) ?_) | (refine is_cw ?_; first | (refine cw_seq ?_) | (refine cw_region ?_) | (refine cw_ret ?_)) | (refine is_qw ?_; first | (with_reducible refine qw_then ?_) | (with_reducible refine qw_then_ret ?_)) | (refine lw_nil ?_) | ((refine is_bd ?_; first | (refine lw_pure rfl (tyB_26 rfl rfl rfl) ?_))))
  exact qw_retc rfl rfl (agg_ld (tA rfl) rfl (fun i u hu => H2.ld0 hu)) ⟨rfl, hE.b⟩

def stepF (s : List Opn × List Lt × Int) (e : Evt) : List Opn × List Lt × Int := if (eventR s.1 s.2.1 e).2.2 = 0 then eventR s.1 s.2.1 e else (s.1, s.2.1, (eventR s.1 s.2.1 e).2.2)
def runF (es : List Evt) : List Opn × List Lt × Int := es.foldl stepF ([], [], 0)
theorem runF_take {es : List Evt} {k : Nat} {e : Evt} (h : es[k]? = some e) : runF (es.take (k + 1)) = stepF (runF (es.take k)) e := by
  unfold runF; rw [take_snoc h, List.foldl_append]; rfl
def EvsR (w : World) (xs : List EvC) (es : List Evt) : Prop := xs.length = es.length ∧ ∀ (j : Nat) x e, xs[j]? = some x → es[j]? = some e → EvR w x e
theorem EvsR.mono {w w' : World} {xs : List EvC} {es : List Evt} (h : EvsR w xs es) (hb : Below w.heap.size w w') : EvsR w' xs es := ⟨h.1, fun j x e h1 h2 => (h.2 j x e h1 h2).mono hb⟩
set_option maxRecDepth 20000 in
set_option maxHeartbeats 4000000 in
theorem run_c {xs : List EvC} {es : List Evt} {o cc : Nat} {c : Option Addr} {w : World} (ho : xs.length = o) (HV : SlR encV 4 w c cc xs) (HE : EvsR w xs es) (hK : KnW w) :
    Calls Tryd.prog 7 #[.slice c o cc] w fun e w' => (∃ vo vt, e = .returned (.tuple #[vo, vt, .int .i64 (runF es).2.2]) ∧ Own encP 6 34 w.heap.size w' vo (runF es).1 ∧ Own encL 4 36 w.heap.size w' vt (runF es).2.1) ∧ Below w.heap.size w w' := by
  subst ho
  have hcc := HV.le
  have hcm := HV.max
  have hw := Below.refl w.heap.size w
  refine fn_enter 35 Tryd.func7 rfl rfl rfl ?_
  repeat' (first | (refine lw_pure rfl (pv_assign rfl) ?_) | (refine is_cw ?_; first | (refine cw_seq ?_) | (refine cw_region ?_) | (refine cw_block ?_)) | (refine is_qw ?_; first | (with_reducible refine qw_then ?_)) | (refine lw_nil ?_))
  refine cw_loop (σ := Nat × Value × Value) (fun s => [(0, .slice c xs.length cc), (5, s.2.1), (6, s.2.2), (7, .int .i64 (runF (es.take s.1)).2.2), (8, .int .i64 (s.1 : Nat))]) (fun s wr => s.1 ≤ xs.length ∧ Below w.heap.size w wr ∧ Own encP 6 34 w.heap.size wr s.2.1 (runF (es.take s.1)).1 ∧ Own encL 4 36 w.heap.size wr s.2.2 (runF (es.take s.1)).2.1) (fun s => xs.length - s.1) (0, .slice none 0 0, .slice none 0 0) (by repeat' (first | exact trivial | refine ⟨rfl, ?_⟩)) ⟨Nat.zero_le _, hw, Own.nil _, Own.nil _⟩ ?_
  clear hw
  rintro ⟨k, vo, vt⟩ wr ⟨hk, hW, hO, hT⟩
  dsimp only at hk hO hT
  change CW _ _ _ _ [(0, .slice c xs.length cc), (5, vo), (6, vt), (7, .int .i64 (runF (es.take k)).2.2), (8, .int .i64 (k : Nat))] wr
  have hxe := HE.1
  by_cases hlt : k < xs.length
  · have hxk : xs[k]? = some xs[k] := List.getElem?_eq_getElem hlt
    have hek : es[k]? = some (es[k]'(by omega)) := List.getElem?_eq_getElem _
    obtain ⟨ab, ao, rfl, -, -⟩ := HV.at (by intro h; rw [h] at hlt; simp at hlt)
    generalize xs[k] = x at hxk
    generalize es[k]'(by omega) = e at hek
    have hst := runF_take hek
    have hR := (HE.2 k x e hxk hek).mono hW
    obtain ⟨xv, xk, xan, xmn, xcn, xax, xmx, xcx⟩ := x
    obtain ⟨r1, r2, r3, r4, r5, r6, r7, r8⟩ := hR
    simp only at r1 r2 r3 r4 r5 r6
    subst r1 r2 r3 r4
    have hK1 := hK.mono hW
    have HS := HV.mono hW
    have hsz := hW.size
    obtain ⟨oa, oc, rfl, HOs, -⟩ := Own.slR encP_len hO
    obtain ⟨ta, tc, rfl, HTs, -⟩ := Own.slR encL_len hT
    generalize runF (es.take k) = s at *
    have hw := Below.refl wr.heap.size wr
    repeat' (first | (refine lw_pure rfl (pv_move rfl) ?_) | (refine lw_pure rfl (pv_assign rfl) ?_) | (refine is_cw ?_; first | (refine cw_seq ?_) | (refine cw_region ?_) | (refine is_cd ?_; refine cw_true rfl (by first | assumption | exact decide_eq_true (by omega) | exact dec_notT (by omega)) ?_) | (refine cw_skip ?_) | (refine cw_block ?_)) | (refine is_qw ?_; first | (with_reducible refine qw_then ?_)) | (refine lw_nil ?_) | ((refine is_bin ?_; first | (refine lw_pure rfl (pv_lss rfl rfl) ?_))) | ((refine is_load ?_; first | (refine lw_pure rfl (pv_loada (tA rfl) rfl (by first | exact SlR.lda (HS.mono hw) hxk) (by rfl)) ?_))) | ((refine is_ia ?_; first | (refine lw_pure rfl (pv_ian (tS rfl) rfl rfl (by omega)) ?_))) | ((refine is_bi ?_; first | (refine lw_pure rfl (pv_lenl (tS rfl) rfl) ?_))))
    refine lw_call (f := 8) (by kernel_rfl) rfl rfl (ev_c r7 rfl rfl rfl rfl (HOs.mono hw) (HTs.mono hw) (r5.mono hw) (r6.mono hw) r8 (hK1.mono hw)) ?_; rintro e1 w5 ⟨⟨vo2, vt2, rfl, hO2, hT2⟩, hb⟩; refine ⟨_, rfl, ?_⟩
    have hz := hw.size
    replace hO2 := hO2.weaken (Nat.le_trans hsz hz)
    replace hT2 := hT2.weaken (Nat.le_trans hsz hz)
    replace hw := grow_trans hw hb
    replace hO := hO.mono hw
    replace hT := hT.mono hw
    have hW2 := grow_trans hW hw
    clear hb hw
    have hw := Below.refl w5.heap.size w5
    unfold stepF at hst
    by_cases h0 : (eventR s.1 s.2.1 e).2.2 = 0
    · rw [if_pos h0] at hst
      repeat' (first | (refine lw_pure rfl (pv_move rfl) ?_) | (refine lw_pure rfl (pv_assign rfl) ?_) | (refine is_cw ?_; first | (refine cw_seq ?_) | (refine cw_region ?_) | (refine is_cd ?_; refine cw_true rfl (by first | assumption | exact decide_eq_true (by omega) | exact dec_notT (by omega)) ?_)) | (refine is_qw ?_; first | (with_reducible refine qw_then ?_) | (with_reducible refine qw_in ?_)) | (refine lw_nil ?_) | ((refine is_bin ?_; first | (refine lw_pure rfl (pv_eql rfl rfl) ?_) | (refine lw_pure rfl (pv_inc rfl rfl (by omega)) ?_))) | (refine lw_pure rfl (pv_extract rfl rfl) ?_))
      refine qw_round (k + 1, vo2, vt2) (by simp only [hst]; exact (by repeat' (first | exact trivial | refine ⟨rfl, ?_⟩))) ⟨by show k + 1 ≤ _; omega, grow_trans hW2 hw, by rw [hst]; exact hO2, by rw [hst]; exact hT2⟩ (by show xs.length - (k + 1) < xs.length - k; omega)
    · rw [if_neg h0] at hst
      repeat' (first | (refine lw_pure rfl (pv_move rfl) ?_) | (refine lw_pure rfl (pv_assign rfl) ?_) | (refine is_cw ?_; first | (refine cw_seq ?_) | (refine cw_region ?_) | (refine is_cd ?_; refine cw_false rfl (by first | assumption | exact decide_eq_false (by omega) | exact dec_notF (by omega)) ?_) | (refine cw_skip ?_)) | (refine is_qw ?_; first | (with_reducible refine qw_then ?_) | (with_reducible refine qw_in ?_)) | (refine lw_nil ?_) | ((refine is_bin ?_; first | (refine lw_pure rfl (pv_eql rfl rfl) ?_) | (refine lw_pure rfl (pv_inc rfl rfl (by omega)) ?_))) | (refine lw_pure rfl (pv_extract rfl rfl) ?_))
      refine qw_round (k + 1, .slice oa s.1.length oc, .slice ta s.2.1.length tc) (by simp only [hst]; exact (by repeat' (first | exact trivial | refine ⟨rfl, ?_⟩))) ⟨by show k + 1 ≤ _; omega, grow_trans hW2 hw, by rw [hst]; exact hO, by rw [hst]; exact hT⟩ (by show xs.length - (k + 1) < xs.length - k; omega)
  · have hkl : k = es.length := by omega
    subst hkl
    rw [List.take_length] at hO hT ⊢
    have hw := hW
    repeat' (first | (refine lw_pure rfl (pv_move rfl) ?_) | (refine lw_pure rfl (pv_assign rfl) ?_) | (refine is_cw ?_; first | (refine cw_seq ?_) | (refine cw_region ?_) | (refine is_cd ?_; refine cw_false rfl (by first | assumption | exact decide_eq_false (by omega) | exact dec_notF (by omega)) ?_) | (refine cw_exit ?_) | (refine cw_ret ?_)) | (refine is_qw ?_; first | (with_reducible refine qw_then ?_) | (with_reducible refine qw_in_hit ?_) | (with_reducible refine qw_then_exit ?_)) | (refine lw_nil ?_) | ((refine is_bin ?_; first | (refine lw_pure rfl (pv_lss rfl rfl) ?_))) | ((refine is_bi ?_; first | (refine lw_pure rfl (pv_lenl (tS rfl) rfl) ?_))))
    exact qw_ret3 rfl rfl rfl rfl ⟨⟨_, _, rfl, hO, hT⟩, hw⟩

def wkA : Evt := ⟨3, 11, [1, 2, 1, 1, 10, 5], []⟩
def wkB : Evt := ⟨3, 11, [2, 1, 1, 2, 10, 3], []⟩
def wkC : Evt := ⟨3, 13, [2, 1, 10, 3, 0], []⟩
def wkD : Evt := ⟨3, 12, [2], []⟩
def wkE : Evt := ⟨3, 13, [1, 1, 10, 1, 0], []⟩
theorem wk1 : runF [wkA, wkB, wkC] = ([⟨2, 1, 1, 1, 10, 2⟩], [], 0) := by kernel_rfl
theorem wk2 : (runF [wkA, wkB, wkC, wkD]).2.2 = 5 := by kernel_rfl
theorem wk3 : (runF [wkA, wkB, wkC, wkE]).2.2 = 1 := by kernel_rfl

theorem elemV : ElemT Tryd.prog 45 26 4 56 := elem_of Tryd.underlying45 (by kernel_rfl) (by omega)
theorem evs_nil (w : World) : EvsR w [] [] := ⟨rfl, fun j x e h _ => by simp at h⟩
theorem evs_cons {w : World} {x : EvC} {e : Evt} {xs : List EvC} {es : List Evt} (h : EvR w x e) (hs : EvsR w xs es) : EvsR w (x :: xs) (e :: es) := ⟨by simp [hs.1], fun j y f h1 h2 => by
  cases j with
  | zero => simp at h1 h2; subst h1 h2; exact h
  | succ j => exact hs.2 j y f (by simpa using h1) (by simpa using h2)⟩
abbrev wkO : Opn := ⟨2, 1, 1, 1, 10, 2⟩
set_option maxRecDepth 20000 in
set_option maxHeartbeats 8000000 in
theorem works_c {w : World} (hK : KnW w) : Calls Tryd.prog 5 #[] w fun e w' => e = .returned (.bool true) ∧ Below w.heap.size w w' := by
  have hw := Below.refl w.heap.size w
  have hW := hw
  refine fn_enter 70 Tryd.func5 rfl rfl rfl ?_
  repeat' (first | (refine lw_pure rfl (pv_move rfl) ?_) | (refine lw_pure rfl (pv_assign rfl) ?_) | (refine is_cw ?_; first | (refine cw_seq ?_) | (refine cw_region ?_) | (refine cw_ret ?_)) | (refine is_qw ?_; first | (with_reducible refine qw_then ?_) | (with_reducible refine qw_then_ret ?_)) | (refine lw_nil ?_) | (refine is_guarded ?_; first | (refine lw_not rfl rfl rfl rfl ?_) | (refine lw_not_u rfl rfl rfl ?_) | (refine lw_on rfl rfl rfl ?_)) | ((refine is_bin ?_; first | (refine lw_pure rfl (pv_eql rfl rfl) ?_))) | ((refine is_load ?_; first | (refine lw_pure rfl (pv_load (t1 rfl) rfl (by first | fail)) ?_) | (refine lw_pure rfl (pv_loada (tA rfl) rfl (by first | fail) (by rfl)) ?_))) | ((refine is_ia ?_; first | (refine lw_pure rfl (pv_ian (tS rfl) rfl rfl (by omega)) ?_) | (refine lw_pure rfl (pv_ia (tS rfl) rfl rfl (by omega)) ?_))) | ((refine is_bi ?_; first | (refine lw_pure rfl (pv_lenl (tS rfl) rfl) ?_) | (refine lw_pure rfl (pv_lens (tStr rfl) rfl) ?_))) | ((refine is_bd ?_; first | (refine lw_pure rfl (tyB_34 rfl rfl rfl) ?_))) | (refine is_pk ?_; refine lw_pure rfl (pv_pick_t rfl rfl rfl) ?_) | (refine is_pk ?_; refine lw_pure rfl (pv_pick_f rfl rfl rfl) ?_) | (refine is_pk ?_; refine lw_pure rfl (pv_pick_t rfl (by first | assumption | exact decide_eq_true (by omega) | exact dec_notT (by omega)) rfl) ?_) | (refine is_pk ?_; refine lw_pure rfl (pv_pick_f rfl (by first | assumption | exact decide_eq_false (by omega) | exact dec_notF (by omega)) rfl) ?_) | (refine is_pk ?_; refine lw_pure rfl (pv_pick rfl rfl rfl) ?_) | (refine lw_pure rfl (pv_extract rfl rfl) ?_))
  refine lw_bsN (vs := [.int .i64 1, .int .i64 2, .int .i64 1, .int .i64 1, .int .i64 10, .int .i64 5]) (cs := [.int .i64 1, .int .i64 2, .int .i64 1, .int .i64 1, .int .i64 10, .int .i64 5]) elemI rfl rfl rfl (by omega) (by omega) rfl (by simp [Value.cells]) ?_; intro BA wn _ HX hb
  have hs := grow_trans hw hb; replace hW := grow_trans hW hs; replace hK := hK.mono hs; (try replace HA := HA.mono hs); (try replace HB := HB.mono hs); (try replace HC := HC.mono hs); (try replace HD := HD.mono hs); (try replace HV := HV.mono hs); (try replace HO := HO.mono hs); (try replace HP := HP.mono hs); clear hw hb hs; have hw := Below.refl wn.heap.size wn
  have HA : EvR wn ⟨3, 11, some ⟨BA, 0, none⟩, 6, 6, none, 0, 0⟩ wkA := ⟨rfl, rfl, rfl, rfl, HX.slR (xs := [1, 2, 1, 1, 10, 5]) encI_len rfl (by dsimp only; omega), SlR.nil _, by decide, tx_nil⟩; clear HX
  repeat' (first | (refine lw_pure rfl (pv_move rfl) ?_) | (refine lw_pure rfl (pv_assign rfl) ?_) | (refine lw_call (f := 6) (by kernel_rfl) rfl rfl (evnew_c 11 _ 6 6 _) ?_; rintro e w1 ⟨rfl, hb⟩; refine ⟨_, rfl, ?_⟩; replace hw := grow_trans hw hb; clear hb) | (refine is_cw ?_; first | (refine cw_seq ?_) | (refine cw_region ?_) | (refine cw_ret ?_)) | (refine is_qw ?_; first | (with_reducible refine qw_then ?_) | (with_reducible refine qw_then_ret ?_)) | (refine lw_nil ?_) | (refine is_guarded ?_; first | (refine lw_not rfl rfl rfl rfl ?_) | (refine lw_not_u rfl rfl rfl ?_) | (refine lw_on rfl rfl rfl ?_)) | ((refine is_bin ?_; first | (refine lw_pure rfl (pv_eql rfl rfl) ?_))) | ((refine is_load ?_; first | (refine lw_pure rfl (pv_load (t1 rfl) rfl (by first | fail)) ?_) | (refine lw_pure rfl (pv_loada (tA rfl) rfl (by first | fail) (by rfl)) ?_))) | ((refine is_ia ?_; first | (refine lw_pure rfl (pv_ian (tS rfl) rfl rfl (by omega)) ?_) | (refine lw_pure rfl (pv_ia (tS rfl) rfl rfl (by omega)) ?_))) | ((refine is_bi ?_; first | (refine lw_pure rfl (pv_lenl (tS rfl) rfl) ?_) | (refine lw_pure rfl (pv_lens (tStr rfl) rfl) ?_))) | ((refine is_bd ?_; first | (refine lw_pure rfl (tyB_34 rfl rfl rfl) ?_))) | (refine is_pk ?_; refine lw_pure rfl (pv_pick_t rfl rfl rfl) ?_) | (refine is_pk ?_; refine lw_pure rfl (pv_pick_f rfl rfl rfl) ?_) | (refine is_pk ?_; refine lw_pure rfl (pv_pick_t rfl (by first | assumption | exact decide_eq_true (by omega) | exact dec_notT (by omega)) rfl) ?_) | (refine is_pk ?_; refine lw_pure rfl (pv_pick_f rfl (by first | assumption | exact decide_eq_false (by omega) | exact dec_notF (by omega)) rfl) ?_) | (refine is_pk ?_; refine lw_pure rfl (pv_pick rfl rfl rfl) ?_) | (refine lw_pure rfl (pv_extract rfl rfl) ?_))
  refine lw_bsN (vs := [.int .i64 2, .int .i64 1, .int .i64 1, .int .i64 2, .int .i64 10, .int .i64 3]) (cs := [.int .i64 2, .int .i64 1, .int .i64 1, .int .i64 2, .int .i64 10, .int .i64 3]) elemI rfl rfl rfl (by omega) (by omega) rfl (by simp [Value.cells]) ?_; intro BB wn _ HX hb
  have hs := grow_trans hw hb; replace hW := grow_trans hW hs; replace hK := hK.mono hs; (try replace HA := HA.mono hs); (try replace HB := HB.mono hs); (try replace HC := HC.mono hs); (try replace HD := HD.mono hs); (try replace HV := HV.mono hs); (try replace HO := HO.mono hs); (try replace HP := HP.mono hs); clear hw hb hs; have hw := Below.refl wn.heap.size wn
  have HB : EvR wn ⟨3, 11, some ⟨BB, 0, none⟩, 6, 6, none, 0, 0⟩ wkB := ⟨rfl, rfl, rfl, rfl, HX.slR (xs := [2, 1, 1, 2, 10, 3]) encI_len rfl (by dsimp only; omega), SlR.nil _, by decide, tx_nil⟩; clear HX
  repeat' (first | (refine lw_pure rfl (pv_move rfl) ?_) | (refine lw_pure rfl (pv_assign rfl) ?_) | (refine lw_call (f := 6) (by kernel_rfl) rfl rfl (evnew_c 11 _ 6 6 _) ?_; rintro e w1 ⟨rfl, hb⟩; refine ⟨_, rfl, ?_⟩; replace hw := grow_trans hw hb; clear hb) | (refine is_cw ?_; first | (refine cw_seq ?_) | (refine cw_region ?_) | (refine cw_ret ?_)) | (refine is_qw ?_; first | (with_reducible refine qw_then ?_) | (with_reducible refine qw_then_ret ?_)) | (refine lw_nil ?_) | (refine is_guarded ?_; first | (refine lw_not rfl rfl rfl rfl ?_) | (refine lw_not_u rfl rfl rfl ?_) | (refine lw_on rfl rfl rfl ?_)) | ((refine is_bin ?_; first | (refine lw_pure rfl (pv_eql rfl rfl) ?_))) | ((refine is_load ?_; first | (refine lw_pure rfl (pv_load (t1 rfl) rfl (by first | fail)) ?_) | (refine lw_pure rfl (pv_loada (tA rfl) rfl (by first | fail) (by rfl)) ?_))) | ((refine is_ia ?_; first | (refine lw_pure rfl (pv_ian (tS rfl) rfl rfl (by omega)) ?_) | (refine lw_pure rfl (pv_ia (tS rfl) rfl rfl (by omega)) ?_))) | ((refine is_bi ?_; first | (refine lw_pure rfl (pv_lenl (tS rfl) rfl) ?_) | (refine lw_pure rfl (pv_lens (tStr rfl) rfl) ?_))) | ((refine is_bd ?_; first | (refine lw_pure rfl (tyB_34 rfl rfl rfl) ?_))) | (refine is_pk ?_; refine lw_pure rfl (pv_pick_t rfl rfl rfl) ?_) | (refine is_pk ?_; refine lw_pure rfl (pv_pick_f rfl rfl rfl) ?_) | (refine is_pk ?_; refine lw_pure rfl (pv_pick_t rfl (by first | assumption | exact decide_eq_true (by omega) | exact dec_notT (by omega)) rfl) ?_) | (refine is_pk ?_; refine lw_pure rfl (pv_pick_f rfl (by first | assumption | exact decide_eq_false (by omega) | exact dec_notF (by omega)) rfl) ?_) | (refine is_pk ?_; refine lw_pure rfl (pv_pick rfl rfl rfl) ?_) | (refine lw_pure rfl (pv_extract rfl rfl) ?_))
  refine lw_bsN (vs := [.int .i64 2, .int .i64 1, .int .i64 10, .int .i64 3, .int .i64 0]) (cs := [.int .i64 2, .int .i64 1, .int .i64 10, .int .i64 3, .int .i64 0]) elemI rfl rfl rfl (by omega) (by omega) rfl (by simp [Value.cells]) ?_; intro BC wn _ HX hb
  have hs := grow_trans hw hb; replace hW := grow_trans hW hs; replace hK := hK.mono hs; (try replace HA := HA.mono hs); (try replace HB := HB.mono hs); (try replace HC := HC.mono hs); (try replace HD := HD.mono hs); (try replace HV := HV.mono hs); (try replace HO := HO.mono hs); (try replace HP := HP.mono hs); clear hw hb hs; have hw := Below.refl wn.heap.size wn
  have HC : EvR wn ⟨3, 13, some ⟨BC, 0, none⟩, 5, 5, none, 0, 0⟩ wkC := ⟨rfl, rfl, rfl, rfl, HX.slR (xs := [2, 1, 10, 3, 0]) encI_len rfl (by dsimp only; omega), SlR.nil _, by decide, tx_nil⟩; clear HX
  repeat' (first | (refine lw_pure rfl (pv_move rfl) ?_) | (refine lw_pure rfl (pv_assign rfl) ?_) | (refine lw_call (f := 6) (by kernel_rfl) rfl rfl (evnew_c 13 _ 5 5 _) ?_; rintro e w1 ⟨rfl, hb⟩; refine ⟨_, rfl, ?_⟩; replace hw := grow_trans hw hb; clear hb) | (refine is_cw ?_; first | (refine cw_seq ?_) | (refine cw_region ?_) | (refine cw_ret ?_)) | (refine is_qw ?_; first | (with_reducible refine qw_then ?_) | (with_reducible refine qw_then_ret ?_)) | (refine lw_nil ?_) | (refine is_guarded ?_; first | (refine lw_not rfl rfl rfl rfl ?_) | (refine lw_not_u rfl rfl rfl ?_) | (refine lw_on rfl rfl rfl ?_)) | ((refine is_bin ?_; first | (refine lw_pure rfl (pv_eql rfl rfl) ?_))) | ((refine is_load ?_; first | (refine lw_pure rfl (pv_load (t1 rfl) rfl (by first | fail)) ?_) | (refine lw_pure rfl (pv_loada (tA rfl) rfl (by first | fail) (by rfl)) ?_))) | ((refine is_ia ?_; first | (refine lw_pure rfl (pv_ian (tS rfl) rfl rfl (by omega)) ?_) | (refine lw_pure rfl (pv_ia (tS rfl) rfl rfl (by omega)) ?_))) | ((refine is_bi ?_; first | (refine lw_pure rfl (pv_lenl (tS rfl) rfl) ?_) | (refine lw_pure rfl (pv_lens (tStr rfl) rfl) ?_))) | ((refine is_bd ?_; first | (refine lw_pure rfl (tyB_34 rfl rfl rfl) ?_))) | (refine is_pk ?_; refine lw_pure rfl (pv_pick_t rfl rfl rfl) ?_) | (refine is_pk ?_; refine lw_pure rfl (pv_pick_f rfl rfl rfl) ?_) | (refine is_pk ?_; refine lw_pure rfl (pv_pick_t rfl (by first | assumption | exact decide_eq_true (by omega) | exact dec_notT (by omega)) rfl) ?_) | (refine is_pk ?_; refine lw_pure rfl (pv_pick_f rfl (by first | assumption | exact decide_eq_false (by omega) | exact dec_notF (by omega)) rfl) ?_) | (refine is_pk ?_; refine lw_pure rfl (pv_pick rfl rfl rfl) ?_) | (refine lw_pure rfl (pv_extract rfl rfl) ?_))
  obtain ⟨xA, hA⟩ : ∃ x : EvC, x = ⟨3, 11, some ⟨BA, 0, none⟩, 6, 6, none, 0, 0⟩ := ⟨_, rfl⟩
  obtain ⟨xB, hB⟩ : ∃ x : EvC, x = ⟨3, 11, some ⟨BB, 0, none⟩, 6, 6, none, 0, 0⟩ := ⟨_, rfl⟩
  obtain ⟨xC, hC⟩ : ∃ x : EvC, x = ⟨3, 13, some ⟨BC, 0, none⟩, 5, 5, none, 0, 0⟩ := ⟨_, rfl⟩
  refine lw_bsN (vs := [.agg (encV xA).toArray, .agg (encV xB).toArray, .agg (encV xC).toArray]) (cs := encV xA ++ (encV xB ++ encV xC)) elemV rfl rfl (by subst hA hB hC; rfl) (by omega) (by omega) rfl (by simp [Value.cells]) ?_; intro B4 wn _ HX hb
  rw [← hA] at HA; rw [← hB] at HB; rw [← hC] at HC
  have hs := grow_trans hw hb; replace hW := grow_trans hW hs; replace hK := hK.mono hs; (try replace HA := HA.mono hs); (try replace HB := HB.mono hs); (try replace HC := HC.mono hs); (try replace HD := HD.mono hs); (try replace HV := HV.mono hs); (try replace HO := HO.mono hs); (try replace HP := HP.mono hs); clear hw hb hs; have hw := Below.refl wn.heap.size wn
  have HV : SlR encV 4 wn (some ⟨B4, 0, none⟩) 3 [xA, xB, xC] := HX.slR (xs := [xA, xB, xC]) encV_len rfl (by omega)
  clear HX hA hB hC
  repeat' (first | (refine lw_pure rfl (pv_move rfl) ?_) | (refine lw_pure rfl (pv_assign rfl) ?_) | (refine is_cw ?_; first | (refine cw_seq ?_) | (refine cw_region ?_) | (refine cw_ret ?_)) | (refine is_qw ?_; first | (with_reducible refine qw_then ?_) | (with_reducible refine qw_then_ret ?_)) | (refine lw_nil ?_) | (refine is_guarded ?_; first | (refine lw_not rfl rfl rfl rfl ?_) | (refine lw_not_u rfl rfl rfl ?_) | (refine lw_on rfl rfl rfl ?_)) | ((refine is_bin ?_; first | (refine lw_pure rfl (pv_eql rfl rfl) ?_))) | ((refine is_load ?_; first | (refine lw_pure rfl (pv_load (t1 rfl) rfl (by first | fail)) ?_) | (refine lw_pure rfl (pv_loada (tA rfl) rfl (by first | fail) (by rfl)) ?_))) | ((refine is_ia ?_; first | (refine lw_pure rfl (pv_ian (tS rfl) rfl rfl (by omega)) ?_) | (refine lw_pure rfl (pv_ia (tS rfl) rfl rfl (by omega)) ?_))) | ((refine is_bi ?_; first | (refine lw_pure rfl (pv_lenl (tS rfl) rfl) ?_) | (refine lw_pure rfl (pv_lens (tStr rfl) rfl) ?_))) | ((refine is_bd ?_; first | (refine lw_pure rfl (tyB_34 rfl rfl rfl) ?_))) | (refine is_pk ?_; refine lw_pure rfl (pv_pick_t rfl rfl rfl) ?_) | (refine is_pk ?_; refine lw_pure rfl (pv_pick_f rfl rfl rfl) ?_) | (refine is_pk ?_; refine lw_pure rfl (pv_pick_t rfl (by first | assumption | exact decide_eq_true (by omega) | exact dec_notT (by omega)) rfl) ?_) | (refine is_pk ?_; refine lw_pure rfl (pv_pick_f rfl (by first | assumption | exact decide_eq_false (by omega) | exact dec_notF (by omega)) rfl) ?_) | (refine is_pk ?_; refine lw_pure rfl (pv_pick rfl rfl rfl) ?_) | (refine lw_pure rfl (pv_extract rfl rfl) ?_))
  refine lw_call (f := 7) (by kernel_rfl) rfl rfl (run_c rfl (HV.mono hw) ((evs_cons HA (evs_cons HB (evs_cons HC (evs_nil _)))).mono hw) (hK.mono hw)) ?_; rintro e1 wn ⟨⟨vo, vt, rfl, HO, -⟩, hb⟩; refine ⟨_, rfl, ?_⟩
  rw [wk1] at HO ⊢
  obtain ⟨oa, oc, rfl, HP, -⟩ := Own.slR encP_len HO
  clear HO
  have hs := grow_trans hw hb; replace hW := grow_trans hW hs; replace hK := hK.mono hs; (try replace HA := HA.mono hs); (try replace HB := HB.mono hs); (try replace HC := HC.mono hs); (try replace HD := HD.mono hs); (try replace HV := HV.mono hs); (try replace HO := HO.mono hs); (try replace HP := HP.mono hs); clear hw hb hs; have hw := Below.refl wn.heap.size wn
  repeat' (first | (refine lw_pure rfl (pv_move rfl) ?_) | (refine lw_pure rfl (pv_assign rfl) ?_) | (refine is_cw ?_; first | (refine cw_seq ?_) | (refine cw_region ?_) | (refine cw_ret ?_)) | (refine is_qw ?_; first | (with_reducible refine qw_then ?_) | (with_reducible refine qw_then_ret ?_)) | (refine lw_nil ?_) | (refine is_guarded ?_; first | (refine lw_not rfl rfl rfl rfl ?_) | (refine lw_not_u rfl rfl rfl ?_) | (refine lw_on rfl rfl rfl ?_)) | ((refine is_bin ?_; first | (refine lw_pure rfl (pv_eql rfl rfl) ?_))) | ((refine is_load ?_; first | (refine lw_pure rfl (pv_load (t1 rfl) rfl (by first | fail)) ?_) | (refine lw_pure rfl (pv_loada (tA rfl) rfl (by first | fail) (by rfl)) ?_))) | ((refine is_ia ?_; first | (refine lw_pure rfl (pv_ian (tS rfl) rfl rfl (by omega)) ?_) | (refine lw_pure rfl (pv_ia (tS rfl) rfl rfl (by omega)) ?_))) | ((refine is_bi ?_; first | (refine lw_pure rfl (pv_lenl (tS rfl) rfl) ?_) | (refine lw_pure rfl (pv_lens (tStr rfl) rfl) ?_))) | ((refine is_bd ?_; first | (refine lw_pure rfl (tyB_34 rfl rfl rfl) ?_))) | (refine is_pk ?_; refine lw_pure rfl (pv_pick_t rfl rfl rfl) ?_) | (refine is_pk ?_; refine lw_pure rfl (pv_pick_f rfl rfl rfl) ?_) | (refine is_pk ?_; refine lw_pure rfl (pv_pick_t rfl (by first | assumption | exact decide_eq_true (by omega) | exact dec_notT (by omega)) rfl) ?_) | (refine is_pk ?_; refine lw_pure rfl (pv_pick_f rfl (by first | assumption | exact decide_eq_false (by omega) | exact dec_notF (by omega)) rfl) ?_) | (refine is_pk ?_; refine lw_pure rfl (pv_pick rfl rfl rfl) ?_) | (refine lw_pure rfl (pv_extract rfl rfl) ?_))
  refine lw_bs0 (enc := encV) elemV rfl ?_; intro u11 HO hb hz
  have hT := grow_trans hw hb
  clear hz hw
  have hw := Below.refl u11.heap.size u11
  repeat' (first | (refine lw_pure rfl (pv_move rfl) ?_) | (refine lw_pure rfl (pv_assign rfl) ?_) | (refine is_cw ?_; first | (refine cw_seq ?_) | (refine cw_region ?_) | (refine cw_ret ?_)) | (refine is_qw ?_; first | (with_reducible refine qw_then ?_) | (with_reducible refine qw_then_ret ?_)) | (refine lw_nil ?_) | (refine is_guarded ?_; first | (refine lw_not rfl rfl rfl rfl ?_) | (refine lw_not_u rfl rfl rfl ?_) | (refine lw_on rfl rfl rfl ?_)) | ((refine is_bin ?_; first | (refine lw_pure rfl (pv_eql rfl rfl) ?_))) | ((refine is_load ?_; first | (refine lw_pure rfl (pv_load (t1 rfl) rfl (by first | fail)) ?_) | (refine lw_pure rfl (pv_loada (tA rfl) rfl (by first | fail) (by rfl)) ?_))) | ((refine is_ia ?_; first | (refine lw_pure rfl (pv_ian (tS rfl) rfl rfl (by omega)) ?_) | (refine lw_pure rfl (pv_ia (tS rfl) rfl rfl (by omega)) ?_))) | ((refine is_bi ?_; first | (refine lw_pure rfl (pv_lenl (tS rfl) rfl) ?_) | (refine lw_pure rfl (pv_lens (tStr rfl) rfl) ?_))) | ((refine is_bd ?_; first | (refine lw_pure rfl (tyB_34 rfl rfl rfl) ?_))) | (refine is_pk ?_; refine lw_pure rfl (pv_pick_t rfl rfl rfl) ?_) | (refine is_pk ?_; refine lw_pure rfl (pv_pick_f rfl rfl rfl) ?_) | (refine is_pk ?_; refine lw_pure rfl (pv_pick_t rfl (by first | assumption | exact decide_eq_true (by omega) | exact dec_notT (by omega)) rfl) ?_) | (refine is_pk ?_; refine lw_pure rfl (pv_pick_f rfl (by first | assumption | exact decide_eq_false (by omega) | exact dec_notF (by omega)) rfl) ?_) | (refine is_pk ?_; refine lw_pure rfl (pv_pick rfl rfl rfl) ?_) | (refine lw_pure rfl (pv_extract rfl rfl) ?_))
  refine lw_app elemV encV_len encV_one rfl rfl rfl (HO.mono hw) (HV.mono (grow_trans hT hw)) rfl (grow_trans hT hw).size (by simp) (by simp [maxLen]) ?_; intro v21 u21 HO2 hg hb9
  replace hT := (grow_trans hT hw).trans hb9
  clear HO hg hb9 hw hb
  have HO := HO2
  clear HO2
  have hlt := Own.lt HO
  have hw := Below.refl u21.heap.size u21
  repeat' (first | (refine lw_pure rfl (pv_move rfl) ?_) | (refine lw_pure rfl (pv_assign rfl) ?_) | (refine is_cw ?_; first | (refine cw_seq ?_) | (refine cw_region ?_) | (refine cw_ret ?_)) | (refine is_qw ?_; first | (with_reducible refine qw_then ?_) | (with_reducible refine qw_then_ret ?_)) | (refine lw_nil ?_) | (refine is_guarded ?_; first | (refine lw_not rfl rfl rfl rfl ?_) | (refine lw_not_u rfl rfl rfl ?_) | (refine lw_on rfl rfl rfl ?_)) | ((refine is_bin ?_; first | (refine lw_pure rfl (pv_eql rfl rfl) ?_))) | ((refine is_load ?_; first | (refine lw_pure rfl (pv_load (t1 rfl) rfl (by first | fail)) ?_) | (refine lw_pure rfl (pv_loada (tA rfl) rfl (by first | fail) (by rfl)) ?_))) | ((refine is_ia ?_; first | (refine lw_pure rfl (pv_ian (tS rfl) rfl rfl (by omega)) ?_) | (refine lw_pure rfl (pv_ia (tS rfl) rfl rfl (by omega)) ?_))) | ((refine is_bi ?_; first | (refine lw_pure rfl (pv_lenl (tS rfl) rfl) ?_) | (refine lw_pure rfl (pv_lens (tStr rfl) rfl) ?_))) | ((refine is_bd ?_; first | (refine lw_pure rfl (tyB_34 rfl rfl rfl) ?_))) | (refine is_pk ?_; refine lw_pure rfl (pv_pick_t rfl rfl rfl) ?_) | (refine is_pk ?_; refine lw_pure rfl (pv_pick_f rfl rfl rfl) ?_) | (refine is_pk ?_; refine lw_pure rfl (pv_pick_t rfl (by first | assumption | exact decide_eq_true (by omega) | exact dec_notT (by omega)) rfl) ?_) | (refine is_pk ?_; refine lw_pure rfl (pv_pick_f rfl (by first | assumption | exact decide_eq_false (by omega) | exact dec_notF (by omega)) rfl) ?_) | (refine is_pk ?_; refine lw_pure rfl (pv_pick rfl rfl rfl) ?_) | (refine lw_pure rfl (pv_extract rfl rfl) ?_))
  refine lw_bsN (vs := [.int .i64 2]) (cs := [.int .i64 2]) elemI rfl rfl rfl (by omega) (by omega) rfl (by simp [Value.cells]) ?_; intro BD u31 hBD HX hb
  have hne : ∀ q, v21.ownBlock = some q → q ≠ BD := fun q hq e => by have := (hlt q hq).2; have := hw.size; omega
  have hs := grow_trans hw hb
  replace hT := grow_trans hT hs
  replace HO := HO.mono hs
  have HD : SlR encI 1 u31 (some ⟨BD, 0, none⟩) 1 [2] := HX.slR (xs := [2]) encI_len rfl (by omega)
  clear HX hw hs hb hBD hlt
  have hw := Below.refl u31.heap.size u31
  repeat' (first | (refine lw_pure rfl (pv_move rfl) ?_) | (refine lw_pure rfl (pv_assign rfl) ?_) | (refine lw_call (f := 6) (by kernel_rfl) rfl rfl (evnew_c 12 _ 1 1 _) ?_; rintro e w1 ⟨rfl, hb⟩; refine ⟨_, rfl, ?_⟩; replace hw := grow_trans hw hb; clear hb) | (refine is_cw ?_; first | (refine cw_seq ?_) | (refine cw_region ?_) | (refine cw_ret ?_)) | (refine is_qw ?_; first | (with_reducible refine qw_then ?_) | (with_reducible refine qw_then_ret ?_)) | (refine lw_nil ?_) | (refine is_guarded ?_; first | (refine lw_not rfl rfl rfl rfl ?_) | (refine lw_not_u rfl rfl rfl ?_) | (refine lw_on rfl rfl rfl ?_)) | ((refine is_bin ?_; first | (refine lw_pure rfl (pv_eql rfl rfl) ?_))) | ((refine is_load ?_; first | (refine lw_pure rfl (pv_load (t1 rfl) rfl (by first | fail)) ?_) | (refine lw_pure rfl (pv_loada (tA rfl) rfl (by first | fail) (by rfl)) ?_))) | ((refine is_ia ?_; first | (refine lw_pure rfl (pv_ian (tS rfl) rfl rfl (by omega)) ?_) | (refine lw_pure rfl (pv_ia (tS rfl) rfl rfl (by omega)) ?_))) | ((refine is_bi ?_; first | (refine lw_pure rfl (pv_lenl (tS rfl) rfl) ?_) | (refine lw_pure rfl (pv_lens (tStr rfl) rfl) ?_))) | ((refine is_bd ?_; first | (refine lw_pure rfl (tyB_34 rfl rfl rfl) ?_))) | (refine is_pk ?_; refine lw_pure rfl (pv_pick_t rfl rfl rfl) ?_) | (refine is_pk ?_; refine lw_pure rfl (pv_pick_f rfl rfl rfl) ?_) | (refine is_pk ?_; refine lw_pure rfl (pv_pick_t rfl (by first | assumption | exact decide_eq_true (by omega) | exact dec_notT (by omega)) rfl) ?_) | (refine is_pk ?_; refine lw_pure rfl (pv_pick_f rfl (by first | assumption | exact decide_eq_false (by omega) | exact dec_notF (by omega)) rfl) ?_) | (refine is_pk ?_; refine lw_pure rfl (pv_pick rfl rfl rfl) ?_) | (refine lw_pure rfl (pv_extract rfl rfl) ?_))
  obtain ⟨xD, hD⟩ : ∃ x : EvC, x = ⟨3, 12, some ⟨BD, 0, none⟩, 1, 1, none, 0, 0⟩ := ⟨_, rfl⟩
  refine lw_bsN (vs := [.agg (encV xD).toArray]) (cs := encV xD) elemV rfl rfl (by subst hD; rfl) (by omega) (by omega) rfl (by simp [Value.cells]) ?_; intro B5 u41 _ HX hb
  have hs := grow_trans hw hb
  replace hT := grow_trans hT hs
  replace HO := HO.mono hs
  replace HD := HD.mono hs
  clear hw hb hs
  have hw := Below.refl u41.heap.size u41
  repeat' (first | (refine lw_pure rfl (pv_move rfl) ?_) | (refine lw_pure rfl (pv_assign rfl) ?_) | (refine is_cw ?_; first | (refine cw_seq ?_) | (refine cw_region ?_) | (refine cw_ret ?_)) | (refine is_qw ?_; first | (with_reducible refine qw_then ?_) | (with_reducible refine qw_then_ret ?_)) | (refine lw_nil ?_) | (refine is_guarded ?_; first | (refine lw_not rfl rfl rfl rfl ?_) | (refine lw_not_u rfl rfl rfl ?_) | (refine lw_on rfl rfl rfl ?_)) | ((refine is_bin ?_; first | (refine lw_pure rfl (pv_eql rfl rfl) ?_))) | ((refine is_load ?_; first | (refine lw_pure rfl (pv_load (t1 rfl) rfl (by first | fail)) ?_) | (refine lw_pure rfl (pv_loada (tA rfl) rfl (by first | fail) (by rfl)) ?_))) | ((refine is_ia ?_; first | (refine lw_pure rfl (pv_ian (tS rfl) rfl rfl (by omega)) ?_) | (refine lw_pure rfl (pv_ia (tS rfl) rfl rfl (by omega)) ?_))) | ((refine is_bi ?_; first | (refine lw_pure rfl (pv_lenl (tS rfl) rfl) ?_) | (refine lw_pure rfl (pv_lens (tStr rfl) rfl) ?_))) | ((refine is_bd ?_; first | (refine lw_pure rfl (tyB_34 rfl rfl rfl) ?_))) | (refine is_pk ?_; refine lw_pure rfl (pv_pick_t rfl rfl rfl) ?_) | (refine is_pk ?_; refine lw_pure rfl (pv_pick_f rfl rfl rfl) ?_) | (refine is_pk ?_; refine lw_pure rfl (pv_pick_t rfl (by first | assumption | exact decide_eq_true (by omega) | exact dec_notT (by omega)) rfl) ?_) | (refine is_pk ?_; refine lw_pure rfl (pv_pick_f rfl (by first | assumption | exact decide_eq_false (by omega) | exact dec_notF (by omega)) rfl) ?_) | (refine is_pk ?_; refine lw_pure rfl (pv_pick rfl rfl rfl) ?_) | (refine lw_pure rfl (pv_extract rfl rfl) ?_))
  refine lw_app elemV encV_len encV_one rfl rfl rfl (HO.mono hw) ((HX.slR (xs := [xD]) encV_len rfl (by simp)).mono hw) rfl (grow_trans hT hw).size (by simp) (by simp [maxLen]) ?_; intro v31 u51 HO3 hg hb9
  replace hT := (grow_trans hT hw).trans hb9
  replace HD := (HD.mono hw).grown hg (fun ad had e => by injection had with had; subst had; exact hne _ e.symm rfl)
  have HE : EvR u51 xD wkD := by subst hD; exact ⟨rfl, rfl, rfl, rfl, HD, SlR.nil _, by decide, tx_nil⟩
  clear HO hg hb9 hw HX HD hne hD
  replace hW := grow_trans hW hT
  replace hK := hK.mono hT; replace HA := HA.mono hT; replace HB := HB.mono hT; replace HC := HC.mono hT; replace HV := HV.mono hT; replace HP := HP.mono hT
  obtain ⟨qa, qc, rfl, HQ, -⟩ := Own.slR encV_len HO3
  clear hT HO3
  have hw := Below.refl u51.heap.size u51
  repeat' (first | (refine lw_pure rfl (pv_move rfl) ?_) | (refine lw_pure rfl (pv_assign rfl) ?_) | (refine is_cw ?_; first | (refine cw_seq ?_) | (refine cw_region ?_) | (refine cw_ret ?_)) | (refine is_qw ?_; first | (with_reducible refine qw_then ?_) | (with_reducible refine qw_then_ret ?_)) | (refine lw_nil ?_) | (refine is_guarded ?_; first | (refine lw_not rfl rfl rfl rfl ?_) | (refine lw_not_u rfl rfl rfl ?_) | (refine lw_on rfl rfl rfl ?_)) | ((refine is_bin ?_; first | (refine lw_pure rfl (pv_eql rfl rfl) ?_))) | ((refine is_load ?_; first | (refine lw_pure rfl (pv_load (t1 rfl) rfl (by first | fail)) ?_) | (refine lw_pure rfl (pv_loada (tA rfl) rfl (by first | fail) (by rfl)) ?_))) | ((refine is_ia ?_; first | (refine lw_pure rfl (pv_ian (tS rfl) rfl rfl (by omega)) ?_) | (refine lw_pure rfl (pv_ia (tS rfl) rfl rfl (by omega)) ?_))) | ((refine is_bi ?_; first | (refine lw_pure rfl (pv_lenl (tS rfl) rfl) ?_) | (refine lw_pure rfl (pv_lens (tStr rfl) rfl) ?_))) | ((refine is_bd ?_; first | (refine lw_pure rfl (tyB_34 rfl rfl rfl) ?_))) | (refine is_pk ?_; refine lw_pure rfl (pv_pick_t rfl rfl rfl) ?_) | (refine is_pk ?_; refine lw_pure rfl (pv_pick_f rfl rfl rfl) ?_) | (refine is_pk ?_; refine lw_pure rfl (pv_pick_t rfl (by first | assumption | exact decide_eq_true (by omega) | exact dec_notT (by omega)) rfl) ?_) | (refine is_pk ?_; refine lw_pure rfl (pv_pick_f rfl (by first | assumption | exact decide_eq_false (by omega) | exact dec_notF (by omega)) rfl) ?_) | (refine is_pk ?_; refine lw_pure rfl (pv_pick rfl rfl rfl) ?_) | (refine lw_pure rfl (pv_extract rfl rfl) ?_))
  refine lw_call (f := 7) (by kernel_rfl) rfl rfl (run_c (es := [wkA, wkB, wkC, wkD]) rfl (HQ.mono hw) ((evs_cons HA (evs_cons HB (evs_cons HC (evs_cons HE (evs_nil _))))).mono hw) (hK.mono hw)) ?_; rintro e1 u61 ⟨⟨vo1, vt1, rfl, -, -⟩, hb⟩; refine ⟨_, rfl, ?_⟩
  rw [wk2]
  have hs := grow_trans hw hb; replace hW := grow_trans hW hs; replace hK := hK.mono hs; replace HA := HA.mono hs; replace HB := HB.mono hs; replace HC := HC.mono hs; replace HV := HV.mono hs; replace HP := HP.mono hs
  clear hw hb hs HE HQ
  have hw := Below.refl u61.heap.size u61
  repeat' (first | (refine lw_pure rfl (pv_move rfl) ?_) | (refine lw_pure rfl (pv_assign rfl) ?_) | (refine is_cw ?_; first | (refine cw_seq ?_) | (refine cw_region ?_) | (refine cw_ret ?_)) | (refine is_qw ?_; first | (with_reducible refine qw_then ?_) | (with_reducible refine qw_then_ret ?_)) | (refine lw_nil ?_) | (refine is_guarded ?_; first | (refine lw_not rfl rfl rfl rfl ?_) | (refine lw_not_u rfl rfl rfl ?_) | (refine lw_on rfl rfl rfl ?_)) | ((refine is_bin ?_; first | (refine lw_pure rfl (pv_eql rfl rfl) ?_))) | ((refine is_load ?_; first | (refine lw_pure rfl (pv_load (t1 rfl) rfl (by first | fail)) ?_) | (refine lw_pure rfl (pv_loada (tA rfl) rfl (by first | fail) (by rfl)) ?_))) | ((refine is_ia ?_; first | (refine lw_pure rfl (pv_ian (tS rfl) rfl rfl (by omega)) ?_) | (refine lw_pure rfl (pv_ia (tS rfl) rfl rfl (by omega)) ?_))) | ((refine is_bi ?_; first | (refine lw_pure rfl (pv_lenl (tS rfl) rfl) ?_) | (refine lw_pure rfl (pv_lens (tStr rfl) rfl) ?_))) | ((refine is_bd ?_; first | (refine lw_pure rfl (tyB_34 rfl rfl rfl) ?_))) | (refine is_pk ?_; refine lw_pure rfl (pv_pick_t rfl rfl rfl) ?_) | (refine is_pk ?_; refine lw_pure rfl (pv_pick_f rfl rfl rfl) ?_) | (refine is_pk ?_; refine lw_pure rfl (pv_pick_t rfl (by first | assumption | exact decide_eq_true (by omega) | exact dec_notT (by omega)) rfl) ?_) | (refine is_pk ?_; refine lw_pure rfl (pv_pick_f rfl (by first | assumption | exact decide_eq_false (by omega) | exact dec_notF (by omega)) rfl) ?_) | (refine is_pk ?_; refine lw_pure rfl (pv_pick rfl rfl rfl) ?_) | (refine lw_pure rfl (pv_extract rfl rfl) ?_))
  refine lw_bs0 (enc := encV) elemV rfl ?_; intro u12 HO hb hz
  have hT := grow_trans hw hb
  clear hz hw
  have hw := Below.refl u12.heap.size u12
  repeat' (first | (refine lw_pure rfl (pv_move rfl) ?_) | (refine lw_pure rfl (pv_assign rfl) ?_) | (refine is_cw ?_; first | (refine cw_seq ?_) | (refine cw_region ?_) | (refine cw_ret ?_)) | (refine is_qw ?_; first | (with_reducible refine qw_then ?_) | (with_reducible refine qw_then_ret ?_)) | (refine lw_nil ?_) | (refine is_guarded ?_; first | (refine lw_not rfl rfl rfl rfl ?_) | (refine lw_not_u rfl rfl rfl ?_) | (refine lw_on rfl rfl rfl ?_)) | ((refine is_bin ?_; first | (refine lw_pure rfl (pv_eql rfl rfl) ?_))) | ((refine is_load ?_; first | (refine lw_pure rfl (pv_load (t1 rfl) rfl (by first | fail)) ?_) | (refine lw_pure rfl (pv_loada (tA rfl) rfl (by first | fail) (by rfl)) ?_))) | ((refine is_ia ?_; first | (refine lw_pure rfl (pv_ian (tS rfl) rfl rfl (by omega)) ?_) | (refine lw_pure rfl (pv_ia (tS rfl) rfl rfl (by omega)) ?_))) | ((refine is_bi ?_; first | (refine lw_pure rfl (pv_lenl (tS rfl) rfl) ?_) | (refine lw_pure rfl (pv_lens (tStr rfl) rfl) ?_))) | ((refine is_bd ?_; first | (refine lw_pure rfl (tyB_34 rfl rfl rfl) ?_))) | (refine is_pk ?_; refine lw_pure rfl (pv_pick_t rfl rfl rfl) ?_) | (refine is_pk ?_; refine lw_pure rfl (pv_pick_f rfl rfl rfl) ?_) | (refine is_pk ?_; refine lw_pure rfl (pv_pick_t rfl (by first | assumption | exact decide_eq_true (by omega) | exact dec_notT (by omega)) rfl) ?_) | (refine is_pk ?_; refine lw_pure rfl (pv_pick_f rfl (by first | assumption | exact decide_eq_false (by omega) | exact dec_notF (by omega)) rfl) ?_) | (refine is_pk ?_; refine lw_pure rfl (pv_pick rfl rfl rfl) ?_) | (refine lw_pure rfl (pv_extract rfl rfl) ?_))
  refine lw_app elemV encV_len encV_one rfl rfl rfl (HO.mono hw) (HV.mono (grow_trans hT hw)) rfl (grow_trans hT hw).size (by simp) (by simp [maxLen]) ?_; intro v22 u22 HO2 hg hb9
  replace hT := (grow_trans hT hw).trans hb9
  clear HO hg hb9 hw hb
  have HO := HO2
  clear HO2
  have hlt := Own.lt HO
  have hw := Below.refl u22.heap.size u22
  repeat' (first | (refine lw_pure rfl (pv_move rfl) ?_) | (refine lw_pure rfl (pv_assign rfl) ?_) | (refine is_cw ?_; first | (refine cw_seq ?_) | (refine cw_region ?_) | (refine cw_ret ?_)) | (refine is_qw ?_; first | (with_reducible refine qw_then ?_) | (with_reducible refine qw_then_ret ?_)) | (refine lw_nil ?_) | (refine is_guarded ?_; first | (refine lw_not rfl rfl rfl rfl ?_) | (refine lw_not_u rfl rfl rfl ?_) | (refine lw_on rfl rfl rfl ?_)) | ((refine is_bin ?_; first | (refine lw_pure rfl (pv_eql rfl rfl) ?_))) | ((refine is_load ?_; first | (refine lw_pure rfl (pv_load (t1 rfl) rfl (by first | fail)) ?_) | (refine lw_pure rfl (pv_loada (tA rfl) rfl (by first | fail) (by rfl)) ?_))) | ((refine is_ia ?_; first | (refine lw_pure rfl (pv_ian (tS rfl) rfl rfl (by omega)) ?_) | (refine lw_pure rfl (pv_ia (tS rfl) rfl rfl (by omega)) ?_))) | ((refine is_bi ?_; first | (refine lw_pure rfl (pv_lenl (tS rfl) rfl) ?_) | (refine lw_pure rfl (pv_lens (tStr rfl) rfl) ?_))) | ((refine is_bd ?_; first | (refine lw_pure rfl (tyB_34 rfl rfl rfl) ?_))) | (refine is_pk ?_; refine lw_pure rfl (pv_pick_t rfl rfl rfl) ?_) | (refine is_pk ?_; refine lw_pure rfl (pv_pick_f rfl rfl rfl) ?_) | (refine is_pk ?_; refine lw_pure rfl (pv_pick_t rfl (by first | assumption | exact decide_eq_true (by omega) | exact dec_notT (by omega)) rfl) ?_) | (refine is_pk ?_; refine lw_pure rfl (pv_pick_f rfl (by first | assumption | exact decide_eq_false (by omega) | exact dec_notF (by omega)) rfl) ?_) | (refine is_pk ?_; refine lw_pure rfl (pv_pick rfl rfl rfl) ?_) | (refine lw_pure rfl (pv_extract rfl rfl) ?_))
  refine lw_bsN (vs := [.int .i64 1, .int .i64 1, .int .i64 10, .int .i64 1, .int .i64 0]) (cs := [.int .i64 1, .int .i64 1, .int .i64 10, .int .i64 1, .int .i64 0]) elemI rfl rfl rfl (by omega) (by omega) rfl (by simp [Value.cells]) ?_; intro BD u32 hBD HX hb
  have hne : ∀ q, v22.ownBlock = some q → q ≠ BD := fun q hq e => by have := (hlt q hq).2; have := hw.size; omega
  have hs := grow_trans hw hb
  replace hT := grow_trans hT hs
  replace HO := HO.mono hs
  have HD : SlR encI 1 u32 (some ⟨BD, 0, none⟩) 5 [1, 1, 10, 1, 0] := HX.slR (xs := [1, 1, 10, 1, 0]) encI_len rfl (by omega)
  clear HX hw hs hb hBD hlt
  have hw := Below.refl u32.heap.size u32
  repeat' (first | (refine lw_pure rfl (pv_move rfl) ?_) | (refine lw_pure rfl (pv_assign rfl) ?_) | (refine lw_call (f := 6) (by kernel_rfl) rfl rfl (evnew_c 13 _ 5 5 _) ?_; rintro e w1 ⟨rfl, hb⟩; refine ⟨_, rfl, ?_⟩; replace hw := grow_trans hw hb; clear hb) | (refine is_cw ?_; first | (refine cw_seq ?_) | (refine cw_region ?_) | (refine cw_ret ?_)) | (refine is_qw ?_; first | (with_reducible refine qw_then ?_) | (with_reducible refine qw_then_ret ?_)) | (refine lw_nil ?_) | (refine is_guarded ?_; first | (refine lw_not rfl rfl rfl rfl ?_) | (refine lw_not_u rfl rfl rfl ?_) | (refine lw_on rfl rfl rfl ?_)) | ((refine is_bin ?_; first | (refine lw_pure rfl (pv_eql rfl rfl) ?_))) | ((refine is_load ?_; first | (refine lw_pure rfl (pv_load (t1 rfl) rfl (by first | fail)) ?_) | (refine lw_pure rfl (pv_loada (tA rfl) rfl (by first | fail) (by rfl)) ?_))) | ((refine is_ia ?_; first | (refine lw_pure rfl (pv_ian (tS rfl) rfl rfl (by omega)) ?_) | (refine lw_pure rfl (pv_ia (tS rfl) rfl rfl (by omega)) ?_))) | ((refine is_bi ?_; first | (refine lw_pure rfl (pv_lenl (tS rfl) rfl) ?_) | (refine lw_pure rfl (pv_lens (tStr rfl) rfl) ?_))) | ((refine is_bd ?_; first | (refine lw_pure rfl (tyB_34 rfl rfl rfl) ?_))) | (refine is_pk ?_; refine lw_pure rfl (pv_pick_t rfl rfl rfl) ?_) | (refine is_pk ?_; refine lw_pure rfl (pv_pick_f rfl rfl rfl) ?_) | (refine is_pk ?_; refine lw_pure rfl (pv_pick_t rfl (by first | assumption | exact decide_eq_true (by omega) | exact dec_notT (by omega)) rfl) ?_) | (refine is_pk ?_; refine lw_pure rfl (pv_pick_f rfl (by first | assumption | exact decide_eq_false (by omega) | exact dec_notF (by omega)) rfl) ?_) | (refine is_pk ?_; refine lw_pure rfl (pv_pick rfl rfl rfl) ?_) | (refine lw_pure rfl (pv_extract rfl rfl) ?_))
  obtain ⟨xD, hD⟩ : ∃ x : EvC, x = ⟨3, 13, some ⟨BD, 0, none⟩, 5, 5, none, 0, 0⟩ := ⟨_, rfl⟩
  refine lw_bsN (vs := [.agg (encV xD).toArray]) (cs := encV xD) elemV rfl rfl (by subst hD; rfl) (by omega) (by omega) rfl (by simp [Value.cells]) ?_; intro B5 u42 _ HX hb
  have hs := grow_trans hw hb
  replace hT := grow_trans hT hs
  replace HO := HO.mono hs
  replace HD := HD.mono hs
  clear hw hb hs
  have hw := Below.refl u42.heap.size u42
  repeat' (first | (refine lw_pure rfl (pv_move rfl) ?_) | (refine lw_pure rfl (pv_assign rfl) ?_) | (refine is_cw ?_; first | (refine cw_seq ?_) | (refine cw_region ?_) | (refine cw_ret ?_)) | (refine is_qw ?_; first | (with_reducible refine qw_then ?_) | (with_reducible refine qw_then_ret ?_)) | (refine lw_nil ?_) | (refine is_guarded ?_; first | (refine lw_not rfl rfl rfl rfl ?_) | (refine lw_not_u rfl rfl rfl ?_) | (refine lw_on rfl rfl rfl ?_)) | ((refine is_bin ?_; first | (refine lw_pure rfl (pv_eql rfl rfl) ?_))) | ((refine is_load ?_; first | (refine lw_pure rfl (pv_load (t1 rfl) rfl (by first | fail)) ?_) | (refine lw_pure rfl (pv_loada (tA rfl) rfl (by first | fail) (by rfl)) ?_))) | ((refine is_ia ?_; first | (refine lw_pure rfl (pv_ian (tS rfl) rfl rfl (by omega)) ?_) | (refine lw_pure rfl (pv_ia (tS rfl) rfl rfl (by omega)) ?_))) | ((refine is_bi ?_; first | (refine lw_pure rfl (pv_lenl (tS rfl) rfl) ?_) | (refine lw_pure rfl (pv_lens (tStr rfl) rfl) ?_))) | ((refine is_bd ?_; first | (refine lw_pure rfl (tyB_34 rfl rfl rfl) ?_))) | (refine is_pk ?_; refine lw_pure rfl (pv_pick_t rfl rfl rfl) ?_) | (refine is_pk ?_; refine lw_pure rfl (pv_pick_f rfl rfl rfl) ?_) | (refine is_pk ?_; refine lw_pure rfl (pv_pick_t rfl (by first | assumption | exact decide_eq_true (by omega) | exact dec_notT (by omega)) rfl) ?_) | (refine is_pk ?_; refine lw_pure rfl (pv_pick_f rfl (by first | assumption | exact decide_eq_false (by omega) | exact dec_notF (by omega)) rfl) ?_) | (refine is_pk ?_; refine lw_pure rfl (pv_pick rfl rfl rfl) ?_) | (refine lw_pure rfl (pv_extract rfl rfl) ?_))
  refine lw_app elemV encV_len encV_one rfl rfl rfl (HO.mono hw) ((HX.slR (xs := [xD]) encV_len rfl (by simp)).mono hw) rfl (grow_trans hT hw).size (by simp) (by simp [maxLen]) ?_; intro v32 u52 HO3 hg hb9
  replace hT := (grow_trans hT hw).trans hb9
  replace HD := (HD.mono hw).grown hg (fun ad had e => by injection had with had; subst had; exact hne _ e.symm rfl)
  have HE : EvR u52 xD wkE := by subst hD; exact ⟨rfl, rfl, rfl, rfl, HD, SlR.nil _, by decide, tx_nil⟩
  clear HO hg hb9 hw HX HD hne hD
  replace hW := grow_trans hW hT
  replace hK := hK.mono hT; replace HA := HA.mono hT; replace HB := HB.mono hT; replace HC := HC.mono hT; replace HV := HV.mono hT; replace HP := HP.mono hT
  obtain ⟨qa, qc, rfl, HQ, -⟩ := Own.slR encV_len HO3
  clear hT HO3
  have hw := Below.refl u52.heap.size u52
  repeat' (first | (refine lw_pure rfl (pv_move rfl) ?_) | (refine lw_pure rfl (pv_assign rfl) ?_) | (refine is_cw ?_; first | (refine cw_seq ?_) | (refine cw_region ?_) | (refine cw_ret ?_)) | (refine is_qw ?_; first | (with_reducible refine qw_then ?_) | (with_reducible refine qw_then_ret ?_)) | (refine lw_nil ?_) | (refine is_guarded ?_; first | (refine lw_not rfl rfl rfl rfl ?_) | (refine lw_not_u rfl rfl rfl ?_) | (refine lw_on rfl rfl rfl ?_)) | ((refine is_bin ?_; first | (refine lw_pure rfl (pv_eql rfl rfl) ?_))) | ((refine is_load ?_; first | (refine lw_pure rfl (pv_load (t1 rfl) rfl (by first | fail)) ?_) | (refine lw_pure rfl (pv_loada (tA rfl) rfl (by first | fail) (by rfl)) ?_))) | ((refine is_ia ?_; first | (refine lw_pure rfl (pv_ian (tS rfl) rfl rfl (by omega)) ?_) | (refine lw_pure rfl (pv_ia (tS rfl) rfl rfl (by omega)) ?_))) | ((refine is_bi ?_; first | (refine lw_pure rfl (pv_lenl (tS rfl) rfl) ?_) | (refine lw_pure rfl (pv_lens (tStr rfl) rfl) ?_))) | ((refine is_bd ?_; first | (refine lw_pure rfl (tyB_34 rfl rfl rfl) ?_))) | (refine is_pk ?_; refine lw_pure rfl (pv_pick_t rfl rfl rfl) ?_) | (refine is_pk ?_; refine lw_pure rfl (pv_pick_f rfl rfl rfl) ?_) | (refine is_pk ?_; refine lw_pure rfl (pv_pick_t rfl (by first | assumption | exact decide_eq_true (by omega) | exact dec_notT (by omega)) rfl) ?_) | (refine is_pk ?_; refine lw_pure rfl (pv_pick_f rfl (by first | assumption | exact decide_eq_false (by omega) | exact dec_notF (by omega)) rfl) ?_) | (refine is_pk ?_; refine lw_pure rfl (pv_pick rfl rfl rfl) ?_) | (refine lw_pure rfl (pv_extract rfl rfl) ?_))
  refine lw_call (f := 7) (by kernel_rfl) rfl rfl (run_c (es := [wkA, wkB, wkC, wkE]) rfl (HQ.mono hw) ((evs_cons HA (evs_cons HB (evs_cons HC (evs_cons HE (evs_nil _))))).mono hw) (hK.mono hw)) ?_; rintro e1 u62 ⟨⟨vo2, vt2, rfl, -, -⟩, hb⟩; refine ⟨_, rfl, ?_⟩
  rw [wk3]
  have hs := grow_trans hw hb; replace hW := grow_trans hW hs; replace hK := hK.mono hs; replace HA := HA.mono hs; replace HB := HB.mono hs; replace HC := HC.mono hs; replace HV := HV.mono hs; replace HP := HP.mono hs
  clear hw hb hs HE HQ
  have hw := Below.refl u62.heap.size u62
  obtain ⟨pb, po, rfl, -, -⟩ := HP.at (by simp)
  have hx : [(⟨2, 1, 1, 1, 10, 2⟩ : Opn)][0]? = some ⟨2, 1, 1, 1, 10, 2⟩ := rfl
  have hl1 : ([(⟨2, 1, 1, 1, 10, 2⟩ : Opn)]).length = 1 := rfl
  rw [hl1]
  repeat' (first | (refine lw_pure rfl (pv_move rfl) ?_) | (refine lw_pure rfl (pv_assign rfl) ?_) | (refine is_cw ?_; first | (refine cw_seq ?_) | (refine cw_region ?_) | (refine cw_ret ?_)) | (refine is_qw ?_; first | (with_reducible refine qw_then ?_) | (with_reducible refine qw_then_ret ?_)) | (refine lw_nil ?_) | (refine is_guarded ?_; first | (refine lw_not rfl rfl rfl rfl ?_) | (refine lw_not_u rfl rfl rfl ?_) | (refine lw_on rfl rfl rfl ?_) | (refine lw_on rfl rfl (by first | assumption | exact decide_eq_true (by omega) | exact decide_eq_false (by omega) | exact dec_notT (by omega) | exact dec_notF (by omega)) ?_) | (refine lw_not rfl rfl rfl (by first | assumption | exact decide_eq_true (by omega) | exact decide_eq_false (by omega) | exact dec_notT (by omega) | exact dec_notF (by omega)) ?_) | (refine lw_gs_t rfl rfl rfl (fun hc => ?_) (fun hc => ?_) <;> (first | replace hc := of_decide_eq_true hc | replace hc := of_decide_eq_false hc | replace hc := dec_nT hc | replace hc := dec_nF hc | skip) <;> (try (exfalso; omega))) | (refine lw_gs_f rfl rfl rfl (fun hc => ?_) (fun hc => ?_) <;> (first | replace hc := of_decide_eq_true hc | replace hc := of_decide_eq_false hc | replace hc := dec_nT hc | replace hc := dec_nF hc | skip) <;> (try (exfalso; omega)))) | ((refine is_bin ?_; first | (refine lw_pure rfl (pv_eqlP wkO wkO rfl rfl) ?_) | (refine lw_pure rfl (pv_eql rfl rfl) ?_))) | ((refine is_load ?_; first | (refine lw_pure rfl (pv_load (t1 rfl) rfl (by first | exact SlR.ld (HP.mono hw) hx rfl | exact SlR.ld1 (HP.mono hw) hx rfl)) ?_) | (refine lw_pure rfl (pv_loada (tA rfl) rfl (by first | exact SlR.lda (HP.mono hw) hx) (by rfl)) ?_))) | ((refine is_ia ?_; first | (refine lw_pure rfl (pv_ian (tS rfl) rfl rfl (by omega)) ?_) | (refine lw_pure rfl (pv_ia (tS rfl) rfl rfl (by omega)) ?_))) | ((refine is_bi ?_; first | (refine lw_pure rfl (pv_lenl (tS rfl) rfl) ?_) | (refine lw_pure rfl (pv_lens (tStr rfl) rfl) ?_))) | ((refine is_bd ?_; first | (refine lw_pure rfl (tyB_34 rfl rfl rfl) ?_))) | (refine is_pk ?_; refine lw_pure rfl (pv_pick_t rfl rfl rfl) ?_) | (refine is_pk ?_; refine lw_pure rfl (pv_pick_f rfl rfl rfl) ?_) | (refine is_pk ?_; refine lw_pure rfl (pv_pick_t rfl (by first | assumption | exact decide_eq_true (by omega) | exact dec_notT (by omega)) rfl) ?_) | (refine is_pk ?_; refine lw_pure rfl (pv_pick_f rfl (by first | assumption | exact decide_eq_false (by omega) | exact dec_notF (by omega)) rfl) ?_) | (refine is_pk ?_; refine lw_pure rfl (pv_pick rfl rfl rfl) ?_) | (refine lw_pure rfl (pv_extract rfl rfl) ?_) | (refine is_cw ?_; refine cw_split rfl (fun hc => ?_) (fun hc => ?_) <;> (first | replace hc := of_decide_eq_true hc | replace hc := of_decide_eq_false hc | replace hc := dec_nT hc | replace hc := dec_nF hc | skip) <;> (try (exfalso; omega))))
  all_goals exact qw_ret1 rfl rfl ⟨rfl, grow_trans hW hw⟩
end Go.Proofs.YtkehmbgcglbffaaDoor
namespace Go.Proofs.YtkehmbgcglbffaaDoor
open Go.PlainAid Go.RowKit

theorem rsP_t {p : List Opn} {m n : Nat} {a b : Option Addr} {ca cb : Nat} {w : World} (hm : p.length = m) (hn : p.length = n) (HP : SlR encP 6 w a ca p) (HQ : SlR encP 6 w b cb p) : Calls Tryd.prog 9 #[.slice a m ca, .slice b n cb] w fun e w' => e = .returned (.bool true) ∧ Below w.heap.size w w' := by
  have h := rsame_P hm hn HP HQ
  rw [show decide (p = p) = true by simp] at h; exact h
theorem rsT_t {p : List Lt} {m n : Nat} {a b : Option Addr} {ca cb : Nat} {w : World} (hm : p.length = m) (hn : p.length = n) (HP : SlR encL 4 w a ca p) (HQ : SlR encL 4 w b cb p) : Calls Tryd.prog 10 #[.slice a m ca, .slice b n cb] w fun e w' => e = .returned (.bool true) ∧ Below w.heap.size w w' := by
  have h := rsame_L hm hn HP HQ
  rw [show decide (p = p) = true by simp] at h; exact h
theorem pv_bneqs2 {P : Program} {n : Nat} {l : Fr} {w : World} {d : Option Nat} {t t' ty : TypeId} {x y : Operand} {pos : String} {af : Array Edge} {g : Option (Nat × Bool)} {c : Bool} (ht : isT P t (fun x => x matches .bool) = true) (hx : ev l x = some (.bool c)) (hy : ev l y = some (.bool c)) : Pv P n l ⟨d, .binOp .neq t x y t', ty, pos, af, g⟩ (.bool false) w := by
  have := pv_bneq (n := n) (w := w) (d := d) (t' := t') (ty := ty) (pos := pos) (af := af) (g := g) ht hx hy
  simpa using this

theorem find_iff {p : List Opn} (hn : (p.map (·.id)).Nodup) {id : Int} {o : Opn} : findP p id = some o ↔ o ∈ p ∧ o.id = id := by
  constructor
  · intro h
    unfold findP at h
    exact ⟨List.mem_of_find?_eq_some h, by have := List.find?_some h; simpa using this⟩
  · rintro ⟨hm, rfl⟩
    cases h : findP p o.id with
    | none => exact absurd rfl (findP_none h o hm)
    | some x =>
      unfold findP at h
      have h1 := List.mem_of_find?_eq_some h
      have h2 := List.find?_some h
      rw [inj_of_nodup hn h1 hm (by simpa using h2)]
theorem findT_iff {t : List Lt} (hn : t.Pairwise keyT) {id : Int} {o : Lt} : findT t id = some o ↔ o ∈ t ∧ o.id = id := by
  have inj : ∀ {t : List Lt}, t.Pairwise keyT → ∀ x ∈ t, ∀ y ∈ t, x.id = y.id → x = y := by
    intro t
    induction t with
    | nil => intro _ x hx; cases hx
    | cons z r ih =>
      intro hp x hx y hy e
      obtain ⟨h1, h2⟩ := List.pairwise_cons.1 hp
      rcases List.mem_cons.1 hx with rfl | hx' <;> rcases List.mem_cons.1 hy with rfl | hy'
      · rfl
      · have := h1 y hy'; unfold keyT at this; omega
      · have := h1 x hx'; unfold keyT at this; omega
      · exact ih h2 x hx' y hy' e
  constructor
  · intro h
    unfold findT at h
    exact ⟨List.mem_of_find?_eq_some h, by have := List.find?_some h; simpa using this⟩
  · rintro ⟨hm, rfl⟩
    cases h : findT t o.id with
    | none => exact absurd rfl (findT_none h o hm)
    | some x =>
      unfold findT at h
      have h1 := List.mem_of_find?_eq_some h
      have h2 := List.find?_some h
      rw [inj hn x h1 o hm (by simpa using h2)]
/-! ### less of one, once more -/
theorem less_less {p : List Opn} {i j a b : Int} (hb : 0 ≤ b) : lessP (lessP p i a) j b = ((p.map (cutP i a)).map (cutP j b)).filter fun o => decide (0 < o.left) := by
  unfold lessP
  refine filter_map_filter _ _ _ fun x _ hx => ?_
  simp only [decide_eq_false_iff_not] at hx ⊢
  unfold cutP
  split
  · show ¬ 0 < x.left - b; omega
  · exact hx
theorem mem_less {p : List Opn} {i q : Int} {x : Opn} : x ∈ lessP p i q ↔ (∃ y ∈ p, cutP i q y = x) ∧ 0 < x.left := by
  unfold lessP; rw [List.mem_filter, List.mem_map, decide_eq_true_eq]
theorem cut_key {i q : Int} {a b : Opn} : keyO (cutP i q a) (cutP i q b) ↔ keyO a b := by
  have h : ∀ o : Opn, (cutP i q o).acct = o.acct ∧ (cutP i q o).id = o.id := fun o => by unfold cutP; split <;> exact ⟨rfl, rfl⟩
  unfold keyO
  rw [(h a).1, (h a).2, (h b).1, (h b).2]
theorem less_le (p : List Opn) (i q : Int) : (lessP p i q).length ≤ p.length := by
  unfold lessP; exact Nat.le_trans (List.length_filter_le _ _) (by simp)
theorem may_less {p : List Opn} {t : List Lt} {i q : Int} (h : MayV p t) (hq : 0 ≤ q) : MayV (lessP p i q) t := by
  obtain ⟨⟨h1, h2⟩, h3, h4, h5, h6, h7⟩ := h
  have hl := less_le p i q
  refine ⟨⟨by omega, h2⟩, ?_, h4, ?_, ?_, h7⟩
  · unfold lessP
    exact List.Pairwise.filter _ (List.pairwise_map.2 (h3.imp fun h => cut_key.2 h))
  · intro o ho
    obtain ⟨⟨y, hy, rfl⟩, hpos⟩ := mem_less.1 ho
    have hm := h5 y hy
    unfold MayO at hm ⊢
    unfold cutP at hpos ⊢
    split
    · rename_i e
      rw [if_pos e] at hpos
      replace hpos : 0 < y.left - q := hpos
      refine ⟨hm.1, hm.2.1, hm.2.2.1, hm.2.2.2.1, hm.2.2.2.2.1, ?_⟩
      show 1 ≤ y.left - q ∧ y.left - q ≤ 1048576; omega
    · exact hm
  · refine List.Nodup.sublist ?_ h6
    rw [← map_ids p i q]
    unfold lessP
    exact List.Sublist.map _ List.filter_sublist
theorem may_insP {p : List Opn} {t : List Lt} {o : Opn} (h : MayV p t) (hl : p.length ≠ 128) (ho : MayO o) (hf : findP p o.id = none) : MayV (insP p o) t := by
  obtain ⟨⟨h1, h2⟩, h3, h4, h5, h6, h7⟩ := h
  have hn := findP_none hf
  have hp := insP_perm o p
  refine ⟨⟨by rw [hp.length_eq, List.length_append, List.length_singleton]; omega, h2⟩, insP_pw h3 fun x hx => key_diff (hn x hx), h4, fun x hx => ?_, ?_, h7⟩
  · rcases List.mem_append.1 (hp.mem_iff.1 hx) with hx | hx
    · exact h5 x hx
    · rw [List.mem_singleton] at hx; subst hx; exact ho
  · rw [(hp.map (·.id)).nodup_iff, List.map_append, List.nodup_append]
    refine ⟨h6, by simp, fun a ha b hb => ?_⟩
    obtain ⟨y, hy, rfl⟩ := List.mem_map.1 ha
    simp at hb; subst hb
    exact hn y hy
theorem may_insT {p : List Opn} {t : List Lt} {o : Lt} (h : MayV p t) (hl : t.length ≠ 32) (ho : MayL o) (hf : findT t o.id = none) : MayV p (insT t o) := by
  obtain ⟨⟨h1, h2⟩, h3, h4, h5, h6, h7⟩ := h
  have hn := findT_none hf
  have hp := insT_perm o t
  refine ⟨⟨h1, by rw [hp.length_eq, List.length_append, List.length_singleton]; omega⟩, h3, insT_pw h4 fun x hx => keyT_diff (hn x hx), h5, h6, fun x hx => ?_⟩
  rcases List.mem_append.1 (hp.mem_iff.1 hx) with hx | hx
  · exact h7 x hx
  · rw [List.mem_singleton] at hx; subst hx; exact ho
theorem may_gone {p : List Opn} {t : List Lt} {id : Int} (h : MayV p t) : MayV p (gone t id) := by
  obtain ⟨⟨h1, h2⟩, h3, h4, h5, h6, h7⟩ := h
  have hs : (gone t id).Sublist t := List.filter_sublist
  exact ⟨⟨h1, Nat.le_trans hs.length_le h2⟩, h3, h4.sublist hs, h5, h6, fun x hx => h7 x (hs.subset hx)⟩
/-! ### what an event has left, and what is there -/
def leftS (id : Int) (n : Int) (e : Evt) : Int :=
  if e.kind = 11 then (if nth e 0 = id then nth e 5 else n) else if e.kind = 12 then (if nth e 0 = id then 0 else n)
  else if e.kind = 13 then (if nth e 0 = id ∨ nth e 1 = id then n - nth e 3 else n) else n
def leftN (es : List Evt) (id : Int) : Int := es.foldl (leftS id) 0
def thereS (id : Int) (b : Bool) (e : Evt) : Bool :=
  if e.kind = 14 ∨ e.kind = 16 then b || nth e 0 == id else if e.kind = 18 ∨ e.kind = 19 then b && !(nth e 0 == id) else b
def thereB (es : List Evt) (id : Int) : Bool := es.foldl (thereS id) false
theorem leftN_snoc (es : List Evt) (e : Evt) (id : Int) : leftN (es ++ [e]) id = leftS id (leftN es id) e := by unfold leftN; rw [List.foldl_append]; rfl
theorem thereB_snoc (es : List Evt) (e : Evt) (id : Int) : thereB (es ++ [e]) id = thereS id (thereB es id) e := by unfold thereB; rw [List.foldl_append]; rfl
def remP (p : List Opn) (id : Int) : Int := ((findP p id).map (·.left)).getD 0
theorem rem_cons (x : Opn) (p : List Opn) (id : Int) : remP (x :: p) id = if x.id = id then x.left else remP p id := by
  unfold remP findP
  by_cases h : x.id = id
  · rw [List.find?_cons_of_pos (by simp [h]), if_pos h]; rfl
  · rw [List.find?_cons_of_neg (by simp [h]), if_neg h]
theorem rem_zero {p : List Opn} {id : Int} (h : ∀ x ∈ p, x.id ≠ id) : remP p id = 0 := by
  induction p with
  | nil => rfl
  | cons x r ih => rw [rem_cons, if_neg (h x (by simp)), ih fun y hy => h y (List.mem_cons_of_mem _ hy)]
theorem rem_less {p : List Opn} {i q : Int} (hn : (p.map (·.id)).Nodup) (hl : ∀ x ∈ p, 0 < x.left) (hq : 0 ≤ q) (id : Int) : remP (lessP p i q) id = if i = id then max 0 (remP p id - q) else remP p id := by
  induction p with
  | nil =>
    have : remP ([] : List Opn) id = 0 := rfl
    rw [show lessP [] i q = [] from rfl, this]; split <;> omega
  | cons x r ih =>
    rw [List.map_cons, List.nodup_cons] at hn
    have ih' := ih hn.2 fun y hy => hl y (List.mem_cons_of_mem _ hy)
    have hx := hl x (by simp)
    have hr : ∀ id, x.id = id → remP r id = 0 := fun id e => rem_zero fun y hy e2 => hn.1 (List.mem_map.2 ⟨y, hy, by omega⟩)
    have hlr : lessP (x :: r) i q = if 0 < (cutP i q x).left then cutP i q x :: lessP r i q else lessP r i q := by
      unfold lessP
      rw [List.map_cons, List.filter_cons]
      by_cases h : 0 < (cutP i q x).left
      · rw [if_pos (by simpa using h), if_pos h]
      · rw [if_neg (by simpa using h), if_neg h]
    rw [hlr]
    have hcl : (cutP i q x).left = if x.id = i then x.left - q else x.left := by unfold cutP; split <;> rfl
    by_cases hp : 0 < (cutP i q x).left
    · rw [if_pos hp, rem_cons, rem_cons, cut_id, ih', hcl]
      by_cases e : x.id = id
      · rw [if_pos e, if_pos e]
        by_cases e2 : i = id
        · rw [if_pos (by omega), if_pos e2]
          rw [hcl, if_pos (by omega)] at hp
          omega
        · rw [if_neg (by omega), if_neg e2]
      · rw [if_neg e, if_neg e]
    · rw [if_neg hp, rem_cons, ih']
      rw [hcl] at hp
      by_cases e : x.id = i
      · rw [if_pos e] at hp
        by_cases e2 : i = id
        · have := hr id (by omega)
          rw [if_pos e2, if_pos (show x.id = id by omega)]; omega
        · rw [if_neg e2, if_neg e2, if_neg (by omega)]
      · rw [if_neg e] at hp; omega
theorem rem_ins {p : List Opn} {o : Opn} (hn : (p.map (·.id)).Nodup) (hf : findP p o.id = none) (hm : ((insP p o).map (·.id)).Nodup) (id : Int) : remP (insP p o) id = if o.id = id then o.left else remP p id := by
  have hp := insP_perm o p
  by_cases e : o.id = id
  · have : findP (insP p o) id = some o := (find_iff hm).2 ⟨hp.mem_iff.2 (by simp), e⟩
    rw [if_pos e]; unfold remP; rw [this]; rfl
  · rw [if_neg e]
    unfold remP
    congr 2
    cases h : findP p id with
    | some x =>
      obtain ⟨h1, h2⟩ := (find_iff hn).1 h
      exact (find_iff hm).2 ⟨hp.mem_iff.2 (List.mem_append_left _ h1), h2⟩
    | none =>
      have hx := findP_none h
      cases h2 : findP (insP p o) id with
      | none => rfl
      | some x =>
        obtain ⟨h3, h4⟩ := (find_iff hm).1 h2
        rcases List.mem_append.1 (hp.mem_iff.1 h3) with h3 | h3
        · exact absurd h4 (hx x h3)
        · rw [List.mem_singleton] at h3; subst h3; exact absurd h4 e
theorem there_ins {t : List Lt} {o : Lt} (hf : t.Pairwise keyT) (hm : (insT t o).Pairwise keyT) (id : Int) : (findT (insT t o) id).isSome = ((findT t id).isSome || o.id == id) := by
  have hp := insT_perm o t
  by_cases e : o.id = id
  · have : findT (insT t o) id = some o := (findT_iff hm).2 ⟨hp.mem_iff.2 (by simp), e⟩
    rw [this]; simp [e]
  · cases h : findT t id with
    | some x =>
      obtain ⟨h1, h2⟩ := (findT_iff hf).1 h
      rw [(findT_iff hm).2 ⟨hp.mem_iff.2 (List.mem_append_left _ h1), h2⟩]; simp
    | none =>
      have hx := findT_none h
      cases h2 : findT (insT t o) id with
      | none => simp [e]
      | some x =>
        obtain ⟨h3, h4⟩ := (findT_iff hm).1 h2
        rcases List.mem_append.1 (hp.mem_iff.1 h3) with h3 | h3
        · exact absurd h4 (hx x h3)
        · rw [List.mem_singleton] at h3; subst h3; exact absurd h4 e
theorem there_gone (t : List Lt) (i id : Int) : (findT (gone t i) id).isSome = ((findT t id).isSome && !(i == id)) := by
  induction t with
  | nil => simp [findT, gone]
  | cons x r ih =>
    unfold gone findT at ih ⊢
    rw [List.filter_cons]
    by_cases hx : x.id = i
    · rw [if_neg (by simp [hx]), ih]
      by_cases e : i = id
      · simp [e]
      · rw [List.find?_cons_of_neg (by simp [hx, e])]
    · rw [if_pos (by simp [hx])]
      by_cases e : x.id = id
      · have e2 : ¬ i = id := by omega
        rw [List.find?_cons_of_pos (by simp [e]), List.find?_cons_of_pos (by simp [e])]; simp [e2]
      · rw [List.find?_cons_of_neg (by simp [e]), List.find?_cons_of_neg (by simp [e]), ih]
/-! ### what comes of an event -/
structure GoodS (es : List Evt) (p : List Opn) (t : List Lt) : Prop where
  may : MayV p t
  left : ∀ id, leftN es id = remP p id
  there : ∀ id, thereB es id = (findT t id).isSome
theorem good_nil : GoodS [] [] [] := ⟨by decide, fun _ => rfl, fun _ => rfl⟩
theorem event_err {p : List Opn} {t : List Lt} {e : Evt} (h : (eventR p t e).2.2 ≠ 0) : (eventR p t e).1 = [] ∧ (eventR p t e).2.1 = [] := by
  by_cases hg : mayV p t = true ∧ e.v = 3 ∧ mayE e = true
  · rw [event_yes hg] at h ⊢
    rcases err_empty p t e with h1 | h1
    · exact absurd h1 h
    · exact h1
  · rw [event_no hg]; exact ⟨rfl, rfl⟩
theorem event_ok {p : List Opn} {t : List Lt} {e : Evt} (h : (eventR p t e).2.2 = 0) : (MayV p t ∧ e.v = 3 ∧ mayE e = true) ∧ eventR p t e = doneR p t e := by
  by_cases hg : mayV p t = true ∧ e.v = 3 ∧ mayE e = true
  · exact ⟨⟨mayV_iff.1 hg.1, hg.2⟩, event_yes hg⟩
  · rw [event_no hg] at h; cases h
theorem pos_left {p : List Opn} {t : List Lt} (h : MayV p t) : ∀ x ∈ p, 0 < x.left := fun x hx => by have := h.2.2.2.1 x hx; unfold MayO at this; omega
theorem done_cases {p : List Opn} {t : List Lt} {e : Evt} (_ : MayV p t) (hv : e.v = 3) (hE : mayE e = true) (h : (doneR p t e).2.2 = 0) :
    (e.kind = 11 ∧ ∃ o : Opn, MayO o ∧ o.id = nth e 0 ∧ o.left = nth e 5 ∧ findP p o.id = none ∧ p.length ≠ 128 ∧ doneR p t e = (insP p o, t, 0)) ∨
    (e.kind = 12 ∧ ∃ o : Opn, findP p (nth e 0) = some o ∧ doneR p t e = (lessP p (nth e 0) o.left, t, 0)) ∨
    (e.kind = 13 ∧ 1 ≤ nth e 3 ∧ ∃ a b : Opn, findP p (nth e 0) = some a ∧ findP p (nth e 1) = some b ∧ nth e 0 ≠ nth e 1 ∧ nth e 3 ≤ a.left ∧ nth e 3 ≤ b.left ∧ doneR p t e = (lessP (lessP p (nth e 0) (nth e 3)) (nth e 1) (nth e 3), t, 0)) ∨
    ((e.kind = 14 ∨ e.kind = 16) ∧ ∃ o : Lt, MayL o ∧ o.id = nth e 0 ∧ findT t o.id = none ∧ t.length ≠ 32 ∧ doneR p t e = (p, insT t o, 0)) ∨
    ((e.kind = 18 ∨ e.kind = 19) ∧ doneR p t e = (p, gone t (nth e 0), 0)) ∨
    ((e.kind ≠ 11 ∧ e.kind ≠ 12 ∧ e.kind ≠ 13 ∧ e.kind ≠ 14 ∧ e.kind ≠ 16 ∧ e.kind ≠ 18 ∧ e.kind ≠ 19) ∧ doneR p t e = (p, t, 0)) := by
  by_cases k1 : e.kind = 11
  · left
    refine ⟨k1, ?_⟩
    obtain ⟨n0, n1, n2, n3, n4, n5, hn, h0, h1, h2, h3, h4, h5⟩ := nums11 hE hv k1
    have hd : doneR p t e = placedR p t e := by unfold doneR; rw [if_pos k1]
    rw [hd] at h ⊢
    unfold placedR at h ⊢
    cases hf : findP p (nth e 0) with
    | some o => rw [hf] at h; cases h
    | none =>
      rw [hf] at h
      rw [if_neg (by simp)] at h ⊢
      by_cases hl : p.length = 128
      · rw [if_pos hl] at h; cases h
      · rw [if_neg hl]
        refine ⟨⟨nth e 1, nth e 0, nth e 2, nth e 3, nth e 4, nth e 5⟩, ?_, rfl, rfl, hf, hl, rfl⟩
        simp only [nth, hn, MayO]
        simp only [List.getD_cons_zero, List.getD_cons_succ]
        omega
  by_cases k2 : e.kind = 12
  · right; left
    refine ⟨k2, ?_⟩
    have hd : doneR p t e = cancelR p t e := by unfold doneR; rw [if_neg k1, if_pos k2]
    rw [hd] at h ⊢
    unfold cancelR at h ⊢
    cases hf : findP p (nth e 0) with
    | none => rw [hf] at h; cases h
    | some o => exact ⟨o, rfl, rfl⟩
  by_cases k3 : e.kind = 13
  · right; right; left
    obtain ⟨n0, n1, n2, n3, n4, hn, h0, h1, h2, h3, h4⟩ := nums13 hE hv k3
    refine ⟨k3, by simp only [nth, hn, List.getD_cons_zero, List.getD_cons_succ]; omega, ?_⟩
    have hd : doneR p t e = tradedR p t e := by unfold doneR; rw [if_neg k1, if_neg k2, if_pos k3]
    rw [hd] at h ⊢
    unfold tradedR at h ⊢
    cases hf : findP p (nth e 0) with
    | none => rw [hf] at h; cases h
    | some a =>
      cases hg : findP p (nth e 1) with
      | none => rw [hf, hg] at h; cases h
      | some b =>
        rw [hf, hg] at h
        dsimp only at h ⊢
        by_cases hc : nth e 0 = nth e 1 ∨ a.left < nth e 3 ∨ b.left < nth e 3
        · rw [if_pos hc] at h; cases h
        · rw [if_neg hc]
          exact ⟨a, b, rfl, rfl, fun e => hc (Or.inl e), by omega, by omega, rfl⟩
  by_cases k4 : e.kind = 14 ∨ e.kind = 16
  · right; right; right; left
    refine ⟨k4, ?_⟩
    obtain ⟨n0, n1, n2, n3, r, hn, h0, h1, h2, h3⟩ := nums14 hE hv k4
    have hd : doneR p t e = openedR p t e := by unfold doneR; rw [if_neg k1, if_neg k2, if_neg k3, if_pos k4]
    rw [hd] at h ⊢
    unfold openedR at h ⊢
    cases hf : findT t (nth e 0) with
    | some o => rw [hf] at h; cases h
    | none =>
      rw [hf] at h
      rw [if_neg (by simp)] at h ⊢
      by_cases hl : t.length = 32
      · rw [if_pos hl] at h; cases h
      · rw [if_neg hl]
        refine ⟨⟨nth e 0, nth e 1, nth e 2, nth e 3⟩, ?_, rfl, hf, hl, rfl⟩
        simp only [nth, hn, MayL]
        simp only [List.getD_cons_zero, List.getD_cons_succ]
        omega
  by_cases k5 : e.kind = 18 ∨ e.kind = 19
  · right; right; right; right; left
    refine ⟨k5, ?_⟩
    have hd : doneR p t e = goneR p t e := by unfold doneR; rw [if_neg k1, if_neg k2, if_neg k3, if_neg k4, if_pos k5]
    rw [hd] at h ⊢
    unfold goneR at h ⊢
    by_cases hf : (findT t (nth e 0)).isSome = true
    · rw [if_pos hf]
    · rw [if_neg hf] at h; cases h
  · right; right; right; right; right
    refine ⟨⟨k1, k2, k3, fun e => k4 (Or.inl e), fun e => k4 (Or.inr e), fun e => k5 (Or.inl e), fun e => k5 (Or.inr e)⟩, ?_⟩
    unfold doneR; rw [if_neg k1, if_neg k2, if_neg k3, if_neg k4, if_neg k5]
theorem event_may {p : List Opn} {t : List Lt} {e : Evt} (h : (eventR p t e).2.2 = 0) : MayV (eventR p t e).1 (eventR p t e).2.1 := by
  obtain ⟨⟨hM, hv, hE⟩, hd⟩ := event_ok h
  rw [hd] at h ⊢
  rcases done_cases hM hv hE h with ⟨_, o, h1, h2, h3, h4, h5, h6⟩ | ⟨_, o, h1, h2⟩ | ⟨_, hq, a, b, h1, h2, h3, h4, h5, h6⟩ | ⟨_, o, h1, h2, h3, h4, h5⟩ | ⟨_, h1⟩ | ⟨_, h1⟩
  · rw [h6]; exact may_insP hM h5 h1 h4
  · rw [h2]
    have := pos_left hM o ((find_iff hM.2.2.2.2.1).1 h1).1
    exact may_less hM (by omega)
  · rw [h6]; exact may_less (may_less hM (by omega)) (by omega)
  · rw [h5]; exact may_insT hM h4 h1 h3
  · rw [h1]; exact may_gone hM
  · rw [h1]; exact hM
theorem good_step {es : List Evt} {p : List Opn} {t : List Lt} {e : Evt} (hG : GoodS es p t) (h : (eventR p t e).2.2 = 0) : GoodS (es ++ [e]) (eventR p t e).1 (eventR p t e).2.1 := by
  have hM2 := event_may h
  obtain ⟨⟨hM, hv, hE⟩, hd⟩ := event_ok h
  refine ⟨hM2, fun id => ?_, fun id => ?_⟩
  · rw [leftN_snoc, hG.left]
    rw [hd] at h hM2 ⊢
    have hnd := hM.2.2.2.2.1
    have hpl := pos_left hM
    unfold leftS
    rcases done_cases hM hv hE h with ⟨hk, o, h1, h2, h3, h4, h5, h6⟩ | ⟨hk, o, h1, h2⟩ | ⟨hk, hq, a, b, h1, h2, h3, h4, h5, h6⟩ | ⟨hk, o, h1, h2, h3, h4, h5⟩ | ⟨hk, h1⟩ | ⟨hk, h1⟩
    · rw [h6] at hM2 ⊢
      rw [if_pos hk, rem_ins hnd h4 hM2.2.2.2.2.1, h2, h3]
    · rw [h2] at hM2 ⊢
      have ho := hpl o ((find_iff hnd).1 h1).1
      rw [if_neg (by omega), if_pos hk, rem_less hnd hpl (by omega)]
      by_cases e0 : nth e 0 = id
      · rw [if_pos e0, if_pos e0]
        have : remP p id = o.left := by unfold remP; rw [← e0, h1]; rfl
        omega
      · rw [if_neg e0, if_neg e0]
    · rw [h6] at hM2 ⊢
      have hM3 : MayV (lessP p (nth e 0) (nth e 3)) t := may_less hM (by omega)
      rw [if_neg (by omega), if_neg (by omega), if_pos hk, rem_less hM3.2.2.2.2.1 (pos_left hM3) (by omega), rem_less hnd hpl (by omega)]
      by_cases e0 : nth e 0 = id
      · have e1 : ¬ nth e 1 = id := by omega
        have : remP p id = a.left := by unfold remP; rw [← e0, h1]; rfl
        rw [if_pos (Or.inl e0), if_neg e1, if_pos e0]; omega
      · by_cases e1 : nth e 1 = id
        · have : remP p id = b.left := by unfold remP; rw [← e1, h2]; rfl
          rw [if_pos (Or.inr e1), if_pos e1, if_neg e0]; omega
        · rw [if_neg (by omega), if_neg e1, if_neg e0]
    · rw [h5, if_neg (by omega), if_neg (by omega), if_neg (by omega)]
    · rw [h1, if_neg (by omega), if_neg (by omega), if_neg (by omega)]
    · rw [h1, if_neg (by omega), if_neg (by omega), if_neg (by omega)]
  · rw [thereB_snoc, hG.there]
    rw [hd] at h hM2 ⊢
    unfold thereS
    rcases done_cases hM hv hE h with ⟨hk, o, h1, h2, h3, h4, h5, h6⟩ | ⟨hk, o, h1, h2⟩ | ⟨hk, hq, a, b, h1, h2, h3, h4, h5, h6⟩ | ⟨hk, o, h1, h2, h3, h4, h5⟩ | ⟨hk, h1⟩ | ⟨hk, h1⟩
    · rw [h6, if_neg (by omega), if_neg (by omega)]
    · rw [h2, if_neg (by omega), if_neg (by omega)]
    · rw [h6, if_neg (by omega), if_neg (by omega)]
    · rw [h5] at hM2 ⊢
      rw [if_pos hk, there_ins hM.2.2.1 hM2.2.2.1, h2]
    · rw [h1, if_neg (by omega), if_pos hk, there_gone]
    · rw [h1, if_neg (by omega), if_neg (by omega)]
theorem good_find {es : List Evt} {p : List Opn} {t : List Lt} (hG : GoodS es p t) (id : Int) : (findP p id).isSome = decide (0 < leftN es id) ∧ ∀ o, findP p id = some o → o.left = leftN es id := by
  rw [hG.left]
  unfold remP
  cases h : findP p id with
  | none => simp
  | some o =>
    have := pos_left hG.may o ((find_iff hG.may.2.2.2.2.1).1 h).1
    simp [this]
/-! ### each account's own -/
theorem filter_two {α : Type} {A B : α → Bool} : ∀ {l : List α}, l.Pairwise (fun x y => ¬ (B x = true ∧ A y = true)) → (∀ x ∈ l, ¬ (A x = true ∧ B x = true)) → l.filter (fun x => A x || B x) = l.filter A ++ l.filter B
  | [], _, _ => rfl
  | x :: r, hp, hd => by
    obtain ⟨h1, h2⟩ := List.pairwise_cons.1 hp
    have ih := filter_two h2 fun y hy => hd y (List.mem_cons_of_mem _ hy)
    cases hA : A x with
    | true =>
      have hB : ¬ B x = true := fun hb => hd x (by simp) ⟨hA, hb⟩
      rw [List.filter_cons_of_pos (by simp [hA]), List.filter_cons_of_pos hA, List.filter_cons_of_neg hB, ih]; rfl
    | false =>
      cases hB : B x with
      | false => rw [List.filter_cons_of_neg (by simp [hA, hB]), List.filter_cons_of_neg (by simp [hA]), List.filter_cons_of_neg (by simp [hB]), ih]
      | true =>
        have hn : r.filter A = [] := List.filter_eq_nil_iff.2 fun y hy ha => h1 y hy ⟨hB, ha⟩
        rw [List.filter_cons_of_pos (by simp [hB]), List.filter_cons_of_neg (by simp [hA]), List.filter_cons_of_pos hB, ih, hn]; rfl
def partsP (p : List Opn) (k : Nat) : List Opn := p.filter fun o => decide (1 ≤ o.acct ∧ o.acct ≤ (k : Int))
theorem parts_succ {p : List Opn} (hp : p.Pairwise keyO) (k : Nat) : partsP p (k + 1) = partsP p k ++ ofP p ((k : Int) + 1) := by
  unfold partsP ofP
  rw [← filter_two]
  · refine List.filter_congr fun x _ => ?_
    rw [Bool.eq_iff_iff]
    simp only [decide_eq_true_eq, Bool.or_eq_true, beq_iff_eq]
    omega
  · refine hp.imp fun {a b} h => ?_
    unfold keyO at h
    simp only [beq_iff_eq, decide_eq_true_eq]
    omega
  · intro x _
    simp only [beq_iff_eq, decide_eq_true_eq]
    omega
theorem parts_all {p : List Opn} (h : ∀ o ∈ p, MayO o) : partsP p 64 = p := List.filter_eq_self.2 fun x hx => by
  have := h x hx
  unfold MayO at this
  simp only [decide_eq_true_eq]
  omega
theorem parts_zero (p : List Opn) : partsP p 0 = [] := List.filter_eq_nil_iff.2 fun x _ => by
  simp only [decide_eq_true_eq]
  omega
theorem parts_len (p : List Opn) (k : Nat) : (partsP p k).length ≤ p.length := List.length_filter_le _ _
/-! ### put and taken back -/
theorem fits_of {v c n lo hi : Int} (hb : boundR v c = some (lo, hi)) (h : lo ≤ n ∧ n ≤ hi) : fitsR v c n = true := by
  unfold fitsR bLo bHi bIs
  rw [hb]
  simpa using h
theorem all_mk {v c n : Int} {cs ns : List Int} (h1 : fitsR v c n = true) (h2 : allR v cs ns = true) : allR v (c :: cs) (n :: ns) = true := by
  unfold allR at h2 ⊢
  simp only [Bool.and_eq_true, decide_eq_true_eq] at h2
  simp only [List.zip_cons_cons, List.all_cons, Bool.and_eq_true, decide_eq_true_eq, List.length_cons]
  exact ⟨by omega, h1, h2.2⟩
theorem all_mk0 (v : Int) : allR v [] [] = true := rfl
theorem mayE_of {k : Int} {ns : List Int} {s : ByteArray} (hf : fieldsR 3 k = some (s, false)) (h : allR 3 (bytesI s) ns = true) : mayE ⟨3, k, ns, []⟩ = true := by
  rw [may_some (e := ⟨3, k, ns, []⟩) hf, h]; rfl
theorem may12 {n : Int} (h : 1 ≤ n ∧ n ≤ 1099511627776) : mayE ⟨3, 12, [n], []⟩ = true := mayE_of fld12 (all_mk (fits_of bnd_o h) (all_mk0 _))
theorem may19 {n : Int} (h : 1 ≤ n ∧ n ≤ 1099511627776) : mayE ⟨3, 19, [n], []⟩ = true := mayE_of fld19 (all_mk (fits_of bnd_c h) (all_mk0 _))
theorem may13 {a b c d e : Int} (ha : 1 ≤ a ∧ a ≤ 1099511627776) (hb : 1 ≤ b ∧ b ≤ 1099511627776) (hc : 1 ≤ c ∧ c ≤ 1073741824) (hd : 1 ≤ d ∧ d ≤ 1048576) (he : 0 ≤ e ∧ e ≤ 1125899906842624) : mayE ⟨3, 13, [a, b, c, d, e], []⟩ = true :=
  mayE_of fld13 (all_mk (fits_of bnd_o ha) (all_mk (fits_of bnd_o hb) (all_mk (fits_of bnd_p hc) (all_mk (fits_of bnd_q hd) (all_mk (fits_of bnd_z he) (all_mk0 _))))))
theorem less_perm {p q : List Opn} (h : p.Perm q) (i a : Int) : (lessP p i a).Perm (lessP q i a) := (h.map _).filter _
theorem less_ins {p : List Opn} {t : List Lt} {o : Opn} (hM : MayV p t) (hM2 : MayV (insP p o) t) (hf : findP p o.id = none) : lessP (insP p o) o.id o.left = p := by
  have ho : 0 < o.left := pos_left hM2 o ((insP_perm o p).mem_iff.2 (by simp))
  refine sortP_eq ((less_perm (insP_perm o p) _ _).trans ?_) (may_less hM2 (by omega)).2.1 hM.2.1
  have : lessP (p ++ [o]) o.id o.left = p := by
    unfold lessP
    rw [List.map_append, List.filter_append, map_other (findP_none hf), keep_pos (pos_left hM)]
    rw [List.map_cons, List.filter_cons_of_neg (by simp [cutP])]
    simp
  rw [this]
theorem gone_ins {p : List Opn} {t : List Lt} {o : Lt} (hM : MayV p t) (hM2 : MayV p (insT t o)) (hf : findT t o.id = none) : gone (insT t o) o.id = t := by
  refine sortT_eq (((insT_perm o t).filter _).trans ?_) (may_gone hM2).2.2.1 hM.2.2.1
  have : (t ++ [o]).filter (fun l => !(l.id == o.id)) = t := by
    rw [List.filter_append, List.filter_eq_self.2 fun x hx => by simpa using findT_none hf x hx, List.filter_cons_of_neg (by simp)]
    simp
  rw [this]
theorem back11 {p : List Opn} {t : List Lt} {e : Evt} (h : (eventR p t e).2.2 = 0) (hk : e.kind = 11) : eventR (eventR p t e).1 (eventR p t e).2.1 ⟨3, 12, [nth e 0], []⟩ = (p, t, 0) := by
  have hM2 := event_may h
  obtain ⟨⟨hM, hv, hE⟩, hd⟩ := event_ok h
  rw [hd] at h hM2 ⊢
  rcases done_cases hM hv hE h with ⟨_, o, h1, h2, h3, h4, h5, h6⟩ | ⟨k, _⟩ | ⟨k, _⟩ | ⟨k, _⟩ | ⟨k, _⟩ | ⟨k, _⟩ <;> try omega
  rw [h6] at hM2 ⊢
  dsimp only at hM2 ⊢
  have hf : findP (insP p o) (nth e 0) = some o := (find_iff hM2.2.2.2.2.1).2 ⟨(insP_perm o p).mem_iff.2 (by simp), h2⟩
  have hb : 1 ≤ nth e 0 ∧ nth e 0 ≤ 1099511627776 := by have := h1.2.1; omega
  rw [event_yes ⟨mayV_iff.2 hM2, rfl, may12 hb⟩]
  show cancelR (insP p o) t ⟨3, 12, [nth e 0], []⟩ = _
  unfold cancelR
  show (match findP (insP p o) (nth e 0) with | none => _ | some o => _) = _
  rw [hf]
  show (lessP (insP p o) (nth e 0) o.left, t, 0) = _
  rw [← h2, less_ins hM hM2 h4]
theorem back14 {p : List Opn} {t : List Lt} {e : Evt} (h : (eventR p t e).2.2 = 0) (hk : e.kind = 14 ∨ e.kind = 16) : eventR (eventR p t e).1 (eventR p t e).2.1 ⟨3, 19, [nth e 0], []⟩ = (p, t, 0) := by
  have hM2 := event_may h
  obtain ⟨⟨hM, hv, hE⟩, hd⟩ := event_ok h
  rw [hd] at h hM2 ⊢
  rcases done_cases hM hv hE h with ⟨k, _⟩ | ⟨k, _⟩ | ⟨k, _⟩ | ⟨_, o, h1, h2, h3, h4, h5⟩ | ⟨k, _⟩ | ⟨k, _⟩ <;> try omega
  rw [h5] at hM2 ⊢
  dsimp only at hM2 ⊢
  have hf : findT (insT t o) (nth e 0) = some o := (findT_iff hM2.2.2.1).2 ⟨(insT_perm o t).mem_iff.2 (by simp), h2⟩
  have hb : 1 ≤ nth e 0 ∧ nth e 0 ≤ 1099511627776 := by have := h1.1; omega
  rw [event_yes ⟨mayV_iff.2 hM2, rfl, may19 hb⟩]
  show goneR p (insT t o) ⟨3, 19, [nth e 0], []⟩ = _
  unfold goneR
  show (if (findT (insT t o) (nth e 0)).isSome = true then _ else _) = _
  rw [hf, if_pos (show (some o).isSome = true from rfl)]
  show (p, gone (insT t o) (nth e 0), 0) = _
  rw [← h2, gone_ins hM hM2 h3]
theorem find_less {p : List Opn} {t : List Lt} {i q : Int} (hM : MayV p t) (hq : 0 ≤ q) {id : Int} {o : Opn} (h : findP p id = some o) (hl : i ≠ id ∨ q < o.left) : findP (lessP p i q) id = some (cutP i q o) := by
  have hM2 := may_less (i := i) hM hq
  obtain ⟨h1, h2⟩ := (find_iff hM.2.2.2.2.1).1 h
  refine (find_iff hM2.2.2.2.2.1).2 ⟨mem_less.2 ⟨⟨o, h1, rfl⟩, ?_⟩, by rw [cut_id]; exact h2⟩
  have := pos_left hM o h1
  unfold cutP
  split
  · show 0 < o.left - q; omega
  · exact this
theorem parted13 {p : List Opn} {t : List Lt} {e : Evt} (h : (eventR p t e).2.2 = 0) (hk : e.kind = 13) {x q : Int} (hx : 1 ≤ x ∧ x < nth e 3) (hq : 1 ≤ q) :
    (eventR p t ⟨3, 13, [nth e 0, nth e 1, 1, x, 0], []⟩).2.2 = 0 ∧ (q ≤ 1073741824 → eventR (eventR p t ⟨3, 13, [nth e 0, nth e 1, 1, x, 0], []⟩).1 (eventR p t ⟨3, 13, [nth e 0, nth e 1, 1, x, 0], []⟩).2.1 ⟨3, 13, [nth e 0, nth e 1, q, nth e 3 - x, 0], []⟩ = eventR p t e) := by
  obtain ⟨⟨hM, hv, hE⟩, hd⟩ := event_ok h
  rw [hd] at h
  rcases done_cases hM hv hE h with ⟨k, _⟩ | ⟨k, _⟩ | ⟨_, hq3, a, b, h1, h2, h3, h4, h5, h6⟩ | ⟨k, _⟩ | ⟨k, _⟩ | ⟨k, _⟩ <;> try omega
  rw [hd, h6]
  obtain ⟨n0, n1, n2, n3, n4, hn, g0, g1, g2, g3, g4⟩ := nums13 hE hv hk
  have e0 : nth e 0 = n0 := by simp [nth, hn]
  have e1 : nth e 1 = n1 := by simp [nth, hn]
  have e3 : nth e 3 = n3 := by simp [nth, hn]
  rw [e0] at h1 h3
  rw [e1] at h2 h3
  rw [e3] at h4 h5 hx hq3
  rw [e0, e1, e3]
  have s1 : eventR p t ⟨3, 13, [n0, n1, 1, x, 0], []⟩ = (lessP (lessP p n0 x) n1 x, t, 0) := by
    rw [event_yes ⟨mayV_iff.2 hM, rfl, may13 g0 g1 (by omega) (by omega) (by omega)⟩]
    show tradedR p t ⟨3, 13, [n0, n1, 1, x, 0], []⟩ = _
    unfold tradedR
    show (match findP p n0, findP p n1 with | some a, some b => if n0 = n1 ∨ a.left < x ∨ b.left < x then _ else _ | _, _ => _) = _
    rw [h1, h2]
    dsimp only
    rw [if_neg (by omega)]
    rfl
  rw [s1]
  refine ⟨rfl, fun hq2 => ?_⟩
  dsimp only
  have hM2 : MayV (lessP p n0 x) t := may_less hM (by omega)
  have hM3 : MayV (lessP (lessP p n0 x) n1 x) t := may_less hM2 (by omega)
  have ia : a.id = n0 := ((find_iff hM.2.2.2.2.1).1 h1).2
  have ib : b.id = n1 := ((find_iff hM.2.2.2.2.1).1 h2).2
  have f1 : findP (lessP p n0 x) n0 = some (cutP n0 x a) := find_less hM (by omega) h1 (Or.inr (by omega))
  have f2 : findP (lessP p n0 x) n1 = some (cutP n0 x b) := find_less hM (by omega) h2 (Or.inl h3)
  have cb : cutP n0 x b = b := by unfold cutP; rw [if_neg (by omega)]
  rw [cb] at f2
  have f3 : findP (lessP (lessP p n0 x) n1 x) n0 = some (cutP n1 x (cutP n0 x a)) := find_less hM2 (by omega) f1 (Or.inl (by omega))
  have f4 : findP (lessP (lessP p n0 x) n1 x) n1 = some (cutP n1 x b) := find_less hM2 (by omega) f2 (Or.inr (by omega))
  have l3 : (cutP n1 x (cutP n0 x a)).left = a.left - x := by
    unfold cutP; rw [if_pos ia, if_neg (by show ¬ a.id = n1; omega)]
  have l4 : (cutP n1 x b).left = b.left - x := by unfold cutP; rw [if_pos ib]
  rw [event_yes ⟨mayV_iff.2 hM3, rfl, may13 g0 g1 (by omega) (by omega) (by omega)⟩]
  show tradedR (lessP (lessP p n0 x) n1 x) t ⟨3, 13, [n0, n1, q, n3 - x, 0], []⟩ = _
  unfold tradedR
  show (match findP (lessP (lessP p n0 x) n1 x) n0, findP (lessP (lessP p n0 x) n1 x) n1 with | some a, some b => if n0 = n1 ∨ a.left < n3 - x ∨ b.left < n3 - x then _ else _ | _, _ => _) = _
  rw [f3, f4]
  dsimp only
  rw [l3, l4, if_neg (by omega)]
  show (lessP (lessP (lessP (lessP p n0 x) n1 x) n0 (n3 - x)) n1 (n3 - x), t, 0) = _
  congr 1
  have key : ∀ (l : List Opn) (i a j b k c : Int), 0 ≤ b → 0 ≤ c → lessP (lessP (lessP l i a) j b) k c = (((l.map (cutP i a)).map (cutP j b)).map (cutP k c)).filter fun o => decide (0 < o.left) := by
    intro l i a j b k c hb hc
    rw [less_less (p := l) hb]
    unfold lessP
    refine filter_map_filter _ _ _ fun x _ hx => ?_
    simp only [decide_eq_false_iff_not] at hx ⊢
    unfold cutP
    split
    · show ¬ 0 < x.left - c; omega
    · exact hx
  rw [less_less (p := p) (by omega : (0 : Int) ≤ n3)]
  rw [less_less (p := lessP (lessP p n0 x) n1 x) (by omega)]
  have step : lessP (lessP (lessP (lessP p n0 x) n1 x) n0 (n3 - x)) n1 (n3 - x) = ((((p.map (cutP n0 x)).map (cutP n1 x)).map (cutP n0 (n3 - x))).map (cutP n1 (n3 - x))).filter fun o => decide (0 < o.left) := by
    rw [key p _ _ _ _ _ _ (by omega) (by omega)]
    unfold lessP
    refine filter_map_filter _ _ _ fun x _ hx => ?_
    simp only [decide_eq_false_iff_not] at hx ⊢
    unfold cutP
    split
    · show ¬ 0 < x.left - _; omega
    · exact hx
  rw [← less_less (p := lessP (lessP p n0 x) n1 x) (by omega), step]
  congr 1
  simp only [List.map_map]
  refine List.map_congr_left fun y _ => ?_
  simp only [Function.comp]
  unfold cutP
  by_cases y0 : y.id = n0
  · have y1 : ¬ y.id = n1 := by omega
    simp only [y0, if_true, if_neg h3]
    congr 1; omega
  · by_cases y1 : y.id = n1
    · simp only [y1, if_true, if_neg (Ne.symm h3)]
      congr 1; omega
    · simp only [if_neg y0, if_neg y1]
end Go.Proofs.YtkehmbgcglbffaaDoor
