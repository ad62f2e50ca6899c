/-
  Contracts of layer 22's work: opened, cancelled, gone, traded. Conditions: what stands in memory, as each names it.
-/
import Derived.Test.YtkehmbgcglbffaaDoorOg
namespace Go.Proofs.YtkehmbgcglbffaaDoor
open Go.RowKit Go.PlainAid

theorem nth_eq {e : Evt} {ns : List Int} (h : e.nums = ns) {i : Nat} {n : Int} (hx : ns[i]? = some n) : nth e i = n := by
  unfold nth; rw [h, List.getD_eq_getElem?_getD, hx]; rfl
set_option maxRecDepth 20000 in
set_option maxHeartbeats 4000000 in
theorem opened_c {p : List Opn} {t : List Lt} {ev0 : Evt} {w0 w : World} {N m : Nat} {a : Option Addr} {c : Nat} {ns : List Int} {n0 n1 n2 n3 : Int} {vo vt : Value} (hev : ev0.nums = ns) (hm : ns.length = m) (hx0 : ns[0]? = some n0) (hx1 : ns[1]? = some n1) (hx2 : ns[2]? = some n2) (hx3 : ns[3]? = some n3) (hb0 : Below w0.heap.size w0 w) (hW : WkO w0.heap.size w N p t vo vt) (HN : SlR encI 1 w0 a c ns) (hp1 : t.Pairwise keyT) (hl : t.length ≤ 32) :
    Calls Tryd.prog 33 #[.pointer (some ⟨N, 0, none⟩), .slice a m c] w fun e w' => e = .returned (.int .i64 (openedR p t ev0).2.2) ∧ ((openedR p t ev0).2.2 = 0 → ∃ vo vt, WkO w0.heap.size w' N (openedR p t ev0).1 (openedR p t ev0).2.1 vo vt) ∧ Below w0.heap.size w0 w' := by
  subst hm
  have hlen : 3 < ns.length := (List.getElem?_eq_some_iff.1 hx3).1
  obtain ⟨HW, HO, HT, hNb⟩ := hW
  obtain ⟨ab, ao, rfl, -, -⟩ := HN.at (by intro h; rw [h] at hlen; simp at hlen)
  obtain ⟨ta, tc, rfl, HTs, -⟩ := Own.slR encL_len HT
  have hR : openedR p t ev0 = if (findT t n0).isSome then ([], [], 6) else if t.length = 32 then ([], [], 40) else (p, insT t ⟨n0, n1, n2, n3⟩, 0) := by unfold openedR; rw [nth_eq hev hx0, nth_eq hev hx1, nth_eq hev hx2, nth_eq hev hx3]
  rw [hR]
  clear hR hev
  have HNw := HN.mono hb0
  have hw := Below.refl w.heap.size w
  refine fn_enter 49 Tryd.func33 rfl rfl rfl ?_
  repeat' (first | (refine lw_pure rfl (pv_assign rfl) ?_) | (refine is_cw ?_; first | (refine cw_seq ?_) | (refine cw_region ?_) | (refine cw_block ?_)) | (refine is_qw ?_; first | (with_reducible refine qw_then ?_)) | (refine lw_nil ?_))
  refine cw_drawn (fun w' => Below w.heap.size w w') (by kernel_rfl) (by repeat (first | exact NoPanic.body | with_reducible refine NoPanic.then ?_ | with_reducible refine NoPanic.inBlock ?_)) (fun hNP => ?_)
  have hS := hw.drew
  (refine aw_take 0 rfl (by kernel_rfl) (by kernel_rfl) (by kernel_rfl) hNP hS rfl (fun w' hq => pv_move rfl) ?_)
  (refine aw_take 1 rfl (by kernel_rfl) (by kernel_rfl) (by kernel_rfl) hNP hS rfl (fun w' hq => pv_nilp rfl) ?_)
  (refine aw_take 2 rfl (by kernel_rfl) (by kernel_rfl) (by kernel_rfl) hNP hS rfl (fun w' hq => pv_fa (tF rfl) rfl) ?_)
  (refine aw_take 3 rfl (by kernel_rfl) (by kernel_rfl) (by kernel_rfl) hNP hS rfl (fun w' hq => pv_load (t1 rfl) rfl (by first | exact PT.ld0 (HW.mono hq) rfl | exact PT.ld (HW.mono hq) rfl | exact SlR.ld (HNw.mono hq) hx0 rfl | exact SlR.ld1 (HNw.mono hq) hx0 rfl)) ?_)
  (refine aw_take 4 rfl (by kernel_rfl) (by kernel_rfl) (by kernel_rfl) hNP hS rfl (fun w' hq => pv_move rfl) ?_)
  (refine aw_take 5 rfl (by kernel_rfl) (by kernel_rfl) (by kernel_rfl) hNP hS rfl (fun w' hq => pv_ia (tS rfl) rfl rfl (by omega)) ?_)
  (refine aw_take 6 rfl (by kernel_rfl) (by kernel_rfl) (by kernel_rfl) hNP hS rfl (fun w' hq => pv_load (t1 rfl) rfl (by first | exact PT.ld0 (HW.mono hq) rfl | exact PT.ld (HW.mono hq) rfl | exact SlR.ld (HNw.mono hq) hx0 rfl | exact SlR.ld1 (HNw.mono hq) hx0 rfl)) ?_)
  refine aw_act 7 (by kernel_rfl) rfl rfl rfl ?_
  refine act_call (f := 51) (by kernel_rfl) rfl (lot_c n0 rfl (HTs.mono hS)) ?_; rintro e1 w1 ⟨⟨i, rfl, hi⟩, hb1⟩; refine ⟨_, rfl, grow_trans hS hb1, fun hS => ?_⟩
  (refine aw_take 8 rfl (by kernel_rfl) (by kernel_rfl) (by kernel_rfl) hNP hS rfl (fun w' hq => pv_geq rfl rfl) ?_)
  (refine aw_take 9 rfl (by kernel_rfl) (by kernel_rfl) (by kernel_rfl) hNP hS rfl (fun w' hq => pv_assign rfl) ?_)
  refine aw_done (by kernel_rfl) ?_
  replace hw := hS; clear hS hNP
  have hb2 := grow_trans hb0 hw
  rcases hi with ⟨rfl, hn⟩ | ⟨k, r, rfl, hxk, hr, hn⟩
  · have hf : findT t n0 = none := find_none hn
    rw [hf]
    by_cases h128 : t.length = 32
    · rw [if_neg (by simp), if_pos h128]
      repeat' (first | (refine lw_pure rfl (pv_move rfl) ?_) | (refine lw_pure rfl (pv_assign rfl) ?_) | (refine is_cw ?_; first | (refine cw_seq ?_) | (refine cw_region ?_) | (refine cw_false rfl rfl ?_) | (refine cw_true rfl (by first | assumption | exact decide_eq_true (by omega) | exact dec_notT (by omega)) ?_) | (refine cw_ret ?_)) | (refine is_qw ?_; first | (with_reducible refine qw_then ?_) | (with_reducible refine qw_then_ret ?_) | (with_reducible refine qw_in_ret ?_)) | (refine lw_nil ?_) | ((refine is_bin ?_; first | (refine lw_pure rfl (pv_eql rfl rfl) ?_))) | ((refine is_load ?_; first | (refine lw_pure rfl (pv_load (t1 rfl) rfl (by first | exact PT.ld0 (HW.mono hw) rfl | exact PT.ld (HW.mono hw) rfl)) ?_))) | ((refine is_fa ?_; first | (refine lw_pure rfl (pv_fa (tF rfl) rfl) ?_))) | ((refine is_bi ?_; first | (refine lw_pure rfl (pv_lenl (tS rfl) rfl) ?_))) | (refine lw_pure rfl (pv_nilp rfl) ?_))
      exact qw_ret1 rfl rfl ⟨rfl, by simp, hb2⟩
    · rw [if_neg (by simp), if_neg h128]
      repeat' (first | (refine lw_pure rfl (pv_move rfl) ?_) | (refine lw_pure rfl (pv_assign rfl) ?_) | (refine is_cw ?_; first | (refine cw_seq ?_) | (refine cw_region ?_) | (refine cw_false rfl rfl ?_) | (refine cw_false rfl (by first | assumption | exact decide_eq_false (by omega) | exact dec_notF (by omega)) ?_) | (refine cw_skip ?_)) | (refine is_qw ?_; first | (with_reducible refine qw_then ?_) | (with_reducible refine qw_in ?_)) | (refine lw_nil ?_) | ((refine is_bin ?_; first | (refine lw_pure rfl (pv_eql rfl rfl) ?_))) | ((refine is_load ?_; first | (refine lw_pure rfl (pv_load (t1 rfl) rfl (by first | exact PT.ld0 (HW.mono hw) rfl | exact PT.ld (HW.mono hw) rfl)) ?_))) | ((refine is_fa ?_; first | (refine lw_pure rfl (pv_fa (tF rfl) rfl) ?_))) | ((refine is_bi ?_; first | (refine lw_pure rfl (pv_lenl (tS rfl) rfl) ?_))) | (refine lw_pure rfl (pv_nilp rfl) ?_))
      have hO2 := HO.mono hw
      have hT2 := HT.mono hw
      have hwz := hb2.size
      refine cw_drawnF 22 (fun w' => Below w0.heap.size w0 w' ∧ PT w' N 51 [vo, .slice ta t.length tc]) (by kernel_rfl) (by repeat (first | exact NoPanic.body | with_reducible refine NoPanic.then ?_ | with_reducible refine NoPanic.inBlock ?_)) (fun hNP => ?_)
      have hU := And.intro hb2.drew ((HW.mono hw).mono (below_drew _))
      first | (refine fw_take 0 rfl (by kernel_rfl) rfl rfl (by kernel_rfl) (by kernel_rfl) (by kernel_rfl) hNP hU rfl (fun w' hq => pv_move rfl) ?_)
      first | (refine fw_take 1 rfl (by kernel_rfl) rfl rfl (by kernel_rfl) (by kernel_rfl) (by kernel_rfl) hNP hU rfl (fun w' hq => pv_move rfl) ?_)
      first | (refine fw_take 2 rfl (by kernel_rfl) rfl rfl (by kernel_rfl) (by kernel_rfl) (by kernel_rfl) hNP hU rfl (fun w' hq => pv_nilp rfl) ?_)
      first | (refine fw_take 3 rfl (by kernel_rfl) rfl rfl (by kernel_rfl) (by kernel_rfl) (by kernel_rfl) hNP hU rfl (fun w' hq => pv_fa (tF rfl) rfl) ?_)
      first | (refine fw_take 4 rfl (by kernel_rfl) rfl rfl (by kernel_rfl) (by kernel_rfl) (by kernel_rfl) hNP hU rfl (fun w' hq => pv_load (t1 rfl) rfl (by first | exact PT.ld0 hq.2 rfl | exact PT.ld hq.2 rfl)) ?_) | (refine fw_take 4 rfl (by kernel_rfl) rfl rfl (by kernel_rfl) (by kernel_rfl) (by kernel_rfl) hNP hU rfl (fun w' hq => pv_loada (tA rfl) rfl (by first | exact PT.lda hq.2) (by rfl)) ?_) | (refine fw_take 4 rfl (by kernel_rfl) rfl rfl (by kernel_rfl) (by kernel_rfl) (by kernel_rfl) hNP hU rfl (fun w' hq => pv_load (t1 rfl) rfl (by first | exact SlR.ld (HN.mono hq.1) hx0 rfl | exact SlR.ld1 (HN.mono hq.1) hx0 rfl | exact SlR.ld (HN.mono hq.1) hx1 rfl | exact SlR.ld1 (HN.mono hq.1) hx1 rfl | exact SlR.ld (HN.mono hq.1) hx2 rfl | exact SlR.ld1 (HN.mono hq.1) hx2 rfl | exact SlR.ld (HN.mono hq.1) hx3 rfl | exact SlR.ld1 (HN.mono hq.1) hx3 rfl)) ?_) | (refine fw_take 4 rfl (by kernel_rfl) rfl rfl (by kernel_rfl) (by kernel_rfl) (by kernel_rfl) hNP hU rfl (fun w' hq => pv_loada (tA rfl) rfl (by first | exact SlR.lda (HN.mono hq.1) hx0 | exact SlR.lda (HN.mono hq.1) hx1 | exact SlR.lda (HN.mono hq.1) hx2 | exact SlR.lda (HN.mono hq.1) hx3) (by rfl)) ?_)
      first | (refine fw_take 5 rfl (by kernel_rfl) rfl rfl (by kernel_rfl) (by kernel_rfl) (by kernel_rfl) hNP hU rfl (fun w' hq => pv_move rfl) ?_)
      first | (refine fw_take 6 rfl (by kernel_rfl) rfl rfl (by kernel_rfl) (by kernel_rfl) (by kernel_rfl) hNP hU rfl (fun w' hq => pv_ian (tS rfl) rfl rfl (by omega)) ?_) | (refine fw_take 6 rfl (by kernel_rfl) rfl rfl (by kernel_rfl) (by kernel_rfl) (by kernel_rfl) hNP hU rfl (fun w' hq => pv_ia (tS rfl) rfl rfl (by omega)) ?_)
      first | (refine fw_take 7 rfl (by kernel_rfl) rfl rfl (by kernel_rfl) (by kernel_rfl) (by kernel_rfl) hNP hU rfl (fun w' hq => pv_load (t1 rfl) rfl (by first | exact PT.ld0 hq.2 rfl | exact PT.ld hq.2 rfl)) ?_) | (refine fw_take 7 rfl (by kernel_rfl) rfl rfl (by kernel_rfl) (by kernel_rfl) (by kernel_rfl) hNP hU rfl (fun w' hq => pv_loada (tA rfl) rfl (by first | exact PT.lda hq.2) (by rfl)) ?_) | (refine fw_take 7 rfl (by kernel_rfl) rfl rfl (by kernel_rfl) (by kernel_rfl) (by kernel_rfl) hNP hU rfl (fun w' hq => pv_load (t1 rfl) rfl (by first | exact SlR.ld (HN.mono hq.1) hx0 rfl | exact SlR.ld1 (HN.mono hq.1) hx0 rfl | exact SlR.ld (HN.mono hq.1) hx1 rfl | exact SlR.ld1 (HN.mono hq.1) hx1 rfl | exact SlR.ld (HN.mono hq.1) hx2 rfl | exact SlR.ld1 (HN.mono hq.1) hx2 rfl | exact SlR.ld (HN.mono hq.1) hx3 rfl | exact SlR.ld1 (HN.mono hq.1) hx3 rfl)) ?_) | (refine fw_take 7 rfl (by kernel_rfl) rfl rfl (by kernel_rfl) (by kernel_rfl) (by kernel_rfl) hNP hU rfl (fun w' hq => pv_loada (tA rfl) rfl (by first | exact SlR.lda (HN.mono hq.1) hx0 | exact SlR.lda (HN.mono hq.1) hx1 | exact SlR.lda (HN.mono hq.1) hx2 | exact SlR.lda (HN.mono hq.1) hx3) (by rfl)) ?_)
      first | (refine fw_take 8 rfl (by kernel_rfl) rfl rfl (by kernel_rfl) (by kernel_rfl) (by kernel_rfl) hNP hU rfl (fun w' hq => pv_move rfl) ?_)
      first | (refine fw_take 9 rfl (by kernel_rfl) rfl rfl (by kernel_rfl) (by kernel_rfl) (by kernel_rfl) hNP hU rfl (fun w' hq => pv_ian (tS rfl) rfl rfl (by omega)) ?_) | (refine fw_take 9 rfl (by kernel_rfl) rfl rfl (by kernel_rfl) (by kernel_rfl) (by kernel_rfl) hNP hU rfl (fun w' hq => pv_ia (tS rfl) rfl rfl (by omega)) ?_)
      first | (refine fw_take 10 rfl (by kernel_rfl) rfl rfl (by kernel_rfl) (by kernel_rfl) (by kernel_rfl) hNP hU rfl (fun w' hq => pv_load (t1 rfl) rfl (by first | exact PT.ld0 hq.2 rfl | exact PT.ld hq.2 rfl)) ?_) | (refine fw_take 10 rfl (by kernel_rfl) rfl rfl (by kernel_rfl) (by kernel_rfl) (by kernel_rfl) hNP hU rfl (fun w' hq => pv_loada (tA rfl) rfl (by first | exact PT.lda hq.2) (by rfl)) ?_) | (refine fw_take 10 rfl (by kernel_rfl) rfl rfl (by kernel_rfl) (by kernel_rfl) (by kernel_rfl) hNP hU rfl (fun w' hq => pv_load (t1 rfl) rfl (by first | exact SlR.ld (HN.mono hq.1) hx0 rfl | exact SlR.ld1 (HN.mono hq.1) hx0 rfl | exact SlR.ld (HN.mono hq.1) hx1 rfl | exact SlR.ld1 (HN.mono hq.1) hx1 rfl | exact SlR.ld (HN.mono hq.1) hx2 rfl | exact SlR.ld1 (HN.mono hq.1) hx2 rfl | exact SlR.ld (HN.mono hq.1) hx3 rfl | exact SlR.ld1 (HN.mono hq.1) hx3 rfl)) ?_) | (refine fw_take 10 rfl (by kernel_rfl) rfl rfl (by kernel_rfl) (by kernel_rfl) (by kernel_rfl) hNP hU rfl (fun w' hq => pv_loada (tA rfl) rfl (by first | exact SlR.lda (HN.mono hq.1) hx0 | exact SlR.lda (HN.mono hq.1) hx1 | exact SlR.lda (HN.mono hq.1) hx2 | exact SlR.lda (HN.mono hq.1) hx3) (by rfl)) ?_)
      first | (refine fw_take 11 rfl (by kernel_rfl) rfl rfl (by kernel_rfl) (by kernel_rfl) (by kernel_rfl) hNP hU rfl (fun w' hq => pv_move rfl) ?_)
      first | (refine fw_take 12 rfl (by kernel_rfl) rfl rfl (by kernel_rfl) (by kernel_rfl) (by kernel_rfl) hNP hU rfl (fun w' hq => pv_ian (tS rfl) rfl rfl (by omega)) ?_) | (refine fw_take 12 rfl (by kernel_rfl) rfl rfl (by kernel_rfl) (by kernel_rfl) (by kernel_rfl) hNP hU rfl (fun w' hq => pv_ia (tS rfl) rfl rfl (by omega)) ?_)
      first | (refine fw_take 13 rfl (by kernel_rfl) rfl rfl (by kernel_rfl) (by kernel_rfl) (by kernel_rfl) hNP hU rfl (fun w' hq => pv_load (t1 rfl) rfl (by first | exact PT.ld0 hq.2 rfl | exact PT.ld hq.2 rfl)) ?_) | (refine fw_take 13 rfl (by kernel_rfl) rfl rfl (by kernel_rfl) (by kernel_rfl) (by kernel_rfl) hNP hU rfl (fun w' hq => pv_loada (tA rfl) rfl (by first | exact PT.lda hq.2) (by rfl)) ?_) | (refine fw_take 13 rfl (by kernel_rfl) rfl rfl (by kernel_rfl) (by kernel_rfl) (by kernel_rfl) hNP hU rfl (fun w' hq => pv_load (t1 rfl) rfl (by first | exact SlR.ld (HN.mono hq.1) hx0 rfl | exact SlR.ld1 (HN.mono hq.1) hx0 rfl | exact SlR.ld (HN.mono hq.1) hx1 rfl | exact SlR.ld1 (HN.mono hq.1) hx1 rfl | exact SlR.ld (HN.mono hq.1) hx2 rfl | exact SlR.ld1 (HN.mono hq.1) hx2 rfl | exact SlR.ld (HN.mono hq.1) hx3 rfl | exact SlR.ld1 (HN.mono hq.1) hx3 rfl)) ?_) | (refine fw_take 13 rfl (by kernel_rfl) rfl rfl (by kernel_rfl) (by kernel_rfl) (by kernel_rfl) hNP hU rfl (fun w' hq => pv_loada (tA rfl) rfl (by first | exact SlR.lda (HN.mono hq.1) hx0 | exact SlR.lda (HN.mono hq.1) hx1 | exact SlR.lda (HN.mono hq.1) hx2 | exact SlR.lda (HN.mono hq.1) hx3) (by rfl)) ?_)
      first | (refine fw_take 14 rfl (by kernel_rfl) rfl rfl (by kernel_rfl) (by kernel_rfl) (by kernel_rfl) hNP hU rfl (fun w' hq => pv_move rfl) ?_)
      first | (refine fw_take 15 rfl (by kernel_rfl) rfl rfl (by kernel_rfl) (by kernel_rfl) (by kernel_rfl) hNP hU rfl (fun w' hq => pv_ian (tS rfl) rfl rfl (by omega)) ?_) | (refine fw_take 15 rfl (by kernel_rfl) rfl rfl (by kernel_rfl) (by kernel_rfl) (by kernel_rfl) hNP hU rfl (fun w' hq => pv_ia (tS rfl) rfl rfl (by omega)) ?_)
      first | (refine fw_take 16 rfl (by kernel_rfl) rfl rfl (by kernel_rfl) (by kernel_rfl) (by kernel_rfl) hNP hU rfl (fun w' hq => pv_load (t1 rfl) rfl (by first | exact PT.ld0 hq.2 rfl | exact PT.ld hq.2 rfl)) ?_) | (refine fw_take 16 rfl (by kernel_rfl) rfl rfl (by kernel_rfl) (by kernel_rfl) (by kernel_rfl) hNP hU rfl (fun w' hq => pv_loada (tA rfl) rfl (by first | exact PT.lda hq.2) (by rfl)) ?_) | (refine fw_take 16 rfl (by kernel_rfl) rfl rfl (by kernel_rfl) (by kernel_rfl) (by kernel_rfl) hNP hU rfl (fun w' hq => pv_load (t1 rfl) rfl (by first | exact SlR.ld (HN.mono hq.1) hx0 rfl | exact SlR.ld1 (HN.mono hq.1) hx0 rfl | exact SlR.ld (HN.mono hq.1) hx1 rfl | exact SlR.ld1 (HN.mono hq.1) hx1 rfl | exact SlR.ld (HN.mono hq.1) hx2 rfl | exact SlR.ld1 (HN.mono hq.1) hx2 rfl | exact SlR.ld (HN.mono hq.1) hx3 rfl | exact SlR.ld1 (HN.mono hq.1) hx3 rfl)) ?_) | (refine fw_take 16 rfl (by kernel_rfl) rfl rfl (by kernel_rfl) (by kernel_rfl) (by kernel_rfl) hNP hU rfl (fun w' hq => pv_loada (tA rfl) rfl (by first | exact SlR.lda (HN.mono hq.1) hx0 | exact SlR.lda (HN.mono hq.1) hx1 | exact SlR.lda (HN.mono hq.1) hx2 | exact SlR.lda (HN.mono hq.1) hx3) (by rfl)) ?_)
      first | (refine fw_take 17 rfl (by kernel_rfl) rfl rfl (by kernel_rfl) (by kernel_rfl) (by kernel_rfl) hNP hU rfl (fun w' hq => tyB_36 rfl rfl rfl) ?_)
      refine fw_act 18 (by kernel_rfl) rfl rfl rfl ?_
      refine act_bs (vs := [.agg (encL ⟨n0, n1, n2, n3⟩).toArray]) (cs := encL ⟨n0, n1, n2, n3⟩) elemL rfl rfl (by omega) (by omega) rfl (by simp [Value.cells, encL]) ?_; intro wb HB hbb; have hO3 := (hO2.mono (below_drew _)).mono hbb; have hT3 := (hT2.mono (below_drew _)).mono hbb; have hbz := hbb.size; refine ⟨⟨grow_trans hU.1 hbb, hU.2.mono hbb⟩, fun hU => ?_⟩
      refine fw_act 19 (by kernel_rfl) rfl rfl rfl ?_
      refine act_app elemL encL_len encL_one rfl rfl hT3 (HB.slR (xs := [⟨n0, n1, n2, n3⟩]) encL_len rfl (by omega)) rfl hU.1.size (by simp; omega) (by simp [maxLen]; omega) ?_; intro v9 w9 hT9 hg9 hb9; refine ⟨⟨hU.1.grown hg9 hU.1.size (fun q hq => (Own.lt hT3 q hq).1), hU.2.grown hg9 (fun e => own_pt_ne hT3 hU.2 (by decide) e)⟩, fun hU => ?_⟩
      first | (refine fw_act 20 (by kernel_rfl) rfl rfl rfl ?_; refine act_pv (pv_nilp rfl) ?_; refine ⟨hU, fun hU => ?_⟩)
      first | (refine fw_take 21 rfl (by kernel_rfl) rfl rfl (by kernel_rfl) (by kernel_rfl) (by kernel_rfl) hNP hU rfl (fun w' hq => pv_fa (tF rfl) rfl) ?_)
      refine fw_last (by kernel_rfl) rfl rfl rfl rfl (by kernel_rfl) ?_
      obtain ⟨hb3, HW3⟩ := hU; clear hNP
      obtain ⟨va, vc, rfl, -, -⟩ := Own.slR encL_len hT9; refine act_store HW3 (tZ rfl) rfl rfl rfl (by simp) ?_; intro wz HWz hgz hzz
      have hO9 := hO3.kept hg9 (own_ne_T hO3 hT3 (by decide))
      have hOz := hO9.kept hgz (Or.inr (own_pt_ne hO9 HW3 (by decide)))
      have hTz := hT9.kept hgz (Or.inr (own_pt_ne hT9 HW3 (by decide)))
      have hbz4 := hb3.grown hgz hb3.size (by intro q hq; injection hq with hq; omega)
      obtain ⟨va', vc', hv', hSz, hvb⟩ := Own.slR encL_len hTz
      injection hv' with hv1 _ hv3; subst hv1 hv3
      obtain ⟨vb, vo2, rfl, -, -⟩ := hSz.at (by simp)
      obtain ⟨hvb1, hvb2⟩ := hvb _ rfl
      simp only at hvb1 hvb2; subst hvb2
      have hw := Below.refl wz.heap.size wz
      have hids : ∀ x ∈ t, x.id ≠ n0 := findT_none hf
      have hll : (t ++ [(⟨n0, n1, n2, n3⟩ : Lt)]).length ≤ 1000000 := by simp; omega
      repeat' (first | (refine lw_pure rfl (pv_move rfl) ?_) | (refine is_cw ?_; first | (refine cw_seq ?_) | (refine cw_region ?_)) | (refine is_qw ?_; first | (with_reducible refine qw_then ?_)) | ((refine is_load ?_; first | (refine lw_pure rfl (pv_load (t1 rfl) rfl (by first | exact PT.ld0 (HWz.mono hw) rfl | exact PT.ld (HWz.mono hw) rfl)) ?_))) | ((refine is_fa ?_; first | (refine lw_pure rfl (pv_fa (tF rfl) rfl) ?_))) | (refine lw_pure rfl (pv_nilp rfl) ?_))
      refine lw_call (f := 52) (by kernel_rfl) rfl rfl (sort_L w0.heap.size vb vc _ wz hTz hll (putT_pw hp1 hids)) ?_; rintro e1 w5 ⟨rfl, ⟨zs, hz1, hz2, hTs2⟩, hg5⟩; refine ⟨_, rfl, ?_⟩
      have hze := putT_sorted hp1 hids hz1 hz2
      have hO5 := hOz.kept hg5 (own_ne_T hOz hTz (by decide))
      have hW5 := HWz.grown hg5 (own_pt_ne hTz HWz (by decide))
      have hb5 := hbz4.grown hg5 hbz4.size (by intro q hq; injection hq with hq; omega)
      have hw := Below.refl w5.heap.size w5
      repeat' (first | (refine lw_pure rfl (pv_assign rfl) ?_) | (refine is_cw ?_; first | (refine cw_seq ?_) | (refine cw_region ?_) | (refine cw_ret ?_)) | (refine is_qw ?_; first | (with_reducible refine qw_then ?_)) | (refine lw_nil ?_))
      refine qw_ret1 rfl rfl ⟨rfl, fun _ => ⟨_, _, ⟨hW5, hO5, ?_, hNb⟩⟩, hb5⟩
      rw [← hze]
      rw [show (t ++ [(⟨n0, n1, n2, n3⟩ : Lt)]).length = zs.length from hz1.length_eq.symm] at hTs2 ⊢
      exact hTs2
  · have hf : findT t n0 = some r := find_at hxk hr hn
    rw [hf, if_pos (by rfl)]
    repeat' (first | (refine lw_pure rfl (pv_assign rfl) ?_) | (refine is_cw ?_; first | (refine cw_seq ?_) | (refine cw_region ?_) | (refine cw_true rfl rfl ?_) | (refine cw_ret ?_)) | (refine is_qw ?_; first | (with_reducible refine qw_then ?_) | (with_reducible refine qw_then_ret ?_) | (with_reducible refine qw_in_ret ?_)) | (refine lw_nil ?_))
    exact qw_ret1 rfl rfl ⟨rfl, by simp, hb2⟩
set_option maxRecDepth 20000 in
set_option maxHeartbeats 4000000 in
theorem cancelled_c {p : List Opn} {t : List Lt} {ev0 : Evt} {w0 w : World} {N : Nat} {a : Option Addr} {c : Nat} {n0 : Int} {vo vt : Value} (hev : ev0.nums = [n0]) (hb0 : Below w0.heap.size w0 w) (hW : WkO w0.heap.size w N p t vo vt) (HN : SlR encI 1 w0 a c [n0]) (hnd : (p.map (·.id)).Nodup) (hpos : ∀ x ∈ p, 0 < x.left) (hl : p.length ≤ 128) :
    Calls Tryd.prog 31 #[.pointer (some ⟨N, 0, none⟩), .slice a 1 c] w fun e w' => e = .returned (.int .i64 (cancelR p t ev0).2.2) ∧ ((cancelR p t ev0).2.2 = 0 → ∃ vo vt, WkO w0.heap.size w' N (cancelR p t ev0).1 (cancelR p t ev0).2.1 vo vt) ∧ Below w0.heap.size w0 w' := by
  obtain ⟨HW, HO, HT, hNb⟩ := hW
  obtain ⟨ab, ao, rfl, -, -⟩ := HN.at (by simp)
  obtain ⟨oa, oc, rfl, HOs, -⟩ := Own.slR encP_len HO
  have hx0 : [n0][0]? = some n0 := rfl
  have hn0 := nth_eq hev hx0
  have HNw := HN.mono hb0
  have hw := Below.refl w.heap.size w
  refine fn_enter 27 Tryd.func31 rfl rfl rfl ?_
  repeat' (first | (refine lw_pure rfl (pv_assign rfl) ?_) | (refine is_cw ?_; first | (refine cw_seq ?_) | (refine cw_region ?_)) | (refine is_qw ?_; first | (with_reducible refine qw_then ?_)) | (refine lw_nil ?_))
  refine cw_drawn (fun w' => Below w.heap.size w w') (by kernel_rfl) (by repeat (first | exact NoPanic.body | with_reducible refine NoPanic.then ?_ | with_reducible refine NoPanic.inBlock ?_)) (fun hNP => ?_)
  have hS := hw.drew
  (refine aw_take 0 rfl (by kernel_rfl) (by kernel_rfl) (by kernel_rfl) hNP hS rfl (fun w' hq => pv_move rfl) ?_)
  (refine aw_take 1 rfl (by kernel_rfl) (by kernel_rfl) (by kernel_rfl) hNP hS rfl (fun w' hq => pv_nilp rfl) ?_)
  (refine aw_take 2 rfl (by kernel_rfl) (by kernel_rfl) (by kernel_rfl) hNP hS rfl (fun w' hq => pv_fa (tF rfl) rfl) ?_)
  (refine aw_take 3 rfl (by kernel_rfl) (by kernel_rfl) (by kernel_rfl) hNP hS rfl (fun w' hq => pv_load (t1 rfl) rfl (by first | exact PT.ld0 (HW.mono hq) rfl | exact PT.ld (HW.mono hq) rfl | exact SlR.ld (HNw.mono hq) hx0 rfl | exact SlR.ld1 (HNw.mono hq) hx0 rfl)) ?_)
  (refine aw_take 4 rfl (by kernel_rfl) (by kernel_rfl) (by kernel_rfl) hNP hS rfl (fun w' hq => pv_move rfl) ?_)
  (refine aw_take 5 rfl (by kernel_rfl) (by kernel_rfl) (by kernel_rfl) hNP hS rfl (fun w' hq => pv_ia (tS rfl) rfl rfl (by omega)) ?_)
  (refine aw_take 6 rfl (by kernel_rfl) (by kernel_rfl) (by kernel_rfl) hNP hS rfl (fun w' hq => pv_load (t1 rfl) rfl (by first | exact PT.ld0 (HW.mono hq) rfl | exact PT.ld (HW.mono hq) rfl | exact SlR.ld (HNw.mono hq) hx0 rfl | exact SlR.ld1 (HNw.mono hq) hx0 rfl)) ?_)
  refine aw_act 7 (by kernel_rfl) rfl rfl rfl ?_
  refine act_call (f := 46) (by kernel_rfl) rfl (at_c n0 rfl (HOs.mono hS)) ?_; rintro e1 w1 ⟨⟨i, rfl, hi⟩, hb1⟩; refine ⟨_, rfl, grow_trans hS hb1, fun hS => ?_⟩
  (refine aw_take 8 rfl (by kernel_rfl) (by kernel_rfl) (by kernel_rfl) hNP hS rfl (fun w' hq => pv_assign rfl) ?_)
  refine aw_done (by kernel_rfl) ?_
  replace hw := hS; clear hS hNP
  have hb2 := grow_trans hb0 hw
  rcases hi with ⟨rfl, hn⟩ | ⟨k, r, rfl, hxk, hr, hn⟩
  · have hf : findP p n0 = none := find_none hn
    have hR : cancelR p t ev0 = ([], [], 5) := by unfold cancelR; rw [hn0, hf]
    rw [hR]
    repeat' (first | (refine lw_pure rfl (pv_move rfl) ?_) | (refine lw_pure rfl (pv_assign rfl) ?_) | (refine is_cw ?_; first | (refine cw_seq ?_) | (refine cw_region ?_) | (refine cw_true rfl rfl ?_) | (refine cw_ret ?_)) | (refine is_qw ?_; first | (with_reducible refine qw_then ?_) | (with_reducible refine qw_then_ret ?_)) | (refine lw_nil ?_) | ((refine is_bin ?_; first | (refine lw_pure rfl (pv_lss rfl rfl) ?_))))
    exact qw_ret1 rfl rfl ⟨rfl, by simp, hb2⟩
  · have hf : findP p n0 = some r := find_at hxk hr hn
    have hR : cancelR p t ev0 = (lessP p n0 r.left, t, 0) := by unfold cancelR; rw [hn0, hf]
    rw [hR]
    have hrid : r.id = n0 := by simpa using hr
    have hlt : k < p.length := (List.getElem?_eq_some_iff.1 hxk).1
    have hce := cancel_eq hxk hnd hpos
    rw [hrid] at hce
    repeat' (first | (refine lw_pure rfl (pv_move rfl) ?_) | (refine is_cw ?_; first | (refine cw_seq ?_) | (refine cw_region ?_) | (refine cw_false rfl rfl ?_) | (refine cw_skip ?_)) | (refine is_qw ?_; first | (with_reducible refine qw_then ?_)) | (refine lw_nil ?_) | ((refine is_bin ?_; first | (refine lw_pure rfl (pv_lss rfl rfl) ?_) | (refine lw_pure rfl (pv_inc rfl rfl (by omega)) ?_))) | ((refine is_load ?_; first | (refine lw_pure rfl (pv_load (t1 rfl) rfl (by first | exact PT.ld0 (HW.mono hw) rfl | exact PT.ld (HW.mono hw) rfl)) ?_))) | ((refine is_fa ?_; first | (refine lw_pure rfl (pv_fa (tF rfl) rfl) ?_))) | (refine lw_pure rfl (pv_nilp rfl) ?_))
    refine lw_call (f := 48) (by kernel_rfl) rfl rfl (delone_P w0.heap.size k hlt hb2.size (HO.mono hw)) ?_; rintro e1 w5 ⟨⟨v', rfl, hO5⟩, hg5, hb5⟩; refine ⟨_, rfl, ?_⟩
    have HW5 := (HW.mono hw).grown hg5 (own_pt_ne (HO.mono hw) (HW.mono hw) (by decide))
    have hT5 := (HT.mono hw).kept hg5 (own_ne_T (HT.mono hw) (HO.mono hw) (by decide))
    have hb6 := hb2.trans hb5
    obtain ⟨va, vc, rfl, -, -⟩ := Own.slR encP_len hO5
    have hw := Below.refl w5.heap.size w5
    repeat' (first | ((refine is_fa ?_; first | (refine lw_pure rfl (pv_fa (tF rfl) rfl) ?_))) | (refine lw_pure rfl (pv_nilp rfl) ?_))
    refine lw_store HW5 (tZ rfl) rfl rfl rfl (by simp) ?_; intro w6 HW6 hg6 hz6
    have hO6 := hO5.kept hg6 (Or.inr (own_pt_ne hO5 HW5 (by decide)))
    have hT6 := hT5.kept hg6 (Or.inr (own_pt_ne hT5 HW5 (by decide)))
    have hb7 := hb6.grown hg6 hb6.size (by intro q hq; injection hq with hq; omega)
    have hw := Below.refl w6.heap.size w6
    repeat' (first | (refine lw_pure rfl (pv_assign rfl) ?_) | (refine is_cw ?_; first | (refine cw_seq ?_) | (refine cw_region ?_) | (refine cw_ret ?_)) | (refine is_qw ?_; first | (with_reducible refine qw_then ?_)) | (refine lw_nil ?_))
    refine qw_ret1 rfl rfl ⟨rfl, fun _ => ⟨_, _, ⟨HW6, ?_, hT6, hNb⟩⟩, hb7⟩
    rw [hce]; exact hO6
set_option maxRecDepth 20000 in
set_option maxHeartbeats 4000000 in
theorem gone_c {p : List Opn} {t : List Lt} {ev0 : Evt} {w0 w : World} {N m : Nat} {a : Option Addr} {c : Nat} {ns : List Int} {n0 : Int} {vo vt : Value} (hev : ev0.nums = ns) (hm : ns.length = m) (hx0 : ns[0]? = some n0) (hb0 : Below w0.heap.size w0 w) (hW : WkO w0.heap.size w N p t vo vt) (HN : SlR encI 1 w0 a c ns) (hp1 : t.Pairwise keyT) (hl : t.length ≤ 32) :
    Calls Tryd.prog 34 #[.pointer (some ⟨N, 0, none⟩), .slice a m c] w fun e w' => e = .returned (.int .i64 (goneR p t ev0).2.2) ∧ ((goneR p t ev0).2.2 = 0 → ∃ vo vt, WkO w0.heap.size w' N (goneR p t ev0).1 (goneR p t ev0).2.1 vo vt) ∧ Below w0.heap.size w0 w' := by
  subst hm
  have hlen : 0 < ns.length := (List.getElem?_eq_some_iff.1 hx0).1
  obtain ⟨HW, HO, HT, hNb⟩ := hW
  obtain ⟨ab, ao, rfl, -, -⟩ := HN.at (by intro h; rw [h] at hlen; simp at hlen)
  obtain ⟨ta, tc, rfl, HTs, -⟩ := Own.slR encL_len HT
  have hn0 := nth_eq hev hx0
  have HNw := HN.mono hb0
  have hw := Below.refl w.heap.size w
  refine fn_enter 27 Tryd.func34 rfl rfl rfl ?_
  repeat' (first | (refine lw_pure rfl (pv_assign rfl) ?_) | (refine is_cw ?_; first | (refine cw_seq ?_) | (refine cw_region ?_)) | (refine is_qw ?_; first | (with_reducible refine qw_then ?_)) | (refine lw_nil ?_))
  refine cw_drawn (fun w' => Below w.heap.size w w') (by kernel_rfl) (by repeat (first | exact NoPanic.body | with_reducible refine NoPanic.then ?_ | with_reducible refine NoPanic.inBlock ?_)) (fun hNP => ?_)
  have hS := hw.drew
  (refine aw_take 0 rfl (by kernel_rfl) (by kernel_rfl) (by kernel_rfl) hNP hS rfl (fun w' hq => pv_move rfl) ?_)
  (refine aw_take 1 rfl (by kernel_rfl) (by kernel_rfl) (by kernel_rfl) hNP hS rfl (fun w' hq => pv_nilp rfl) ?_)
  (refine aw_take 2 rfl (by kernel_rfl) (by kernel_rfl) (by kernel_rfl) hNP hS rfl (fun w' hq => pv_fa (tF rfl) rfl) ?_)
  (refine aw_take 3 rfl (by kernel_rfl) (by kernel_rfl) (by kernel_rfl) hNP hS rfl (fun w' hq => pv_load (t1 rfl) rfl (by first | exact PT.ld0 (HW.mono hq) rfl | exact PT.ld (HW.mono hq) rfl | exact SlR.ld (HNw.mono hq) hx0 rfl | exact SlR.ld1 (HNw.mono hq) hx0 rfl)) ?_)
  (refine aw_take 4 rfl (by kernel_rfl) (by kernel_rfl) (by kernel_rfl) hNP hS rfl (fun w' hq => pv_move rfl) ?_)
  (refine aw_take 5 rfl (by kernel_rfl) (by kernel_rfl) (by kernel_rfl) hNP hS rfl (fun w' hq => pv_ian (tS rfl) rfl rfl (by omega)) ?_)
  (refine aw_take 6 rfl (by kernel_rfl) (by kernel_rfl) (by kernel_rfl) hNP hS rfl (fun w' hq => pv_load (t1 rfl) rfl (by first | exact PT.ld0 (HW.mono hq) rfl | exact PT.ld (HW.mono hq) rfl | exact SlR.ld (HNw.mono hq) hx0 rfl | exact SlR.ld1 (HNw.mono hq) hx0 rfl)) ?_)
  refine aw_act 7 (by kernel_rfl) rfl rfl rfl ?_
  refine act_call (f := 51) (by kernel_rfl) rfl (lot_c n0 rfl (HTs.mono hS)) ?_; rintro e1 w1 ⟨⟨i, rfl, hi⟩, hb1⟩; refine ⟨_, rfl, grow_trans hS hb1, fun hS => ?_⟩
  (refine aw_take 8 rfl (by kernel_rfl) (by kernel_rfl) (by kernel_rfl) hNP hS rfl (fun w' hq => pv_assign rfl) ?_)
  refine aw_done (by kernel_rfl) ?_
  replace hw := hS; clear hS hNP
  have hb2 := grow_trans hb0 hw
  rcases hi with ⟨rfl, hn⟩ | ⟨k, r, rfl, hxk, hr, hn⟩
  · have hf : findT t n0 = none := find_none hn
    have hR : goneR p t ev0 = ([], [], 5) := by unfold goneR; rw [hn0, hf]; rfl
    rw [hR]
    repeat' (first | (refine lw_pure rfl (pv_move rfl) ?_) | (refine lw_pure rfl (pv_assign rfl) ?_) | (refine is_cw ?_; first | (refine cw_seq ?_) | (refine cw_region ?_) | (refine cw_true rfl rfl ?_) | (refine cw_ret ?_)) | (refine is_qw ?_; first | (with_reducible refine qw_then ?_) | (with_reducible refine qw_then_ret ?_)) | (refine lw_nil ?_) | ((refine is_bin ?_; first | (refine lw_pure rfl (pv_lss rfl rfl) ?_))))
    exact qw_ret1 rfl rfl ⟨rfl, by simp, hb2⟩
  · have hf : findT t n0 = some r := find_at hxk hr hn
    have hR : goneR p t ev0 = (p, gone t n0, 0) := by unfold goneR; rw [hn0, hf]; rfl
    rw [hR]
    have hrid : r.id = n0 := by simpa using hr
    have hlt : k < t.length := (List.getElem?_eq_some_iff.1 hxk).1
    have hce := gone_eq hxk hp1
    rw [hrid] at hce
    repeat' (first | (refine lw_pure rfl (pv_move rfl) ?_) | (refine is_cw ?_; first | (refine cw_seq ?_) | (refine cw_region ?_) | (refine cw_false rfl rfl ?_) | (refine cw_skip ?_)) | (refine is_qw ?_; first | (with_reducible refine qw_then ?_)) | (refine lw_nil ?_) | ((refine is_bin ?_; first | (refine lw_pure rfl (pv_lss rfl rfl) ?_) | (refine lw_pure rfl (pv_inc rfl rfl (by omega)) ?_))) | ((refine is_load ?_; first | (refine lw_pure rfl (pv_load (t1 rfl) rfl (by first | exact PT.ld0 (HW.mono hw) rfl | exact PT.ld (HW.mono hw) rfl)) ?_))) | ((refine is_fa ?_; first | (refine lw_pure rfl (pv_fa (tF rfl) rfl) ?_))) | (refine lw_pure rfl (pv_nilp rfl) ?_))
    refine lw_call (f := 53) (by kernel_rfl) rfl rfl (delone_L w0.heap.size k hlt hb2.size (HT.mono hw)) ?_; rintro e1 w5 ⟨⟨v', rfl, hT5⟩, hg5, hb5⟩; refine ⟨_, rfl, ?_⟩
    have HW5 := (HW.mono hw).grown hg5 (own_pt_ne (HT.mono hw) (HW.mono hw) (by decide))
    have hO5 := (HO.mono hw).kept hg5 (own_ne_T (HO.mono hw) (HT.mono hw) (by decide))
    have hb6 := hb2.trans hb5
    obtain ⟨va, vc, rfl, -, -⟩ := Own.slR encL_len hT5
    have hw := Below.refl w5.heap.size w5
    repeat' (first | ((refine is_fa ?_; first | (refine lw_pure rfl (pv_fa (tF rfl) rfl) ?_))) | (refine lw_pure rfl (pv_nilp rfl) ?_))
    refine lw_store HW5 (tZ rfl) rfl rfl rfl (by simp) ?_; intro w6 HW6 hg6 hz6
    have hO6 := hO5.kept hg6 (Or.inr (own_pt_ne hO5 HW5 (by decide)))
    have hT6 := hT5.kept hg6 (Or.inr (own_pt_ne hT5 HW5 (by decide)))
    have hb7 := hb6.grown hg6 hb6.size (by intro q hq; injection hq with hq; omega)
    have hw := Below.refl w6.heap.size w6
    repeat' (first | (refine lw_pure rfl (pv_assign rfl) ?_) | (refine is_cw ?_; first | (refine cw_seq ?_) | (refine cw_region ?_) | (refine cw_ret ?_)) | (refine is_qw ?_; first | (with_reducible refine qw_then ?_)) | (refine lw_nil ?_))
    refine qw_ret1 rfl rfl ⟨rfl, fun _ => ⟨_, _, ⟨HW6, hO6, ?_, hNb⟩⟩, hb7⟩
    rw [hce]; exact hT6
end Go.Proofs.YtkehmbgcglbffaaDoor
