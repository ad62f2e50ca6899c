/-
  Contracts of layer 22's work: placed, cancelled, gone. Conditions: what stands in memory, as each names it.
-/
import Derived.Test.YtkehmbgcglbffaaDoorOf
import Derived.Test.YtkehmbgcglbffaaDoorOp
import Derived.Test.YtkehmbgcglbffaaDoorFw
namespace Go.Proofs.YtkehmbgcglbffaaDoor
open Go.RowKit Go.PlainAid

theorem own_ne_T {α β : Type} {enc : α → List Value} {enc' : β → List Value} {k k' : Nat} {T T' : TypeId} {B B' : Nat} {w : World} {v v' : Value} {xs : List α} {ys : List β} (h : Own enc k T B w v xs) (h' : Own enc' k' T' B' w v' ys) (hT : T ≠ T') : v.ownBlock = none ∨ v.ownBlock ≠ v'.ownBlock := by
  obtain ⟨_, h2⟩ := h
  obtain ⟨_, h2'⟩ := h'
  rcases h2 with ⟨rfl, _⟩ | ⟨g, cap, cur, rfl, _, hg, _⟩
  · exact Or.inl rfl
  · rcases h2' with ⟨rfl, _⟩ | ⟨g', cap', cur', rfl, _, hg', _⟩
    · exact Or.inr (by simp [Value.ownBlock])
    · refine Or.inr fun e => ?_
      have e2 : g = g' := by simpa [Value.ownBlock] using e
      subst e2
      rw [hg] at hg'; injection hg' with hg'; injection hg' with _ hg' _; exact hT hg'
/-- both lists, in new memory -/
structure WkO (base : Nat) (w : World) (N : Nat) (p : List Opn) (t : List Lt) (vo vt : Value) : Prop where
  pt : PT w N 51 [vo, vt]
  o : Own encP 6 34 base w vo p
  t : Own encL 4 36 base w vt t
  n : base ≤ N
theorem WkO.mono {base N : Nat} {w w' : World} {p : List Opn} {t : List Lt} {vo vt : Value} (h : WkO base w N p t vo vt) (hb : Below w.heap.size w w') : WkO base w' N p t vo vt := ⟨h.pt.mono hb, h.o.mono hb, h.t.mono hb, h.n⟩
set_option maxRecDepth 20000 in
set_option maxHeartbeats 4000000 in
theorem placed_c {p : List Opn} {t : List Lt} {ev0 : Evt} {w0 w : World} {N : Nat} {a : Option Addr} {c : Nat} {n0 n1 n2 n3 n4 n5 : Int} {vo vt : Value} (hev : ev0.nums = [n0, n1, n2, n3, n4, n5]) (hb0 : Below w0.heap.size w0 w) (hW : WkO w0.heap.size w N p t vo vt) (HN : SlR encI 1 w0 a c [n0, n1, n2, n3, n4, n5]) (hp1 : p.Pairwise keyO) (hl : p.length ≤ 128) (h3 : n3 = 1 ∨ n3 = 2) :
    Calls Tryd.prog 30 #[.pointer (some ⟨N, 0, none⟩), .slice a 6 c] w fun e w' => e = .returned (.int .i64 (placedR p t ev0).2.2) ∧ ((placedR p t ev0).2.2 = 0 → ∃ vo vt, WkO w0.heap.size w' N (placedR p t ev0).1 (placedR p t ev0).2.1 vo vt) ∧ Below w0.heap.size w0 w' := by
  obtain ⟨HW, HO, HT, hNb⟩ := hW
  obtain ⟨ab, ao, rfl, -, -⟩ := HN.at (by simp)
  obtain ⟨oa, oc, rfl, HOs, -⟩ := Own.slR encP_len HO
  have hx0 : [n0, n1, n2, n3, n4, n5][0]? = some n0 := rfl
  have hx1 : [n0, n1, n2, n3, n4, n5][1]? = some n1 := rfl
  have hx2 : [n0, n1, n2, n3, n4, n5][2]? = some n2 := rfl
  have hx3 : [n0, n1, n2, n3, n4, n5][3]? = some n3 := rfl
  have hx4 : [n0, n1, n2, n3, n4, n5][4]? = some n4 := rfl
  have hx5 : [n0, n1, n2, n3, n4, n5][5]? = some n5 := rfl
  have hR : placedR p t ev0 = if (findP p n0).isSome then ([], [], 6) else if p.length = 128 then ([], [], 40) else (insP p ⟨n1, n0, n2, n3, n4, n5⟩, t, 0) := by unfold placedR nth; rw [hev]; rfl
  rw [hR]
  clear hR hev
  have HNw := HN.mono hb0
  have hw := Below.refl w.heap.size w
  refine fn_enter 56 Tryd.func30 rfl rfl rfl ?_
  repeat' (first | (refine lw_pure rfl (pv_assign rfl) ?_) | (refine is_cw ?_; first | (refine cw_seq ?_) | (refine cw_region ?_) | (refine cw_block ?_)) | (refine is_qw ?_; first | (with_reducible refine qw_then ?_)) | (refine lw_nil ?_))
  refine cw_drawn (fun w' => Below w.heap.size w w') (by kernel_rfl) (by repeat (first | exact NoPanic.body | with_reducible refine NoPanic.then ?_ | with_reducible refine NoPanic.inBlock ?_)) (fun hNP => ?_)
  have hS := hw.drew
  (refine aw_take 0 rfl (by kernel_rfl) (by kernel_rfl) (by kernel_rfl) hNP hS rfl (fun w' hq => pv_move rfl) ?_)
  (refine aw_take 1 rfl (by kernel_rfl) (by kernel_rfl) (by kernel_rfl) hNP hS rfl (fun w' hq => pv_nilp rfl) ?_)
  (refine aw_take 2 rfl (by kernel_rfl) (by kernel_rfl) (by kernel_rfl) hNP hS rfl (fun w' hq => pv_fa (tF rfl) rfl) ?_)
  (refine aw_take 3 rfl (by kernel_rfl) (by kernel_rfl) (by kernel_rfl) hNP hS rfl (fun w' hq => pv_load (t1 rfl) rfl (by first | exact PT.ld0 (HW.mono hq) rfl | exact PT.ld (HW.mono hq) rfl | exact SlR.ld (HNw.mono hq) hx0 rfl | exact SlR.ld1 (HNw.mono hq) hx0 rfl)) ?_)
  (refine aw_take 4 rfl (by kernel_rfl) (by kernel_rfl) (by kernel_rfl) hNP hS rfl (fun w' hq => pv_move rfl) ?_)
  (refine aw_take 5 rfl (by kernel_rfl) (by kernel_rfl) (by kernel_rfl) hNP hS rfl (fun w' hq => pv_ia (tS rfl) rfl rfl (by omega)) ?_)
  (refine aw_take 6 rfl (by kernel_rfl) (by kernel_rfl) (by kernel_rfl) hNP hS rfl (fun w' hq => pv_load (t1 rfl) rfl (by first | exact PT.ld0 (HW.mono hq) rfl | exact PT.ld (HW.mono hq) rfl | exact SlR.ld (HNw.mono hq) hx0 rfl | exact SlR.ld1 (HNw.mono hq) hx0 rfl)) ?_)
  refine aw_act 7 (by kernel_rfl) rfl rfl rfl ?_
  refine act_call (f := 46) (by kernel_rfl) rfl (at_c n0 rfl (HOs.mono hS)) ?_; rintro e1 w1 ⟨⟨i, rfl, hi⟩, hb1⟩; refine ⟨_, rfl, grow_trans hS hb1, fun hS => ?_⟩
  (refine aw_take 8 rfl (by kernel_rfl) (by kernel_rfl) (by kernel_rfl) hNP hS rfl (fun w' hq => pv_geq rfl rfl) ?_)
  (refine aw_take 9 rfl (by kernel_rfl) (by kernel_rfl) (by kernel_rfl) hNP hS rfl (fun w' hq => pv_assign rfl) ?_)
  refine aw_done (by kernel_rfl) ?_
  replace hw := hS; clear hS hNP
  have hb2 := grow_trans hb0 hw
  rcases hi with ⟨rfl, hn⟩ | ⟨k, r, rfl, hxk, hr, hn⟩
  · have hf : findP p n0 = none := find_none hn
    rw [hf]
    by_cases h128 : p.length = 128
    · rw [if_neg (by simp), if_pos h128]
      repeat' (first | (refine lw_pure rfl (pv_move rfl) ?_) | (refine lw_pure rfl (pv_assign rfl) ?_) | (refine is_cw ?_; first | (refine cw_seq ?_) | (refine cw_region ?_) | (refine cw_false rfl rfl ?_) | (refine cw_true rfl (by first | assumption | exact decide_eq_true (by omega) | exact dec_notT (by omega)) ?_) | (refine cw_ret ?_)) | (refine is_qw ?_; first | (with_reducible refine qw_then ?_) | (with_reducible refine qw_then_ret ?_) | (with_reducible refine qw_in_ret ?_)) | (refine lw_nil ?_) | ((refine is_bin ?_; first | (refine lw_pure rfl (pv_eql rfl rfl) ?_))) | ((refine is_load ?_; first | (refine lw_pure rfl (pv_load (t1 rfl) rfl (by first | exact PT.ld0 (HW.mono hw) rfl | exact PT.ld (HW.mono hw) rfl)) ?_))) | ((refine is_fa ?_; first | (refine lw_pure rfl (pv_fa (tF rfl) rfl) ?_))) | ((refine is_bi ?_; first | (refine lw_pure rfl (pv_lenl (tS rfl) rfl) ?_))) | (refine lw_pure rfl (pv_nilp rfl) ?_))
      exact qw_ret1 rfl rfl ⟨rfl, by simp, hb2⟩
    · rw [if_neg (by simp), if_neg h128]
      repeat' (first | (refine lw_pure rfl (pv_move rfl) ?_) | (refine lw_pure rfl (pv_assign rfl) ?_) | (refine is_cw ?_; first | (refine cw_seq ?_) | (refine cw_region ?_) | (refine cw_false rfl rfl ?_) | (refine cw_false rfl (by first | assumption | exact decide_eq_false (by omega) | exact dec_notF (by omega)) ?_) | (refine cw_skip ?_)) | (refine is_qw ?_; first | (with_reducible refine qw_then ?_) | (with_reducible refine qw_in ?_)) | (refine lw_nil ?_) | ((refine is_bin ?_; first | (refine lw_pure rfl (pv_eql rfl rfl) ?_))) | ((refine is_load ?_; first | (refine lw_pure rfl (pv_load (t1 rfl) rfl (by first | exact PT.ld0 (HW.mono hw) rfl | exact PT.ld (HW.mono hw) rfl)) ?_))) | ((refine is_fa ?_; first | (refine lw_pure rfl (pv_fa (tF rfl) rfl) ?_))) | ((refine is_bi ?_; first | (refine lw_pure rfl (pv_lenl (tS rfl) rfl) ?_))) | (refine lw_pure rfl (pv_nilp rfl) ?_))
      have hs8 : 0 ≤ n3 ∧ n3 ≤ 255 := by omega
      have hO2 := HO.mono hw
      have hT2 := HT.mono hw
      have hwz := hb2.size
      refine cw_drawnF 29 (fun w' => Below w0.heap.size w0 w' ∧ PT w' N 51 [.slice oa p.length oc, vt]) (by kernel_rfl) (by repeat (first | exact NoPanic.body | with_reducible refine NoPanic.then ?_ | with_reducible refine NoPanic.inBlock ?_)) (fun hNP => ?_)
      have hU := And.intro hb2.drew ((HW.mono hw).mono (below_drew _))
      first | (refine fw_take 0 rfl (by kernel_rfl) rfl rfl (by kernel_rfl) (by kernel_rfl) (by kernel_rfl) hNP hU rfl (fun w' hq => pv_move rfl) ?_)
      first | (refine fw_take 1 rfl (by kernel_rfl) rfl rfl (by kernel_rfl) (by kernel_rfl) (by kernel_rfl) hNP hU rfl (fun w' hq => pv_move rfl) ?_)
      first | (refine fw_take 2 rfl (by kernel_rfl) rfl rfl (by kernel_rfl) (by kernel_rfl) (by kernel_rfl) hNP hU rfl (fun w' hq => pv_nilp rfl) ?_)
      first | (refine fw_take 3 rfl (by kernel_rfl) rfl rfl (by kernel_rfl) (by kernel_rfl) (by kernel_rfl) hNP hU rfl (fun w' hq => pv_fa (tF rfl) rfl) ?_)
      first | (refine fw_take 4 rfl (by kernel_rfl) rfl rfl (by kernel_rfl) (by kernel_rfl) (by kernel_rfl) hNP hU rfl (fun w' hq => pv_load (t1 rfl) rfl (by first | exact PT.ld0 hq.2 rfl | exact PT.ld hq.2 rfl)) ?_) | (refine fw_take 4 rfl (by kernel_rfl) rfl rfl (by kernel_rfl) (by kernel_rfl) (by kernel_rfl) hNP hU rfl (fun w' hq => pv_loada (tA rfl) rfl (by first | exact PT.lda hq.2) (by rfl)) ?_) | (refine fw_take 4 rfl (by kernel_rfl) rfl rfl (by kernel_rfl) (by kernel_rfl) (by kernel_rfl) hNP hU rfl (fun w' hq => pv_load (t1 rfl) rfl (by first | exact SlR.ld (HN.mono hq.1) hx0 rfl | exact SlR.ld1 (HN.mono hq.1) hx0 rfl | exact SlR.ld (HN.mono hq.1) hx1 rfl | exact SlR.ld1 (HN.mono hq.1) hx1 rfl | exact SlR.ld (HN.mono hq.1) hx2 rfl | exact SlR.ld1 (HN.mono hq.1) hx2 rfl | exact SlR.ld (HN.mono hq.1) hx3 rfl | exact SlR.ld1 (HN.mono hq.1) hx3 rfl | exact SlR.ld (HN.mono hq.1) hx4 rfl | exact SlR.ld1 (HN.mono hq.1) hx4 rfl | exact SlR.ld (HN.mono hq.1) hx5 rfl | exact SlR.ld1 (HN.mono hq.1) hx5 rfl)) ?_) | (refine fw_take 4 rfl (by kernel_rfl) rfl rfl (by kernel_rfl) (by kernel_rfl) (by kernel_rfl) hNP hU rfl (fun w' hq => pv_loada (tA rfl) rfl (by first | exact SlR.lda (HN.mono hq.1) hx0 | exact SlR.lda (HN.mono hq.1) hx1 | exact SlR.lda (HN.mono hq.1) hx2 | exact SlR.lda (HN.mono hq.1) hx3 | exact SlR.lda (HN.mono hq.1) hx4 | exact SlR.lda (HN.mono hq.1) hx5) (by rfl)) ?_)
      first | (refine fw_take 5 rfl (by kernel_rfl) rfl rfl (by kernel_rfl) (by kernel_rfl) (by kernel_rfl) hNP hU rfl (fun w' hq => pv_move rfl) ?_)
      first | (refine fw_take 6 rfl (by kernel_rfl) rfl rfl (by kernel_rfl) (by kernel_rfl) (by kernel_rfl) hNP hU rfl (fun w' hq => pv_ian (tS rfl) rfl rfl (by omega)) ?_) | (refine fw_take 6 rfl (by kernel_rfl) rfl rfl (by kernel_rfl) (by kernel_rfl) (by kernel_rfl) hNP hU rfl (fun w' hq => pv_ia (tS rfl) rfl rfl (by omega)) ?_)
      first | (refine fw_take 7 rfl (by kernel_rfl) rfl rfl (by kernel_rfl) (by kernel_rfl) (by kernel_rfl) hNP hU rfl (fun w' hq => pv_load (t1 rfl) rfl (by first | exact PT.ld0 hq.2 rfl | exact PT.ld hq.2 rfl)) ?_) | (refine fw_take 7 rfl (by kernel_rfl) rfl rfl (by kernel_rfl) (by kernel_rfl) (by kernel_rfl) hNP hU rfl (fun w' hq => pv_loada (tA rfl) rfl (by first | exact PT.lda hq.2) (by rfl)) ?_) | (refine fw_take 7 rfl (by kernel_rfl) rfl rfl (by kernel_rfl) (by kernel_rfl) (by kernel_rfl) hNP hU rfl (fun w' hq => pv_load (t1 rfl) rfl (by first | exact SlR.ld (HN.mono hq.1) hx0 rfl | exact SlR.ld1 (HN.mono hq.1) hx0 rfl | exact SlR.ld (HN.mono hq.1) hx1 rfl | exact SlR.ld1 (HN.mono hq.1) hx1 rfl | exact SlR.ld (HN.mono hq.1) hx2 rfl | exact SlR.ld1 (HN.mono hq.1) hx2 rfl | exact SlR.ld (HN.mono hq.1) hx3 rfl | exact SlR.ld1 (HN.mono hq.1) hx3 rfl | exact SlR.ld (HN.mono hq.1) hx4 rfl | exact SlR.ld1 (HN.mono hq.1) hx4 rfl | exact SlR.ld (HN.mono hq.1) hx5 rfl | exact SlR.ld1 (HN.mono hq.1) hx5 rfl)) ?_) | (refine fw_take 7 rfl (by kernel_rfl) rfl rfl (by kernel_rfl) (by kernel_rfl) (by kernel_rfl) hNP hU rfl (fun w' hq => pv_loada (tA rfl) rfl (by first | exact SlR.lda (HN.mono hq.1) hx0 | exact SlR.lda (HN.mono hq.1) hx1 | exact SlR.lda (HN.mono hq.1) hx2 | exact SlR.lda (HN.mono hq.1) hx3 | exact SlR.lda (HN.mono hq.1) hx4 | exact SlR.lda (HN.mono hq.1) hx5) (by rfl)) ?_)
      first | (refine fw_take 8 rfl (by kernel_rfl) rfl rfl (by kernel_rfl) (by kernel_rfl) (by kernel_rfl) hNP hU rfl (fun w' hq => pv_move rfl) ?_)
      first | (refine fw_take 9 rfl (by kernel_rfl) rfl rfl (by kernel_rfl) (by kernel_rfl) (by kernel_rfl) hNP hU rfl (fun w' hq => pv_ian (tS rfl) rfl rfl (by omega)) ?_) | (refine fw_take 9 rfl (by kernel_rfl) rfl rfl (by kernel_rfl) (by kernel_rfl) (by kernel_rfl) hNP hU rfl (fun w' hq => pv_ia (tS rfl) rfl rfl (by omega)) ?_)
      first | (refine fw_take 10 rfl (by kernel_rfl) rfl rfl (by kernel_rfl) (by kernel_rfl) (by kernel_rfl) hNP hU rfl (fun w' hq => pv_load (t1 rfl) rfl (by first | exact PT.ld0 hq.2 rfl | exact PT.ld hq.2 rfl)) ?_) | (refine fw_take 10 rfl (by kernel_rfl) rfl rfl (by kernel_rfl) (by kernel_rfl) (by kernel_rfl) hNP hU rfl (fun w' hq => pv_loada (tA rfl) rfl (by first | exact PT.lda hq.2) (by rfl)) ?_) | (refine fw_take 10 rfl (by kernel_rfl) rfl rfl (by kernel_rfl) (by kernel_rfl) (by kernel_rfl) hNP hU rfl (fun w' hq => pv_load (t1 rfl) rfl (by first | exact SlR.ld (HN.mono hq.1) hx0 rfl | exact SlR.ld1 (HN.mono hq.1) hx0 rfl | exact SlR.ld (HN.mono hq.1) hx1 rfl | exact SlR.ld1 (HN.mono hq.1) hx1 rfl | exact SlR.ld (HN.mono hq.1) hx2 rfl | exact SlR.ld1 (HN.mono hq.1) hx2 rfl | exact SlR.ld (HN.mono hq.1) hx3 rfl | exact SlR.ld1 (HN.mono hq.1) hx3 rfl | exact SlR.ld (HN.mono hq.1) hx4 rfl | exact SlR.ld1 (HN.mono hq.1) hx4 rfl | exact SlR.ld (HN.mono hq.1) hx5 rfl | exact SlR.ld1 (HN.mono hq.1) hx5 rfl)) ?_) | (refine fw_take 10 rfl (by kernel_rfl) rfl rfl (by kernel_rfl) (by kernel_rfl) (by kernel_rfl) hNP hU rfl (fun w' hq => pv_loada (tA rfl) rfl (by first | exact SlR.lda (HN.mono hq.1) hx0 | exact SlR.lda (HN.mono hq.1) hx1 | exact SlR.lda (HN.mono hq.1) hx2 | exact SlR.lda (HN.mono hq.1) hx3 | exact SlR.lda (HN.mono hq.1) hx4 | exact SlR.lda (HN.mono hq.1) hx5) (by rfl)) ?_)
      first | (refine fw_take 11 rfl (by kernel_rfl) rfl rfl (by kernel_rfl) (by kernel_rfl) (by kernel_rfl) hNP hU rfl (fun w' hq => pv_move rfl) ?_)
      first | (refine fw_take 12 rfl (by kernel_rfl) rfl rfl (by kernel_rfl) (by kernel_rfl) (by kernel_rfl) hNP hU rfl (fun w' hq => pv_ian (tS rfl) rfl rfl (by omega)) ?_) | (refine fw_take 12 rfl (by kernel_rfl) rfl rfl (by kernel_rfl) (by kernel_rfl) (by kernel_rfl) hNP hU rfl (fun w' hq => pv_ia (tS rfl) rfl rfl (by omega)) ?_)
      first | (refine fw_take 13 rfl (by kernel_rfl) rfl rfl (by kernel_rfl) (by kernel_rfl) (by kernel_rfl) hNP hU rfl (fun w' hq => pv_load (t1 rfl) rfl (by first | exact PT.ld0 hq.2 rfl | exact PT.ld hq.2 rfl)) ?_) | (refine fw_take 13 rfl (by kernel_rfl) rfl rfl (by kernel_rfl) (by kernel_rfl) (by kernel_rfl) hNP hU rfl (fun w' hq => pv_loada (tA rfl) rfl (by first | exact PT.lda hq.2) (by rfl)) ?_) | (refine fw_take 13 rfl (by kernel_rfl) rfl rfl (by kernel_rfl) (by kernel_rfl) (by kernel_rfl) hNP hU rfl (fun w' hq => pv_load (t1 rfl) rfl (by first | exact SlR.ld (HN.mono hq.1) hx0 rfl | exact SlR.ld1 (HN.mono hq.1) hx0 rfl | exact SlR.ld (HN.mono hq.1) hx1 rfl | exact SlR.ld1 (HN.mono hq.1) hx1 rfl | exact SlR.ld (HN.mono hq.1) hx2 rfl | exact SlR.ld1 (HN.mono hq.1) hx2 rfl | exact SlR.ld (HN.mono hq.1) hx3 rfl | exact SlR.ld1 (HN.mono hq.1) hx3 rfl | exact SlR.ld (HN.mono hq.1) hx4 rfl | exact SlR.ld1 (HN.mono hq.1) hx4 rfl | exact SlR.ld (HN.mono hq.1) hx5 rfl | exact SlR.ld1 (HN.mono hq.1) hx5 rfl)) ?_) | (refine fw_take 13 rfl (by kernel_rfl) rfl rfl (by kernel_rfl) (by kernel_rfl) (by kernel_rfl) hNP hU rfl (fun w' hq => pv_loada (tA rfl) rfl (by first | exact SlR.lda (HN.mono hq.1) hx0 | exact SlR.lda (HN.mono hq.1) hx1 | exact SlR.lda (HN.mono hq.1) hx2 | exact SlR.lda (HN.mono hq.1) hx3 | exact SlR.lda (HN.mono hq.1) hx4 | exact SlR.lda (HN.mono hq.1) hx5) (by rfl)) ?_)
      first | (refine fw_take 14 rfl (by kernel_rfl) rfl rfl (by kernel_rfl) (by kernel_rfl) (by kernel_rfl) hNP hU rfl (fun w' hq => pv_move rfl) ?_)
      first | (refine fw_take 15 rfl (by kernel_rfl) rfl rfl (by kernel_rfl) (by kernel_rfl) (by kernel_rfl) hNP hU rfl (fun w' hq => pv_ian (tS rfl) rfl rfl (by omega)) ?_) | (refine fw_take 15 rfl (by kernel_rfl) rfl rfl (by kernel_rfl) (by kernel_rfl) (by kernel_rfl) hNP hU rfl (fun w' hq => pv_ia (tS rfl) rfl rfl (by omega)) ?_)
      first | (refine fw_take 16 rfl (by kernel_rfl) rfl rfl (by kernel_rfl) (by kernel_rfl) (by kernel_rfl) hNP hU rfl (fun w' hq => pv_load (t1 rfl) rfl (by first | exact PT.ld0 hq.2 rfl | exact PT.ld hq.2 rfl)) ?_) | (refine fw_take 16 rfl (by kernel_rfl) rfl rfl (by kernel_rfl) (by kernel_rfl) (by kernel_rfl) hNP hU rfl (fun w' hq => pv_loada (tA rfl) rfl (by first | exact PT.lda hq.2) (by rfl)) ?_) | (refine fw_take 16 rfl (by kernel_rfl) rfl rfl (by kernel_rfl) (by kernel_rfl) (by kernel_rfl) hNP hU rfl (fun w' hq => pv_load (t1 rfl) rfl (by first | exact SlR.ld (HN.mono hq.1) hx0 rfl | exact SlR.ld1 (HN.mono hq.1) hx0 rfl | exact SlR.ld (HN.mono hq.1) hx1 rfl | exact SlR.ld1 (HN.mono hq.1) hx1 rfl | exact SlR.ld (HN.mono hq.1) hx2 rfl | exact SlR.ld1 (HN.mono hq.1) hx2 rfl | exact SlR.ld (HN.mono hq.1) hx3 rfl | exact SlR.ld1 (HN.mono hq.1) hx3 rfl | exact SlR.ld (HN.mono hq.1) hx4 rfl | exact SlR.ld1 (HN.mono hq.1) hx4 rfl | exact SlR.ld (HN.mono hq.1) hx5 rfl | exact SlR.ld1 (HN.mono hq.1) hx5 rfl)) ?_) | (refine fw_take 16 rfl (by kernel_rfl) rfl rfl (by kernel_rfl) (by kernel_rfl) (by kernel_rfl) hNP hU rfl (fun w' hq => pv_loada (tA rfl) rfl (by first | exact SlR.lda (HN.mono hq.1) hx0 | exact SlR.lda (HN.mono hq.1) hx1 | exact SlR.lda (HN.mono hq.1) hx2 | exact SlR.lda (HN.mono hq.1) hx3 | exact SlR.lda (HN.mono hq.1) hx4 | exact SlR.lda (HN.mono hq.1) hx5) (by rfl)) ?_)
      first | (refine fw_take 17 rfl (by kernel_rfl) rfl rfl (by kernel_rfl) (by kernel_rfl) (by kernel_rfl) hNP hU rfl (fun w' hq => pv_conv8 (tCv rfl rfl) rfl hs8) ?_) | (refine fw_take 17 rfl (by kernel_rfl) rfl rfl (by kernel_rfl) (by kernel_rfl) (by kernel_rfl) hNP hU rfl (fun w' hq => pv_conv (tCv rfl rfl) rfl (by omega)) ?_)
      first | (refine fw_take 18 rfl (by kernel_rfl) rfl rfl (by kernel_rfl) (by kernel_rfl) (by kernel_rfl) hNP hU rfl (fun w' hq => pv_move rfl) ?_)
      first | (refine fw_take 19 rfl (by kernel_rfl) rfl rfl (by kernel_rfl) (by kernel_rfl) (by kernel_rfl) hNP hU rfl (fun w' hq => pv_ian (tS rfl) rfl rfl (by omega)) ?_) | (refine fw_take 19 rfl (by kernel_rfl) rfl rfl (by kernel_rfl) (by kernel_rfl) (by kernel_rfl) hNP hU rfl (fun w' hq => pv_ia (tS rfl) rfl rfl (by omega)) ?_)
      first | (refine fw_take 20 rfl (by kernel_rfl) rfl rfl (by kernel_rfl) (by kernel_rfl) (by kernel_rfl) hNP hU rfl (fun w' hq => pv_load (t1 rfl) rfl (by first | exact PT.ld0 hq.2 rfl | exact PT.ld hq.2 rfl)) ?_) | (refine fw_take 20 rfl (by kernel_rfl) rfl rfl (by kernel_rfl) (by kernel_rfl) (by kernel_rfl) hNP hU rfl (fun w' hq => pv_loada (tA rfl) rfl (by first | exact PT.lda hq.2) (by rfl)) ?_) | (refine fw_take 20 rfl (by kernel_rfl) rfl rfl (by kernel_rfl) (by kernel_rfl) (by kernel_rfl) hNP hU rfl (fun w' hq => pv_load (t1 rfl) rfl (by first | exact SlR.ld (HN.mono hq.1) hx0 rfl | exact SlR.ld1 (HN.mono hq.1) hx0 rfl | exact SlR.ld (HN.mono hq.1) hx1 rfl | exact SlR.ld1 (HN.mono hq.1) hx1 rfl | exact SlR.ld (HN.mono hq.1) hx2 rfl | exact SlR.ld1 (HN.mono hq.1) hx2 rfl | exact SlR.ld (HN.mono hq.1) hx3 rfl | exact SlR.ld1 (HN.mono hq.1) hx3 rfl | exact SlR.ld (HN.mono hq.1) hx4 rfl | exact SlR.ld1 (HN.mono hq.1) hx4 rfl | exact SlR.ld (HN.mono hq.1) hx5 rfl | exact SlR.ld1 (HN.mono hq.1) hx5 rfl)) ?_) | (refine fw_take 20 rfl (by kernel_rfl) rfl rfl (by kernel_rfl) (by kernel_rfl) (by kernel_rfl) hNP hU rfl (fun w' hq => pv_loada (tA rfl) rfl (by first | exact SlR.lda (HN.mono hq.1) hx0 | exact SlR.lda (HN.mono hq.1) hx1 | exact SlR.lda (HN.mono hq.1) hx2 | exact SlR.lda (HN.mono hq.1) hx3 | exact SlR.lda (HN.mono hq.1) hx4 | exact SlR.lda (HN.mono hq.1) hx5) (by rfl)) ?_)
      first | (refine fw_take 21 rfl (by kernel_rfl) rfl rfl (by kernel_rfl) (by kernel_rfl) (by kernel_rfl) hNP hU rfl (fun w' hq => pv_move rfl) ?_)
      first | (refine fw_take 22 rfl (by kernel_rfl) rfl rfl (by kernel_rfl) (by kernel_rfl) (by kernel_rfl) hNP hU rfl (fun w' hq => pv_ian (tS rfl) rfl rfl (by omega)) ?_) | (refine fw_take 22 rfl (by kernel_rfl) rfl rfl (by kernel_rfl) (by kernel_rfl) (by kernel_rfl) hNP hU rfl (fun w' hq => pv_ia (tS rfl) rfl rfl (by omega)) ?_)
      first | (refine fw_take 23 rfl (by kernel_rfl) rfl rfl (by kernel_rfl) (by kernel_rfl) (by kernel_rfl) hNP hU rfl (fun w' hq => pv_load (t1 rfl) rfl (by first | exact PT.ld0 hq.2 rfl | exact PT.ld hq.2 rfl)) ?_) | (refine fw_take 23 rfl (by kernel_rfl) rfl rfl (by kernel_rfl) (by kernel_rfl) (by kernel_rfl) hNP hU rfl (fun w' hq => pv_loada (tA rfl) rfl (by first | exact PT.lda hq.2) (by rfl)) ?_) | (refine fw_take 23 rfl (by kernel_rfl) rfl rfl (by kernel_rfl) (by kernel_rfl) (by kernel_rfl) hNP hU rfl (fun w' hq => pv_load (t1 rfl) rfl (by first | exact SlR.ld (HN.mono hq.1) hx0 rfl | exact SlR.ld1 (HN.mono hq.1) hx0 rfl | exact SlR.ld (HN.mono hq.1) hx1 rfl | exact SlR.ld1 (HN.mono hq.1) hx1 rfl | exact SlR.ld (HN.mono hq.1) hx2 rfl | exact SlR.ld1 (HN.mono hq.1) hx2 rfl | exact SlR.ld (HN.mono hq.1) hx3 rfl | exact SlR.ld1 (HN.mono hq.1) hx3 rfl | exact SlR.ld (HN.mono hq.1) hx4 rfl | exact SlR.ld1 (HN.mono hq.1) hx4 rfl | exact SlR.ld (HN.mono hq.1) hx5 rfl | exact SlR.ld1 (HN.mono hq.1) hx5 rfl)) ?_) | (refine fw_take 23 rfl (by kernel_rfl) rfl rfl (by kernel_rfl) (by kernel_rfl) (by kernel_rfl) hNP hU rfl (fun w' hq => pv_loada (tA rfl) rfl (by first | exact SlR.lda (HN.mono hq.1) hx0 | exact SlR.lda (HN.mono hq.1) hx1 | exact SlR.lda (HN.mono hq.1) hx2 | exact SlR.lda (HN.mono hq.1) hx3 | exact SlR.lda (HN.mono hq.1) hx4 | exact SlR.lda (HN.mono hq.1) hx5) (by rfl)) ?_)
      first | (refine fw_take 24 rfl (by kernel_rfl) rfl rfl (by kernel_rfl) (by kernel_rfl) (by kernel_rfl) hNP hU rfl (fun w' hq => tyB_34 rfl rfl rfl) ?_)
      refine fw_act 25 (by kernel_rfl) rfl rfl rfl ?_
      refine act_bs (vs := [.agg (encP ⟨n1, n0, n2, n3, n4, n5⟩).toArray]) (cs := encP ⟨n1, n0, n2, n3, n4, n5⟩) elemP rfl rfl (by omega) (by omega) rfl (by simp [Value.cells, encP]) ?_; intro wb HB hbb; have hO3 := (hO2.mono (below_drew _)).mono hbb; have hT3 := (hT2.mono (below_drew _)).mono hbb; have hbz := hbb.size; refine ⟨⟨grow_trans hU.1 hbb, hU.2.mono hbb⟩, fun hU => ?_⟩
      refine fw_act 26 (by kernel_rfl) rfl rfl rfl ?_
      refine act_app elemP encP_len encP_one rfl rfl hO3 (HB.slR (xs := [⟨n1, n0, n2, n3, n4, n5⟩]) encP_len rfl (by omega)) rfl hU.1.size (by simp; omega) (by simp [maxLen]; omega) ?_; intro v9 w9 hO9 hg9 hb9; refine ⟨⟨hU.1.grown hg9 hU.1.size (fun q hq => (Own.lt hO3 q hq).1), hU.2.grown hg9 (fun e => own_pt_ne hO3 hU.2 (by decide) e)⟩, fun hU => ?_⟩
      first | (refine fw_act 27 (by kernel_rfl) rfl rfl rfl ?_; refine act_pv (pv_nilp rfl) ?_; refine ⟨hU, fun hU => ?_⟩)
      first | (refine fw_take 28 rfl (by kernel_rfl) rfl rfl (by kernel_rfl) (by kernel_rfl) (by kernel_rfl) hNP hU rfl (fun w' hq => pv_fa (tF rfl) rfl) ?_)
      refine fw_last (by kernel_rfl) rfl rfl rfl rfl (by kernel_rfl) ?_
      obtain ⟨hb3, HW3⟩ := hU; clear hNP
      obtain ⟨va, vc, rfl, -, -⟩ := Own.slR encP_len hO9; refine act_store HW3 (tZ rfl) rfl rfl rfl (by simp) ?_; intro wz HWz hgz hzz
      have hT9 := hT3.kept hg9 (own_ne_T hT3 hO3 (by decide))
      have hTz := hT9.kept hgz (Or.inr (own_pt_ne hT9 HW3 (by decide)))
      have hOz := hO9.kept hgz (Or.inr (own_pt_ne hO9 HW3 (by decide)))
      have hbz4 := hb3.grown hgz hb3.size (by intro q hq; injection hq with hq; omega)
      obtain ⟨va', vc', hv', hSz, hvb⟩ := Own.slR encP_len hOz
      injection hv' with hv1 _ hv3; subst hv1 hv3
      obtain ⟨vb, vo2, rfl, -, -⟩ := hSz.at (by simp)
      obtain ⟨hvb1, hvb2⟩ := hvb _ rfl
      simp only at hvb1 hvb2; subst hvb2
      have hw := Below.refl wz.heap.size wz
      have hids : ∀ x ∈ p, x.id ≠ n0 := findP_none hf
      have hll : (p ++ [(⟨n1, n0, n2, n3, n4, n5⟩ : Opn)]).length ≤ 1000000 := by simp; omega
      repeat' (first | (refine lw_pure rfl (pv_move rfl) ?_) | (refine is_cw ?_; first | (refine cw_seq ?_) | (refine cw_region ?_)) | (refine is_qw ?_; first | (with_reducible refine qw_then ?_)) | ((refine is_load ?_; first | (refine lw_pure rfl (pv_load (t1 rfl) rfl (by first | exact PT.ld0 (HWz.mono hw) rfl | exact PT.ld (HWz.mono hw) rfl)) ?_))) | ((refine is_fa ?_; first | (refine lw_pure rfl (pv_fa (tF rfl) rfl) ?_))) | (refine lw_pure rfl (pv_nilp rfl) ?_))
      refine lw_call (f := 47) (by kernel_rfl) rfl rfl (sort_P w0.heap.size vb vc _ wz hOz hll (put_pw hp1 hids)) ?_; rintro e1 w5 ⟨rfl, ⟨zs, hz1, hz2, hOs2⟩, hg5⟩; refine ⟨_, rfl, ?_⟩
      have hze := put_sorted hp1 hids hz1 hz2
      have hT5 := hTz.kept hg5 (own_ne_T hTz hOz (by decide))
      have hW5 := HWz.grown hg5 (own_pt_ne hOz HWz (by decide))
      have hb5 := hbz4.grown hg5 hbz4.size (by intro q hq; injection hq with hq; omega)
      have hw := Below.refl w5.heap.size w5
      repeat' (first | (refine lw_pure rfl (pv_assign rfl) ?_) | (refine is_cw ?_; first | (refine cw_seq ?_) | (refine cw_region ?_) | (refine cw_ret ?_)) | (refine is_qw ?_; first | (with_reducible refine qw_then ?_)) | (refine lw_nil ?_))
      refine qw_ret1 rfl rfl ⟨rfl, fun _ => ⟨_, _, ⟨hW5, ?_, hT5, hNb⟩⟩, hb5⟩
      rw [← hze]
      rw [show (p ++ [(⟨n1, n0, n2, n3, n4, n5⟩ : Opn)]).length = zs.length from hz1.length_eq.symm] at hOs2 ⊢
      exact hOs2
  · have hf : findP p n0 = some r := find_at hxk hr hn
    rw [hf, if_pos (by rfl)]
    repeat' (first | (refine lw_pure rfl (pv_assign rfl) ?_) | (refine is_cw ?_; first | (refine cw_seq ?_) | (refine cw_region ?_) | (refine cw_true rfl rfl ?_) | (refine cw_ret ?_)) | (refine is_qw ?_; first | (with_reducible refine qw_then ?_) | (with_reducible refine qw_then_ret ?_) | (with_reducible refine qw_in_ret ?_)) | (refine lw_nil ?_))
    exact qw_ret1 rfl rfl ⟨rfl, by simp, hb2⟩
end Go.Proofs.YtkehmbgcglbffaaDoor
