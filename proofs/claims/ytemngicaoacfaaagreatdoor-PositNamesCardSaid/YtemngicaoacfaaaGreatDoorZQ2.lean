/-
  Part 2 of the texts of: PositNames: its row and its card: whatever the input: true; the input reads as it did. Conditions: what the row prints (the table of functions reads as the program's text lays it).
-/
import Derived.Test.YtemngicaoacfaaaGreatDoorZQ1
import Derived.Laws.StructEq
namespace Go.Proofs.YtemngicaoacfaaaGreatDoor
open Go.RowKit Go.PlainAid

theorem own_ne_T {α β : Type} {enc : α → List Value} {enc' : β → List Value} {k k' : Nat} {T T' : TypeId} {B B' : Nat} {w : World} {v v' : Value} {xs : List α} {ys : List β} (h : Own enc k T B w v xs) (h' : Own enc' k' T' B' w v' ys) (hT : T ≠ T') : v.ownBlock = none ∨ v.ownBlock ≠ v'.ownBlock := by
  obtain ⟨_, h2⟩ := h
  obtain ⟨_, h2'⟩ := h'
  rcases h2 with ⟨rfl, _⟩ | ⟨g, cap, cur, rfl, _, hg, _⟩
  · exact Or.inl rfl
  · rcases h2' with ⟨rfl, _⟩ | ⟨g', cap', cur', rfl, _, hg', _⟩
    · exact Or.inr (by simp [Value.ownBlock])
    · refine Or.inr fun e => ?_
      have e2 : g = g' := by simpa [Value.ownBlock] using e
      subst e2
      rw [hg] at hg'; injection hg' with hg'; injection hg' with _ hg' _; exact hT hg'
structure WkO (base : Nat) (w : World) (N : Nat) (p : List Opn) (t : List Lt) (vo vt : Value) : Prop where
  pt : PT w N 80 [vo, vt]
  o : Own encP 6 49 base w vo p
  t : Own encL 4 53 base w vt t
  n : base ≤ N
theorem WkO.mono {base N : Nat} {w w' : World} {p : List Opn} {t : List Lt} {vo vt : Value} (h : WkO base w N p t vo vt) (hb : Below w.heap.size w w') : WkO base w' N p t vo vt := ⟨h.pt.mono hb, h.o.mono hb, h.t.mono hb, h.n⟩
set_option maxRecDepth 20000 in
set_option maxHeartbeats 4000000 in
theorem placed_c {p : List Opn} {t : List Lt} {ev0 : Evt} {w0 w : World} {N : Nat} {a : Option Addr} {c : Nat} {n0 n1 n2 n3 n4 n5 : Int} {vo vt : Value} (hev : ev0.nums = [n0, n1, n2, n3, n4, n5]) (hb0 : Below w0.heap.size w0 w) (hW : WkO w0.heap.size w N p t vo vt) (HN : SlR encI 1 w0 a c [n0, n1, n2, n3, n4, n5]) (hp1 : p.Pairwise keyO) (hl : p.length ≤ 128) (h3 : n3 = 1 ∨ n3 = 2) :
    Calls Tryz.prog 82 #[.pointer (some ⟨N, 0, none⟩), .slice a 6 c] w fun e w' => e = .returned (.int .i64 (placedR p t ev0).2.2) ∧ ((placedR p t ev0).2.2 = 0 → ∃ vo vt, WkO w0.heap.size w' N (placedR p t ev0).1 (placedR p t ev0).2.1 vo vt) ∧ Below w0.heap.size w0 w' := by
  obtain ⟨HW, HO, HT, hNb⟩ := hW
  obtain ⟨ab, ao, rfl, -, -⟩ := HN.at (by simp)
  obtain ⟨oa, oc, rfl, HOs, -⟩ := Own.slR encP_len HO
  have hx0 : [n0, n1, n2, n3, n4, n5][0]? = some n0 := rfl
  have hx1 : [n0, n1, n2, n3, n4, n5][1]? = some n1 := rfl
  have hx2 : [n0, n1, n2, n3, n4, n5][2]? = some n2 := rfl
  have hx3 : [n0, n1, n2, n3, n4, n5][3]? = some n3 := rfl
  have hx4 : [n0, n1, n2, n3, n4, n5][4]? = some n4 := rfl
  have hx5 : [n0, n1, n2, n3, n4, n5][5]? = some n5 := rfl
  have hR : placedR p t ev0 = if (findP p n0).isSome then ([], [], 6) else if p.length = 128 then ([], [], 40) else (insP p ⟨n1, n0, n2, n3, n4, n5⟩, t, 0) := by unfold placedR nth; rw [hev]; rfl
  rw [hR]
  clear hR hev
  have HNw := HN.mono hb0
  have hw := Below.refl w.heap.size w
  refine fn_enter 56 Tryz.func82 rfl rfl rfl ?_
  repeat' (first | (refine lw_pure rfl (pv_assign rfl) ?_) | (refine is_cw ?_; first | (refine cw_seq ?_) | (refine cw_region ?_) | (refine cw_block ?_)) | (refine is_qw ?_; first | (with_reducible refine qw_then ?_)) | (refine lw_nil ?_))
  refine cw_drawn (fun w' => Below w.heap.size w w') (by kernel_rfl) (by repeat (first | exact NoPanic.body | with_reducible refine NoPanic.then ?_ | with_reducible refine NoPanic.inBlock ?_)) (fun hNP => ?_)
  have hS := hw.drew
  (refine at0 0 rfl (fun w' hq => pv_move rfl) ?_)
  (refine at0 1 rfl (fun w' hq => pv_nilp rfl) ?_)
  (refine at0 2 rfl (fun w' hq => pv_fa (tF rfl) rfl) ?_)
  (refine at0 3 rfl (fun w' hq => pv_load (t1 rfl) rfl (by first | exact PT.ld0 (HW.mono hq) rfl | exact PT.ld (HW.mono hq) rfl | exact SlR.ld (HNw.mono hq) hx0 rfl | exact SlR.ld1 (HNw.mono hq) hx0 rfl)) ?_)
  (refine at0 4 rfl (fun w' hq => pv_move rfl) ?_)
  (refine at0 5 rfl (fun w' hq => pv_ia (tS rfl) rfl rfl (by omega)) ?_)
  (refine at0 6 rfl (fun w' hq => pv_load (t1 rfl) rfl (by first | exact PT.ld0 (HW.mono hq) rfl | exact PT.ld (HW.mono hq) rfl | exact SlR.ld (HNw.mono hq) hx0 rfl | exact SlR.ld1 (HNw.mono hq) hx0 rfl)) ?_)
  refine aw_act 7 (by kernel_rfl) rfl rfl rfl ?_
  refine act_call (f := 55) (by kernel_rfl) rfl (at_c n0 rfl (HOs.mono hS)) ?_; rintro e1 w1 ⟨⟨i, rfl, hi⟩, hb1⟩; refine ⟨_, rfl, grow_trans hS hb1, fun hS => ?_⟩
  (refine at0 8 rfl (fun w' hq => pv_geq rfl rfl) ?_)
  (refine at0 9 rfl (fun w' hq => pv_assign rfl) ?_)
  refine aw_done (by kernel_rfl) ?_
  replace hw := hS; clear hS hNP
  have hb2 := grow_trans hb0 hw
  rcases hi with ⟨rfl, hn⟩ | ⟨k, r, rfl, hxk, hr, hn⟩
  · have hf : findP p n0 = none := find_none hn
    rw [hf]
    by_cases h128 : p.length = 128
    · rw [if_neg (by simp), if_pos h128]
      repeat' (first | (refine lw_pure rfl (pv_move rfl) ?_) | (refine lw_pure rfl (pv_assign rfl) ?_) | (refine is_cw ?_; first | (refine cw_seq ?_) | (refine cw_region ?_) | (refine cw_false rfl rfl ?_) | (refine is_cd ?_; refine cw_true rfl (by first | assumption | exact decide_eq_true (by omega) | exact dec_notT (by omega)) ?_) | (refine cw_ret ?_)) | (refine is_qw ?_; first | (with_reducible refine qw_then ?_) | (with_reducible refine qw_then_ret ?_) | (with_reducible refine qw_in_ret ?_)) | (refine lw_nil ?_) | ((refine is_bin ?_; first | (refine lw_pure rfl (pv_eql rfl rfl) ?_))) | ((refine is_load ?_; first | (refine lw_pure rfl (pv_load (t1 rfl) rfl (by first | exact PT.ld0 (HW.mono hw) rfl | exact PT.ld (HW.mono hw) rfl)) ?_))) | ((refine is_fa ?_; first | (refine lw_pure rfl (pv_fa (tF rfl) rfl) ?_))) | ((refine is_bi ?_; first | (refine lw_pure rfl (pv_lenl (tS rfl) rfl) ?_))) | (refine lw_pure rfl (pv_nilp rfl) ?_))
      exact qw_ret1 rfl rfl ⟨rfl, by simp, hb2⟩
    · rw [if_neg (by simp), if_neg h128]
      repeat' (first | (refine lw_pure rfl (pv_move rfl) ?_) | (refine lw_pure rfl (pv_assign rfl) ?_) | (refine is_cw ?_; first | (refine cw_seq ?_) | (refine cw_region ?_) | (refine cw_false rfl rfl ?_) | (refine is_cd ?_; refine cw_false rfl (by first | assumption | exact decide_eq_false (by omega) | exact dec_notF (by omega)) ?_) | (refine cw_skip ?_)) | (refine is_qw ?_; first | (with_reducible refine qw_then ?_) | (with_reducible refine qw_in ?_)) | (refine lw_nil ?_) | ((refine is_bin ?_; first | (refine lw_pure rfl (pv_eql rfl rfl) ?_))) | ((refine is_load ?_; first | (refine lw_pure rfl (pv_load (t1 rfl) rfl (by first | exact PT.ld0 (HW.mono hw) rfl | exact PT.ld (HW.mono hw) rfl)) ?_))) | ((refine is_fa ?_; first | (refine lw_pure rfl (pv_fa (tF rfl) rfl) ?_))) | ((refine is_bi ?_; first | (refine lw_pure rfl (pv_lenl (tS rfl) rfl) ?_))) | (refine lw_pure rfl (pv_nilp rfl) ?_))
      have hs8 : 0 ≤ n3 ∧ n3 ≤ 255 := by omega
      have hO2 := HO.mono hw
      have hT2 := HT.mono hw
      have hwz := hb2.size
      refine cw_drawnF 29 (fun w' => Below w0.heap.size w0 w' ∧ PT w' N 80 [.slice oa p.length oc, vt]) (by kernel_rfl) (by repeat (first | exact NoPanic.body | with_reducible refine NoPanic.then ?_ | with_reducible refine NoPanic.inBlock ?_)) (fun hNP => ?_)
      have hU := And.intro hb2.drew ((HW.mono hw).mono (below_drew _))
      first | (refine fw_take 0 rfl (by kernel_rfl) rfl rfl (by kernel_rfl) (by kernel_rfl) (by kernel_rfl) hNP hU rfl (fun w' hq => pv_move rfl) ?_)
      first | (refine fw_take 1 rfl (by kernel_rfl) rfl rfl (by kernel_rfl) (by kernel_rfl) (by kernel_rfl) hNP hU rfl (fun w' hq => pv_move rfl) ?_)
      first | (refine fw_take 2 rfl (by kernel_rfl) rfl rfl (by kernel_rfl) (by kernel_rfl) (by kernel_rfl) hNP hU rfl (fun w' hq => pv_nilp rfl) ?_)
      first | (refine fw_take 3 rfl (by kernel_rfl) rfl rfl (by kernel_rfl) (by kernel_rfl) (by kernel_rfl) hNP hU rfl (fun w' hq => pv_fa (tF rfl) rfl) ?_)
      first | (refine fw_take 4 rfl (by kernel_rfl) rfl rfl (by kernel_rfl) (by kernel_rfl) (by kernel_rfl) hNP hU rfl (fun w' hq => pv_load (t1 rfl) rfl (by first | exact PT.ld0 hq.2 rfl | exact PT.ld hq.2 rfl)) ?_) | (refine fw_take 4 rfl (by kernel_rfl) rfl rfl (by kernel_rfl) (by kernel_rfl) (by kernel_rfl) hNP hU rfl (fun w' hq => pv_loada (tA rfl) rfl (by first | exact PT.lda hq.2) (by rfl)) ?_) | (refine fw_take 4 rfl (by kernel_rfl) rfl rfl (by kernel_rfl) (by kernel_rfl) (by kernel_rfl) hNP hU rfl (fun w' hq => pv_load (t1 rfl) rfl (by first | exact SlR.ld (HN.mono hq.1) hx0 rfl | exact SlR.ld1 (HN.mono hq.1) hx0 rfl | exact SlR.ld (HN.mono hq.1) hx1 rfl | exact SlR.ld1 (HN.mono hq.1) hx1 rfl | exact SlR.ld (HN.mono hq.1) hx2 rfl | exact SlR.ld1 (HN.mono hq.1) hx2 rfl | exact SlR.ld (HN.mono hq.1) hx3 rfl | exact SlR.ld1 (HN.mono hq.1) hx3 rfl | exact SlR.ld (HN.mono hq.1) hx4 rfl | exact SlR.ld1 (HN.mono hq.1) hx4 rfl | exact SlR.ld (HN.mono hq.1) hx5 rfl | exact SlR.ld1 (HN.mono hq.1) hx5 rfl)) ?_) | (refine fw_take 4 rfl (by kernel_rfl) rfl rfl (by kernel_rfl) (by kernel_rfl) (by kernel_rfl) hNP hU rfl (fun w' hq => pv_loada (tA rfl) rfl (by first | exact SlR.lda (HN.mono hq.1) hx0 | exact SlR.lda (HN.mono hq.1) hx1 | exact SlR.lda (HN.mono hq.1) hx2 | exact SlR.lda (HN.mono hq.1) hx3 | exact SlR.lda (HN.mono hq.1) hx4 | exact SlR.lda (HN.mono hq.1) hx5) (by rfl)) ?_)
      first | (refine fw_take 5 rfl (by kernel_rfl) rfl rfl (by kernel_rfl) (by kernel_rfl) (by kernel_rfl) hNP hU rfl (fun w' hq => pv_move rfl) ?_)
      first | (refine fw_take 6 rfl (by kernel_rfl) rfl rfl (by kernel_rfl) (by kernel_rfl) (by kernel_rfl) hNP hU rfl (fun w' hq => pv_ian (tS rfl) rfl rfl (by omega)) ?_) | (refine fw_take 6 rfl (by kernel_rfl) rfl rfl (by kernel_rfl) (by kernel_rfl) (by kernel_rfl) hNP hU rfl (fun w' hq => pv_ia (tS rfl) rfl rfl (by omega)) ?_)
      first | (refine fw_take 7 rfl (by kernel_rfl) rfl rfl (by kernel_rfl) (by kernel_rfl) (by kernel_rfl) hNP hU rfl (fun w' hq => pv_load (t1 rfl) rfl (by first | exact PT.ld0 hq.2 rfl | exact PT.ld hq.2 rfl)) ?_) | (refine fw_take 7 rfl (by kernel_rfl) rfl rfl (by kernel_rfl) (by kernel_rfl) (by kernel_rfl) hNP hU rfl (fun w' hq => pv_loada (tA rfl) rfl (by first | exact PT.lda hq.2) (by rfl)) ?_) | (refine fw_take 7 rfl (by kernel_rfl) rfl rfl (by kernel_rfl) (by kernel_rfl) (by kernel_rfl) hNP hU rfl (fun w' hq => pv_load (t1 rfl) rfl (by first | exact SlR.ld (HN.mono hq.1) hx0 rfl | exact SlR.ld1 (HN.mono hq.1) hx0 rfl | exact SlR.ld (HN.mono hq.1) hx1 rfl | exact SlR.ld1 (HN.mono hq.1) hx1 rfl | exact SlR.ld (HN.mono hq.1) hx2 rfl | exact SlR.ld1 (HN.mono hq.1) hx2 rfl | exact SlR.ld (HN.mono hq.1) hx3 rfl | exact SlR.ld1 (HN.mono hq.1) hx3 rfl | exact SlR.ld (HN.mono hq.1) hx4 rfl | exact SlR.ld1 (HN.mono hq.1) hx4 rfl | exact SlR.ld (HN.mono hq.1) hx5 rfl | exact SlR.ld1 (HN.mono hq.1) hx5 rfl)) ?_) | (refine fw_take 7 rfl (by kernel_rfl) rfl rfl (by kernel_rfl) (by kernel_rfl) (by kernel_rfl) hNP hU rfl (fun w' hq => pv_loada (tA rfl) rfl (by first | exact SlR.lda (HN.mono hq.1) hx0 | exact SlR.lda (HN.mono hq.1) hx1 | exact SlR.lda (HN.mono hq.1) hx2 | exact SlR.lda (HN.mono hq.1) hx3 | exact SlR.lda (HN.mono hq.1) hx4 | exact SlR.lda (HN.mono hq.1) hx5) (by rfl)) ?_)
      first | (refine fw_take 8 rfl (by kernel_rfl) rfl rfl (by kernel_rfl) (by kernel_rfl) (by kernel_rfl) hNP hU rfl (fun w' hq => pv_move rfl) ?_)
      first | (refine fw_take 9 rfl (by kernel_rfl) rfl rfl (by kernel_rfl) (by kernel_rfl) (by kernel_rfl) hNP hU rfl (fun w' hq => pv_ian (tS rfl) rfl rfl (by omega)) ?_) | (refine fw_take 9 rfl (by kernel_rfl) rfl rfl (by kernel_rfl) (by kernel_rfl) (by kernel_rfl) hNP hU rfl (fun w' hq => pv_ia (tS rfl) rfl rfl (by omega)) ?_)
      first | (refine fw_take 10 rfl (by kernel_rfl) rfl rfl (by kernel_rfl) (by kernel_rfl) (by kernel_rfl) hNP hU rfl (fun w' hq => pv_load (t1 rfl) rfl (by first | exact PT.ld0 hq.2 rfl | exact PT.ld hq.2 rfl)) ?_) | (refine fw_take 10 rfl (by kernel_rfl) rfl rfl (by kernel_rfl) (by kernel_rfl) (by kernel_rfl) hNP hU rfl (fun w' hq => pv_loada (tA rfl) rfl (by first | exact PT.lda hq.2) (by rfl)) ?_) | (refine fw_take 10 rfl (by kernel_rfl) rfl rfl (by kernel_rfl) (by kernel_rfl) (by kernel_rfl) hNP hU rfl (fun w' hq => pv_load (t1 rfl) rfl (by first | exact SlR.ld (HN.mono hq.1) hx0 rfl | exact SlR.ld1 (HN.mono hq.1) hx0 rfl | exact SlR.ld (HN.mono hq.1) hx1 rfl | exact SlR.ld1 (HN.mono hq.1) hx1 rfl | exact SlR.ld (HN.mono hq.1) hx2 rfl | exact SlR.ld1 (HN.mono hq.1) hx2 rfl | exact SlR.ld (HN.mono hq.1) hx3 rfl | exact SlR.ld1 (HN.mono hq.1) hx3 rfl | exact SlR.ld (HN.mono hq.1) hx4 rfl | exact SlR.ld1 (HN.mono hq.1) hx4 rfl | exact SlR.ld (HN.mono hq.1) hx5 rfl | exact SlR.ld1 (HN.mono hq.1) hx5 rfl)) ?_) | (refine fw_take 10 rfl (by kernel_rfl) rfl rfl (by kernel_rfl) (by kernel_rfl) (by kernel_rfl) hNP hU rfl (fun w' hq => pv_loada (tA rfl) rfl (by first | exact SlR.lda (HN.mono hq.1) hx0 | exact SlR.lda (HN.mono hq.1) hx1 | exact SlR.lda (HN.mono hq.1) hx2 | exact SlR.lda (HN.mono hq.1) hx3 | exact SlR.lda (HN.mono hq.1) hx4 | exact SlR.lda (HN.mono hq.1) hx5) (by rfl)) ?_)
      first | (refine fw_take 11 rfl (by kernel_rfl) rfl rfl (by kernel_rfl) (by kernel_rfl) (by kernel_rfl) hNP hU rfl (fun w' hq => pv_move rfl) ?_)
      first | (refine fw_take 12 rfl (by kernel_rfl) rfl rfl (by kernel_rfl) (by kernel_rfl) (by kernel_rfl) hNP hU rfl (fun w' hq => pv_ian (tS rfl) rfl rfl (by omega)) ?_) | (refine fw_take 12 rfl (by kernel_rfl) rfl rfl (by kernel_rfl) (by kernel_rfl) (by kernel_rfl) hNP hU rfl (fun w' hq => pv_ia (tS rfl) rfl rfl (by omega)) ?_)
      first | (refine fw_take 13 rfl (by kernel_rfl) rfl rfl (by kernel_rfl) (by kernel_rfl) (by kernel_rfl) hNP hU rfl (fun w' hq => pv_load (t1 rfl) rfl (by first | exact PT.ld0 hq.2 rfl | exact PT.ld hq.2 rfl)) ?_) | (refine fw_take 13 rfl (by kernel_rfl) rfl rfl (by kernel_rfl) (by kernel_rfl) (by kernel_rfl) hNP hU rfl (fun w' hq => pv_loada (tA rfl) rfl (by first | exact PT.lda hq.2) (by rfl)) ?_) | (refine fw_take 13 rfl (by kernel_rfl) rfl rfl (by kernel_rfl) (by kernel_rfl) (by kernel_rfl) hNP hU rfl (fun w' hq => pv_load (t1 rfl) rfl (by first | exact SlR.ld (HN.mono hq.1) hx0 rfl | exact SlR.ld1 (HN.mono hq.1) hx0 rfl | exact SlR.ld (HN.mono hq.1) hx1 rfl | exact SlR.ld1 (HN.mono hq.1) hx1 rfl | exact SlR.ld (HN.mono hq.1) hx2 rfl | exact SlR.ld1 (HN.mono hq.1) hx2 rfl | exact SlR.ld (HN.mono hq.1) hx3 rfl | exact SlR.ld1 (HN.mono hq.1) hx3 rfl | exact SlR.ld (HN.mono hq.1) hx4 rfl | exact SlR.ld1 (HN.mono hq.1) hx4 rfl | exact SlR.ld (HN.mono hq.1) hx5 rfl | exact SlR.ld1 (HN.mono hq.1) hx5 rfl)) ?_) | (refine fw_take 13 rfl (by kernel_rfl) rfl rfl (by kernel_rfl) (by kernel_rfl) (by kernel_rfl) hNP hU rfl (fun w' hq => pv_loada (tA rfl) rfl (by first | exact SlR.lda (HN.mono hq.1) hx0 | exact SlR.lda (HN.mono hq.1) hx1 | exact SlR.lda (HN.mono hq.1) hx2 | exact SlR.lda (HN.mono hq.1) hx3 | exact SlR.lda (HN.mono hq.1) hx4 | exact SlR.lda (HN.mono hq.1) hx5) (by rfl)) ?_)
      first | (refine fw_take 14 rfl (by kernel_rfl) rfl rfl (by kernel_rfl) (by kernel_rfl) (by kernel_rfl) hNP hU rfl (fun w' hq => pv_move rfl) ?_)
      first | (refine fw_take 15 rfl (by kernel_rfl) rfl rfl (by kernel_rfl) (by kernel_rfl) (by kernel_rfl) hNP hU rfl (fun w' hq => pv_ian (tS rfl) rfl rfl (by omega)) ?_) | (refine fw_take 15 rfl (by kernel_rfl) rfl rfl (by kernel_rfl) (by kernel_rfl) (by kernel_rfl) hNP hU rfl (fun w' hq => pv_ia (tS rfl) rfl rfl (by omega)) ?_)
      first | (refine fw_take 16 rfl (by kernel_rfl) rfl rfl (by kernel_rfl) (by kernel_rfl) (by kernel_rfl) hNP hU rfl (fun w' hq => pv_load (t1 rfl) rfl (by first | exact PT.ld0 hq.2 rfl | exact PT.ld hq.2 rfl)) ?_) | (refine fw_take 16 rfl (by kernel_rfl) rfl rfl (by kernel_rfl) (by kernel_rfl) (by kernel_rfl) hNP hU rfl (fun w' hq => pv_loada (tA rfl) rfl (by first | exact PT.lda hq.2) (by rfl)) ?_) | (refine fw_take 16 rfl (by kernel_rfl) rfl rfl (by kernel_rfl) (by kernel_rfl) (by kernel_rfl) hNP hU rfl (fun w' hq => pv_load (t1 rfl) rfl (by first | exact SlR.ld (HN.mono hq.1) hx0 rfl | exact SlR.ld1 (HN.mono hq.1) hx0 rfl | exact SlR.ld (HN.mono hq.1) hx1 rfl | exact SlR.ld1 (HN.mono hq.1) hx1 rfl | exact SlR.ld (HN.mono hq.1) hx2 rfl | exact SlR.ld1 (HN.mono hq.1) hx2 rfl | exact SlR.ld (HN.mono hq.1) hx3 rfl | exact SlR.ld1 (HN.mono hq.1) hx3 rfl | exact SlR.ld (HN.mono hq.1) hx4 rfl | exact SlR.ld1 (HN.mono hq.1) hx4 rfl | exact SlR.ld (HN.mono hq.1) hx5 rfl | exact SlR.ld1 (HN.mono hq.1) hx5 rfl)) ?_) | (refine fw_take 16 rfl (by kernel_rfl) rfl rfl (by kernel_rfl) (by kernel_rfl) (by kernel_rfl) hNP hU rfl (fun w' hq => pv_loada (tA rfl) rfl (by first | exact SlR.lda (HN.mono hq.1) hx0 | exact SlR.lda (HN.mono hq.1) hx1 | exact SlR.lda (HN.mono hq.1) hx2 | exact SlR.lda (HN.mono hq.1) hx3 | exact SlR.lda (HN.mono hq.1) hx4 | exact SlR.lda (HN.mono hq.1) hx5) (by rfl)) ?_)
      first | (refine fw_take 17 rfl (by kernel_rfl) rfl rfl (by kernel_rfl) (by kernel_rfl) (by kernel_rfl) hNP hU rfl (fun w' hq => pv_conv8 (tCv rfl rfl) rfl hs8) ?_) | (refine fw_take 17 rfl (by kernel_rfl) rfl rfl (by kernel_rfl) (by kernel_rfl) (by kernel_rfl) hNP hU rfl (fun w' hq => pv_conv (tCv rfl rfl) rfl (by omega)) ?_)
      first | (refine fw_take 18 rfl (by kernel_rfl) rfl rfl (by kernel_rfl) (by kernel_rfl) (by kernel_rfl) hNP hU rfl (fun w' hq => pv_move rfl) ?_)
      first | (refine fw_take 19 rfl (by kernel_rfl) rfl rfl (by kernel_rfl) (by kernel_rfl) (by kernel_rfl) hNP hU rfl (fun w' hq => pv_ian (tS rfl) rfl rfl (by omega)) ?_) | (refine fw_take 19 rfl (by kernel_rfl) rfl rfl (by kernel_rfl) (by kernel_rfl) (by kernel_rfl) hNP hU rfl (fun w' hq => pv_ia (tS rfl) rfl rfl (by omega)) ?_)
      first | (refine fw_take 20 rfl (by kernel_rfl) rfl rfl (by kernel_rfl) (by kernel_rfl) (by kernel_rfl) hNP hU rfl (fun w' hq => pv_load (t1 rfl) rfl (by first | exact PT.ld0 hq.2 rfl | exact PT.ld hq.2 rfl)) ?_) | (refine fw_take 20 rfl (by kernel_rfl) rfl rfl (by kernel_rfl) (by kernel_rfl) (by kernel_rfl) hNP hU rfl (fun w' hq => pv_loada (tA rfl) rfl (by first | exact PT.lda hq.2) (by rfl)) ?_) | (refine fw_take 20 rfl (by kernel_rfl) rfl rfl (by kernel_rfl) (by kernel_rfl) (by kernel_rfl) hNP hU rfl (fun w' hq => pv_load (t1 rfl) rfl (by first | exact SlR.ld (HN.mono hq.1) hx0 rfl | exact SlR.ld1 (HN.mono hq.1) hx0 rfl | exact SlR.ld (HN.mono hq.1) hx1 rfl | exact SlR.ld1 (HN.mono hq.1) hx1 rfl | exact SlR.ld (HN.mono hq.1) hx2 rfl | exact SlR.ld1 (HN.mono hq.1) hx2 rfl | exact SlR.ld (HN.mono hq.1) hx3 rfl | exact SlR.ld1 (HN.mono hq.1) hx3 rfl | exact SlR.ld (HN.mono hq.1) hx4 rfl | exact SlR.ld1 (HN.mono hq.1) hx4 rfl | exact SlR.ld (HN.mono hq.1) hx5 rfl | exact SlR.ld1 (HN.mono hq.1) hx5 rfl)) ?_) | (refine fw_take 20 rfl (by kernel_rfl) rfl rfl (by kernel_rfl) (by kernel_rfl) (by kernel_rfl) hNP hU rfl (fun w' hq => pv_loada (tA rfl) rfl (by first | exact SlR.lda (HN.mono hq.1) hx0 | exact SlR.lda (HN.mono hq.1) hx1 | exact SlR.lda (HN.mono hq.1) hx2 | exact SlR.lda (HN.mono hq.1) hx3 | exact SlR.lda (HN.mono hq.1) hx4 | exact SlR.lda (HN.mono hq.1) hx5) (by rfl)) ?_)
      first | (refine fw_take 21 rfl (by kernel_rfl) rfl rfl (by kernel_rfl) (by kernel_rfl) (by kernel_rfl) hNP hU rfl (fun w' hq => pv_move rfl) ?_)
      first | (refine fw_take 22 rfl (by kernel_rfl) rfl rfl (by kernel_rfl) (by kernel_rfl) (by kernel_rfl) hNP hU rfl (fun w' hq => pv_ian (tS rfl) rfl rfl (by omega)) ?_) | (refine fw_take 22 rfl (by kernel_rfl) rfl rfl (by kernel_rfl) (by kernel_rfl) (by kernel_rfl) hNP hU rfl (fun w' hq => pv_ia (tS rfl) rfl rfl (by omega)) ?_)
      first | (refine fw_take 23 rfl (by kernel_rfl) rfl rfl (by kernel_rfl) (by kernel_rfl) (by kernel_rfl) hNP hU rfl (fun w' hq => pv_load (t1 rfl) rfl (by first | exact PT.ld0 hq.2 rfl | exact PT.ld hq.2 rfl)) ?_) | (refine fw_take 23 rfl (by kernel_rfl) rfl rfl (by kernel_rfl) (by kernel_rfl) (by kernel_rfl) hNP hU rfl (fun w' hq => pv_loada (tA rfl) rfl (by first | exact PT.lda hq.2) (by rfl)) ?_) | (refine fw_take 23 rfl (by kernel_rfl) rfl rfl (by kernel_rfl) (by kernel_rfl) (by kernel_rfl) hNP hU rfl (fun w' hq => pv_load (t1 rfl) rfl (by first | exact SlR.ld (HN.mono hq.1) hx0 rfl | exact SlR.ld1 (HN.mono hq.1) hx0 rfl | exact SlR.ld (HN.mono hq.1) hx1 rfl | exact SlR.ld1 (HN.mono hq.1) hx1 rfl | exact SlR.ld (HN.mono hq.1) hx2 rfl | exact SlR.ld1 (HN.mono hq.1) hx2 rfl | exact SlR.ld (HN.mono hq.1) hx3 rfl | exact SlR.ld1 (HN.mono hq.1) hx3 rfl | exact SlR.ld (HN.mono hq.1) hx4 rfl | exact SlR.ld1 (HN.mono hq.1) hx4 rfl | exact SlR.ld (HN.mono hq.1) hx5 rfl | exact SlR.ld1 (HN.mono hq.1) hx5 rfl)) ?_) | (refine fw_take 23 rfl (by kernel_rfl) rfl rfl (by kernel_rfl) (by kernel_rfl) (by kernel_rfl) hNP hU rfl (fun w' hq => pv_loada (tA rfl) rfl (by first | exact SlR.lda (HN.mono hq.1) hx0 | exact SlR.lda (HN.mono hq.1) hx1 | exact SlR.lda (HN.mono hq.1) hx2 | exact SlR.lda (HN.mono hq.1) hx3 | exact SlR.lda (HN.mono hq.1) hx4 | exact SlR.lda (HN.mono hq.1) hx5) (by rfl)) ?_)
      first | (refine fw_take 24 rfl (by kernel_rfl) rfl rfl (by kernel_rfl) (by kernel_rfl) (by kernel_rfl) hNP hU rfl (fun w' hq => tyB_49 rfl rfl rfl) ?_)
      refine fw_act 25 (by kernel_rfl) rfl rfl rfl ?_
      refine act_bs (vs := [.agg (encP ⟨n1, n0, n2, n3, n4, n5⟩).toArray]) (cs := encP ⟨n1, n0, n2, n3, n4, n5⟩) elemP rfl rfl (by omega) (by omega) rfl (by simp [Value.cells, encP]) ?_; intro wb HB hbb; have hO3 := (hO2.mono (below_drew _)).mono hbb; have hT3 := (hT2.mono (below_drew _)).mono hbb; have hbz := hbb.size; refine ⟨⟨grow_trans hU.1 hbb, hU.2.mono hbb⟩, fun hU => ?_⟩
      refine fw_act 26 (by kernel_rfl) rfl rfl rfl ?_
      refine act_app elemP encP_len encP_one rfl rfl hO3 (HB.slR (xs := [⟨n1, n0, n2, n3, n4, n5⟩]) encP_len rfl (by omega)) rfl hU.1.size (by simp; omega) (by simp [maxLen]; omega) ?_; intro v9 w9 hO9 hg9 hb9; refine ⟨⟨hU.1.grown hg9 hU.1.size (fun q hq => (Own.lt hO3 q hq).1), hU.2.grown hg9 (fun e => own_pt_ne hO3 hU.2 (by decide) e)⟩, fun hU => ?_⟩
      first | (refine fw_act 27 (by kernel_rfl) rfl rfl rfl ?_; refine act_pv (pv_nilp rfl) ?_; refine ⟨hU, fun hU => ?_⟩)
      first | (refine fw_take 28 rfl (by kernel_rfl) rfl rfl (by kernel_rfl) (by kernel_rfl) (by kernel_rfl) hNP hU rfl (fun w' hq => pv_fa (tF rfl) rfl) ?_)
      refine fw_last (by kernel_rfl) rfl rfl rfl rfl (by kernel_rfl) ?_
      obtain ⟨hb3, HW3⟩ := hU; clear hNP
      obtain ⟨va, vc, rfl, -, -⟩ := Own.slR encP_len hO9; refine act_store HW3 (tZ rfl) rfl rfl rfl (by simp) ?_; intro wz HWz hgz hzz
      have hT9 := hT3.kept hg9 (own_ne_T hT3 hO3 (by decide))
      have hTz := hT9.kept hgz (Or.inr (own_pt_ne hT9 HW3 (by decide)))
      have hOz := hO9.kept hgz (Or.inr (own_pt_ne hO9 HW3 (by decide)))
      have hbz4 := hb3.grown hgz hb3.size (by intro q hq; injection hq with hq; omega)
      obtain ⟨va', vc', hv', hSz, hvb⟩ := Own.slR encP_len hOz
      injection hv' with hv1 _ hv3; subst hv1 hv3
      obtain ⟨vb, vo2, rfl, -, -⟩ := hSz.at (by simp)
      obtain ⟨hvb1, hvb2⟩ := hvb _ rfl
      simp only at hvb1 hvb2; subst hvb2
      have hw := Below.refl wz.heap.size wz
      have hids : ∀ x ∈ p, x.id ≠ n0 := findP_none hf
      have hll : (p ++ [(⟨n1, n0, n2, n3, n4, n5⟩ : Opn)]).length ≤ 1000000 := by simp; omega
      repeat' (first | (refine lw_pure rfl (pv_move rfl) ?_) | (refine is_cw ?_; first | (refine cw_seq ?_) | (refine cw_region ?_)) | (refine is_qw ?_; first | (with_reducible refine qw_then ?_)) | ((refine is_load ?_; first | (refine lw_pure rfl (pv_load (t1 rfl) rfl (by first | exact PT.ld0 (HWz.mono hw) rfl | exact PT.ld (HWz.mono hw) rfl)) ?_))) | ((refine is_fa ?_; first | (refine lw_pure rfl (pv_fa (tF rfl) rfl) ?_))) | (refine lw_pure rfl (pv_nilp rfl) ?_))
      refine lw_call (f := 108) (by kernel_rfl) rfl rfl (sort_P w0.heap.size vb vc _ wz hOz hll (put_pw hp1 hids)) ?_; rintro e1 w5 ⟨rfl, ⟨zs, hz1, hz2, hOs2⟩, hg5⟩; refine ⟨_, rfl, ?_⟩
      have hze := put_sorted hp1 hids hz1 hz2
      have hT5 := hTz.kept hg5 (own_ne_T hTz hOz (by decide))
      have hW5 := HWz.grown hg5 (own_pt_ne hOz HWz (by decide))
      have hb5 := hbz4.grown hg5 hbz4.size (by intro q hq; injection hq with hq; omega)
      have hw := Below.refl w5.heap.size w5
      repeat' (first | (refine lw_pure rfl (pv_assign rfl) ?_) | (refine is_cw ?_; first | (refine cw_seq ?_) | (refine cw_region ?_) | (refine cw_ret ?_)) | (refine is_qw ?_; first | (with_reducible refine qw_then ?_)) | (refine lw_nil ?_))
      refine qw_ret1 rfl rfl ⟨rfl, fun _ => ⟨_, _, ⟨hW5, ?_, hT5, hNb⟩⟩, hb5⟩
      rw [← hze]
      rw [show (p ++ [(⟨n1, n0, n2, n3, n4, n5⟩ : Opn)]).length = zs.length from hz1.length_eq.symm] at hOs2 ⊢
      exact hOs2
  · have hf : findP p n0 = some r := find_at hxk hr hn
    rw [hf, if_pos (by rfl)]
    repeat' (first | (refine lw_pure rfl (pv_assign rfl) ?_) | (refine is_cw ?_; first | (refine cw_seq ?_) | (refine cw_region ?_) | (refine cw_true rfl rfl ?_) | (refine cw_ret ?_)) | (refine is_qw ?_; first | (with_reducible refine qw_then ?_) | (with_reducible refine qw_then_ret ?_) | (with_reducible refine qw_in_ret ?_)) | (refine lw_nil ?_))
    exact qw_ret1 rfl rfl ⟨rfl, by simp, hb2⟩

theorem nth_eq {e : Evt} {ns : List Int} (h : e.nums = ns) {i : Nat} {n : Int} (hx : ns[i]? = some n) : nth e i = n := by
  unfold nth; rw [h, List.getD_eq_getElem?_getD, hx]; rfl
set_option maxRecDepth 20000 in
set_option maxHeartbeats 4000000 in
theorem opened_c {p : List Opn} {t : List Lt} {ev0 : Evt} {w0 w : World} {N m : Nat} {a : Option Addr} {c : Nat} {ns : List Int} {n0 n1 n2 n3 : Int} {vo vt : Value} (hev : ev0.nums = ns) (hm : ns.length = m) (hx0 : ns[0]? = some n0) (hx1 : ns[1]? = some n1) (hx2 : ns[2]? = some n2) (hx3 : ns[3]? = some n3) (hb0 : Below w0.heap.size w0 w) (hW : WkO w0.heap.size w N p t vo vt) (HN : SlR encI 1 w0 a c ns) (hp1 : t.Pairwise keyT) (hl : t.length ≤ 32) :
    Calls Tryz.prog 85 #[.pointer (some ⟨N, 0, none⟩), .slice a m c] w fun e w' => e = .returned (.int .i64 (openedR p t ev0).2.2) ∧ ((openedR p t ev0).2.2 = 0 → ∃ vo vt, WkO w0.heap.size w' N (openedR p t ev0).1 (openedR p t ev0).2.1 vo vt) ∧ Below w0.heap.size w0 w' := by
  subst hm
  have hlen : 3 < ns.length := (List.getElem?_eq_some_iff.1 hx3).1
  obtain ⟨HW, HO, HT, hNb⟩ := hW
  obtain ⟨ab, ao, rfl, -, -⟩ := HN.at (by intro h; rw [h] at hlen; simp at hlen)
  obtain ⟨ta, tc, rfl, HTs, -⟩ := Own.slR encL_len HT
  have hR : openedR p t ev0 = if (findT t n0).isSome then ([], [], 6) else if t.length = 32 then ([], [], 40) else (p, insT t ⟨n0, n1, n2, n3⟩, 0) := by unfold openedR; rw [nth_eq hev hx0, nth_eq hev hx1, nth_eq hev hx2, nth_eq hev hx3]
  rw [hR]
  clear hR hev
  have HNw := HN.mono hb0
  have hw := Below.refl w.heap.size w
  refine fn_enter 49 Tryz.func85 rfl rfl rfl ?_
  repeat' (first | (refine lw_pure rfl (pv_assign rfl) ?_) | (refine is_cw ?_; first | (refine cw_seq ?_) | (refine cw_region ?_) | (refine cw_block ?_)) | (refine is_qw ?_; first | (with_reducible refine qw_then ?_)) | (refine lw_nil ?_))
  refine cw_drawn (fun w' => Below w.heap.size w w') (by kernel_rfl) (by repeat (first | exact NoPanic.body | with_reducible refine NoPanic.then ?_ | with_reducible refine NoPanic.inBlock ?_)) (fun hNP => ?_)
  have hS := hw.drew
  (refine at0 0 rfl (fun w' hq => pv_move rfl) ?_)
  (refine at0 1 rfl (fun w' hq => pv_nilp rfl) ?_)
  (refine at0 2 rfl (fun w' hq => pv_fa (tF rfl) rfl) ?_)
  (refine at0 3 rfl (fun w' hq => pv_load (t1 rfl) rfl (by first | exact PT.ld0 (HW.mono hq) rfl | exact PT.ld (HW.mono hq) rfl | exact SlR.ld (HNw.mono hq) hx0 rfl | exact SlR.ld1 (HNw.mono hq) hx0 rfl)) ?_)
  (refine at0 4 rfl (fun w' hq => pv_move rfl) ?_)
  (refine at0 5 rfl (fun w' hq => pv_ia (tS rfl) rfl rfl (by omega)) ?_)
  (refine at0 6 rfl (fun w' hq => pv_load (t1 rfl) rfl (by first | exact PT.ld0 (HW.mono hq) rfl | exact PT.ld (HW.mono hq) rfl | exact SlR.ld (HNw.mono hq) hx0 rfl | exact SlR.ld1 (HNw.mono hq) hx0 rfl)) ?_)
  refine aw_act 7 (by kernel_rfl) rfl rfl rfl ?_
  refine act_call (f := 56) (by kernel_rfl) rfl (lot_c n0 rfl (HTs.mono hS)) ?_; rintro e1 w1 ⟨⟨i, rfl, hi⟩, hb1⟩; refine ⟨_, rfl, grow_trans hS hb1, fun hS => ?_⟩
  (refine at0 8 rfl (fun w' hq => pv_geq rfl rfl) ?_)
  (refine at0 9 rfl (fun w' hq => pv_assign rfl) ?_)
  refine aw_done (by kernel_rfl) ?_
  replace hw := hS; clear hS hNP
  have hb2 := grow_trans hb0 hw
  rcases hi with ⟨rfl, hn⟩ | ⟨k, r, rfl, hxk, hr, hn⟩
  · have hf : findT t n0 = none := find_none hn
    rw [hf]
    by_cases h128 : t.length = 32
    · rw [if_neg (by simp), if_pos h128]
      repeat' (first | (refine lw_pure rfl (pv_move rfl) ?_) | (refine lw_pure rfl (pv_assign rfl) ?_) | (refine is_cw ?_; first | (refine cw_seq ?_) | (refine cw_region ?_) | (refine cw_false rfl rfl ?_) | (refine is_cd ?_; refine cw_true rfl (by first | assumption | exact decide_eq_true (by omega) | exact dec_notT (by omega)) ?_) | (refine cw_ret ?_)) | (refine is_qw ?_; first | (with_reducible refine qw_then ?_) | (with_reducible refine qw_then_ret ?_) | (with_reducible refine qw_in_ret ?_)) | (refine lw_nil ?_) | ((refine is_bin ?_; first | (refine lw_pure rfl (pv_eql rfl rfl) ?_))) | ((refine is_load ?_; first | (refine lw_pure rfl (pv_load (t1 rfl) rfl (by first | exact PT.ld0 (HW.mono hw) rfl | exact PT.ld (HW.mono hw) rfl)) ?_))) | ((refine is_fa ?_; first | (refine lw_pure rfl (pv_fa (tF rfl) rfl) ?_))) | ((refine is_bi ?_; first | (refine lw_pure rfl (pv_lenl (tS rfl) rfl) ?_))) | (refine lw_pure rfl (pv_nilp rfl) ?_))
      exact qw_ret1 rfl rfl ⟨rfl, by simp, hb2⟩
    · rw [if_neg (by simp), if_neg h128]
      repeat' (first | (refine lw_pure rfl (pv_move rfl) ?_) | (refine lw_pure rfl (pv_assign rfl) ?_) | (refine is_cw ?_; first | (refine cw_seq ?_) | (refine cw_region ?_) | (refine cw_false rfl rfl ?_) | (refine is_cd ?_; refine cw_false rfl (by first | assumption | exact decide_eq_false (by omega) | exact dec_notF (by omega)) ?_) | (refine cw_skip ?_)) | (refine is_qw ?_; first | (with_reducible refine qw_then ?_) | (with_reducible refine qw_in ?_)) | (refine lw_nil ?_) | ((refine is_bin ?_; first | (refine lw_pure rfl (pv_eql rfl rfl) ?_))) | ((refine is_load ?_; first | (refine lw_pure rfl (pv_load (t1 rfl) rfl (by first | exact PT.ld0 (HW.mono hw) rfl | exact PT.ld (HW.mono hw) rfl)) ?_))) | ((refine is_fa ?_; first | (refine lw_pure rfl (pv_fa (tF rfl) rfl) ?_))) | ((refine is_bi ?_; first | (refine lw_pure rfl (pv_lenl (tS rfl) rfl) ?_))) | (refine lw_pure rfl (pv_nilp rfl) ?_))
      have hO2 := HO.mono hw
      have hT2 := HT.mono hw
      have hwz := hb2.size
      refine cw_drawnF 22 (fun w' => Below w0.heap.size w0 w' ∧ PT w' N 80 [vo, .slice ta t.length tc]) (by kernel_rfl) (by repeat (first | exact NoPanic.body | with_reducible refine NoPanic.then ?_ | with_reducible refine NoPanic.inBlock ?_)) (fun hNP => ?_)
      have hU := And.intro hb2.drew ((HW.mono hw).mono (below_drew _))
      first | (refine fw_take 0 rfl (by kernel_rfl) rfl rfl (by kernel_rfl) (by kernel_rfl) (by kernel_rfl) hNP hU rfl (fun w' hq => pv_move rfl) ?_)
      first | (refine fw_take 1 rfl (by kernel_rfl) rfl rfl (by kernel_rfl) (by kernel_rfl) (by kernel_rfl) hNP hU rfl (fun w' hq => pv_move rfl) ?_)
      first | (refine fw_take 2 rfl (by kernel_rfl) rfl rfl (by kernel_rfl) (by kernel_rfl) (by kernel_rfl) hNP hU rfl (fun w' hq => pv_nilp rfl) ?_)
      first | (refine fw_take 3 rfl (by kernel_rfl) rfl rfl (by kernel_rfl) (by kernel_rfl) (by kernel_rfl) hNP hU rfl (fun w' hq => pv_fa (tF rfl) rfl) ?_)
      first | (refine fw_take 4 rfl (by kernel_rfl) rfl rfl (by kernel_rfl) (by kernel_rfl) (by kernel_rfl) hNP hU rfl (fun w' hq => pv_load (t1 rfl) rfl (by first | exact PT.ld0 hq.2 rfl | exact PT.ld hq.2 rfl)) ?_) | (refine fw_take 4 rfl (by kernel_rfl) rfl rfl (by kernel_rfl) (by kernel_rfl) (by kernel_rfl) hNP hU rfl (fun w' hq => pv_loada (tA rfl) rfl (by first | exact PT.lda hq.2) (by rfl)) ?_) | (refine fw_take 4 rfl (by kernel_rfl) rfl rfl (by kernel_rfl) (by kernel_rfl) (by kernel_rfl) hNP hU rfl (fun w' hq => pv_load (t1 rfl) rfl (by first | exact SlR.ld (HN.mono hq.1) hx0 rfl | exact SlR.ld1 (HN.mono hq.1) hx0 rfl | exact SlR.ld (HN.mono hq.1) hx1 rfl | exact SlR.ld1 (HN.mono hq.1) hx1 rfl | exact SlR.ld (HN.mono hq.1) hx2 rfl | exact SlR.ld1 (HN.mono hq.1) hx2 rfl | exact SlR.ld (HN.mono hq.1) hx3 rfl | exact SlR.ld1 (HN.mono hq.1) hx3 rfl)) ?_) | (refine fw_take 4 rfl (by kernel_rfl) rfl rfl (by kernel_rfl) (by kernel_rfl) (by kernel_rfl) hNP hU rfl (fun w' hq => pv_loada (tA rfl) rfl (by first | exact SlR.lda (HN.mono hq.1) hx0 | exact SlR.lda (HN.mono hq.1) hx1 | exact SlR.lda (HN.mono hq.1) hx2 | exact SlR.lda (HN.mono hq.1) hx3) (by rfl)) ?_)
      first | (refine fw_take 5 rfl (by kernel_rfl) rfl rfl (by kernel_rfl) (by kernel_rfl) (by kernel_rfl) hNP hU rfl (fun w' hq => pv_move rfl) ?_)
      first | (refine fw_take 6 rfl (by kernel_rfl) rfl rfl (by kernel_rfl) (by kernel_rfl) (by kernel_rfl) hNP hU rfl (fun w' hq => pv_ian (tS rfl) rfl rfl (by omega)) ?_) | (refine fw_take 6 rfl (by kernel_rfl) rfl rfl (by kernel_rfl) (by kernel_rfl) (by kernel_rfl) hNP hU rfl (fun w' hq => pv_ia (tS rfl) rfl rfl (by omega)) ?_)
      first | (refine fw_take 7 rfl (by kernel_rfl) rfl rfl (by kernel_rfl) (by kernel_rfl) (by kernel_rfl) hNP hU rfl (fun w' hq => pv_load (t1 rfl) rfl (by first | exact PT.ld0 hq.2 rfl | exact PT.ld hq.2 rfl)) ?_) | (refine fw_take 7 rfl (by kernel_rfl) rfl rfl (by kernel_rfl) (by kernel_rfl) (by kernel_rfl) hNP hU rfl (fun w' hq => pv_loada (tA rfl) rfl (by first | exact PT.lda hq.2) (by rfl)) ?_) | (refine fw_take 7 rfl (by kernel_rfl) rfl rfl (by kernel_rfl) (by kernel_rfl) (by kernel_rfl) hNP hU rfl (fun w' hq => pv_load (t1 rfl) rfl (by first | exact SlR.ld (HN.mono hq.1) hx0 rfl | exact SlR.ld1 (HN.mono hq.1) hx0 rfl | exact SlR.ld (HN.mono hq.1) hx1 rfl | exact SlR.ld1 (HN.mono hq.1) hx1 rfl | exact SlR.ld (HN.mono hq.1) hx2 rfl | exact SlR.ld1 (HN.mono hq.1) hx2 rfl | exact SlR.ld (HN.mono hq.1) hx3 rfl | exact SlR.ld1 (HN.mono hq.1) hx3 rfl)) ?_) | (refine fw_take 7 rfl (by kernel_rfl) rfl rfl (by kernel_rfl) (by kernel_rfl) (by kernel_rfl) hNP hU rfl (fun w' hq => pv_loada (tA rfl) rfl (by first | exact SlR.lda (HN.mono hq.1) hx0 | exact SlR.lda (HN.mono hq.1) hx1 | exact SlR.lda (HN.mono hq.1) hx2 | exact SlR.lda (HN.mono hq.1) hx3) (by rfl)) ?_)
      first | (refine fw_take 8 rfl (by kernel_rfl) rfl rfl (by kernel_rfl) (by kernel_rfl) (by kernel_rfl) hNP hU rfl (fun w' hq => pv_move rfl) ?_)
      first | (refine fw_take 9 rfl (by kernel_rfl) rfl rfl (by kernel_rfl) (by kernel_rfl) (by kernel_rfl) hNP hU rfl (fun w' hq => pv_ian (tS rfl) rfl rfl (by omega)) ?_) | (refine fw_take 9 rfl (by kernel_rfl) rfl rfl (by kernel_rfl) (by kernel_rfl) (by kernel_rfl) hNP hU rfl (fun w' hq => pv_ia (tS rfl) rfl rfl (by omega)) ?_)
      first | (refine fw_take 10 rfl (by kernel_rfl) rfl rfl (by kernel_rfl) (by kernel_rfl) (by kernel_rfl) hNP hU rfl (fun w' hq => pv_load (t1 rfl) rfl (by first | exact PT.ld0 hq.2 rfl | exact PT.ld hq.2 rfl)) ?_) | (refine fw_take 10 rfl (by kernel_rfl) rfl rfl (by kernel_rfl) (by kernel_rfl) (by kernel_rfl) hNP hU rfl (fun w' hq => pv_loada (tA rfl) rfl (by first | exact PT.lda hq.2) (by rfl)) ?_) | (refine fw_take 10 rfl (by kernel_rfl) rfl rfl (by kernel_rfl) (by kernel_rfl) (by kernel_rfl) hNP hU rfl (fun w' hq => pv_load (t1 rfl) rfl (by first | exact SlR.ld (HN.mono hq.1) hx0 rfl | exact SlR.ld1 (HN.mono hq.1) hx0 rfl | exact SlR.ld (HN.mono hq.1) hx1 rfl | exact SlR.ld1 (HN.mono hq.1) hx1 rfl | exact SlR.ld (HN.mono hq.1) hx2 rfl | exact SlR.ld1 (HN.mono hq.1) hx2 rfl | exact SlR.ld (HN.mono hq.1) hx3 rfl | exact SlR.ld1 (HN.mono hq.1) hx3 rfl)) ?_) | (refine fw_take 10 rfl (by kernel_rfl) rfl rfl (by kernel_rfl) (by kernel_rfl) (by kernel_rfl) hNP hU rfl (fun w' hq => pv_loada (tA rfl) rfl (by first | exact SlR.lda (HN.mono hq.1) hx0 | exact SlR.lda (HN.mono hq.1) hx1 | exact SlR.lda (HN.mono hq.1) hx2 | exact SlR.lda (HN.mono hq.1) hx3) (by rfl)) ?_)
      first | (refine fw_take 11 rfl (by kernel_rfl) rfl rfl (by kernel_rfl) (by kernel_rfl) (by kernel_rfl) hNP hU rfl (fun w' hq => pv_move rfl) ?_)
      first | (refine fw_take 12 rfl (by kernel_rfl) rfl rfl (by kernel_rfl) (by kernel_rfl) (by kernel_rfl) hNP hU rfl (fun w' hq => pv_ian (tS rfl) rfl rfl (by omega)) ?_) | (refine fw_take 12 rfl (by kernel_rfl) rfl rfl (by kernel_rfl) (by kernel_rfl) (by kernel_rfl) hNP hU rfl (fun w' hq => pv_ia (tS rfl) rfl rfl (by omega)) ?_)
      first | (refine fw_take 13 rfl (by kernel_rfl) rfl rfl (by kernel_rfl) (by kernel_rfl) (by kernel_rfl) hNP hU rfl (fun w' hq => pv_load (t1 rfl) rfl (by first | exact PT.ld0 hq.2 rfl | exact PT.ld hq.2 rfl)) ?_) | (refine fw_take 13 rfl (by kernel_rfl) rfl rfl (by kernel_rfl) (by kernel_rfl) (by kernel_rfl) hNP hU rfl (fun w' hq => pv_loada (tA rfl) rfl (by first | exact PT.lda hq.2) (by rfl)) ?_) | (refine fw_take 13 rfl (by kernel_rfl) rfl rfl (by kernel_rfl) (by kernel_rfl) (by kernel_rfl) hNP hU rfl (fun w' hq => pv_load (t1 rfl) rfl (by first | exact SlR.ld (HN.mono hq.1) hx0 rfl | exact SlR.ld1 (HN.mono hq.1) hx0 rfl | exact SlR.ld (HN.mono hq.1) hx1 rfl | exact SlR.ld1 (HN.mono hq.1) hx1 rfl | exact SlR.ld (HN.mono hq.1) hx2 rfl | exact SlR.ld1 (HN.mono hq.1) hx2 rfl | exact SlR.ld (HN.mono hq.1) hx3 rfl | exact SlR.ld1 (HN.mono hq.1) hx3 rfl)) ?_) | (refine fw_take 13 rfl (by kernel_rfl) rfl rfl (by kernel_rfl) (by kernel_rfl) (by kernel_rfl) hNP hU rfl (fun w' hq => pv_loada (tA rfl) rfl (by first | exact SlR.lda (HN.mono hq.1) hx0 | exact SlR.lda (HN.mono hq.1) hx1 | exact SlR.lda (HN.mono hq.1) hx2 | exact SlR.lda (HN.mono hq.1) hx3) (by rfl)) ?_)
      first | (refine fw_take 14 rfl (by kernel_rfl) rfl rfl (by kernel_rfl) (by kernel_rfl) (by kernel_rfl) hNP hU rfl (fun w' hq => pv_move rfl) ?_)
      first | (refine fw_take 15 rfl (by kernel_rfl) rfl rfl (by kernel_rfl) (by kernel_rfl) (by kernel_rfl) hNP hU rfl (fun w' hq => pv_ian (tS rfl) rfl rfl (by omega)) ?_) | (refine fw_take 15 rfl (by kernel_rfl) rfl rfl (by kernel_rfl) (by kernel_rfl) (by kernel_rfl) hNP hU rfl (fun w' hq => pv_ia (tS rfl) rfl rfl (by omega)) ?_)
      first | (refine fw_take 16 rfl (by kernel_rfl) rfl rfl (by kernel_rfl) (by kernel_rfl) (by kernel_rfl) hNP hU rfl (fun w' hq => pv_load (t1 rfl) rfl (by first | exact PT.ld0 hq.2 rfl | exact PT.ld hq.2 rfl)) ?_) | (refine fw_take 16 rfl (by kernel_rfl) rfl rfl (by kernel_rfl) (by kernel_rfl) (by kernel_rfl) hNP hU rfl (fun w' hq => pv_loada (tA rfl) rfl (by first | exact PT.lda hq.2) (by rfl)) ?_) | (refine fw_take 16 rfl (by kernel_rfl) rfl rfl (by kernel_rfl) (by kernel_rfl) (by kernel_rfl) hNP hU rfl (fun w' hq => pv_load (t1 rfl) rfl (by first | exact SlR.ld (HN.mono hq.1) hx0 rfl | exact SlR.ld1 (HN.mono hq.1) hx0 rfl | exact SlR.ld (HN.mono hq.1) hx1 rfl | exact SlR.ld1 (HN.mono hq.1) hx1 rfl | exact SlR.ld (HN.mono hq.1) hx2 rfl | exact SlR.ld1 (HN.mono hq.1) hx2 rfl | exact SlR.ld (HN.mono hq.1) hx3 rfl | exact SlR.ld1 (HN.mono hq.1) hx3 rfl)) ?_) | (refine fw_take 16 rfl (by kernel_rfl) rfl rfl (by kernel_rfl) (by kernel_rfl) (by kernel_rfl) hNP hU rfl (fun w' hq => pv_loada (tA rfl) rfl (by first | exact SlR.lda (HN.mono hq.1) hx0 | exact SlR.lda (HN.mono hq.1) hx1 | exact SlR.lda (HN.mono hq.1) hx2 | exact SlR.lda (HN.mono hq.1) hx3) (by rfl)) ?_)
      first | (refine fw_take 17 rfl (by kernel_rfl) rfl rfl (by kernel_rfl) (by kernel_rfl) (by kernel_rfl) hNP hU rfl (fun w' hq => tyB_53 rfl rfl rfl) ?_)
      refine fw_act 18 (by kernel_rfl) rfl rfl rfl ?_
      refine act_bs (vs := [.agg (encL ⟨n0, n1, n2, n3⟩).toArray]) (cs := encL ⟨n0, n1, n2, n3⟩) elemL rfl rfl (by omega) (by omega) rfl (by simp [Value.cells, encL]) ?_; intro wb HB hbb; have hO3 := (hO2.mono (below_drew _)).mono hbb; have hT3 := (hT2.mono (below_drew _)).mono hbb; have hbz := hbb.size; refine ⟨⟨grow_trans hU.1 hbb, hU.2.mono hbb⟩, fun hU => ?_⟩
      refine fw_act 19 (by kernel_rfl) rfl rfl rfl ?_
      refine act_app elemL encL_len encL_one rfl rfl hT3 (HB.slR (xs := [⟨n0, n1, n2, n3⟩]) encL_len rfl (by omega)) rfl hU.1.size (by simp; omega) (by simp [maxLen]; omega) ?_; intro v9 w9 hT9 hg9 hb9; refine ⟨⟨hU.1.grown hg9 hU.1.size (fun q hq => (Own.lt hT3 q hq).1), hU.2.grown hg9 (fun e => own_pt_ne hT3 hU.2 (by decide) e)⟩, fun hU => ?_⟩
      first | (refine fw_act 20 (by kernel_rfl) rfl rfl rfl ?_; refine act_pv (pv_nilp rfl) ?_; refine ⟨hU, fun hU => ?_⟩)
      first | (refine fw_take 21 rfl (by kernel_rfl) rfl rfl (by kernel_rfl) (by kernel_rfl) (by kernel_rfl) hNP hU rfl (fun w' hq => pv_fa (tF rfl) rfl) ?_)
      refine fw_last (by kernel_rfl) rfl rfl rfl rfl (by kernel_rfl) ?_
      obtain ⟨hb3, HW3⟩ := hU; clear hNP
      obtain ⟨va, vc, rfl, -, -⟩ := Own.slR encL_len hT9; refine act_store HW3 (tZ rfl) rfl rfl rfl (by simp) ?_; intro wz HWz hgz hzz
      have hO9 := hO3.kept hg9 (own_ne_T hO3 hT3 (by decide))
      have hOz := hO9.kept hgz (Or.inr (own_pt_ne hO9 HW3 (by decide)))
      have hTz := hT9.kept hgz (Or.inr (own_pt_ne hT9 HW3 (by decide)))
      have hbz4 := hb3.grown hgz hb3.size (by intro q hq; injection hq with hq; omega)
      obtain ⟨va', vc', hv', hSz, hvb⟩ := Own.slR encL_len hTz
      injection hv' with hv1 _ hv3; subst hv1 hv3
      obtain ⟨vb, vo2, rfl, -, -⟩ := hSz.at (by simp)
      obtain ⟨hvb1, hvb2⟩ := hvb _ rfl
      simp only at hvb1 hvb2; subst hvb2
      have hw := Below.refl wz.heap.size wz
      have hids : ∀ x ∈ t, x.id ≠ n0 := findT_none hf
      have hll : (t ++ [(⟨n0, n1, n2, n3⟩ : Lt)]).length ≤ 1000000 := by simp; omega
      repeat' (first | (refine lw_pure rfl (pv_move rfl) ?_) | (refine is_cw ?_; first | (refine cw_seq ?_) | (refine cw_region ?_)) | (refine is_qw ?_; first | (with_reducible refine qw_then ?_)) | ((refine is_load ?_; first | (refine lw_pure rfl (pv_load (t1 rfl) rfl (by first | exact PT.ld0 (HWz.mono hw) rfl | exact PT.ld (HWz.mono hw) rfl)) ?_))) | ((refine is_fa ?_; first | (refine lw_pure rfl (pv_fa (tF rfl) rfl) ?_))) | (refine lw_pure rfl (pv_nilp rfl) ?_))
      refine lw_call (f := 112) (by kernel_rfl) rfl rfl (sort_L w0.heap.size vb vc _ wz hTz hll (putT_pw hp1 hids)) ?_; rintro e1 w5 ⟨rfl, ⟨zs, hz1, hz2, hTs2⟩, hg5⟩; refine ⟨_, rfl, ?_⟩
      have hze := putT_sorted hp1 hids hz1 hz2
      have hO5 := hOz.kept hg5 (own_ne_T hOz hTz (by decide))
      have hW5 := HWz.grown hg5 (own_pt_ne hTz HWz (by decide))
      have hb5 := hbz4.grown hg5 hbz4.size (by intro q hq; injection hq with hq; omega)
      have hw := Below.refl w5.heap.size w5
      repeat' (first | (refine lw_pure rfl (pv_assign rfl) ?_) | (refine is_cw ?_; first | (refine cw_seq ?_) | (refine cw_region ?_) | (refine cw_ret ?_)) | (refine is_qw ?_; first | (with_reducible refine qw_then ?_)) | (refine lw_nil ?_))
      refine qw_ret1 rfl rfl ⟨rfl, fun _ => ⟨_, _, ⟨hW5, hO5, ?_, hNb⟩⟩, hb5⟩
      rw [← hze]
      rw [show (t ++ [(⟨n0, n1, n2, n3⟩ : Lt)]).length = zs.length from hz1.length_eq.symm] at hTs2 ⊢
      exact hTs2
  · have hf : findT t n0 = some r := find_at hxk hr hn
    rw [hf, if_pos (by rfl)]
    repeat' (first | (refine lw_pure rfl (pv_assign rfl) ?_) | (refine is_cw ?_; first | (refine cw_seq ?_) | (refine cw_region ?_) | (refine cw_true rfl rfl ?_) | (refine cw_ret ?_)) | (refine is_qw ?_; first | (with_reducible refine qw_then ?_) | (with_reducible refine qw_then_ret ?_) | (with_reducible refine qw_in_ret ?_)) | (refine lw_nil ?_))
    exact qw_ret1 rfl rfl ⟨rfl, by simp, hb2⟩
set_option maxRecDepth 20000 in
set_option maxHeartbeats 4000000 in
theorem cancelled_c {p : List Opn} {t : List Lt} {ev0 : Evt} {w0 w : World} {N : Nat} {a : Option Addr} {c : Nat} {n0 : Int} {vo vt : Value} (hev : ev0.nums = [n0]) (hb0 : Below w0.heap.size w0 w) (hW : WkO w0.heap.size w N p t vo vt) (HN : SlR encI 1 w0 a c [n0]) (hnd : (p.map (·.id)).Nodup) (hpos : ∀ x ∈ p, 0 < x.left) (hl : p.length ≤ 128) :
    Calls Tryz.prog 83 #[.pointer (some ⟨N, 0, none⟩), .slice a 1 c] w fun e w' => e = .returned (.int .i64 (cancelR p t ev0).2.2) ∧ ((cancelR p t ev0).2.2 = 0 → ∃ vo vt, WkO w0.heap.size w' N (cancelR p t ev0).1 (cancelR p t ev0).2.1 vo vt) ∧ Below w0.heap.size w0 w' := by
  obtain ⟨HW, HO, HT, hNb⟩ := hW
  obtain ⟨ab, ao, rfl, -, -⟩ := HN.at (by simp)
  obtain ⟨oa, oc, rfl, HOs, -⟩ := Own.slR encP_len HO
  have hx0 : [n0][0]? = some n0 := rfl
  have hn0 := nth_eq hev hx0
  have HNw := HN.mono hb0
  have hw := Below.refl w.heap.size w
  refine fn_enter 27 Tryz.func83 rfl rfl rfl ?_
  repeat' (first | (refine lw_pure rfl (pv_assign rfl) ?_) | (refine is_cw ?_; first | (refine cw_seq ?_) | (refine cw_region ?_)) | (refine is_qw ?_; first | (with_reducible refine qw_then ?_)) | (refine lw_nil ?_))
  refine cw_drawn (fun w' => Below w.heap.size w w') (by kernel_rfl) (by repeat (first | exact NoPanic.body | with_reducible refine NoPanic.then ?_ | with_reducible refine NoPanic.inBlock ?_)) (fun hNP => ?_)
  have hS := hw.drew
  (refine at0 0 rfl (fun w' hq => pv_move rfl) ?_)
  (refine at0 1 rfl (fun w' hq => pv_nilp rfl) ?_)
  (refine at0 2 rfl (fun w' hq => pv_fa (tF rfl) rfl) ?_)
  (refine at0 3 rfl (fun w' hq => pv_load (t1 rfl) rfl (by first | exact PT.ld0 (HW.mono hq) rfl | exact PT.ld (HW.mono hq) rfl | exact SlR.ld (HNw.mono hq) hx0 rfl | exact SlR.ld1 (HNw.mono hq) hx0 rfl)) ?_)
  (refine at0 4 rfl (fun w' hq => pv_move rfl) ?_)
  (refine at0 5 rfl (fun w' hq => pv_ia (tS rfl) rfl rfl (by omega)) ?_)
  (refine at0 6 rfl (fun w' hq => pv_load (t1 rfl) rfl (by first | exact PT.ld0 (HW.mono hq) rfl | exact PT.ld (HW.mono hq) rfl | exact SlR.ld (HNw.mono hq) hx0 rfl | exact SlR.ld1 (HNw.mono hq) hx0 rfl)) ?_)
  refine aw_act 7 (by kernel_rfl) rfl rfl rfl ?_
  refine act_call (f := 55) (by kernel_rfl) rfl (at_c n0 rfl (HOs.mono hS)) ?_; rintro e1 w1 ⟨⟨i, rfl, hi⟩, hb1⟩; refine ⟨_, rfl, grow_trans hS hb1, fun hS => ?_⟩
  (refine at0 8 rfl (fun w' hq => pv_assign rfl) ?_)
  refine aw_done (by kernel_rfl) ?_
  replace hw := hS; clear hS hNP
  have hb2 := grow_trans hb0 hw
  rcases hi with ⟨rfl, hn⟩ | ⟨k, r, rfl, hxk, hr, hn⟩
  · have hf : findP p n0 = none := find_none hn
    have hR : cancelR p t ev0 = ([], [], 5) := by unfold cancelR; rw [hn0, hf]
    rw [hR]
    repeat' (first | (refine lw_pure rfl (pv_move rfl) ?_) | (refine lw_pure rfl (pv_assign rfl) ?_) | (refine is_cw ?_; first | (refine cw_seq ?_) | (refine cw_region ?_) | (refine cw_true rfl rfl ?_) | (refine cw_ret ?_)) | (refine is_qw ?_; first | (with_reducible refine qw_then ?_) | (with_reducible refine qw_then_ret ?_)) | (refine lw_nil ?_) | ((refine is_bin ?_; first | (refine lw_pure rfl (pv_lss rfl rfl) ?_))))
    exact qw_ret1 rfl rfl ⟨rfl, by simp, hb2⟩
  · have hf : findP p n0 = some r := find_at hxk hr hn
    have hR : cancelR p t ev0 = (lessP p n0 r.left, t, 0) := by unfold cancelR; rw [hn0, hf]
    rw [hR]
    have hrid : r.id = n0 := by simpa using hr
    have hlt : k < p.length := (List.getElem?_eq_some_iff.1 hxk).1
    have hce := cancel_eq hxk hnd hpos
    rw [hrid] at hce
    repeat' (first | (refine lw_pure rfl (pv_move rfl) ?_) | (refine is_cw ?_; first | (refine cw_seq ?_) | (refine cw_region ?_) | (refine cw_false rfl rfl ?_) | (refine cw_skip ?_)) | (refine is_qw ?_; first | (with_reducible refine qw_then ?_)) | (refine lw_nil ?_) | ((refine is_bin ?_; first | (refine lw_pure rfl (pv_lss rfl rfl) ?_) | (refine lw_pure rfl (pv_inc rfl rfl (by omega)) ?_))) | ((refine is_load ?_; first | (refine lw_pure rfl (pv_load (t1 rfl) rfl (by first | exact PT.ld0 (HW.mono hw) rfl | exact PT.ld (HW.mono hw) rfl)) ?_))) | ((refine is_fa ?_; first | (refine lw_pure rfl (pv_fa (tF rfl) rfl) ?_))) | (refine lw_pure rfl (pv_nilp rfl) ?_))
    refine lw_call (f := 109) (by kernel_rfl) rfl rfl (delone_P w0.heap.size k hlt hb2.size (HO.mono hw)) ?_; rintro e1 w5 ⟨⟨v', rfl, hO5⟩, hg5, hb5⟩; refine ⟨_, rfl, ?_⟩
    have HW5 := (HW.mono hw).grown hg5 (own_pt_ne (HO.mono hw) (HW.mono hw) (by decide))
    have hT5 := (HT.mono hw).kept hg5 (own_ne_T (HT.mono hw) (HO.mono hw) (by decide))
    have hb6 := hb2.trans hb5
    obtain ⟨va, vc, rfl, -, -⟩ := Own.slR encP_len hO5
    have hw := Below.refl w5.heap.size w5
    repeat' (first | ((refine is_fa ?_; first | (refine lw_pure rfl (pv_fa (tF rfl) rfl) ?_))) | (refine lw_pure rfl (pv_nilp rfl) ?_))
    refine lw_store HW5 (tZ rfl) rfl rfl rfl (by simp) ?_; intro w6 HW6 hg6 hz6
    have hO6 := hO5.kept hg6 (Or.inr (own_pt_ne hO5 HW5 (by decide)))
    have hT6 := hT5.kept hg6 (Or.inr (own_pt_ne hT5 HW5 (by decide)))
    have hb7 := hb6.grown hg6 hb6.size (by intro q hq; injection hq with hq; omega)
    have hw := Below.refl w6.heap.size w6
    repeat' (first | (refine lw_pure rfl (pv_assign rfl) ?_) | (refine is_cw ?_; first | (refine cw_seq ?_) | (refine cw_region ?_) | (refine cw_ret ?_)) | (refine is_qw ?_; first | (with_reducible refine qw_then ?_)) | (refine lw_nil ?_))
    refine qw_ret1 rfl rfl ⟨rfl, fun _ => ⟨_, _, ⟨HW6, ?_, hT6, hNb⟩⟩, hb7⟩
    rw [hce]; exact hO6
set_option maxRecDepth 20000 in
set_option maxHeartbeats 4000000 in
theorem gone_c {p : List Opn} {t : List Lt} {ev0 : Evt} {w0 w : World} {N m : Nat} {a : Option Addr} {c : Nat} {ns : List Int} {n0 : Int} {vo vt : Value} (hev : ev0.nums = ns) (hm : ns.length = m) (hx0 : ns[0]? = some n0) (hb0 : Below w0.heap.size w0 w) (hW : WkO w0.heap.size w N p t vo vt) (HN : SlR encI 1 w0 a c ns) (hp1 : t.Pairwise keyT) (hl : t.length ≤ 32) :
    Calls Tryz.prog 86 #[.pointer (some ⟨N, 0, none⟩), .slice a m c] w fun e w' => e = .returned (.int .i64 (goneR p t ev0).2.2) ∧ ((goneR p t ev0).2.2 = 0 → ∃ vo vt, WkO w0.heap.size w' N (goneR p t ev0).1 (goneR p t ev0).2.1 vo vt) ∧ Below w0.heap.size w0 w' := by
  subst hm
  have hlen : 0 < ns.length := (List.getElem?_eq_some_iff.1 hx0).1
  obtain ⟨HW, HO, HT, hNb⟩ := hW
  obtain ⟨ab, ao, rfl, -, -⟩ := HN.at (by intro h; rw [h] at hlen; simp at hlen)
  obtain ⟨ta, tc, rfl, HTs, -⟩ := Own.slR encL_len HT
  have hn0 := nth_eq hev hx0
  have HNw := HN.mono hb0
  have hw := Below.refl w.heap.size w
  refine fn_enter 27 Tryz.func86 rfl rfl rfl ?_
  repeat' (first | (refine lw_pure rfl (pv_assign rfl) ?_) | (refine is_cw ?_; first | (refine cw_seq ?_) | (refine cw_region ?_)) | (refine is_qw ?_; first | (with_reducible refine qw_then ?_)) | (refine lw_nil ?_))
  refine cw_drawn (fun w' => Below w.heap.size w w') (by kernel_rfl) (by repeat (first | exact NoPanic.body | with_reducible refine NoPanic.then ?_ | with_reducible refine NoPanic.inBlock ?_)) (fun hNP => ?_)
  have hS := hw.drew
  (refine at0 0 rfl (fun w' hq => pv_move rfl) ?_)
  (refine at0 1 rfl (fun w' hq => pv_nilp rfl) ?_)
  (refine at0 2 rfl (fun w' hq => pv_fa (tF rfl) rfl) ?_)
  (refine at0 3 rfl (fun w' hq => pv_load (t1 rfl) rfl (by first | exact PT.ld0 (HW.mono hq) rfl | exact PT.ld (HW.mono hq) rfl | exact SlR.ld (HNw.mono hq) hx0 rfl | exact SlR.ld1 (HNw.mono hq) hx0 rfl)) ?_)
  (refine at0 4 rfl (fun w' hq => pv_move rfl) ?_)
  (refine at0 5 rfl (fun w' hq => pv_ian (tS rfl) rfl rfl (by omega)) ?_)
  (refine at0 6 rfl (fun w' hq => pv_load (t1 rfl) rfl (by first | exact PT.ld0 (HW.mono hq) rfl | exact PT.ld (HW.mono hq) rfl | exact SlR.ld (HNw.mono hq) hx0 rfl | exact SlR.ld1 (HNw.mono hq) hx0 rfl)) ?_)
  refine aw_act 7 (by kernel_rfl) rfl rfl rfl ?_
  refine act_call (f := 56) (by kernel_rfl) rfl (lot_c n0 rfl (HTs.mono hS)) ?_; rintro e1 w1 ⟨⟨i, rfl, hi⟩, hb1⟩; refine ⟨_, rfl, grow_trans hS hb1, fun hS => ?_⟩
  (refine at0 8 rfl (fun w' hq => pv_assign rfl) ?_)
  refine aw_done (by kernel_rfl) ?_
  replace hw := hS; clear hS hNP
  have hb2 := grow_trans hb0 hw
  rcases hi with ⟨rfl, hn⟩ | ⟨k, r, rfl, hxk, hr, hn⟩
  · have hf : findT t n0 = none := find_none hn
    have hR : goneR p t ev0 = ([], [], 5) := by unfold goneR; rw [hn0, hf]; rfl
    rw [hR]
    repeat' (first | (refine lw_pure rfl (pv_move rfl) ?_) | (refine lw_pure rfl (pv_assign rfl) ?_) | (refine is_cw ?_; first | (refine cw_seq ?_) | (refine cw_region ?_) | (refine cw_true rfl rfl ?_) | (refine cw_ret ?_)) | (refine is_qw ?_; first | (with_reducible refine qw_then ?_) | (with_reducible refine qw_then_ret ?_)) | (refine lw_nil ?_) | ((refine is_bin ?_; first | (refine lw_pure rfl (pv_lss rfl rfl) ?_))))
    exact qw_ret1 rfl rfl ⟨rfl, by simp, hb2⟩
  · have hf : findT t n0 = some r := find_at hxk hr hn
    have hR : goneR p t ev0 = (p, gone t n0, 0) := by unfold goneR; rw [hn0, hf]; rfl
    rw [hR]
    have hrid : r.id = n0 := by simpa using hr
    have hlt : k < t.length := (List.getElem?_eq_some_iff.1 hxk).1
    have hce := gone_eq hxk hp1
    rw [hrid] at hce
    repeat' (first | (refine lw_pure rfl (pv_move rfl) ?_) | (refine is_cw ?_; first | (refine cw_seq ?_) | (refine cw_region ?_) | (refine cw_false rfl rfl ?_) | (refine cw_skip ?_)) | (refine is_qw ?_; first | (with_reducible refine qw_then ?_)) | (refine lw_nil ?_) | ((refine is_bin ?_; first | (refine lw_pure rfl (pv_lss rfl rfl) ?_) | (refine lw_pure rfl (pv_inc rfl rfl (by omega)) ?_))) | ((refine is_load ?_; first | (refine lw_pure rfl (pv_load (t1 rfl) rfl (by first | exact PT.ld0 (HW.mono hw) rfl | exact PT.ld (HW.mono hw) rfl)) ?_))) | ((refine is_fa ?_; first | (refine lw_pure rfl (pv_fa (tF rfl) rfl) ?_))) | (refine lw_pure rfl (pv_nilp rfl) ?_))
    refine lw_call (f := 113) (by kernel_rfl) rfl rfl (delone_L w0.heap.size k hlt hb2.size (HT.mono hw)) ?_; rintro e1 w5 ⟨⟨v', rfl, hT5⟩, hg5, hb5⟩; refine ⟨_, rfl, ?_⟩
    have HW5 := (HW.mono hw).grown hg5 (own_pt_ne (HT.mono hw) (HW.mono hw) (by decide))
    have hO5 := (HO.mono hw).kept hg5 (own_ne_T (HO.mono hw) (HT.mono hw) (by decide))
    have hb6 := hb2.trans hb5
    obtain ⟨va, vc, rfl, -, -⟩ := Own.slR encL_len hT5
    have hw := Below.refl w5.heap.size w5
    repeat' (first | ((refine is_fa ?_; first | (refine lw_pure rfl (pv_fa (tF rfl) rfl) ?_))) | (refine lw_pure rfl (pv_nilp rfl) ?_))
    refine lw_store HW5 (tZ rfl) rfl rfl rfl (by simp) ?_; intro w6 HW6 hg6 hz6
    have hO6 := hO5.kept hg6 (Or.inr (own_pt_ne hO5 HW5 (by decide)))
    have hT6 := hT5.kept hg6 (Or.inr (own_pt_ne hT5 HW5 (by decide)))
    have hb7 := hb6.grown hg6 hb6.size (by intro q hq; injection hq with hq; omega)
    have hw := Below.refl w6.heap.size w6
    repeat' (first | (refine lw_pure rfl (pv_assign rfl) ?_) | (refine is_cw ?_; first | (refine cw_seq ?_) | (refine cw_region ?_) | (refine cw_ret ?_)) | (refine is_qw ?_; first | (with_reducible refine qw_then ?_)) | (refine lw_nil ?_))
    refine qw_ret1 rfl rfl ⟨rfl, fun _ => ⟨_, _, ⟨HW6, hO6, ?_, hNb⟩⟩, hb7⟩
    rw [hce]; exact hT6

set_option maxRecDepth 20000 in
theorem zeroF_c (o : Opn) (w : World) : Calls Tryz.prog 111 #[.agg (encP o).toArray] w fun e w' => e = .returned (.bool (o.left == 0)) ∧ Below w.heap.size w w' := by
  have hE := Ext.refl w
  have hw := Below.refl w.heap.size w
  refine fn_enter 6 Tryz.func111 rfl rfl rfl ?_
  repeat' (first | (refine is_cw ?_; first | (refine cw_seq ?_) | (refine cw_region ?_)))
  refine lw_boxN rfl rfl (cs := encP o) rfl ?_; intro N1 wn hN HA hb
  replace hw := grow_trans hw hb
  clear hb
  replace hE := hE.mono hw; clear hw; have hw := Below.refl wn.heap.size wn
  repeat' (first | (refine lw_pure rfl (pv_assign rfl) ?_) | (refine is_cw ?_; first | (refine cw_seq ?_) | (refine cw_region ?_) | (refine cw_ret ?_)) | (refine is_qw ?_; first | (with_reducible refine qw_then ?_)) | (refine lw_nil ?_) | ((refine is_bin ?_; first | (refine lw_pure rfl (pv_eql rfl rfl) ?_))) | ((refine is_load ?_; first | (refine lw_pure rfl (pv_load (t1 rfl) rfl (by first | exact PT.ld0 (HA.mono hw) rfl | exact PT.ld (HA.mono hw) rfl)) ?_))) | ((refine is_fa ?_; first | (refine lw_pure rfl (pv_fa (tF rfl) rfl) ?_))))
  exact qw_ret1 rfl rfl ⟨ret_bool rfl, (hE.mono hw).b⟩
set_option maxRecDepth 20000 in
set_option maxHeartbeats 8000000 in
theorem traded_c {p : List Opn} {t : List Lt} {ev0 : Evt} {w0 w : World} {N m : Nat} {a : Option Addr} {c : Nat} {ns : List Int} {n0 n1 n3 : Int} {vo vt : Value} (hev : ev0.nums = ns) (hm : ns.length = m) (hx0 : ns[0]? = some n0) (hx1 : ns[1]? = some n1) (hx3 : ns[3]? = some n3) (hq : 1 ≤ n3 ∧ n3 ≤ 1048576) (hb0 : Below w0.heap.size w0 w) (hW : WkO w0.heap.size w N p t vo vt) (HN : SlR encI 1 w0 a c ns) (hnd : (p.map (·.id)).Nodup) (hpos : ∀ x ∈ p, 0 < x.left ∧ x.left ≤ 1048576) :
    Calls Tryz.prog 84 #[.pointer (some ⟨N, 0, none⟩), .slice a m c] w fun e w' => e = .returned (.int .i64 (tradedR p t ev0).2.2) ∧ ((tradedR p t ev0).2.2 = 0 → ∃ vo vt, WkO w0.heap.size w' N (tradedR p t ev0).1 (tradedR p t ev0).2.1 vo vt) ∧ Below w0.heap.size w0 w' := by
  subst hm
  have hlen : 3 < ns.length := (List.getElem?_eq_some_iff.1 hx3).1
  obtain ⟨HW, HO, HT, hNb⟩ := hW
  obtain ⟨ab, ao, rfl, -, -⟩ := HN.at (by intro h; rw [h] at hlen; simp at hlen)
  obtain ⟨oa, oc, rfl, HOs, hob⟩ := Own.slR encP_len HO
  have hn0 := nth_eq hev hx0
  have hn1 := nth_eq hev hx1
  have hn3 := nth_eq hev hx3
  have hR : tradedR p t ev0 = match findP p n0, findP p n1 with | some a, some b => if n0 = n1 ∨ a.left < n3 ∨ b.left < n3 then ([], [], 1) else (lessP (lessP p n0 n3) n1 n3, t, 0) | _, _ => ([], [], 5) := by
    unfold tradedR; rw [hn0, hn1, hn3]; rfl
  have HNw := HN.mono hb0
  have hw := Below.refl w.heap.size w
  refine fn_enter 94 Tryz.func84 rfl rfl rfl ?_
  repeat' (first | (refine lw_pure rfl (pv_assign rfl) ?_) | (refine is_cw ?_; first | (refine cw_seq ?_) | (refine cw_region ?_)) | (refine is_qw ?_; first | (with_reducible refine qw_then ?_)) | (refine lw_nil ?_))
  refine cw_drawn (fun w' => Below w.heap.size w w') (by kernel_rfl) (by repeat (first | exact NoPanic.body | with_reducible refine NoPanic.then ?_ | with_reducible refine NoPanic.inBlock ?_)) (fun hNP => ?_)
  have hS := hw.drew
  (refine at0 0 rfl (fun w' hq => pv_move rfl) ?_)
  (refine at0 1 rfl (fun w' hq => pv_nilp rfl) ?_)
  (refine at0 2 rfl (fun w' hq => pv_fa (tF rfl) rfl) ?_)
  (refine at0 3 rfl (fun w' hq => pv_load (t1 rfl) rfl (by first | exact PT.ld0 (HW.mono hq) rfl | exact PT.ld (HW.mono hq) rfl | exact SlR.ld (HNw.mono hq) hx0 rfl | exact SlR.ld1 (HNw.mono hq) hx0 rfl | exact SlR.ld (HNw.mono hq) hx1 rfl | exact SlR.ld1 (HNw.mono hq) hx1 rfl | exact SlR.ld (HNw.mono hq) hx3 rfl | exact SlR.ld1 (HNw.mono hq) hx3 rfl)) ?_)
  (refine at0 4 rfl (fun w' hq => pv_move rfl) ?_)
  (refine at0 5 rfl (fun w' hq => pv_ia (tS rfl) rfl rfl (by omega)) ?_)
  (refine at0 6 rfl (fun w' hq => pv_load (t1 rfl) rfl (by first | exact PT.ld0 (HW.mono hq) rfl | exact PT.ld (HW.mono hq) rfl | exact SlR.ld (HNw.mono hq) hx0 rfl | exact SlR.ld1 (HNw.mono hq) hx0 rfl | exact SlR.ld (HNw.mono hq) hx1 rfl | exact SlR.ld1 (HNw.mono hq) hx1 rfl | exact SlR.ld (HNw.mono hq) hx3 rfl | exact SlR.ld1 (HNw.mono hq) hx3 rfl)) ?_)
  (refine at0 8 rfl (fun w' hq => pv_move rfl) ?_)
  (refine at0 9 rfl (fun w' hq => pv_nilp rfl) ?_)
  (refine at0 10 rfl (fun w' hq => pv_fa (tF rfl) rfl) ?_)
  (refine at0 11 rfl (fun w' hq => pv_load (t1 rfl) rfl (by first | exact PT.ld0 (HW.mono hq) rfl | exact PT.ld (HW.mono hq) rfl | exact SlR.ld (HNw.mono hq) hx0 rfl | exact SlR.ld1 (HNw.mono hq) hx0 rfl | exact SlR.ld (HNw.mono hq) hx1 rfl | exact SlR.ld1 (HNw.mono hq) hx1 rfl | exact SlR.ld (HNw.mono hq) hx3 rfl | exact SlR.ld1 (HNw.mono hq) hx3 rfl)) ?_)
  (refine at0 12 rfl (fun w' hq => pv_move rfl) ?_)
  (refine at0 13 rfl (fun w' hq => pv_ia (tS rfl) rfl rfl (by omega)) ?_)
  (refine at0 14 rfl (fun w' hq => pv_load (t1 rfl) rfl (by first | exact PT.ld0 (HW.mono hq) rfl | exact PT.ld (HW.mono hq) rfl | exact SlR.ld (HNw.mono hq) hx0 rfl | exact SlR.ld1 (HNw.mono hq) hx0 rfl | exact SlR.ld (HNw.mono hq) hx1 rfl | exact SlR.ld1 (HNw.mono hq) hx1 rfl | exact SlR.ld (HNw.mono hq) hx3 rfl | exact SlR.ld1 (HNw.mono hq) hx3 rfl)) ?_)
  (refine at0 16 rfl (fun w' hq => pv_move rfl) ?_)
  (refine at0 17 rfl (fun w' hq => pv_ian (tS rfl) rfl rfl (by omega)) ?_)
  (refine at0 18 rfl (fun w' hq => pv_load (t1 rfl) rfl (by first | exact PT.ld0 (HW.mono hq) rfl | exact PT.ld (HW.mono hq) rfl | exact SlR.ld (HNw.mono hq) hx0 rfl | exact SlR.ld1 (HNw.mono hq) hx0 rfl | exact SlR.ld (HNw.mono hq) hx1 rfl | exact SlR.ld1 (HNw.mono hq) hx1 rfl | exact SlR.ld (HNw.mono hq) hx3 rfl | exact SlR.ld1 (HNw.mono hq) hx3 rfl)) ?_)
  refine aw_act 7 (by kernel_rfl) rfl rfl rfl ?_
  refine act_call (f := 55) (by kernel_rfl) rfl (at_c n0 rfl (HOs.mono hS)) ?_; rintro e1 w1 ⟨⟨i, rfl, hi⟩, hb1⟩; refine ⟨_, rfl, grow_trans hS hb1, fun hS => ?_⟩
  refine aw_act 15 (by kernel_rfl) rfl rfl rfl ?_
  refine act_call (f := 55) (by kernel_rfl) rfl (at_c n1 rfl (HOs.mono hS)) ?_; rintro e1 w1 ⟨⟨j, rfl, hj⟩, hb1⟩; refine ⟨_, rfl, grow_trans hS hb1, fun hS => ?_⟩
  (refine at0 19 rfl (fun w' hq => pv_assign rfl) ?_)
  (refine at0 20 rfl (fun w' hq => pv_assign rfl) ?_)
  (refine at0 21 rfl (fun w' hq => pv_assign rfl) ?_)
  refine aw_done (by kernel_rfl) ?_
  replace hw := hS; clear hS hNP
  have hb2 := grow_trans hb0 hw
  rcases hi with ⟨rfl, hi⟩ | ⟨i, r, rfl, hxi, hri, hi⟩
  · have hf : findP p n0 = none := find_none hi
    rw [hf] at hR
    rw [hR]
    rcases hj with ⟨rfl, hj⟩ | ⟨j, s, rfl, hxj, hrj, hj⟩
    all_goals repeat' (first | (refine lw_pure rfl (pv_move rfl) ?_) | (refine lw_pure rfl (pv_assign rfl) ?_) | (refine is_cw ?_; first | (refine cw_seq ?_) | (refine cw_region ?_) | (refine cw_true rfl rfl ?_) | (refine cw_block ?_) | (refine cw_ret ?_)) | (refine is_qw ?_; first | (with_reducible refine qw_then ?_) | (with_reducible refine qw_then_ret ?_) | (with_reducible refine qw_in_ret ?_)) | (refine lw_nil ?_) | (refine is_guarded ?_; first | (refine lw_not rfl rfl rfl rfl ?_)) | ((refine is_bin ?_; first | (refine lw_pure rfl (pv_lss rfl rfl) ?_))) | (refine is_pk ?_; refine lw_pure rfl (pv_pick_t rfl rfl rfl) ?_))
    all_goals exact qw_ret1 rfl rfl ⟨rfl, by simp, hb2⟩
  · have hf : findP p n0 = some r := find_at hxi hri hi
    have hrid : r.id = n0 := by simpa using hri
    rcases hj with ⟨rfl, hj⟩ | ⟨j, s, rfl, hxj, hrj, hj⟩
    · have hg : findP p n1 = none := find_none hj
      rw [hf, hg] at hR
      rw [hR]
      repeat' (first | (refine lw_pure rfl (pv_move rfl) ?_) | (refine lw_pure rfl (pv_assign rfl) ?_) | (refine is_cw ?_; first | (refine cw_seq ?_) | (refine cw_region ?_) | (refine cw_true rfl rfl ?_) | (refine cw_block ?_) | (refine cw_ret ?_)) | (refine is_qw ?_; first | (with_reducible refine qw_then ?_) | (with_reducible refine qw_then_ret ?_) | (with_reducible refine qw_in_ret ?_)) | (refine lw_nil ?_) | (refine is_guarded ?_; first | (refine lw_on rfl rfl rfl ?_)) | ((refine is_bin ?_; first | (refine lw_pure rfl (pv_lss rfl rfl) ?_))) | (refine is_pk ?_; refine lw_pure rfl (pv_pick_f rfl rfl rfl) ?_))
      all_goals exact qw_ret1 rfl rfl ⟨rfl, by simp, hb2⟩
    · have hg : findP p n1 = some s := find_at hxj hrj hj
      have hsid : s.id = n1 := by simpa using hrj
      rw [hf, hg] at hR
      dsimp only at hR
      rw [hR]
      have hlti : i < p.length := (List.getElem?_eq_some_iff.1 hxi).1
      have hltj : j < p.length := (List.getElem?_eq_some_iff.1 hxj).1
      have hij : i = j ↔ n0 = n1 := by
        constructor
        · rintro rfl; rw [hxi] at hxj; injection hxj with hxj; subst hxj; rw [← hrid, ← hsid]
        · intro e
          have hrs : r = s := inj_of_nodup hnd (List.mem_of_getElem? hxi) (List.mem_of_getElem? hxj) (by rw [hrid, hsid, e])
          subst hrs
          have h1 : (p.map (·.id))[i]? = some r.id := by rw [List.getElem?_map, hxi]; rfl
          have h2 : (p.map (·.id))[j]? = some r.id := by rw [List.getElem?_map, hxj]; rfl
          rcases Nat.lt_trichotomy i j with h3 | h3 | h3
          · exact absurd rfl (pwg_get (List.nodup_iff_pairwise_ne.1 hnd) h3 h1 h2)
          · exact h3
          · exact absurd rfl (pwg_get (List.nodup_iff_pairwise_ne.1 hnd) h3 h2 h1)
      obtain ⟨ob, oo, rfl, -, -⟩ := HOs.at (by intro h; rw [h] at hlti; simp at hlti)
      obtain ⟨hob1, hob2⟩ := hob _ rfl
      simp only at hob1 hob2; subst hob2
      have hrl := hpos r (List.mem_of_getElem? hxi)
      have hsl := hpos s (List.mem_of_getElem? hxj)
      have HOw := HOs
      by_cases hbad : n0 = n1 ∨ r.left < n3 ∨ s.left < n3
      · rw [if_pos hbad]
        repeat' (first | (refine lw_pure rfl (pv_move rfl) ?_) | (refine lw_pure rfl (pv_assign rfl) ?_) | (refine is_cw ?_; first | (refine cw_seq ?_) | (refine cw_region ?_) | (refine cw_true rfl rfl ?_) | (refine cw_false rfl rfl ?_) | (refine is_cd ?_; refine cw_true rfl (by first | assumption | exact decide_eq_true (by omega) | exact dec_notT (by omega)) ?_) | (refine cw_block ?_) | (refine cw_ret ?_)) | (refine is_qw ?_; first | (with_reducible refine qw_then ?_) | (with_reducible refine qw_then_ret ?_) | (with_reducible refine qw_in_ret ?_)) | (refine lw_nil ?_) | (refine is_guarded ?_; first | (refine lw_not rfl rfl rfl rfl ?_) | (refine lw_on rfl rfl rfl ?_) | (refine lw_on rfl rfl (by first | assumption | exact decide_eq_true (by omega) | exact decide_eq_false (by omega) | exact dec_notT (by omega) | exact dec_notF (by omega)) ?_) | (refine lw_not rfl rfl rfl (by first | assumption | exact decide_eq_true (by omega) | exact decide_eq_false (by omega) | exact dec_notT (by omega) | exact dec_notF (by omega)) ?_) | (refine lw_gs_f rfl rfl rfl (fun hc => ?_) (fun hc => ?_) <;> (first | replace hc := of_decide_eq_true hc | replace hc := of_decide_eq_false hc | replace hc := dec_nT hc | replace hc := dec_nF hc | skip) <;> (try (exfalso; omega)))) | ((refine is_bin ?_; first | (refine lw_pure rfl (pv_lss rfl rfl) ?_) | (refine lw_pure rfl (pv_eql rfl rfl) ?_) | (refine lw_pure rfl (pv_gtr rfl rfl) ?_))) | ((refine is_load ?_; first | (refine lw_pure rfl (pv_load (t1 rfl) rfl (by first | exact PT.ld0 (HW.mono hw) rfl | exact PT.ld (HW.mono hw) rfl | exact SlR.ld (HOw.mono hw) hxi rfl | exact SlR.ld1 (HOw.mono hw) hxi rfl | exact SlR.ld (HOw.mono hw) hxj rfl | exact SlR.ld1 (HOw.mono hw) hxj rfl)) ?_))) | ((refine is_fa ?_; first | (refine lw_pure rfl (pv_fa (tF rfl) rfl) ?_))) | ((refine is_ia ?_; first | (refine lw_pure rfl (pv_ian (tS rfl) rfl rfl (by omega)) ?_))) | (refine is_pk ?_; refine lw_pure rfl (pv_pick_t rfl rfl rfl) ?_) | (refine is_pk ?_; refine lw_pure rfl (pv_pick_f rfl rfl rfl) ?_) | (refine is_pk ?_; refine lw_pure rfl (pv_pick_t rfl (by first | assumption | exact decide_eq_true (by omega) | exact dec_notT (by omega)) rfl) ?_) | (refine is_pk ?_; refine lw_pure rfl (pv_pick_f rfl (by first | assumption | exact decide_eq_false (by omega) | exact dec_notF (by omega)) rfl) ?_) | (refine lw_pure rfl (pv_nilp rfl) ?_))
        all_goals first | (exfalso; omega) | exact qw_ret1 rfl rfl ⟨rfl, by simp, hb2⟩
      · rw [if_neg hbad]
        have hne : ¬ i = j := fun e => hbad (Or.inl (hij.1 e))
        have hg1 : ¬ r.left < n3 := fun e => hbad (Or.inr (Or.inl e))
        have hg2 : ¬ s.left < n3 := fun e => hbad (Or.inr (Or.inr e))
        repeat' (first | (refine lw_pure rfl (pv_move rfl) ?_) | (refine lw_pure rfl (pv_assign rfl) ?_) | (refine is_cw ?_; first | (refine cw_seq ?_) | (refine cw_region ?_) | (refine cw_false rfl rfl ?_) | (refine is_cd ?_; refine cw_false rfl (by first | assumption | exact decide_eq_false (by omega) | exact dec_notF (by omega)) ?_) | (refine cw_skip ?_) | (refine cw_block ?_)) | (refine is_qw ?_; first | (with_reducible refine qw_then ?_) | (with_reducible refine qw_in ?_)) | (refine lw_nil ?_) | (refine is_guarded ?_; first | (refine lw_on rfl rfl rfl ?_) | (refine lw_on rfl rfl (by first | assumption | exact decide_eq_true (by omega) | exact decide_eq_false (by omega) | exact dec_notT (by omega) | exact dec_notF (by omega)) ?_)) | ((refine is_bin ?_; first | (refine lw_pure rfl (pv_lss rfl rfl) ?_) | (refine lw_pure rfl (pv_eql rfl rfl) ?_) | (refine lw_pure rfl (pv_gtr rfl rfl) ?_) | (refine lw_pure rfl (pv_sub rfl rfl (by omega)) ?_))) | ((refine is_load ?_; first | (refine lw_pure rfl (pv_load (t1 rfl) rfl (by first | exact PT.ld0 (HW.mono hw) rfl | exact PT.ld (HW.mono hw) rfl | exact SlR.ld (HOw.mono hw) hxi rfl | exact SlR.ld1 (HOw.mono hw) hxi rfl | exact SlR.ld (HOw.mono hw) hxj rfl | exact SlR.ld1 (HOw.mono hw) hxj rfl)) ?_))) | ((refine is_fa ?_; first | (refine lw_pure rfl (pv_fa (tF rfl) rfl) ?_))) | ((refine is_ia ?_; first | (refine lw_pure rfl (pv_ian (tS rfl) rfl rfl (by omega)) ?_))) | (refine is_pk ?_; refine lw_pure rfl (pv_pick_f rfl rfl rfl) ?_) | (refine is_pk ?_; refine lw_pure rfl (pv_pick_f rfl (by first | assumption | exact decide_eq_false (by omega) | exact dec_notF (by omega)) rfl) ?_) | (refine lw_pure rfl (pv_nilp rfl) ?_))
        refine lw_storeF (i := i) (f := 5) (u := { r with left := r.left - n3 }) encP_len (tZ rfl) rfl (by omega) rfl rfl (HO.mono hw) hxi rfl (by omega) ?_; intro w3 hO3 hg3 hz3
        have HW3 := (HW.mono hw).grown hg3 (own_pt_ne (HO.mono hw) (HW.mono hw) (by decide))
        have hT3 := (HT.mono hw).kept hg3 (own_ne_T (HT.mono hw) (HO.mono hw) (by decide))
        have hb3 := hb2.grown hg3 hb2.size (by intro q hq; injection hq with hq; omega)
        have hl3 : (p.set i { r with left := r.left - n3 }).length = p.length := List.length_set
        rw [← hl3] at hO3
        obtain ⟨a3, c3, hv3, HO3, -⟩ := Own.slR encP_len hO3
        injection hv3 with hv31 _ hv33; subst hv31 hv33
        have hxj3 : (p.set i { r with left := r.left - n3 })[j]? = some s := by rw [List.getElem?_set, if_neg hne]; exact hxj
        have hltj3 : j < (p.set i { r with left := r.left - n3 }).length := by omega
        clear hw
        have hw := Below.refl w3.heap.size w3
        repeat' (first | (refine lw_pure rfl (pv_move rfl) ?_) | (refine is_cw ?_; first | (refine cw_seq ?_) | (refine cw_region ?_)) | (refine is_qw ?_; first | (with_reducible refine qw_then ?_)) | (refine lw_nil ?_) | ((refine is_bin ?_; first | (refine lw_pure rfl (pv_sub rfl rfl (by omega)) ?_))) | ((refine is_load ?_; first | (refine lw_pure rfl (pv_load (t1 rfl) rfl (by first | exact PT.ld0 (HW3.mono hw) rfl | exact PT.ld (HW3.mono hw) rfl | exact SlR.ld (HO3.mono hw) hxj3 rfl | exact SlR.ld1 (HO3.mono hw) hxj3 rfl)) ?_))) | ((refine is_fa ?_; first | (refine lw_pure rfl (pv_fa (tF rfl) rfl) ?_))) | ((refine is_ia ?_; first | (refine lw_pure rfl (pv_ian (tS rfl) rfl rfl (by omega)) ?_))) | (refine lw_pure rfl (pv_nilp rfl) ?_))
        refine lw_storeF (i := j) (f := 5) (u := { s with left := s.left - n3 }) encP_len (tZ rfl) rfl (by omega) rfl rfl hO3 hxj3 rfl (by omega) ?_; intro w4 hO4 hg4 hz4
        have HW4 := HW3.grown hg4 (own_pt_ne hO3 HW3 (by decide))
        have hT4 := hT3.kept hg4 (own_ne_T hT3 hO3 (by decide))
        have hb4 := hb3.grown hg4 hb3.size (by intro q hq; injection hq with hq; omega)
        have hl4 : ((p.set i { r with left := r.left - n3 }).set j { s with left := s.left - n3 }).length = (p.set i { r with left := r.left - n3 }).length := List.length_set
        rw [← hl4] at hO4
        clear hw
        have hw := Below.refl w4.heap.size w4
        have hte := traded_eq (q := n3) hxi hxj hnd (fun x hx => (hpos x hx).1) (by rw [hrid, hsid]; exact fun e => hbad (Or.inl e)) (by omega) (by omega)
        repeat' (first | (refine lw_pure rfl (pv_move rfl) ?_) | (refine is_cw ?_; first | (refine cw_seq ?_) | (refine cw_region ?_)) | (refine is_qw ?_; first | (with_reducible refine qw_then ?_)) | (refine lw_nil ?_) | ((refine is_load ?_; first | (refine lw_pure rfl (pv_load (t1 rfl) rfl (by first | exact PT.ld0 (HW4.mono hw) rfl | exact PT.ld (HW4.mono hw) rfl)) ?_))) | ((refine is_fa ?_; first | (refine lw_pure rfl (pv_fa (tF rfl) rfl) ?_))) | (refine lw_pure rfl (pv_nilp rfl) ?_))
        rw [← hl3, ← hl4]
        refine lw_call (f := 110) (by kernel_rfl) rfl rfl (delfg_P w0.heap.size (fun o => o.left == 0) 111 #[] (by kernel_rfl) hb4.size (fun x _ w' _ => by simpa using zeroF_c x w') hO4) ?_; rintro e1 w5 ⟨⟨v', rfl, hO5⟩, hg5, hb5⟩; refine ⟨_, rfl, ?_⟩
        have HW5 := HW4.grown hg5 (own_pt_ne hO4 HW4 (by decide))
        have hT5 := hT4.kept hg5 (own_ne_T hT4 hO4 (by decide))
        have hb6 := hb4.trans hb5
        obtain ⟨va, vc, rfl, -, -⟩ := Own.slR encP_len hO5
        clear hw
        have hw := Below.refl w5.heap.size w5
        repeat' (first | ((refine is_fa ?_; first | (refine lw_pure rfl (pv_fa (tF rfl) rfl) ?_))) | (refine lw_pure rfl (pv_nilp rfl) ?_))
        refine lw_store HW5 (tZ rfl) rfl rfl rfl (by simp) ?_; intro w6 HW6 hg6 hz6
        have hO6 := hO5.kept hg6 (Or.inr (own_pt_ne hO5 HW5 (by decide)))
        have hT6 := hT5.kept hg6 (Or.inr (own_pt_ne hT5 HW5 (by decide)))
        have hb7 := hb6.grown hg6 hb6.size (by intro q hq; injection hq with hq; omega)
        have hw := Below.refl w6.heap.size w6
        repeat' (first | (refine lw_pure rfl (pv_assign rfl) ?_) | (refine is_cw ?_; first | (refine cw_seq ?_) | (refine cw_region ?_) | (refine cw_ret ?_)) | (refine is_qw ?_; first | (with_reducible refine qw_then ?_)) | (refine lw_nil ?_))
        refine qw_ret1 rfl rfl ⟨rfl, fun _ => ⟨_, _, ⟨HW6, ?_, hT6, hNb⟩⟩, hb7⟩
        rw [hte, hrid, hsid] at hO6 ⊢; exact hO6
end Go.Proofs.YtemngicaoacfaaaGreatDoor
namespace Go.Proofs.YtemngicaoacfaaaGreatDoor
open Go.RowKit Go.PlainAid Go.ChangeShapes Go.WideShapes Go.Maps

section
variable {κ ν : Type} [DecidableEq κ] {eK : κ → Value} {eV : ν → Value} {P : Program} {n : Nat} {l : Fr} {w : World} {B : Nat} {Q : Exit → Act → World → Prop} {ops : Array Oper} {os : List Oper} {d : Option Nat} {ty : TypeId} {pos : String} {af : Array Edge} {g : Option (Nat × Bool)} {T K V : TypeId} {x y z : Operand}
theorem lw_insertM (ht : P.underlying T = some (.map K V)) (E : KeyE P K eK) {m : List (κ × ν)} (k : κ) (v : ν) (hx : ev l x = some (.map (some B))) (hy : ev l y = some (eK k)) (hz : ev l z = some (eV v)) (h : Mp eK eV w B m)
    (hc : ∀ w', Mp eK eV w' B (putM m k v) → w.grownBy w' (some B) → w'.heap.size = w.heap.size → LW P n ops Q os l w') : LW P n ops Q (⟨none, .insert T x y z, ty, pos, af, none⟩ :: os) l w :=
  lw_skips (Φ := fun w' => Mp eK eV w' B (putM m k v) ∧ w.grownBy w' (some B) ∧ w'.heap.size = w.heap.size) (fun A hA => by
    obtain ⟨w', h1, h2⟩ := run_updateM (w := w) ht E h k v
    exact ⟨w', by simp [execOp, hA.ev hx, hA.ev hy, hA.ev hz, h1], h2⟩) fun w' ⟨h1, h2, h3⟩ => hc w' h1 h2 h3
end
def kU (q : Fin 256) : Value := .int .u8 (q.val : Int)
def vF (f : Option Nat) : Value := match f with | some f => .func (.func f) #[] #[] | none => .nilFunc
theorem keyU : KeyE Tryz.prog 5 kU := ⟨int_keyed Tryz.underlying5, fun q => ⟨_, keyOf_int_mk Tryz.underlying5 (by have := q.isLt; simp only [Lit.wf, Bool.and_eq_true, decide_eq_true_eq]; exact ⟨show (0 : Int) ≤ _ by omega, show _ ≤ (255 : Int) by omega⟩)⟩, fun a b h => by
  simp only [kU, Value.int.injEq, true_and] at h
  exact Fin.ext (by omega)⟩
theorem zF (w : World) : (zeroValue 81).run Tryz.prog w = .ok (vF none) w := by kernel_rfl
def doesM : List (Fin 256 × Option Nat) := [(11, some 82), (12, some 83), (13, some 84), (14, some 85), (16, some 85), (18, some 86), (19, some 86)]
set_option maxRecDepth 20000 in
set_option maxHeartbeats 1000000 in
theorem does_c (w : World) : Calls Tryz.prog 54 #[] w fun e w' => (∃ N, e = .returned (.map (some N)) ∧ Mp kU vF w' N doesM ∧ w.heap.size ≤ N) ∧ Below w.heap.size w w' := by
  have hW := Below.refl w.heap.size w
  refine fn_enter 3 Tryz.func54 rfl rfl rfl ?_
  have hw := Below.refl w.heap.size w
  repeat' (first | (refine lw_pure rfl (pv_assign rfl) ?_) | (refine is_cw ?_; first | (refine cw_seq ?_) | (refine cw_region ?_)) | (refine is_qw ?_; first | (with_reducible refine qw_then ?_)) | (refine lw_nil ?_))
  refine lw_makeMap kU vF rfl ?_; intro N w1 hN HM hb
  replace hW := hW.trans hb
  refine lw_insertM (eV := vF) Tryz.underlying83 keyU 11 (some 82) rfl rfl rfl HM ?_; clear HM; intro w1 HM hg hz; replace hW := hW.grown hg hW.size (by intro q hq; injection hq with hq; omega); clear hg hz
  refine lw_insertM (eV := vF) Tryz.underlying83 keyU 12 (some 83) rfl rfl rfl HM ?_; clear HM; intro w1 HM hg hz; replace hW := hW.grown hg hW.size (by intro q hq; injection hq with hq; omega); clear hg hz
  refine lw_insertM (eV := vF) Tryz.underlying83 keyU 13 (some 84) rfl rfl rfl HM ?_; clear HM; intro w1 HM hg hz; replace hW := hW.grown hg hW.size (by intro q hq; injection hq with hq; omega); clear hg hz
  refine lw_insertM (eV := vF) Tryz.underlying83 keyU 14 (some 85) rfl rfl rfl HM ?_; clear HM; intro w1 HM hg hz; replace hW := hW.grown hg hW.size (by intro q hq; injection hq with hq; omega); clear hg hz
  refine lw_insertM (eV := vF) Tryz.underlying83 keyU 16 (some 85) rfl rfl rfl HM ?_; clear HM; intro w1 HM hg hz; replace hW := hW.grown hg hW.size (by intro q hq; injection hq with hq; omega); clear hg hz
  refine lw_insertM (eV := vF) Tryz.underlying83 keyU 18 (some 86) rfl rfl rfl HM ?_; clear HM; intro w1 HM hg hz; replace hW := hW.grown hg hW.size (by intro q hq; injection hq with hq; omega); clear hg hz
  refine lw_insertM (eV := vF) Tryz.underlying83 keyU 19 (some 86) rfl rfl rfl HM ?_; clear HM; intro w1 HM hg hz; replace hW := hW.grown hg hW.size (by intro q hq; injection hq with hq; omega); clear hg hz
  clear hw
  have hw := Below.refl w1.heap.size w1
  repeat' (first | (refine lw_pure rfl (pv_move rfl) ?_) | (refine lw_pure rfl (pv_assign rfl) ?_) | (refine is_cw ?_; first | (refine cw_ret ?_)) | (refine is_qw ?_; first | (with_reducible refine qw_then ?_)) | (refine lw_nil ?_))
  exact qw_ret1 rfl rfl ⟨⟨N, rfl, HM, hN⟩, hW⟩
theorem fld11 : fieldsR 3 11 = some ({ data := #[111, 97, 105, 115, 112, 113] }, false) := by kernel_rfl
theorem fld12 : fieldsR 3 12 = some ({ data := #[111] }, false) := by kernel_rfl
theorem fld13 : fieldsR 3 13 = some ({ data := #[111, 111, 112, 113, 122] }, false) := by kernel_rfl
theorem fld14 : fieldsR 3 14 = some ({ data := #[99, 97, 105, 113, 109, 109, 116] }, false) := by kernel_rfl
theorem fld16 : fieldsR 3 16 = some ({ data := #[99, 97, 105, 113, 109, 116] }, false) := by kernel_rfl
theorem fld18 : fieldsR 3 18 = some ({ data := #[99, 97, 109, 122] }, false) := by kernel_rfl
theorem fld19 : fieldsR 3 19 = some ({ data := #[99] }, false) := by kernel_rfl
theorem nums11 {e : Evt} (h : mayE e = true) (hv : e.v = 3) (hk : e.kind = 11) : ∃ n0 n1 n2 n3 n4 n5, e.nums = [n0, n1, n2, n3, n4, n5] ∧ (1 ≤ n0 ∧ n0 ≤ 1099511627776) ∧ (1 ≤ n1 ∧ n1 ≤ 64) ∧ (1 ≤ n2 ∧ n2 ≤ 16) ∧ (1 ≤ n3 ∧ n3 ≤ 2) ∧ (1 ≤ n4 ∧ n4 ≤ 1073741824) ∧ (1 ≤ n5 ∧ n5 ≤ 1048576) := by
  have h1 : allR 3 [111, 97, 105, 115, 112, 113] e.nums = true := (may_nums h hv hk fld11).1
  obtain ⟨n0, r0, e0, f0, h1⟩ := all_cons h1
  obtain ⟨n1, r1, rfl, f1, h1⟩ := all_cons h1
  obtain ⟨n2, r2, rfl, f2, h1⟩ := all_cons h1
  obtain ⟨n3, r3, rfl, f3, h1⟩ := all_cons h1
  obtain ⟨n4, r4, rfl, f4, h1⟩ := all_cons h1
  obtain ⟨n5, r5, rfl, f5, h1⟩ := all_cons h1
  have h2 := all_nil h1; subst h2
  exact ⟨n0, n1, n2, n3, n4, n5, e0, fits_lo f0 bnd_o, fits_lo f1 bnd_a, fits_lo f2 bnd_i, fits_lo f3 bnd_s, fits_lo f4 bnd_p, fits_lo f5 bnd_q⟩
theorem nums12 {e : Evt} (h : mayE e = true) (hv : e.v = 3) (hk : e.kind = 12) : ∃ n0, e.nums = [n0] ∧ (1 ≤ n0 ∧ n0 ≤ 1099511627776) := by
  have h1 : allR 3 [111] e.nums = true := (may_nums h hv hk fld12).1
  obtain ⟨n0, r0, e0, f0, h1⟩ := all_cons h1
  have h2 := all_nil h1; subst h2
  exact ⟨n0, e0, fits_lo f0 bnd_o⟩
theorem nums13 {e : Evt} (h : mayE e = true) (hv : e.v = 3) (hk : e.kind = 13) : ∃ n0 n1 n2 n3 n4, e.nums = [n0, n1, n2, n3, n4] ∧ (1 ≤ n0 ∧ n0 ≤ 1099511627776) ∧ (1 ≤ n1 ∧ n1 ≤ 1099511627776) ∧ (1 ≤ n2 ∧ n2 ≤ 1073741824) ∧ (1 ≤ n3 ∧ n3 ≤ 1048576) ∧ (0 ≤ n4 ∧ n4 ≤ 1125899906842624) := by
  have h1 : allR 3 [111, 111, 112, 113, 122] e.nums = true := (may_nums h hv hk fld13).1
  obtain ⟨n0, r0, e0, f0, h1⟩ := all_cons h1
  obtain ⟨n1, r1, rfl, f1, h1⟩ := all_cons h1
  obtain ⟨n2, r2, rfl, f2, h1⟩ := all_cons h1
  obtain ⟨n3, r3, rfl, f3, h1⟩ := all_cons h1
  obtain ⟨n4, r4, rfl, f4, h1⟩ := all_cons h1
  have h2 := all_nil h1; subst h2
  exact ⟨n0, n1, n2, n3, n4, e0, fits_lo f0 bnd_o, fits_lo f1 bnd_o, fits_lo f2 bnd_p, fits_lo f3 bnd_q, fits_lo f4 bnd_z⟩
theorem nums14 {e : Evt} (h : mayE e = true) (hv : e.v = 3) (hk : e.kind = 14 ∨ e.kind = 16) : ∃ n0 n1 n2 n3 r, e.nums = n0 :: n1 :: n2 :: n3 :: r ∧ (1 ≤ n0 ∧ n0 ≤ 1099511627776) ∧ (1 ≤ n1 ∧ n1 ≤ 64) ∧ (1 ≤ n2 ∧ n2 ≤ 16) ∧ (1 ≤ n3 ∧ n3 ≤ 1048576) := by
  have key : ∃ cs, allR 3 (99 :: 97 :: 105 :: 113 :: cs) e.nums = true := by
    rcases hk with hk | hk
    · exact ⟨[109, 109, 116], (may_nums h hv hk fld14).1⟩
    · exact ⟨[109, 116], (may_nums h hv hk fld16).1⟩
  obtain ⟨cs, h1⟩ := key
  obtain ⟨n0, r0, e0, f0, h1⟩ := all_cons h1
  obtain ⟨n1, r1, rfl, f1, h1⟩ := all_cons h1
  obtain ⟨n2, r2, rfl, f2, h1⟩ := all_cons h1
  obtain ⟨n3, r3, rfl, f3, h1⟩ := all_cons h1
  exact ⟨n0, n1, n2, n3, r3, e0, fits_lo f0 bnd_c, fits_lo f1 bnd_a, fits_lo f2 bnd_i, fits_lo f3 bnd_q⟩
theorem nums18 {e : Evt} (h : mayE e = true) (hv : e.v = 3) (hk : e.kind = 18) : ∃ n0 n1 n2 n3, e.nums = [n0, n1, n2, n3] ∧ (1 ≤ n0 ∧ n0 ≤ 1099511627776) ∧ (1 ≤ n1 ∧ n1 ≤ 64) ∧ (1 ≤ n2 ∧ n2 ≤ 1125899906842624) ∧ (0 ≤ n3 ∧ n3 ≤ 1125899906842624) := by
  have h1 : allR 3 [99, 97, 109, 122] e.nums = true := (may_nums h hv hk fld18).1
  obtain ⟨n0, r0, e0, f0, h1⟩ := all_cons h1
  obtain ⟨n1, r1, rfl, f1, h1⟩ := all_cons h1
  obtain ⟨n2, r2, rfl, f2, h1⟩ := all_cons h1
  obtain ⟨n3, r3, rfl, f3, h1⟩ := all_cons h1
  have h2 := all_nil h1; subst h2
  exact ⟨n0, n1, n2, n3, e0, fits_lo f0 bnd_c, fits_lo f1 bnd_a, fits_lo f2 bnd_m, fits_lo f3 bnd_z⟩
theorem nums19 {e : Evt} (h : mayE e = true) (hv : e.v = 3) (hk : e.kind = 19) : ∃ n0, e.nums = [n0] ∧ (1 ≤ n0 ∧ n0 ≤ 1099511627776) := by
  have h1 : allR 3 [99] e.nums = true := (may_nums h hv hk fld19).1
  obtain ⟨n0, r0, e0, f0, h1⟩ := all_cons h1
  have h2 := all_nil h1; subst h2
  exact ⟨n0, e0, fits_lo f0 bnd_c⟩
def methR (k : Int) : Option Nat := if k = 11 then some 82 else if k = 12 then some 83 else if k = 13 then some 84 else if k = 14 ∨ k = 16 then some 85 else if k = 18 ∨ k = 19 then some 86 else none
set_option maxHeartbeats 1000000 in
theorem meth_c {p : List Opn} {t : List Lt} {ev0 : Evt} {w0 w : World} {N m F : Nat} {a : Option Addr} {c : Nat} {vo vt : Value} (hF : methR ev0.kind = some F) (hM : MayV p t) (hE : mayE ev0 = true) (hv : ev0.v = 3) (hm : ev0.nums.length = m) (hb0 : Below w0.heap.size w0 w) (hW : WkO w0.heap.size w N p t vo vt) (HN : SlR encI 1 w0 a c ev0.nums) :
    Calls Tryz.prog F #[.pointer (some ⟨N, 0, none⟩), .slice a m c] w fun e w' => e = .returned (.int .i64 (doneR p t ev0).2.2) ∧ ((doneR p t ev0).2.2 = 0 → ∃ vo vt, WkO w0.heap.size w' N (doneR p t ev0).1 (doneR p t ev0).2.1 vo vt) ∧ Below w0.heap.size w0 w' := by
  obtain ⟨⟨hl1, hl2⟩, hp1, ht1, hmo, hnd, hml⟩ := hM
  subst hm
  unfold methR at hF
  unfold doneR
  by_cases k1 : ev0.kind = 11
  · rw [if_pos k1] at hF ⊢
    injection hF with hF; subst hF
    obtain ⟨n0, n1, n2, n3, n4, n5, hn, h0, h1, h2, h3, h4, h5⟩ := nums11 hE hv k1
    rw [hn] at HN ⊢
    exact placed_c hn hb0 hW HN hp1 hl1 (by omega)
  rw [if_neg k1] at hF ⊢
  by_cases k2 : ev0.kind = 12
  · rw [if_pos k2] at hF ⊢
    injection hF with hF; subst hF
    obtain ⟨n0, hn, h0⟩ := nums12 hE hv k2
    rw [hn] at HN ⊢
    exact cancelled_c hn hb0 hW HN hnd (fun x hx => by have := hmo x hx; unfold MayO at this; omega) hl1
  rw [if_neg k2] at hF ⊢
  by_cases k3 : ev0.kind = 13
  · rw [if_pos k3] at hF ⊢
    injection hF with hF; subst hF
    obtain ⟨n0, n1, n2, n3, n4, hn, h0, h1, h2, h3, h4⟩ := nums13 hE hv k3
    exact traded_c rfl rfl (by rw [hn]; rfl) (by rw [hn]; rfl) (by rw [hn]; rfl) h3 hb0 hW HN hnd (fun x hx => by have := hmo x hx; unfold MayO at this; omega)
  rw [if_neg k3] at hF ⊢
  by_cases k4 : ev0.kind = 14 ∨ ev0.kind = 16
  · rw [if_pos k4] at hF ⊢
    injection hF with hF; subst hF
    obtain ⟨n0, n1, n2, n3, r, hn, h0, h1, h2, h3⟩ := nums14 hE hv k4
    exact opened_c rfl rfl (by rw [hn]; rfl) (by rw [hn]; rfl) (by rw [hn]; rfl) (by rw [hn]; rfl) hb0 hW HN ht1 hl2
  rw [if_neg k4] at hF ⊢
  by_cases k5 : ev0.kind = 18 ∨ ev0.kind = 19
  · rw [if_pos k5] at hF ⊢
    injection hF with hF; subst hF
    have key : ∃ n0, ev0.nums[0]? = some n0 := by
      rcases k5 with k5 | k5
      · obtain ⟨n0, n1, n2, n3, hn, _⟩ := nums18 hE hv k5; exact ⟨n0, by rw [hn]; rfl⟩
      · obtain ⟨n0, hn, _⟩ := nums19 hE hv k5; exact ⟨n0, by rw [hn]; rfl⟩
    obtain ⟨n0, hn⟩ := key
    exact gone_c rfl rfl hn hb0 hW HN ht1 hl2
  rw [if_neg k5] at hF; cases hF

theorem err_empty (p : List Opn) (t : List Lt) (e : Evt) : (doneR p t e).2.2 = 0 ∨ ((doneR p t e).1 = [] ∧ (doneR p t e).2.1 = []) := by
  unfold doneR placedR cancelR tradedR openedR goneR
  (repeat' split) <;> first | exact Or.inl rfl | exact Or.inr ⟨rfl, rfl⟩
theorem event_no {p : List Opn} {t : List Lt} {e : Evt} (h : ¬ (mayV p t = true ∧ e.v = 3 ∧ mayE e = true)) : eventR p t e = ([], [], 4) := by unfold eventR; rw [if_neg h]
theorem event_yes {p : List Opn} {t : List Lt} {e : Evt} (h : mayV p t = true ∧ e.v = 3 ∧ mayE e = true) : eventR p t e = doneR p t e := by unfold eventR; rw [if_pos h]
theorem mayV_e {p : List Opn} {t : List Lt} {m n : Nat} {a b : Option Addr} {ca cb : Nat} {r : Bool} {w : World} (h : mayV p t = r) (hm : p.length = m) (hn : t.length = n) (HP : SlR encP 6 w a ca p) (HL : SlR encL 4 w b cb t) : Calls Tryz.prog 50 #[.slice a m ca, .slice b n cb] w fun e w' => e = .returned (.bool r) ∧ Below w.heap.size w w' := by
  subst h; exact mayV_c hm hn HP HL
theorem mayE_e {e : Evt} {m n : Nat} {a b : Option Addr} {ca cb : Nat} {r : Bool} {w : World} (h : mayE e = r) (h8 : 0 ≤ e.kind ∧ e.kind ≤ 255) (hm : e.nums.length = m) (hn : e.texts.length = n) (HN : SlR encI 1 w a ca e.nums) (HT : SlR encT 1 w b cb e.texts) (hT : TxtIn e.texts) (hK : KnW w) : Calls Tryz.prog 51 #[.agg #[.int .u8 e.v, .int .u8 e.kind, .slice a m ca, .slice b n cb]] w fun e1 w' => e1 = .returned (.bool r) ∧ Below w.heap.size w w' := by
  subst h; exact mayE_c h8 hm hn HN HT hT hK
def keyOf8 (k : Int) (h : 0 ≤ k ∧ k ≤ 255) : Fin 256 := ⟨k.toNat, by omega⟩
theorem kU_of (k : Int) (h : 0 ≤ k ∧ k ≤ 255) : kU (keyOf8 k h) = .int .u8 k := by unfold kU keyOf8; congr 1; simp; omega
set_option maxRecDepth 20000 in
theorem does_at : (List.range 256).all (fun k => decide ((getM doesM (Fin.ofNat 256 k)) = (methR (k : Nat)).map some)) = true := by kernel_rfl
theorem does_get (k : Int) (h : 0 ≤ k ∧ k ≤ 255) : getM doesM (keyOf8 k h) = (methR k).map some := by
  have h1 := List.all_eq_true.1 does_at k.toNat (List.mem_range.2 (by omega))
  have h2 := of_decide_eq_true h1
  rw [show ((k.toNat : Nat) : Int) = k by omega] at h2
  rw [← h2]
  congr 1
  apply Fin.ext
  show k.toNat = k.toNat % 256
  omega
set_option maxRecDepth 20000 in
theorem meth_enters {k : Int} {F : Nat} (h : methR k = some F) : entersB Tryz.prog F = true := by
  unfold methR at h
  (repeat' split at h) <;> first | (injection h with h; subst h; kernel_rfl) | (cases h; done)
theorem done_none {p : List Opn} {t : List Lt} {e : Evt} (h : methR e.kind = none) : doneR p t e = (p, t, 0) := by
  unfold methR at h
  unfold doneR
  by_cases k1 : e.kind = 11
  · rw [if_pos k1] at h; cases h
  rw [if_neg k1] at h ⊢
  by_cases k2 : e.kind = 12
  · rw [if_pos k2] at h; cases h
  rw [if_neg k2] at h ⊢
  by_cases k3 : e.kind = 13
  · rw [if_pos k3] at h; cases h
  rw [if_neg k3] at h ⊢
  by_cases k4 : e.kind = 14 ∨ e.kind = 16
  · rw [if_pos k4] at h; cases h
  rw [if_neg k4] at h ⊢
  by_cases k5 : e.kind = 18 ∨ e.kind = 19
  · rw [if_pos k5] at h; cases h
  rw [if_neg k5]
theorem look_e {P : Program} {n : Nat} {l : Fr} {w : World} {d : Option Nat} {ty : TypeId} {pos : String} {af : Array Edge} {g : Option (Nat × Bool)} {T K V : TypeId} {x y : Operand} {B : Nat} {κ ν : Type} [DecidableEq κ] {eK : κ → Value} {eV : ν → Value} (ht : P.underlying T = some (.map K V)) (E : KeyE P K eK) {zv : ν} (hz : ∀ w, (zeroValue V).run P w = .ok (eV zv) w) {m : List (κ × ν)} {k : κ} {o : Option ν} (ho : getM m k = o) (hx : ev l x = some (.map (some B))) (hy : ev l y = some (eK k)) (h : Mp eK eV w B m) :
    Pv P n l ⟨d, .lookup T x y true, ty, pos, af, g⟩ (.tuple #[eV (o.getD zv), .bool o.isSome]) w := by subst ho; exact pv_lookupM_ok ht E hz hx hy h
set_option maxRecDepth 20000 in
set_option maxHeartbeats 8000000 in
theorem ev_c {p : List Opn} {t : List Lt} {e : Evt} {mp mt mn mx : Nat} {ap at_ an ax : Option Addr} {cp ct cn cx : Nat} {w : World} (h8 : 0 ≤ e.kind ∧ e.kind ≤ 255) (hmp : p.length = mp) (hmt : t.length = mt) (hmn : e.nums.length = mn) (hmx : e.texts.length = mx) (HP : SlR encP 6 w ap cp p) (HL : SlR encL 4 w at_ ct t) (HN : SlR encI 1 w an cn e.nums) (HX : SlR encT 1 w ax cx e.texts) (hT : TxtIn e.texts) (hK : KnW w) :
    Calls Tryz.prog 20 #[.slice ap mp cp, .slice at_ mt ct, .agg #[.int .u8 e.v, .int .u8 e.kind, .slice an mn cn, .slice ax mx cx]] w fun e1 w' => (∃ vo vt, e1 = .returned (.tuple #[vo, vt, .int .i64 (eventR p t e).2.2]) ∧ Own encP 6 49 w.heap.size w' vo (eventR p t e).1 ∧ Own encL 4 53 w.heap.size w' vt (eventR p t e).2.1) ∧ Below w.heap.size w w' := by
  subst hmp hmt hmn hmx
  have hw := Below.refl w.heap.size w
  refine fn_enter 57 Tryz.func20 rfl rfl rfl ?_
  repeat' (first | (refine is_cw ?_; first | (refine cw_seq ?_) | (refine cw_region ?_)))
  refine lw_boxN rfl rfl (cs := [.int .u8 e.v, .int .u8 e.kind, .slice an e.nums.length cn, .slice ax e.texts.length cx]) rfl ?_; intro NE w1 hNE H hb
  replace hw := grow_trans hw hb
  clear hb
  have hE := Ext.mk hw
  replace HP := HP.mono hw
  replace HL := HL.mono hw
  have HN1 := HN.mono hw
  replace HX := HX.mono hw
  replace hK := hK.mono hw
  have hw0 := hw
  clear hw
  have hw := Below.refl w1.heap.size w1
  by_cases hgood : mayV p t = true ∧ e.v = 3 ∧ mayE e = true
  · rw [event_yes hgood]
    obtain ⟨hg1, hg2, hg3⟩ := hgood
    have hM := mayV_iff.1 hg1
    have hl1 := hM.1
    repeat' (first | (refine lw_pure rfl (pv_move rfl) ?_) | (refine lw_pure rfl (pv_assign rfl) ?_) | (refine lw_call (f := 50) (by kernel_rfl) rfl rfl (mayV_e hg1 rfl rfl HP HL) ?_; rintro e w1 ⟨rfl, hb⟩; refine ⟨_, rfl, ?_⟩; replace hw := grow_trans hw hb; clear hb) | (refine lw_call (f := 51) (by kernel_rfl) rfl rfl (mayE_e hg3 h8 rfl rfl (HN1.mono hw) (HX.mono hw) hT (hK.mono hw)) ?_; rintro e w1 ⟨rfl, hb⟩; refine ⟨_, rfl, ?_⟩; replace hw := grow_trans hw hb; clear hb) | (refine is_cw ?_; first | (refine cw_seq ?_) | (refine cw_region ?_) | (refine cw_false rfl rfl ?_) | (refine cw_skip ?_)) | (refine is_qw ?_; first | (with_reducible refine qw_then ?_)) | (refine lw_nil ?_) | (refine is_guarded ?_; first | (refine lw_on rfl rfl rfl ?_) | (refine lw_on rfl rfl (by first | assumption | exact decide_eq_true (by omega) | exact decide_eq_false (by omega) | exact dec_notT (by omega) | exact dec_notF (by omega)) ?_)) | ((refine is_bin ?_; first | (refine lw_pure rfl (pv_neq rfl rfl) ?_))) | ((refine is_load ?_; first | (refine lw_pure rfl (pv_load (t1 rfl) rfl (by first | exact PT.ld0 (H.mono hw) rfl | exact PT.ld (H.mono hw) rfl)) ?_) | (refine lw_pure rfl (pv_loada (tA rfl) rfl (by first | exact PT.lda (H.mono hw)) (by rfl)) ?_))) | ((refine is_fa ?_; first | (refine lw_pure rfl (pv_fa (tF rfl) rfl) ?_))) | ((refine is_un ?_; first | (refine lw_pure rfl (pv_not rfl) ?_))) | (refine is_pk ?_; refine lw_pure rfl (pv_pick_f rfl rfl rfl) ?_) | (refine is_pk ?_; refine lw_pure rfl (pv_pick_f rfl (by first | assumption | exact decide_eq_false (by omega) | exact dec_notF (by omega)) rfl) ?_))
    refine lw_call (f := 52) (by kernel_rfl) rfl rfl (clone_P rfl (HP.mono hw) (by omega)) ?_; rintro e1 w2 ⟨⟨vo, rfl, hO⟩, hb⟩; refine ⟨_, rfl, ?_⟩
    have hz1 := hw.size
    have hze := hE.le
    replace hw := grow_trans hw hb
    replace hO := hO.weaken (Nat.le_trans hze hz1)
    obtain ⟨oa, oc, rfl, -, -⟩ := Own.slR encP_len hO
    clear hb
    repeat' (first | (refine lw_pure rfl (pv_move rfl) ?_))
    refine lw_call (f := 53) (by kernel_rfl) rfl rfl (clone_L rfl (HL.mono hw) (by omega)) ?_; rintro e1 w3 ⟨⟨vt, rfl, hTt⟩, hb⟩; refine ⟨_, rfl, ?_⟩
    have hz2 := hw.size
    replace hw := grow_trans hw hb
    replace hO := hO.mono hb
    replace hTt := hTt.weaken (Nat.le_trans hze hz2)
    obtain ⟨ta, tc, rfl, -, -⟩ := Own.slR encL_len hTt
    clear hb
    repeat' (first | ((refine is_bd ?_; first | (refine lw_pure rfl (tyB_80 rfl rfl rfl) ?_))))
    refine lw_boxN rfl rfl (cs := [.slice oa p.length oc, .slice ta t.length tc]) rfl ?_; intro NW w4 hNW HW hb
    have hz3 := hw.size
    replace hw := grow_trans hw hb
    replace hO := hO.mono hb
    replace hTt := hTt.mono hb
    clear hb
    have hb0 := grow_trans hw0 hw
    have hWk : WkO w.heap.size w4 NW p t (.slice oa p.length oc) (.slice ta t.length tc) := ⟨HW, hO, hTt, by omega⟩
    replace H := H.mono hw
    clear hw
    have hw := Below.refl w4.heap.size w4
    repeat' (first | (refine lw_pure rfl (pv_assign rfl) ?_) | (refine is_cw ?_; first | (refine cw_seq ?_)) | (refine is_qw ?_; first | (with_reducible refine qw_then ?_)) | (refine lw_nil ?_))
    cases hmr : methR e.kind with
    | none =>
      have hget : getM doesM (keyOf8 e.kind h8) = none := by rw [does_get, hmr]; rfl
      rw [done_none hmr]
      refine cw_drawn (fun w' => Below w4.heap.size w4 w') (by kernel_rfl) (by repeat (first | exact NoPanic.body | with_reducible refine NoPanic.then ?_ | with_reducible refine NoPanic.inBlock ?_)) (fun hNP => ?_)
      have hS := hw.drew
      (refine at0 1 rfl (fun w' hq => pv_fa (tF rfl) rfl) ?_)
      (refine at0 2 rfl (fun w' hq => pv_load (t1 rfl) rfl (by first | exact PT.ld0 (H.mono hq) rfl | exact PT.ld (H.mono hq) rfl)) ?_)
      refine aw_act 0 (by kernel_rfl) rfl rfl rfl ?_
      refine act_call (f := 54) (by kernel_rfl) rfl (does_c _) ?_; rintro e1 w5 ⟨⟨NM, rfl, HM, hNM⟩, hb5⟩; refine ⟨_, rfl, grow_trans hS hb5, fun hS => ?_⟩
      refine aw_act 3 (by kernel_rfl) rfl rfl rfl ?_
      refine act_pv (look_e (k := keyOf8 e.kind h8) Tryz.underlying83 keyU zF hget rfl (by rw [kU_of]; rfl) HM) ?_; refine ⟨hS, fun hS => ?_⟩
      (refine at0 4 rfl (fun w' hq => pv_move rfl) ?_)
      (refine at0 5 rfl (fun w' hq => pv_extract rfl rfl) ?_)
      (refine at0 6 rfl (fun w' hq => pv_extract rfl rfl) ?_)
      (refine at0 7 rfl (fun w' hq => pv_assign rfl) ?_)
      (refine at0 8 rfl (fun w' hq => pv_assign rfl) ?_)
      refine aw_done (by kernel_rfl) ?_
      replace hw := hS; clear hS hNP
      repeat' (first | (refine lw_pure rfl (pv_move rfl) ?_) | (refine is_cw ?_; first | (refine cw_seq ?_) | (refine cw_region ?_) | (refine cw_false rfl rfl ?_) | (refine cw_skip ?_)) | (refine is_qw ?_; first | (with_reducible refine qw_then ?_)) | (refine lw_nil ?_))
      refine cw_drawn (fun w' => Below w4.heap.size w4 w') (by kernel_rfl) (by repeat (first | exact NoPanic.body | with_reducible refine NoPanic.then ?_ | with_reducible refine NoPanic.inBlock ?_)) (fun hNP => ?_)
      have hS := hw.drew
      (refine at0 0 rfl (fun w' hq => pv_move rfl) ?_)
      (refine at0 1 rfl (fun w' hq => pv_nilp rfl) ?_)
      (refine at0 2 rfl (fun w' hq => pv_fa (tF rfl) rfl) ?_)
      (refine at0 3 rfl (fun w' hq => pv_load (t1 rfl) rfl (by first | exact PT.ld0 (HW.mono hq) rfl | exact PT.ld (HW.mono hq) rfl)) ?_)
      (refine at0 4 rfl (fun w' hq => pv_move rfl) ?_)
      (refine at0 5 rfl (fun w' hq => pv_nilp rfl) ?_)
      (refine at0 6 rfl (fun w' hq => pv_fa (tF rfl) rfl) ?_)
      (refine at0 7 rfl (fun w' hq => pv_load (t1 rfl) rfl (by first | exact PT.ld0 (HW.mono hq) rfl | exact PT.ld (HW.mono hq) rfl)) ?_)
      (refine at0 8 rfl (fun w' hq => pv_assign rfl) ?_)
      (refine at0 9 rfl (fun w' hq => pv_assign rfl) ?_)
      (refine at0 10 rfl (fun w' hq => pv_assign rfl) ?_)
      refine aw_done (by kernel_rfl) ?_
      replace hw := hS; clear hS hNP
      have hbz := grow_trans hb0 hw
      repeat' (first | (refine is_cw ?_; first | (refine cw_ret ?_)) | (refine is_qw ?_; first | (with_reducible refine qw_then ?_)))
      exact qw_ret3 rfl rfl rfl rfl ⟨⟨_, _, rfl, hO.mono hw, hTt.mono hw⟩, hbz⟩
    | some F =>
      have hget : getM doesM (keyOf8 e.kind h8) = some (some F) := by rw [does_get, hmr]; rfl
      refine cw_drawn (fun w' => Below w4.heap.size w4 w') (by kernel_rfl) (by repeat (first | exact NoPanic.body | with_reducible refine NoPanic.then ?_ | with_reducible refine NoPanic.inBlock ?_)) (fun hNP => ?_)
      have hS := hw.drew
      (refine at0 1 rfl (fun w' hq => pv_fa (tF rfl) rfl) ?_)
      (refine at0 2 rfl (fun w' hq => pv_load (t1 rfl) rfl (by first | exact PT.ld0 (H.mono hq) rfl | exact PT.ld (H.mono hq) rfl)) ?_)
      refine aw_act 0 (by kernel_rfl) rfl rfl rfl ?_
      refine act_call (f := 54) (by kernel_rfl) rfl (does_c _) ?_; rintro e1 w5 ⟨⟨NM, rfl, HM, hNM⟩, hb5⟩; refine ⟨_, rfl, grow_trans hS hb5, fun hS => ?_⟩
      refine aw_act 3 (by kernel_rfl) rfl rfl rfl ?_
      refine act_pv (look_e (k := keyOf8 e.kind h8) Tryz.underlying83 keyU zF hget rfl (by rw [kU_of]; rfl) HM) ?_; refine ⟨hS, fun hS => ?_⟩
      (refine at0 4 rfl (fun w' hq => pv_move rfl) ?_)
      (refine at0 5 rfl (fun w' hq => pv_extract rfl rfl) ?_)
      (refine at0 6 rfl (fun w' hq => pv_extract rfl rfl) ?_)
      (refine at0 7 rfl (fun w' hq => pv_assign rfl) ?_)
      (refine at0 8 rfl (fun w' hq => pv_assign rfl) ?_)
      refine aw_done (by kernel_rfl) ?_
      replace hw := hS; clear hS hNP
      repeat' (first | (refine lw_pure rfl (pv_move rfl) ?_) | (refine is_cw ?_; first | (refine cw_seq ?_) | (refine cw_region ?_) | (refine cw_true rfl rfl ?_)) | (refine is_qw ?_; first | (with_reducible refine qw_then ?_)) | (refine lw_nil ?_) | ((refine is_load ?_; first | (refine lw_pure rfl (pv_load (t1 rfl) rfl (by first | exact PT.ld0 (H.mono hw) rfl | exact PT.ld (H.mono hw) rfl)) ?_))) | ((refine is_fa ?_; first | (refine lw_pure rfl (pv_fa (tF rfl) rfl) ?_))))
      refine lw_callv (f := F) rfl (meth_enters hmr) rfl rfl (by simpa using meth_c hmr hM hg3 hg2 rfl (grow_trans hb0 hw) (hWk.mono hw) HN) ?_; rintro e1 w6 ⟨rfl, hpost, hb6⟩; refine ⟨_, rfl, ?_⟩
      clear hw
      have hw := Below.refl w6.heap.size w6
      by_cases h0 : (doneR p t e).2.2 = 0
      · obtain ⟨vo2, vt2, HW6, hO6, hT6, -⟩ := hpost h0
        repeat' (first | (refine lw_pure rfl (pv_move rfl) ?_) | (refine lw_pure rfl (pv_assign rfl) ?_) | (refine is_cw ?_; first | (refine cw_seq ?_) | (refine cw_region ?_) | (refine is_cd ?_; refine cw_false rfl (by first | assumption | exact decide_eq_false (by omega) | exact dec_notF (by omega)) ?_) | (refine cw_skip ?_)) | (refine is_qw ?_; first | (with_reducible refine qw_then ?_)) | (refine lw_nil ?_) | ((refine is_bin ?_; first | (refine lw_pure rfl (pv_neq rfl rfl) ?_))))
        refine cw_drawn (fun w' => Below w6.heap.size w6 w') (by kernel_rfl) (by repeat (first | exact NoPanic.body | with_reducible refine NoPanic.then ?_ | with_reducible refine NoPanic.inBlock ?_)) (fun hNP => ?_)
        have hS := hw.drew
        (refine at0 0 rfl (fun w' hq => pv_move rfl) ?_)
        (refine at0 1 rfl (fun w' hq => pv_nilp rfl) ?_)
        (refine at0 2 rfl (fun w' hq => pv_fa (tF rfl) rfl) ?_)
        (refine at0 3 rfl (fun w' hq => pv_load (t1 rfl) rfl (by first | exact PT.ld0 (HW6.mono hq) rfl | exact PT.ld (HW6.mono hq) rfl)) ?_)
        (refine at0 4 rfl (fun w' hq => pv_move rfl) ?_)
        (refine at0 5 rfl (fun w' hq => pv_nilp rfl) ?_)
        (refine at0 6 rfl (fun w' hq => pv_fa (tF rfl) rfl) ?_)
        (refine at0 7 rfl (fun w' hq => pv_load (t1 rfl) rfl (by first | exact PT.ld0 (HW6.mono hq) rfl | exact PT.ld (HW6.mono hq) rfl)) ?_)
        (refine at0 8 rfl (fun w' hq => pv_assign rfl) ?_)
        (refine at0 9 rfl (fun w' hq => pv_assign rfl) ?_)
        (refine at0 10 rfl (fun w' hq => pv_assign rfl) ?_)
        refine aw_done (by kernel_rfl) ?_
        replace hw := hS; clear hS hNP
        have hbz := grow_trans hb6 hw
        repeat' (first | (refine is_cw ?_; first | (refine cw_ret ?_)) | (refine is_qw ?_; first | (with_reducible refine qw_then ?_)))
        exact qw_ret3 rfl rfl rfl rfl ⟨⟨_, _, by rw [h0], hO6.mono hw, hT6.mono hw⟩, hbz⟩
      · obtain ⟨he1, he2⟩ := (err_empty p t e).resolve_left h0
        repeat' (first | (refine lw_pure rfl (pv_move rfl) ?_) | (refine lw_pure rfl (pv_assign rfl) ?_) | (refine is_cw ?_; first | (refine cw_seq ?_) | (refine cw_region ?_) | (refine is_cd ?_; refine cw_true rfl (by first | assumption | exact decide_eq_true (by omega) | exact dec_notT (by omega)) ?_) | (refine cw_ret ?_)) | (refine is_qw ?_; first | (with_reducible refine qw_then ?_) | (with_reducible refine qw_then_ret ?_)) | (refine lw_nil ?_) | ((refine is_bin ?_; first | (refine lw_pure rfl (pv_neq rfl rfl) ?_))))
        refine qw_ret3 rfl rfl rfl rfl ⟨⟨_, _, rfl, ?_, ?_⟩, hb6⟩
        · rw [he1]; exact Own.nil _
        · rw [he2]; exact Own.nil _
  · rw [event_no hgood]
    cases hg1 : mayV p t with
    | false =>
      repeat' (first | (refine lw_pure rfl (pv_move rfl) ?_) | (refine lw_pure rfl (pv_assign rfl) ?_) | (refine lw_call (f := 50) (by kernel_rfl) rfl rfl (mayV_e hg1 rfl rfl HP HL) ?_; rintro e w1 ⟨rfl, hb⟩; refine ⟨_, rfl, ?_⟩; replace hw := grow_trans hw hb; clear hb) | (refine is_cw ?_; first | (refine cw_seq ?_) | (refine cw_region ?_) | (refine cw_true rfl rfl ?_) | (refine cw_ret ?_)) | (refine is_qw ?_; first | (with_reducible refine qw_then ?_) | (with_reducible refine qw_then_ret ?_)) | (refine lw_nil ?_) | (refine is_guarded ?_; first | (refine lw_not rfl rfl rfl rfl ?_)) | ((refine is_un ?_; first | (refine lw_pure rfl (pv_not rfl) ?_))) | (refine is_pk ?_; refine lw_pure rfl (pv_pick_t rfl rfl rfl) ?_))
      all_goals exact qw_ret3 rfl rfl rfl rfl ⟨⟨_, _, rfl, Own.nil _, Own.nil _⟩, grow_trans hw0 hw⟩
    | true =>
      by_cases hg2 : e.v = 3
      · have hg3 : mayE e = false := by rw [Bool.eq_false_iff]; exact fun h => hgood ⟨hg1, hg2, h⟩
        repeat' (first | (refine lw_pure rfl (pv_move rfl) ?_) | (refine lw_pure rfl (pv_assign rfl) ?_) | (refine lw_call (f := 50) (by kernel_rfl) rfl rfl (mayV_e hg1 rfl rfl HP HL) ?_; rintro e w1 ⟨rfl, hb⟩; refine ⟨_, rfl, ?_⟩; replace hw := grow_trans hw hb; clear hb) | (refine lw_call (f := 51) (by kernel_rfl) rfl rfl (mayE_e hg3 h8 rfl rfl (HN1.mono hw) (HX.mono hw) hT (hK.mono hw)) ?_; rintro e w1 ⟨rfl, hb⟩; refine ⟨_, rfl, ?_⟩; replace hw := grow_trans hw hb; clear hb) | (refine is_cw ?_; first | (refine cw_seq ?_) | (refine cw_region ?_) | (refine cw_true rfl rfl ?_) | (refine cw_ret ?_)) | (refine is_qw ?_; first | (with_reducible refine qw_then ?_) | (with_reducible refine qw_then_ret ?_)) | (refine lw_nil ?_) | (refine is_guarded ?_; first | (refine lw_on rfl rfl rfl ?_) | (refine lw_on rfl rfl (by first | assumption | exact decide_eq_true (by omega) | exact decide_eq_false (by omega) | exact dec_notT (by omega) | exact dec_notF (by omega)) ?_)) | ((refine is_bin ?_; first | (refine lw_pure rfl (pv_neq rfl rfl) ?_))) | ((refine is_load ?_; first | (refine lw_pure rfl (pv_load (t1 rfl) rfl (by first | exact PT.ld0 (H.mono hw) rfl | exact PT.ld (H.mono hw) rfl)) ?_) | (refine lw_pure rfl (pv_loada (tA rfl) rfl (by first | exact PT.lda (H.mono hw)) (by rfl)) ?_))) | ((refine is_fa ?_; first | (refine lw_pure rfl (pv_fa (tF rfl) rfl) ?_))) | ((refine is_un ?_; first | (refine lw_pure rfl (pv_not rfl) ?_))) | (refine is_pk ?_; refine lw_pure rfl (pv_pick_f rfl rfl rfl) ?_) | (refine is_pk ?_; refine lw_pure rfl (pv_pick_f rfl (by first | assumption | exact decide_eq_false (by omega) | exact dec_notF (by omega)) rfl) ?_))
        all_goals exact qw_ret3 rfl rfl rfl rfl ⟨⟨_, _, rfl, Own.nil _, Own.nil _⟩, grow_trans hw0 hw⟩
      · repeat' (first | (refine lw_pure rfl (pv_move rfl) ?_) | (refine lw_pure rfl (pv_assign rfl) ?_) | (refine lw_call (f := 50) (by kernel_rfl) rfl rfl (mayV_e hg1 rfl rfl HP HL) ?_; rintro e w1 ⟨rfl, hb⟩; refine ⟨_, rfl, ?_⟩; replace hw := grow_trans hw hb; clear hb) | (refine is_cw ?_; first | (refine cw_seq ?_) | (refine cw_region ?_) | (refine cw_true rfl rfl ?_) | (refine cw_ret ?_)) | (refine is_qw ?_; first | (with_reducible refine qw_then ?_) | (with_reducible refine qw_then_ret ?_)) | (refine lw_nil ?_) | (refine is_guarded ?_; first | (refine lw_on rfl rfl rfl ?_) | (refine lw_not rfl rfl rfl (by first | assumption | exact decide_eq_true (by omega) | exact decide_eq_false (by omega) | exact dec_notT (by omega) | exact dec_notF (by omega)) ?_)) | ((refine is_bin ?_; first | (refine lw_pure rfl (pv_neq rfl rfl) ?_))) | ((refine is_load ?_; first | (refine lw_pure rfl (pv_load (t1 rfl) rfl (by first | exact PT.ld0 (H.mono hw) rfl | exact PT.ld (H.mono hw) rfl)) ?_))) | ((refine is_fa ?_; first | (refine lw_pure rfl (pv_fa (tF rfl) rfl) ?_))) | ((refine is_un ?_; first | (refine lw_pure rfl (pv_not rfl) ?_))) | (refine is_pk ?_; refine lw_pure rfl (pv_pick_f rfl rfl rfl) ?_) | (refine is_pk ?_; refine lw_pure rfl (pv_pick_t rfl (by first | assumption | exact decide_eq_true (by omega) | exact dec_notT (by omega)) rfl) ?_))
        all_goals exact qw_ret3 rfl rfl rfl rfl ⟨⟨_, _, rfl, Own.nil _, Own.nil _⟩, grow_trans hw0 hw⟩
end Go.Proofs.YtemngicaoacfaaaGreatDoor
namespace Go.Proofs.YtemngicaoacfaaaGreatDoor
open Go.RowKit Go.PlainAid

theorem neq_P (x y : Opn) (w : World) : (binOp .neq 49 (.agg (encP x).toArray) (.agg (encP y).toArray)).run Tryz.prog w = .ok (.bool (!decide (x = y))) w := by
  have hS : (Tryz.prog).underlying 49 = some (.struct ((Tryz.prog).fieldsOf 49)) := by kernel_rfl
  have hp : (Tryz.prog).stoodInHeld 49 = false := by kernel_rfl
  unfold encP
  rw [run_neq_struct, show (10000 : Nat) = 9999 + 1 from rfl, run_equalIn_agg w 9999 49 _ _ hS hp]
  have h : (decide (x = y)) = (x.acct == y.acct && (x.id == y.id && (x.inst == y.inst && (x.side == y.side && (x.price == y.price && x.left == y.left))))) := by
    rw [Bool.eq_iff_iff]
    cases x; cases y; simp
  rw [h]
  simp only [Program.fieldsOf, Tryz.underlying49]
  go_simp
  by_cases h1 : x.acct = y.acct <;> by_cases h2 : x.id = y.id <;> by_cases h3 : x.inst = y.inst <;> by_cases h4 : x.side = y.side <;> by_cases h5 : x.price = y.price <;> by_cases h6 : x.left = y.left <;> simp [*]
theorem eql_P (x y : Opn) (w : World) : (binOp .eql 49 (.agg (encP x).toArray) (.agg (encP y).toArray)).run Tryz.prog w = .ok (.bool (decide (x = y))) w := by
  have hS : (Tryz.prog).underlying 49 = some (.struct ((Tryz.prog).fieldsOf 49)) := by kernel_rfl
  have hp : (Tryz.prog).stoodInHeld 49 = false := by kernel_rfl
  unfold encP
  rw [run_eql_struct, show (10000 : Nat) = 9999 + 1 from rfl, run_equalIn_agg w 9999 49 _ _ hS hp]
  have h : (decide (x = y)) = (x.acct == y.acct && (x.id == y.id && (x.inst == y.inst && (x.side == y.side && (x.price == y.price && x.left == y.left))))) := by
    rw [Bool.eq_iff_iff]
    cases x; cases y; simp
  rw [h]
  simp only [Program.fieldsOf, Tryz.underlying49]
  go_simp
  by_cases h1 : x.acct = y.acct <;> by_cases h2 : x.id = y.id <;> by_cases h3 : x.inst = y.inst <;> by_cases h4 : x.side = y.side <;> by_cases h5 : x.price = y.price <;> by_cases h6 : x.left = y.left <;> simp [*]
theorem pv_neqP {n : Nat} {l : Fr} {w : World} {d : Option Nat} {t' ty : TypeId} {x y : Operand} {pos : String} {af : Array Edge} {g : Option (Nat × Bool)} (a b : Opn) (hx : ev l x = some (.agg (encP a).toArray)) (hy : ev l y = some (.agg (encP b).toArray)) : Pv Tryz.prog n l ⟨d, .binOp .neq 49 x y t', ty, pos, af, g⟩ (.bool (!decide (a = b))) w := ⟨fun A hA => by
  have h1 : (eqGuard .neq 49 x y (.agg (encP a).toArray) (.agg (encP b).toArray)).run Tryz.prog w = .ok () w := run_eqGuard_agg w .neq 49 x y _ _ (by kernel_rfl)
  have h2 := neq_P a b w
  simp [execOp, hA.ev hx, hA.ev hy, h1, h2]⟩
theorem pv_eqlP {n : Nat} {l : Fr} {w : World} {d : Option Nat} {t' ty : TypeId} {x y : Operand} {pos : String} {af : Array Edge} {g : Option (Nat × Bool)} (a b : Opn) (hx : ev l x = some (.agg (encP a).toArray)) (hy : ev l y = some (.agg (encP b).toArray)) : Pv Tryz.prog n l ⟨d, .binOp .eql 49 x y t', ty, pos, af, g⟩ (.bool (decide (a = b))) w := ⟨fun A hA => by
  have h1 : (eqGuard .eql 49 x y (.agg (encP a).toArray) (.agg (encP b).toArray)).run Tryz.prog w = .ok () w := run_eqGuard_agg w .eql 49 x y _ _ (by kernel_rfl)
  have h2 := eql_P a b w
  simp [execOp, hA.ev hx, hA.ev hy, h1, h2]⟩

theorem neq_L (x y : Lt) (w : World) : (binOp .neq 53 (.agg (encL x).toArray) (.agg (encL y).toArray)).run Tryz.prog w = .ok (.bool (!decide (x = y))) w := by
  have hS : (Tryz.prog).underlying 53 = some (.struct ((Tryz.prog).fieldsOf 53)) := by kernel_rfl
  have hp : (Tryz.prog).stoodInHeld 53 = false := by kernel_rfl
  unfold encL
  rw [run_neq_struct, show (10000 : Nat) = 9999 + 1 from rfl, run_equalIn_agg w 9999 53 _ _ hS hp]
  have h : (decide (x = y)) = (x.id == y.id && (x.seller == y.seller && (x.inst == y.inst && x.qty == y.qty))) := by
    rw [Bool.eq_iff_iff]
    cases x; cases y; simp
  rw [h]
  simp only [Program.fieldsOf, Tryz.underlying53]
  go_simp
  by_cases h1 : x.id = y.id <;> by_cases h2 : x.seller = y.seller <;> by_cases h3 : x.inst = y.inst <;> by_cases h4 : x.qty = y.qty <;> simp [*]
theorem eql_L (x y : Lt) (w : World) : (binOp .eql 53 (.agg (encL x).toArray) (.agg (encL y).toArray)).run Tryz.prog w = .ok (.bool (decide (x = y))) w := by
  have hS : (Tryz.prog).underlying 53 = some (.struct ((Tryz.prog).fieldsOf 53)) := by kernel_rfl
  have hp : (Tryz.prog).stoodInHeld 53 = false := by kernel_rfl
  unfold encL
  rw [run_eql_struct, show (10000 : Nat) = 9999 + 1 from rfl, run_equalIn_agg w 9999 53 _ _ hS hp]
  have h : (decide (x = y)) = (x.id == y.id && (x.seller == y.seller && (x.inst == y.inst && x.qty == y.qty))) := by
    rw [Bool.eq_iff_iff]
    cases x; cases y; simp
  rw [h]
  simp only [Program.fieldsOf, Tryz.underlying53]
  go_simp
  by_cases h1 : x.id = y.id <;> by_cases h2 : x.seller = y.seller <;> by_cases h3 : x.inst = y.inst <;> by_cases h4 : x.qty = y.qty <;> simp [*]
theorem pv_neqL {n : Nat} {l : Fr} {w : World} {d : Option Nat} {t' ty : TypeId} {x y : Operand} {pos : String} {af : Array Edge} {g : Option (Nat × Bool)} (a b : Lt) (hx : ev l x = some (.agg (encL a).toArray)) (hy : ev l y = some (.agg (encL b).toArray)) : Pv Tryz.prog n l ⟨d, .binOp .neq 53 x y t', ty, pos, af, g⟩ (.bool (!decide (a = b))) w := ⟨fun A hA => by
  have h1 : (eqGuard .neq 53 x y (.agg (encL a).toArray) (.agg (encL b).toArray)).run Tryz.prog w = .ok () w := run_eqGuard_agg w .neq 53 x y _ _ (by kernel_rfl)
  have h2 := neq_L a b w
  simp [execOp, hA.ev hx, hA.ev hy, h1, h2]⟩
theorem pv_eqlL {n : Nat} {l : Fr} {w : World} {d : Option Nat} {t' ty : TypeId} {x y : Operand} {pos : String} {af : Array Edge} {g : Option (Nat × Bool)} (a b : Lt) (hx : ev l x = some (.agg (encL a).toArray)) (hy : ev l y = some (.agg (encL b).toArray)) : Pv Tryz.prog n l ⟨d, .binOp .eql 53 x y t', ty, pos, af, g⟩ (.bool (decide (a = b))) w := ⟨fun A hA => by
  have h1 : (eqGuard .eql 53 x y (.agg (encL a).toArray) (.agg (encL b).toArray)).run Tryz.prog w = .ok () w := run_eqGuard_agg w .eql 53 x y _ _ (by kernel_rfl)
  have h2 := eql_L a b w
  simp [execOp, hA.ev hx, hA.ev hy, h1, h2]⟩

set_option maxRecDepth 20000 in
theorem rfind_P {p : List Opn} {m : Nat} {a : Option Addr} {ca : Nat} {w : World} (id : Int) (hm : p.length = m) (HP : SlR encP 6 w a ca p) : Calls Tryz.prog 41 #[.slice a m ca, .int .i64 id] w fun e w' => e = .returned (.tuple #[.agg (encP ((findP p id).getD oZ)).toArray, .bool (findP p id).isSome]) ∧ Below w.heap.size w w' := by
  subst hm
  have hE := Ext.refl w
  have hw := Below.refl w.heap.size w
  have hca := HP.le
  have hcm := HP.max
  refine fn_enter 25 Tryz.func41 rfl rfl rfl ?_
  repeat' (first | (refine is_cw ?_; first | (refine cw_seq ?_) | (refine cw_region ?_)))
  refine lw_allocN rfl (by first | exact tyv_27 | exact tyv_28 | exact tyv_38 | exact tyv_39 | exact tyv_48 | exact tyv_49 | exact tyv_52 | exact tyv_53 | exact tyv_68 | exact tyv_69 | exact tyv_79 | exact tyv_80 | exact tyv_94 | exact tyv_95 | exact tyv_131 | exact tyv_132) rfl ?_; intro N w1 hN H hb
  replace hE := hE.mono hb
  replace HP := HP.mono hb
  clear hb hw
  have hw := Below.refl w1.heap.size w1
  repeat' (first | (refine lw_pure rfl (pv_assign rfl) ?_) | (refine is_cw ?_; first | (refine cw_seq ?_) | (refine cw_region ?_) | (refine cw_block ?_)) | (refine is_qw ?_; first | (with_reducible refine qw_then ?_)) | (refine lw_nil ?_))
  refine cw_loop (σ := Nat) (fun k => [(0, .slice a p.length ca), (1, .int .i64 id), (4, .pointer (some ⟨N, 0, none⟩)), (6, .int .i64 (k : Nat))]) (fun k wr => k ≤ p.length ∧ Below w1.heap.size w1 wr ∧ ∀ x ∈ p.take k, (x.id == id) = false) (fun k => p.length - k) 0 (by repeat' (first | exact trivial | refine ⟨rfl, ?_⟩)) ⟨Nat.zero_le _, hw, by simp⟩ ?_
  clear hw
  rintro k wr ⟨hk, hw, hn⟩
  by_cases hlt : k < p.length
  · have hxk : p[k]? = some p[k] := List.getElem?_eq_getElem hlt
    obtain ⟨ab, ao, rfl, -, -⟩ := HP.at (by intro h; rw [h] at hlt; simp at hlt)
    generalize p[k] = x at hxk
    by_cases hx : x.id = id
    · have hf : findP p id = some x := find_at hxk (by simp [hx]) hn
      rw [hf]
      repeat' (first | (refine lw_pure rfl (pv_move rfl) ?_) | (refine is_cw ?_; first | (refine cw_seq ?_) | (refine cw_region ?_) | (refine is_cd ?_; refine cw_true rfl (by first | assumption | exact decide_eq_true (by omega) | exact dec_notT (by omega)) ?_) | (refine cw_skip ?_) | (refine cw_block ?_)) | (refine is_qw ?_; first | (with_reducible refine qw_then ?_)) | (refine lw_nil ?_) | ((refine is_bin ?_; first | (refine lw_pure rfl (pv_lss rfl rfl) ?_) | (refine lw_pure rfl (pv_eql rfl rfl) ?_))) | ((refine is_load ?_; first | (refine lw_pure rfl (pv_load (t1 rfl) rfl (by first | exact SlR.ld (HP.mono hw) hxk rfl | exact SlR.ld1 (HP.mono hw) hxk rfl)) ?_) | (refine lw_pure rfl (pv_loada (tA rfl) rfl (by first | exact SlR.lda (HP.mono hw) hxk) (by rfl)) ?_))) | ((refine is_fa ?_; first | (refine lw_pure rfl (pv_fa (tF rfl) rfl) ?_))) | ((refine is_ia ?_; first | (refine lw_pure rfl (pv_ian (tS rfl) rfl rfl (by omega)) ?_))) | ((refine is_bi ?_; first | (refine lw_pure rfl (pv_lenl (tS rfl) rfl) ?_))))
      refine lw_storea (vs := encP x) (H.mono hw) (tZ rfl) rfl rfl rfl rfl (encP_one _) ?_; intro w3 H2 hg hz
      replace hE := (hE.mono hw).grown hg (by intro q hq; injection hq with hq; omega)
      clear hw
      have hw := Below.refl w3.heap.size w3
      repeat' (first | (refine lw_pure rfl (pv_assign rfl) ?_) | (refine is_cw ?_; first | (refine cw_ret ?_)) | (refine is_qw ?_; first | (with_reducible refine qw_then ?_) | (with_reducible refine qw_then_ret ?_) | (with_reducible refine qw_in_ret ?_)) | (refine lw_nil ?_))
      exact qw_retct rfl rfl rfl (agg_ld (tA rfl) rfl (fun i u hu => H2.ld0 hu)) ⟨rfl, hE.b⟩
    · repeat' (first | (refine lw_pure rfl (pv_move rfl) ?_) | (refine lw_pure rfl (pv_assign rfl) ?_) | (refine is_cw ?_; first | (refine cw_seq ?_) | (refine cw_region ?_) | (refine is_cd ?_; refine cw_true rfl (by first | assumption | exact decide_eq_true (by omega) | exact dec_notT (by omega)) ?_) | (refine is_cd ?_; refine cw_false rfl (by first | assumption | exact decide_eq_false (by omega) | exact dec_notF (by omega)) ?_) | (refine cw_skip ?_) | (refine cw_block ?_)) | (refine is_qw ?_; first | (with_reducible refine qw_then ?_) | (with_reducible refine qw_in ?_)) | (refine lw_nil ?_) | ((refine is_bin ?_; first | (refine lw_pure rfl (pv_lss rfl rfl) ?_) | (refine lw_pure rfl (pv_eql rfl rfl) ?_) | (refine lw_pure rfl (pv_inc rfl rfl (by omega)) ?_))) | ((refine is_load ?_; first | (refine lw_pure rfl (pv_load (t1 rfl) rfl (by first | exact SlR.ld (HP.mono hw) hxk rfl | exact SlR.ld1 (HP.mono hw) hxk rfl)) ?_))) | ((refine is_fa ?_; first | (refine lw_pure rfl (pv_fa (tF rfl) rfl) ?_))) | ((refine is_ia ?_; first | (refine lw_pure rfl (pv_ian (tS rfl) rfl rfl (by omega)) ?_))) | ((refine is_bi ?_; first | (refine lw_pure rfl (pv_lenl (tS rfl) rfl) ?_))))
      refine qw_round (k + 1) (by repeat' (first | exact trivial | refine ⟨rfl, ?_⟩)) ⟨by omega, hw, ?_⟩ (by omega)
      intro y hy
      rw [List.take_add_one, hxk] at hy
      rcases List.mem_append.1 hy with hy | hy
      · exact hn y hy
      · simp at hy; subst hy; simp [hx]
  · have hkl : k = p.length := by omega
    subst hkl
    rw [List.take_length] at hn
    have hf : findP p id = none := find_none hn
    rw [hf]
    repeat' (first | (refine lw_pure rfl (pv_move rfl) ?_) | (refine is_cw ?_; first | (refine cw_seq ?_) | (refine cw_region ?_) | (refine is_cd ?_; refine cw_false rfl (by first | assumption | exact decide_eq_false (by omega) | exact dec_notF (by omega)) ?_) | (refine cw_exit ?_)) | (refine is_qw ?_; first | (with_reducible refine qw_then ?_) | (with_reducible refine qw_in_hit ?_) | (with_reducible refine qw_then_exit ?_)) | (refine lw_nil ?_) | ((refine is_bin ?_; first | (refine lw_pure rfl (pv_lss rfl rfl) ?_))) | ((refine is_bi ?_; first | (refine lw_pure rfl (pv_lenl (tS rfl) rfl) ?_))) | ((refine is_bd ?_; first | (refine lw_pure rfl (tyB_49 rfl rfl rfl) ?_))))
    refine lw_storea (vs := encP oZ) (H.mono hw) (tZ rfl) rfl rfl rfl rfl (encP_one _) ?_; intro w3 H2 hg hz
    replace hE := (hE.mono hw).grown hg (by intro q hq; injection hq with hq; omega)
    clear hw
    have hw := Below.refl w3.heap.size w3
    repeat' (first | (refine lw_pure rfl (pv_assign rfl) ?_) | (refine is_cw ?_; first | (refine cw_ret ?_)) | (refine is_qw ?_; first | (with_reducible refine qw_then ?_)) | (refine lw_nil ?_))
    exact qw_retct rfl rfl rfl (agg_ld (tA rfl) rfl (fun i u hu => H2.ld0 hu)) ⟨rfl, hE.b⟩

set_option maxRecDepth 20000 in
theorem rfind_L {p : List Lt} {m : Nat} {a : Option Addr} {ca : Nat} {w : World} (id : Int) (hm : p.length = m) (HP : SlR encL 4 w a ca p) : Calls Tryz.prog 43 #[.slice a m ca, .int .i64 id] w fun e w' => e = .returned (.tuple #[.agg (encL ((findT p id).getD lZ)).toArray, .bool (findT p id).isSome]) ∧ Below w.heap.size w w' := by
  subst hm
  have hE := Ext.refl w
  have hw := Below.refl w.heap.size w
  have hca := HP.le
  have hcm := HP.max
  refine fn_enter 25 Tryz.func43 rfl rfl rfl ?_
  repeat' (first | (refine is_cw ?_; first | (refine cw_seq ?_) | (refine cw_region ?_)))
  refine lw_allocN rfl (by first | exact tyv_27 | exact tyv_28 | exact tyv_38 | exact tyv_39 | exact tyv_48 | exact tyv_49 | exact tyv_52 | exact tyv_53 | exact tyv_68 | exact tyv_69 | exact tyv_79 | exact tyv_80 | exact tyv_94 | exact tyv_95 | exact tyv_131 | exact tyv_132) rfl ?_; intro N w1 hN H hb
  replace hE := hE.mono hb
  replace HP := HP.mono hb
  clear hb hw
  have hw := Below.refl w1.heap.size w1
  repeat' (first | (refine lw_pure rfl (pv_assign rfl) ?_) | (refine is_cw ?_; first | (refine cw_seq ?_) | (refine cw_region ?_) | (refine cw_block ?_)) | (refine is_qw ?_; first | (with_reducible refine qw_then ?_)) | (refine lw_nil ?_))
  refine cw_loop (σ := Nat) (fun k => [(0, .slice a p.length ca), (1, .int .i64 id), (4, .pointer (some ⟨N, 0, none⟩)), (6, .int .i64 (k : Nat))]) (fun k wr => k ≤ p.length ∧ Below w1.heap.size w1 wr ∧ ∀ x ∈ p.take k, (x.id == id) = false) (fun k => p.length - k) 0 (by repeat' (first | exact trivial | refine ⟨rfl, ?_⟩)) ⟨Nat.zero_le _, hw, by simp⟩ ?_
  clear hw
  rintro k wr ⟨hk, hw, hn⟩
  by_cases hlt : k < p.length
  · have hxk : p[k]? = some p[k] := List.getElem?_eq_getElem hlt
    obtain ⟨ab, ao, rfl, -, -⟩ := HP.at (by intro h; rw [h] at hlt; simp at hlt)
    generalize p[k] = x at hxk
    by_cases hx : x.id = id
    · have hf : findT p id = some x := find_at hxk (by simp [hx]) hn
      rw [hf]
      repeat' (first | (refine lw_pure rfl (pv_move rfl) ?_) | (refine is_cw ?_; first | (refine cw_seq ?_) | (refine cw_region ?_) | (refine is_cd ?_; refine cw_true rfl (by first | assumption | exact decide_eq_true (by omega) | exact dec_notT (by omega)) ?_) | (refine cw_skip ?_) | (refine cw_block ?_)) | (refine is_qw ?_; first | (with_reducible refine qw_then ?_)) | (refine lw_nil ?_) | ((refine is_bin ?_; first | (refine lw_pure rfl (pv_lss rfl rfl) ?_) | (refine lw_pure rfl (pv_eql rfl rfl) ?_))) | ((refine is_load ?_; first | (refine lw_pure rfl (pv_load (t1 rfl) rfl (by first | exact SlR.ld (HP.mono hw) hxk rfl | exact SlR.ld1 (HP.mono hw) hxk rfl)) ?_) | (refine lw_pure rfl (pv_loada (tA rfl) rfl (by first | exact SlR.lda (HP.mono hw) hxk) (by rfl)) ?_))) | ((refine is_fa ?_; first | (refine lw_pure rfl (pv_fa (tF rfl) rfl) ?_))) | ((refine is_ia ?_; first | (refine lw_pure rfl (pv_ian (tS rfl) rfl rfl (by omega)) ?_))) | ((refine is_bi ?_; first | (refine lw_pure rfl (pv_lenl (tS rfl) rfl) ?_))))
      refine lw_storea (vs := encL x) (H.mono hw) (tZ rfl) rfl rfl rfl rfl (encL_one _) ?_; intro w3 H2 hg hz
      replace hE := (hE.mono hw).grown hg (by intro q hq; injection hq with hq; omega)
      clear hw
      have hw := Below.refl w3.heap.size w3
      repeat' (first | (refine lw_pure rfl (pv_assign rfl) ?_) | (refine is_cw ?_; first | (refine cw_ret ?_)) | (refine is_qw ?_; first | (with_reducible refine qw_then ?_) | (with_reducible refine qw_then_ret ?_) | (with_reducible refine qw_in_ret ?_)) | (refine lw_nil ?_))
      exact qw_retct rfl rfl rfl (agg_ld (tA rfl) rfl (fun i u hu => H2.ld0 hu)) ⟨rfl, hE.b⟩
    · repeat' (first | (refine lw_pure rfl (pv_move rfl) ?_) | (refine lw_pure rfl (pv_assign rfl) ?_) | (refine is_cw ?_; first | (refine cw_seq ?_) | (refine cw_region ?_) | (refine is_cd ?_; refine cw_true rfl (by first | assumption | exact decide_eq_true (by omega) | exact dec_notT (by omega)) ?_) | (refine is_cd ?_; refine cw_false rfl (by first | assumption | exact decide_eq_false (by omega) | exact dec_notF (by omega)) ?_) | (refine cw_skip ?_) | (refine cw_block ?_)) | (refine is_qw ?_; first | (with_reducible refine qw_then ?_) | (with_reducible refine qw_in ?_)) | (refine lw_nil ?_) | ((refine is_bin ?_; first | (refine lw_pure rfl (pv_lss rfl rfl) ?_) | (refine lw_pure rfl (pv_eql rfl rfl) ?_) | (refine lw_pure rfl (pv_inc rfl rfl (by omega)) ?_))) | ((refine is_load ?_; first | (refine lw_pure rfl (pv_load (t1 rfl) rfl (by first | exact SlR.ld (HP.mono hw) hxk rfl | exact SlR.ld1 (HP.mono hw) hxk rfl)) ?_))) | ((refine is_fa ?_; first | (refine lw_pure rfl (pv_fa (tF rfl) rfl) ?_))) | ((refine is_ia ?_; first | (refine lw_pure rfl (pv_ian (tS rfl) rfl rfl (by omega)) ?_))) | ((refine is_bi ?_; first | (refine lw_pure rfl (pv_lenl (tS rfl) rfl) ?_))))
      refine qw_round (k + 1) (by repeat' (first | exact trivial | refine ⟨rfl, ?_⟩)) ⟨by omega, hw, ?_⟩ (by omega)
      intro y hy
      rw [List.take_add_one, hxk] at hy
      rcases List.mem_append.1 hy with hy | hy
      · exact hn y hy
      · simp at hy; subst hy; simp [hx]
  · have hkl : k = p.length := by omega
    subst hkl
    rw [List.take_length] at hn
    have hf : findT p id = none := find_none hn
    rw [hf]
    repeat' (first | (refine lw_pure rfl (pv_move rfl) ?_) | (refine is_cw ?_; first | (refine cw_seq ?_) | (refine cw_region ?_) | (refine is_cd ?_; refine cw_false rfl (by first | assumption | exact decide_eq_false (by omega) | exact dec_notF (by omega)) ?_) | (refine cw_exit ?_)) | (refine is_qw ?_; first | (with_reducible refine qw_then ?_) | (with_reducible refine qw_in_hit ?_) | (with_reducible refine qw_then_exit ?_)) | (refine lw_nil ?_) | ((refine is_bin ?_; first | (refine lw_pure rfl (pv_lss rfl rfl) ?_))) | ((refine is_bi ?_; first | (refine lw_pure rfl (pv_lenl (tS rfl) rfl) ?_))) | ((refine is_bd ?_; first | (refine lw_pure rfl (tyB_53 rfl rfl rfl) ?_))))
    refine lw_storea (vs := encL lZ) (H.mono hw) (tZ rfl) rfl rfl rfl rfl (encL_one _) ?_; intro w3 H2 hg hz
    replace hE := (hE.mono hw).grown hg (by intro q hq; injection hq with hq; omega)
    clear hw
    have hw := Below.refl w3.heap.size w3
    repeat' (first | (refine lw_pure rfl (pv_assign rfl) ?_) | (refine is_cw ?_; first | (refine cw_ret ?_)) | (refine is_qw ?_; first | (with_reducible refine qw_then ?_)) | (refine lw_nil ?_))
    exact qw_retct rfl rfl rfl (agg_ld (tA rfl) rfl (fun i u hu => H2.ld0 hu)) ⟨rfl, hE.b⟩

set_option maxRecDepth 20000 in
theorem rsame_P {p q : List Opn} {m n : Nat} {a b : Option Addr} {ca cb : Nat} {w : World} (hm : p.length = m) (hn : q.length = n) (HP : SlR encP 6 w a ca p) (HQ : SlR encP 6 w b cb q) : Calls Tryz.prog 15 #[.slice a m ca, .slice b n cb] w fun e w' => e = .returned (.bool (decide (p = q))) ∧ Below w.heap.size w w' := by
  subst hm hn
  have hw := Below.refl w.heap.size w
  have hca := HP.le
  have hcm := HP.max
  refine fn_enter 26 Tryz.func15 rfl rfl rfl ?_
  by_cases hl : p.length = q.length
  · repeat' ((fail_if_success (refine is_seqb ?_)); (fail_if_success (refine is_blk ?_)); first | (refine lw_pure rfl (pv_move rfl) ?_) | (refine lw_pure rfl (pv_assign rfl) ?_) | (refine is_cw ?_; first | (refine cw_seq ?_) | (refine cw_region ?_) | (refine is_cd ?_; refine cw_false rfl (by first | assumption | exact decide_eq_false (by omega) | exact dec_notF (by omega)) ?_) | (refine cw_skip ?_)) | (refine is_qw ?_; first | (with_reducible refine qw_then ?_)) | (refine lw_nil ?_) | ((refine is_bin ?_; first | (refine lw_pure rfl (pv_neq rfl rfl) ?_))) | ((refine is_bi ?_; first | (refine lw_pure rfl (pv_lenl (tS rfl) rfl) ?_))))
    repeat' (first | (refine is_cw ?_; first | (refine cw_block ?_)))
    refine cw_loop (σ := Nat) (fun k => [(0, .slice a p.length ca), (1, .slice b q.length cb), (5, .int .i64 (k : Nat))]) (fun k wr => k ≤ p.length ∧ Below w.heap.size w wr ∧ ∀ j, j < k → p[j]? = q[j]?) (fun k => p.length - k) 0 (by repeat' (first | exact trivial | refine ⟨rfl, ?_⟩)) ⟨Nat.zero_le _, hw, by omega⟩ ?_
    clear hw
    rintro k wr ⟨hk, hw, hn⟩
    by_cases hlt : k < p.length
    · have hxk : p[k]? = some p[k] := List.getElem?_eq_getElem hlt
      have hyk : q[k]? = some (q[k]'(by omega)) := List.getElem?_eq_getElem _
      obtain ⟨ab, ao, rfl, -, -⟩ := HP.at (by intro h; rw [h] at hlt; simp at hlt)
      obtain ⟨bb, bo, rfl, -, -⟩ := HQ.at (by intro h; rw [h] at hl; rw [hl] at hlt; simp at hlt)
      generalize p[k] = x at hxk
      generalize q[k] = y at hyk
      repeat' (first | (refine lw_pure rfl (pv_move rfl) ?_) | (refine is_cw ?_; first | (refine cw_seq ?_) | (refine cw_region ?_) | (refine is_cd ?_; refine cw_true rfl (by first | assumption | exact decide_eq_true (by omega) | exact dec_notT (by omega)) ?_) | (refine cw_skip ?_) | (refine cw_block ?_)) | (refine is_qw ?_; first | (with_reducible refine qw_then ?_)) | (refine lw_nil ?_) | ((refine is_bin ?_; first | (refine lw_pure rfl (pv_lss rfl rfl) ?_))) | ((refine is_bi ?_; first | (refine lw_pure rfl (pv_lenl (tS rfl) rfl) ?_))))
      refine cw_drawn (fun w' => Below w.heap.size w w') (by kernel_rfl) (by repeat (first | exact NoPanic.body | with_reducible refine NoPanic.then ?_ | with_reducible refine NoPanic.inBlock ?_)) (fun hNP => ?_)
      have hS := hw.drew
      (refine at0 0 rfl (fun w' hq => pv_move rfl) ?_)
      (refine at0 1 rfl (fun w' hq => pv_move rfl) ?_)
      (refine at0 2 rfl (fun w' hq => pv_ian (tS rfl) rfl rfl (by omega)) ?_)
      (refine at0 3 rfl (fun w' hq => pv_loada (tA rfl) rfl (by first | exact SlR.lda (HP.mono hq) hxk | exact SlR.lda (HQ.mono hq) hyk) (by rfl)) ?_)
      (refine at0 4 rfl (fun w' hq => pv_move rfl) ?_)
      (refine at0 5 rfl (fun w' hq => pv_move rfl) ?_)
      (refine at0 6 rfl (fun w' hq => pv_ian (tS rfl) rfl rfl (by omega)) ?_)
      (refine at0 7 rfl (fun w' hq => pv_loada (tA rfl) rfl (by first | exact SlR.lda (HP.mono hq) hxk | exact SlR.lda (HQ.mono hq) hyk) (by rfl)) ?_)
      (refine at0 8 rfl (fun w' hq => pv_neqP _ _ rfl rfl) ?_)
      refine aw_done (by kernel_rfl) ?_
      replace hw := hS; clear hS hNP
      by_cases hxy : x = y
      · repeat' (first | (refine lw_pure rfl (pv_move rfl) ?_) | (refine lw_pure rfl (pv_assign rfl) ?_) | (refine is_cw ?_; first | (refine cw_region ?_) | (refine is_cd ?_; refine cw_false rfl (by first | assumption | exact decide_eq_false (by omega) | exact dec_notF (by omega)) ?_) | (refine cw_skip ?_)) | (refine is_qw ?_; first | (with_reducible refine qw_then ?_) | (with_reducible refine qw_in ?_)) | (refine lw_nil ?_) | ((refine is_bin ?_; first | (refine lw_pure rfl (pv_inc rfl rfl (by omega)) ?_))))
        refine qw_round (k + 1) (by repeat' (first | exact trivial | refine ⟨rfl, ?_⟩)) ⟨by omega, hw, ?_⟩ (by omega)
        intro j hj
        by_cases hjk : j = k
        · subst hjk; rw [hxk, hyk, hxy]
        · exact hn j (by omega)
      · repeat' (first | (refine lw_pure rfl (pv_assign rfl) ?_) | (refine is_cw ?_; first | (refine cw_seq ?_) | (refine cw_region ?_) | (refine is_cd ?_; refine cw_true rfl (by first | assumption | exact decide_eq_true (by omega) | exact dec_notT (by omega)) ?_) | (refine cw_ret ?_)) | (refine is_qw ?_; first | (with_reducible refine qw_then ?_) | (with_reducible refine qw_then_ret ?_) | (with_reducible refine qw_in_ret ?_)) | (refine lw_nil ?_))
        refine qw_ret1 rfl rfl ⟨ret_bool ?_, hw⟩
        symm; rw [decide_eq_false_iff_not]; rintro rfl
        rw [hxk] at hyk; injection hyk with hyk; exact hxy hyk
    · have hkl : k = p.length := by omega
      subst hkl
      have he : p = q := List.ext_getElem? fun j => by
        by_cases hj : j < p.length
        · exact hn j hj
        · rw [List.getElem?_eq_none (by omega), List.getElem?_eq_none (by omega)]
      repeat' (first | (refine lw_pure rfl (pv_move rfl) ?_) | (refine lw_pure rfl (pv_assign rfl) ?_) | (refine is_cw ?_; first | (refine cw_seq ?_) | (refine cw_region ?_) | (refine is_cd ?_; refine cw_false rfl (by first | assumption | exact decide_eq_false (by omega) | exact dec_notF (by omega)) ?_) | (refine cw_exit ?_) | (refine cw_ret ?_)) | (refine is_qw ?_; first | (with_reducible refine qw_then ?_) | (with_reducible refine qw_in_hit ?_) | (with_reducible refine qw_then_exit ?_)) | (refine lw_nil ?_) | ((refine is_bin ?_; first | (refine lw_pure rfl (pv_lss rfl rfl) ?_))) | ((refine is_bi ?_; first | (refine lw_pure rfl (pv_lenl (tS rfl) rfl) ?_))))
      exact qw_ret1 rfl rfl ⟨ret_bool (by simp [he]), hw⟩
  · repeat' (first | (refine lw_pure rfl (pv_move rfl) ?_) | (refine lw_pure rfl (pv_assign rfl) ?_) | (refine is_cw ?_; first | (refine cw_seq ?_) | (refine cw_region ?_) | (refine is_cd ?_; refine cw_true rfl (by first | assumption | exact decide_eq_true (by omega) | exact dec_notT (by omega)) ?_) | (refine cw_ret ?_)) | (refine is_qw ?_; first | (with_reducible refine qw_then ?_) | (with_reducible refine qw_then_ret ?_)) | (refine lw_nil ?_) | ((refine is_bin ?_; first | (refine lw_pure rfl (pv_neq rfl rfl) ?_))) | ((refine is_bi ?_; first | (refine lw_pure rfl (pv_lenl (tS rfl) rfl) ?_))))
    exact qw_ret1 rfl rfl ⟨ret_bool (by symm; rw [decide_eq_false_iff_not]; rintro rfl; exact hl rfl), hw⟩

set_option maxRecDepth 20000 in
theorem rsame_L {p q : List Lt} {m n : Nat} {a b : Option Addr} {ca cb : Nat} {w : World} (hm : p.length = m) (hn : q.length = n) (HP : SlR encL 4 w a ca p) (HQ : SlR encL 4 w b cb q) : Calls Tryz.prog 16 #[.slice a m ca, .slice b n cb] w fun e w' => e = .returned (.bool (decide (p = q))) ∧ Below w.heap.size w w' := by
  subst hm hn
  have hw := Below.refl w.heap.size w
  have hca := HP.le
  have hcm := HP.max
  refine fn_enter 26 Tryz.func16 rfl rfl rfl ?_
  by_cases hl : p.length = q.length
  · repeat' ((fail_if_success (refine is_seqb ?_)); (fail_if_success (refine is_blk ?_)); first | (refine lw_pure rfl (pv_move rfl) ?_) | (refine lw_pure rfl (pv_assign rfl) ?_) | (refine is_cw ?_; first | (refine cw_seq ?_) | (refine cw_region ?_) | (refine is_cd ?_; refine cw_false rfl (by first | assumption | exact decide_eq_false (by omega) | exact dec_notF (by omega)) ?_) | (refine cw_skip ?_)) | (refine is_qw ?_; first | (with_reducible refine qw_then ?_)) | (refine lw_nil ?_) | ((refine is_bin ?_; first | (refine lw_pure rfl (pv_neq rfl rfl) ?_))) | ((refine is_bi ?_; first | (refine lw_pure rfl (pv_lenl (tS rfl) rfl) ?_))))
    repeat' (first | (refine is_cw ?_; first | (refine cw_block ?_)))
    refine cw_loop (σ := Nat) (fun k => [(0, .slice a p.length ca), (1, .slice b q.length cb), (5, .int .i64 (k : Nat))]) (fun k wr => k ≤ p.length ∧ Below w.heap.size w wr ∧ ∀ j, j < k → p[j]? = q[j]?) (fun k => p.length - k) 0 (by repeat' (first | exact trivial | refine ⟨rfl, ?_⟩)) ⟨Nat.zero_le _, hw, by omega⟩ ?_
    clear hw
    rintro k wr ⟨hk, hw, hn⟩
    by_cases hlt : k < p.length
    · have hxk : p[k]? = some p[k] := List.getElem?_eq_getElem hlt
      have hyk : q[k]? = some (q[k]'(by omega)) := List.getElem?_eq_getElem _
      obtain ⟨ab, ao, rfl, -, -⟩ := HP.at (by intro h; rw [h] at hlt; simp at hlt)
      obtain ⟨bb, bo, rfl, -, -⟩ := HQ.at (by intro h; rw [h] at hl; rw [hl] at hlt; simp at hlt)
      generalize p[k] = x at hxk
      generalize q[k] = y at hyk
      repeat' (first | (refine lw_pure rfl (pv_move rfl) ?_) | (refine is_cw ?_; first | (refine cw_seq ?_) | (refine cw_region ?_) | (refine is_cd ?_; refine cw_true rfl (by first | assumption | exact decide_eq_true (by omega) | exact dec_notT (by omega)) ?_) | (refine cw_skip ?_) | (refine cw_block ?_)) | (refine is_qw ?_; first | (with_reducible refine qw_then ?_)) | (refine lw_nil ?_) | ((refine is_bin ?_; first | (refine lw_pure rfl (pv_lss rfl rfl) ?_))) | ((refine is_bi ?_; first | (refine lw_pure rfl (pv_lenl (tS rfl) rfl) ?_))))
      refine cw_drawn (fun w' => Below w.heap.size w w') (by kernel_rfl) (by repeat (first | exact NoPanic.body | with_reducible refine NoPanic.then ?_ | with_reducible refine NoPanic.inBlock ?_)) (fun hNP => ?_)
      have hS := hw.drew
      (refine at0 0 rfl (fun w' hq => pv_move rfl) ?_)
      (refine at0 1 rfl (fun w' hq => pv_move rfl) ?_)
      (refine at0 2 rfl (fun w' hq => pv_ian (tS rfl) rfl rfl (by omega)) ?_)
      (refine at0 3 rfl (fun w' hq => pv_loada (tA rfl) rfl (by first | exact SlR.lda (HP.mono hq) hxk | exact SlR.lda (HQ.mono hq) hyk) (by rfl)) ?_)
      (refine at0 4 rfl (fun w' hq => pv_move rfl) ?_)
      (refine at0 5 rfl (fun w' hq => pv_move rfl) ?_)
      (refine at0 6 rfl (fun w' hq => pv_ian (tS rfl) rfl rfl (by omega)) ?_)
      (refine at0 7 rfl (fun w' hq => pv_loada (tA rfl) rfl (by first | exact SlR.lda (HP.mono hq) hxk | exact SlR.lda (HQ.mono hq) hyk) (by rfl)) ?_)
      (refine at0 8 rfl (fun w' hq => pv_neqL _ _ rfl rfl) ?_)
      refine aw_done (by kernel_rfl) ?_
      replace hw := hS; clear hS hNP
      by_cases hxy : x = y
      · repeat' (first | (refine lw_pure rfl (pv_move rfl) ?_) | (refine lw_pure rfl (pv_assign rfl) ?_) | (refine is_cw ?_; first | (refine cw_region ?_) | (refine is_cd ?_; refine cw_false rfl (by first | assumption | exact decide_eq_false (by omega) | exact dec_notF (by omega)) ?_) | (refine cw_skip ?_)) | (refine is_qw ?_; first | (with_reducible refine qw_then ?_) | (with_reducible refine qw_in ?_)) | (refine lw_nil ?_) | ((refine is_bin ?_; first | (refine lw_pure rfl (pv_inc rfl rfl (by omega)) ?_))))
        refine qw_round (k + 1) (by repeat' (first | exact trivial | refine ⟨rfl, ?_⟩)) ⟨by omega, hw, ?_⟩ (by omega)
        intro j hj
        by_cases hjk : j = k
        · subst hjk; rw [hxk, hyk, hxy]
        · exact hn j (by omega)
      · repeat' (first | (refine lw_pure rfl (pv_assign rfl) ?_) | (refine is_cw ?_; first | (refine cw_seq ?_) | (refine cw_region ?_) | (refine is_cd ?_; refine cw_true rfl (by first | assumption | exact decide_eq_true (by omega) | exact dec_notT (by omega)) ?_) | (refine cw_ret ?_)) | (refine is_qw ?_; first | (with_reducible refine qw_then ?_) | (with_reducible refine qw_then_ret ?_) | (with_reducible refine qw_in_ret ?_)) | (refine lw_nil ?_))
        refine qw_ret1 rfl rfl ⟨ret_bool ?_, hw⟩
        symm; rw [decide_eq_false_iff_not]; rintro rfl
        rw [hxk] at hyk; injection hyk with hyk; exact hxy hyk
    · have hkl : k = p.length := by omega
      subst hkl
      have he : p = q := List.ext_getElem? fun j => by
        by_cases hj : j < p.length
        · exact hn j hj
        · rw [List.getElem?_eq_none (by omega), List.getElem?_eq_none (by omega)]
      repeat' (first | (refine lw_pure rfl (pv_move rfl) ?_) | (refine lw_pure rfl (pv_assign rfl) ?_) | (refine is_cw ?_; first | (refine cw_seq ?_) | (refine cw_region ?_) | (refine is_cd ?_; refine cw_false rfl (by first | assumption | exact decide_eq_false (by omega) | exact dec_notF (by omega)) ?_) | (refine cw_exit ?_) | (refine cw_ret ?_)) | (refine is_qw ?_; first | (with_reducible refine qw_then ?_) | (with_reducible refine qw_in_hit ?_) | (with_reducible refine qw_then_exit ?_)) | (refine lw_nil ?_) | ((refine is_bin ?_; first | (refine lw_pure rfl (pv_lss rfl rfl) ?_))) | ((refine is_bi ?_; first | (refine lw_pure rfl (pv_lenl (tS rfl) rfl) ?_))))
      exact qw_ret1 rfl rfl ⟨ret_bool (by simp [he]), hw⟩
  · repeat' (first | (refine lw_pure rfl (pv_move rfl) ?_) | (refine lw_pure rfl (pv_assign rfl) ?_) | (refine is_cw ?_; first | (refine cw_seq ?_) | (refine cw_region ?_) | (refine is_cd ?_; refine cw_true rfl (by first | assumption | exact decide_eq_true (by omega) | exact dec_notT (by omega)) ?_) | (refine cw_ret ?_)) | (refine is_qw ?_; first | (with_reducible refine qw_then ?_) | (with_reducible refine qw_then_ret ?_)) | (refine lw_nil ?_) | ((refine is_bin ?_; first | (refine lw_pure rfl (pv_neq rfl rfl) ?_))) | ((refine is_bi ?_; first | (refine lw_pure rfl (pv_lenl (tS rfl) rfl) ?_))))
    exact qw_ret1 rfl rfl ⟨ret_bool (by symm; rw [decide_eq_false_iff_not]; rintro rfl; exact hl rfl), hw⟩

set_option maxRecDepth 20000 in
theorem rbtw_c (n m : Int) (w : World) : Calls Tryz.prog 93 #[.int .i64 n, .int .i64 m] w fun e w' => e = .returned (.bool (btw n m)) ∧ Below w.heap.size w w' := by
  have hw := Below.refl w.heap.size w
  refine fn_enter 12 Tryz.func93 rfl rfl rfl ?_
  repeat' (first | (refine lw_pure rfl (pv_move rfl) ?_) | (refine lw_pure rfl (pv_assign rfl) ?_) | (refine is_cw ?_; first | (refine cw_seq ?_) | (refine cw_region ?_) | (refine cw_ret ?_)) | (refine is_qw ?_; first | (with_reducible refine qw_then ?_)) | (refine lw_nil ?_) | (refine is_guarded ?_; first | (refine lw_on rfl rfl (by first | assumption | exact decide_eq_true (by omega) | exact decide_eq_false (by omega) | exact dec_notT (by omega) | exact dec_notF (by omega)) ?_) | (refine lw_not rfl rfl rfl (by first | assumption | exact decide_eq_true (by omega) | exact decide_eq_false (by omega) | exact dec_notT (by omega) | exact dec_notF (by omega)) ?_) | (refine lw_gs_t rfl rfl rfl (fun hc => ?_) (fun hc => ?_) <;> (first | replace hc := of_decide_eq_true hc | replace hc := of_decide_eq_false hc | replace hc := dec_nT hc | replace hc := dec_nF hc | skip) <;> (try (exfalso; omega)))) | ((refine is_bin ?_; first | (refine lw_pure rfl (pv_leq rfl rfl) ?_) | (refine lw_pure rfl (pv_geq rfl rfl) ?_))) | (refine is_pk ?_; refine lw_pure rfl (pv_pick_t rfl (by first | assumption | exact decide_eq_true (by omega) | exact dec_notT (by omega)) rfl) ?_) | (refine is_pk ?_; refine lw_pure rfl (pv_pick_f rfl (by first | assumption | exact decide_eq_false (by omega) | exact dec_notF (by omega)) rfl) ?_))
  all_goals (refine qw_ret1 rfl rfl ⟨ret_bool ?_, hw⟩; unfold btw; first | (rw [decide_eq_decide]; omega) | (symm; rw [decide_eq_true_eq]; omega) | (symm; rw [decide_eq_false_iff_not]; omega))
end Go.Proofs.YtemngicaoacfaaaGreatDoor
namespace Go.Proofs.YtemngicaoacfaaaGreatDoor
open Go.PlainAid Go.RowKit

theorem rsP_t {p : List Opn} {m n : Nat} {a b : Option Addr} {ca cb : Nat} {w : World} (hm : p.length = m) (hn : p.length = n) (HP : SlR encP 6 w a ca p) (HQ : SlR encP 6 w b cb p) : Calls Tryz.prog 15 #[.slice a m ca, .slice b n cb] w fun e w' => e = .returned (.bool true) ∧ Below w.heap.size w w' := by
  have h := rsame_P hm hn HP HQ
  rw [show decide (p = p) = true by simp] at h; exact h
theorem rsT_t {p : List Lt} {m n : Nat} {a b : Option Addr} {ca cb : Nat} {w : World} (hm : p.length = m) (hn : p.length = n) (HP : SlR encL 4 w a ca p) (HQ : SlR encL 4 w b cb p) : Calls Tryz.prog 16 #[.slice a m ca, .slice b n cb] w fun e w' => e = .returned (.bool true) ∧ Below w.heap.size w w' := by
  have h := rsame_L hm hn HP HQ
  rw [show decide (p = p) = true by simp] at h; exact h
theorem pv_bneqs2 {P : Program} {n : Nat} {l : Fr} {w : World} {d : Option Nat} {t t' ty : TypeId} {x y : Operand} {pos : String} {af : Array Edge} {g : Option (Nat × Bool)} {c : Bool} (ht : isT P t (fun x => x matches .bool) = true) (hx : ev l x = some (.bool c)) (hy : ev l y = some (.bool c)) : Pv P n l ⟨d, .binOp .neq t x y t', ty, pos, af, g⟩ (.bool false) w := by
  have := pv_bneq (n := n) (w := w) (d := d) (t' := t') (ty := ty) (pos := pos) (af := af) (g := g) ht hx hy
  simpa using this

theorem find_iff {p : List Opn} (hn : (p.map (·.id)).Nodup) {id : Int} {o : Opn} : findP p id = some o ↔ o ∈ p ∧ o.id = id := by
  constructor
  · intro h
    unfold findP at h
    exact ⟨List.mem_of_find?_eq_some h, by have := List.find?_some h; simpa using this⟩
  · rintro ⟨hm, rfl⟩
    cases h : findP p o.id with
    | none => exact absurd rfl (findP_none h o hm)
    | some x =>
      unfold findP at h
      have h1 := List.mem_of_find?_eq_some h
      have h2 := List.find?_some h
      rw [inj_of_nodup hn h1 hm (by simpa using h2)]
theorem findT_iff {t : List Lt} (hn : t.Pairwise keyT) {id : Int} {o : Lt} : findT t id = some o ↔ o ∈ t ∧ o.id = id := by
  have inj : ∀ {t : List Lt}, t.Pairwise keyT → ∀ x ∈ t, ∀ y ∈ t, x.id = y.id → x = y := by
    intro t
    induction t with
    | nil => intro _ x hx; cases hx
    | cons z r ih =>
      intro hp x hx y hy e
      obtain ⟨h1, h2⟩ := List.pairwise_cons.1 hp
      rcases List.mem_cons.1 hx with rfl | hx' <;> rcases List.mem_cons.1 hy with rfl | hy'
      · rfl
      · have := h1 y hy'; unfold keyT at this; omega
      · have := h1 x hx'; unfold keyT at this; omega
      · exact ih h2 x hx' y hy' e
  constructor
  · intro h
    unfold findT at h
    exact ⟨List.mem_of_find?_eq_some h, by have := List.find?_some h; simpa using this⟩
  · rintro ⟨hm, rfl⟩
    cases h : findT t o.id with
    | none => exact absurd rfl (findT_none h o hm)
    | some x =>
      unfold findT at h
      have h1 := List.mem_of_find?_eq_some h
      have h2 := List.find?_some h
      rw [inj hn x h1 o hm (by simpa using h2)]
/-! ### less of one, once more -/
theorem less_less {p : List Opn} {i j a b : Int} (hb : 0 ≤ b) : lessP (lessP p i a) j b = ((p.map (cutP i a)).map (cutP j b)).filter fun o => decide (0 < o.left) := by
  unfold lessP
  refine filter_map_filter _ _ _ fun x _ hx => ?_
  simp only [decide_eq_false_iff_not] at hx ⊢
  unfold cutP
  split
  · show ¬ 0 < x.left - b; omega
  · exact hx
theorem mem_less {p : List Opn} {i q : Int} {x : Opn} : x ∈ lessP p i q ↔ (∃ y ∈ p, cutP i q y = x) ∧ 0 < x.left := by
  unfold lessP; rw [List.mem_filter, List.mem_map, decide_eq_true_eq]
theorem cut_key {i q : Int} {a b : Opn} : keyO (cutP i q a) (cutP i q b) ↔ keyO a b := by
  have h : ∀ o : Opn, (cutP i q o).acct = o.acct ∧ (cutP i q o).id = o.id := fun o => by unfold cutP; split <;> exact ⟨rfl, rfl⟩
  unfold keyO
  rw [(h a).1, (h a).2, (h b).1, (h b).2]
theorem less_le (p : List Opn) (i q : Int) : (lessP p i q).length ≤ p.length := by
  unfold lessP; exact Nat.le_trans (List.length_filter_le _ _) (by simp)
theorem may_less {p : List Opn} {t : List Lt} {i q : Int} (h : MayV p t) (hq : 0 ≤ q) : MayV (lessP p i q) t := by
  obtain ⟨⟨h1, h2⟩, h3, h4, h5, h6, h7⟩ := h
  have hl := less_le p i q
  refine ⟨⟨by omega, h2⟩, ?_, h4, ?_, ?_, h7⟩
  · unfold lessP
    exact List.Pairwise.filter _ (List.pairwise_map.2 (h3.imp fun h => cut_key.2 h))
  · intro o ho
    obtain ⟨⟨y, hy, rfl⟩, hpos⟩ := mem_less.1 ho
    have hm := h5 y hy
    unfold MayO at hm ⊢
    unfold cutP at hpos ⊢
    split
    · rename_i e
      rw [if_pos e] at hpos
      replace hpos : 0 < y.left - q := hpos
      refine ⟨hm.1, hm.2.1, hm.2.2.1, hm.2.2.2.1, hm.2.2.2.2.1, ?_⟩
      show 1 ≤ y.left - q ∧ y.left - q ≤ 1048576; omega
    · exact hm
  · refine List.Nodup.sublist ?_ h6
    rw [← map_ids p i q]
    unfold lessP
    exact List.Sublist.map _ List.filter_sublist
theorem may_insP {p : List Opn} {t : List Lt} {o : Opn} (h : MayV p t) (hl : p.length ≠ 128) (ho : MayO o) (hf : findP p o.id = none) : MayV (insP p o) t := by
  obtain ⟨⟨h1, h2⟩, h3, h4, h5, h6, h7⟩ := h
  have hn := findP_none hf
  have hp := insP_perm o p
  refine ⟨⟨by rw [hp.length_eq, List.length_append, List.length_singleton]; omega, h2⟩, insP_pw h3 fun x hx => key_diff (hn x hx), h4, fun x hx => ?_, ?_, h7⟩
  · rcases List.mem_append.1 (hp.mem_iff.1 hx) with hx | hx
    · exact h5 x hx
    · rw [List.mem_singleton] at hx; subst hx; exact ho
  · rw [(hp.map (·.id)).nodup_iff, List.map_append, List.nodup_append]
    refine ⟨h6, by simp, fun a ha b hb => ?_⟩
    obtain ⟨y, hy, rfl⟩ := List.mem_map.1 ha
    simp at hb; subst hb
    exact hn y hy
theorem may_insT {p : List Opn} {t : List Lt} {o : Lt} (h : MayV p t) (hl : t.length ≠ 32) (ho : MayL o) (hf : findT t o.id = none) : MayV p (insT t o) := by
  obtain ⟨⟨h1, h2⟩, h3, h4, h5, h6, h7⟩ := h
  have hn := findT_none hf
  have hp := insT_perm o t
  refine ⟨⟨h1, by rw [hp.length_eq, List.length_append, List.length_singleton]; omega⟩, h3, insT_pw h4 fun x hx => keyT_diff (hn x hx), h5, h6, fun x hx => ?_⟩
  rcases List.mem_append.1 (hp.mem_iff.1 hx) with hx | hx
  · exact h7 x hx
  · rw [List.mem_singleton] at hx; subst hx; exact ho
theorem may_gone {p : List Opn} {t : List Lt} {id : Int} (h : MayV p t) : MayV p (gone t id) := by
  obtain ⟨⟨h1, h2⟩, h3, h4, h5, h6, h7⟩ := h
  have hs : (gone t id).Sublist t := List.filter_sublist
  exact ⟨⟨h1, Nat.le_trans hs.length_le h2⟩, h3, h4.sublist hs, h5, h6, fun x hx => h7 x (hs.subset hx)⟩
/-! ### what an event has left, and what is there -/
def leftS (id : Int) (n : Int) (e : Evt) : Int :=
  if e.kind = 11 then (if nth e 0 = id then nth e 5 else n) else if e.kind = 12 then (if nth e 0 = id then 0 else n)
  else if e.kind = 13 then (if nth e 0 = id ∨ nth e 1 = id then n - nth e 3 else n) else n
def leftN (es : List Evt) (id : Int) : Int := es.foldl (leftS id) 0
def thereS (id : Int) (b : Bool) (e : Evt) : Bool :=
  if e.kind = 14 ∨ e.kind = 16 then b || nth e 0 == id else if e.kind = 18 ∨ e.kind = 19 then b && !(nth e 0 == id) else b
def thereB (es : List Evt) (id : Int) : Bool := es.foldl (thereS id) false
theorem leftN_snoc (es : List Evt) (e : Evt) (id : Int) : leftN (es ++ [e]) id = leftS id (leftN es id) e := by unfold leftN; rw [List.foldl_append]; rfl
theorem thereB_snoc (es : List Evt) (e : Evt) (id : Int) : thereB (es ++ [e]) id = thereS id (thereB es id) e := by unfold thereB; rw [List.foldl_append]; rfl
def remP (p : List Opn) (id : Int) : Int := ((findP p id).map (·.left)).getD 0
theorem rem_cons (x : Opn) (p : List Opn) (id : Int) : remP (x :: p) id = if x.id = id then x.left else remP p id := by
  unfold remP findP
  by_cases h : x.id = id
  · rw [List.find?_cons_of_pos (by simp [h]), if_pos h]; rfl
  · rw [List.find?_cons_of_neg (by simp [h]), if_neg h]
theorem rem_zero {p : List Opn} {id : Int} (h : ∀ x ∈ p, x.id ≠ id) : remP p id = 0 := by
  induction p with
  | nil => rfl
  | cons x r ih => rw [rem_cons, if_neg (h x (by simp)), ih fun y hy => h y (List.mem_cons_of_mem _ hy)]
theorem rem_less {p : List Opn} {i q : Int} (hn : (p.map (·.id)).Nodup) (hl : ∀ x ∈ p, 0 < x.left) (hq : 0 ≤ q) (id : Int) : remP (lessP p i q) id = if i = id then max 0 (remP p id - q) else remP p id := by
  induction p with
  | nil =>
    have : remP ([] : List Opn) id = 0 := rfl
    rw [show lessP [] i q = [] from rfl, this]; split <;> omega
  | cons x r ih =>
    rw [List.map_cons, List.nodup_cons] at hn
    have ih' := ih hn.2 fun y hy => hl y (List.mem_cons_of_mem _ hy)
    have hx := hl x (by simp)
    have hr : ∀ id, x.id = id → remP r id = 0 := fun id e => rem_zero fun y hy e2 => hn.1 (List.mem_map.2 ⟨y, hy, by omega⟩)
    have hlr : lessP (x :: r) i q = if 0 < (cutP i q x).left then cutP i q x :: lessP r i q else lessP r i q := by
      unfold lessP
      rw [List.map_cons, List.filter_cons]
      by_cases h : 0 < (cutP i q x).left
      · rw [if_pos (by simpa using h), if_pos h]
      · rw [if_neg (by simpa using h), if_neg h]
    rw [hlr]
    have hcl : (cutP i q x).left = if x.id = i then x.left - q else x.left := by unfold cutP; split <;> rfl
    by_cases hp : 0 < (cutP i q x).left
    · rw [if_pos hp, rem_cons, rem_cons, cut_id, ih', hcl]
      by_cases e : x.id = id
      · rw [if_pos e, if_pos e]
        by_cases e2 : i = id
        · rw [if_pos (by omega), if_pos e2]
          rw [hcl, if_pos (by omega)] at hp
          omega
        · rw [if_neg (by omega), if_neg e2]
      · rw [if_neg e, if_neg e]
    · rw [if_neg hp, rem_cons, ih']
      rw [hcl] at hp
      by_cases e : x.id = i
      · rw [if_pos e] at hp
        by_cases e2 : i = id
        · have := hr id (by omega)
          rw [if_pos e2, if_pos (show x.id = id by omega)]; omega
        · rw [if_neg e2, if_neg e2, if_neg (by omega)]
      · rw [if_neg e] at hp; omega
theorem rem_ins {p : List Opn} {o : Opn} (hn : (p.map (·.id)).Nodup) (hf : findP p o.id = none) (hm : ((insP p o).map (·.id)).Nodup) (id : Int) : remP (insP p o) id = if o.id = id then o.left else remP p id := by
  have hp := insP_perm o p
  by_cases e : o.id = id
  · have : findP (insP p o) id = some o := (find_iff hm).2 ⟨hp.mem_iff.2 (by simp), e⟩
    rw [if_pos e]; unfold remP; rw [this]; rfl
  · rw [if_neg e]
    unfold remP
    congr 2
    cases h : findP p id with
    | some x =>
      obtain ⟨h1, h2⟩ := (find_iff hn).1 h
      exact (find_iff hm).2 ⟨hp.mem_iff.2 (List.mem_append_left _ h1), h2⟩
    | none =>
      have hx := findP_none h
      cases h2 : findP (insP p o) id with
      | none => rfl
      | some x =>
        obtain ⟨h3, h4⟩ := (find_iff hm).1 h2
        rcases List.mem_append.1 (hp.mem_iff.1 h3) with h3 | h3
        · exact absurd h4 (hx x h3)
        · rw [List.mem_singleton] at h3; subst h3; exact absurd h4 e
theorem there_ins {t : List Lt} {o : Lt} (hf : t.Pairwise keyT) (hm : (insT t o).Pairwise keyT) (id : Int) : (findT (insT t o) id).isSome = ((findT t id).isSome || o.id == id) := by
  have hp := insT_perm o t
  by_cases e : o.id = id
  · have : findT (insT t o) id = some o := (findT_iff hm).2 ⟨hp.mem_iff.2 (by simp), e⟩
    rw [this]; simp [e]
  · cases h : findT t id with
    | some x =>
      obtain ⟨h1, h2⟩ := (findT_iff hf).1 h
      rw [(findT_iff hm).2 ⟨hp.mem_iff.2 (List.mem_append_left _ h1), h2⟩]; simp
    | none =>
      have hx := findT_none h
      cases h2 : findT (insT t o) id with
      | none => simp [e]
      | some x =>
        obtain ⟨h3, h4⟩ := (findT_iff hm).1 h2
        rcases List.mem_append.1 (hp.mem_iff.1 h3) with h3 | h3
        · exact absurd h4 (hx x h3)
        · rw [List.mem_singleton] at h3; subst h3; exact absurd h4 e
theorem there_gone (t : List Lt) (i id : Int) : (findT (gone t i) id).isSome = ((findT t id).isSome && !(i == id)) := by
  induction t with
  | nil => simp [findT, gone]
  | cons x r ih =>
    unfold gone findT at ih ⊢
    rw [List.filter_cons]
    by_cases hx : x.id = i
    · rw [if_neg (by simp [hx]), ih]
      by_cases e : i = id
      · simp [e]
      · rw [List.find?_cons_of_neg (by simp [hx, e])]
    · rw [if_pos (by simp [hx])]
      by_cases e : x.id = id
      · have e2 : ¬ i = id := by omega
        rw [List.find?_cons_of_pos (by simp [e]), List.find?_cons_of_pos (by simp [e])]; simp [e2]
      · rw [List.find?_cons_of_neg (by simp [e]), List.find?_cons_of_neg (by simp [e]), ih]
/-! ### what comes of an event -/
structure GoodS (es : List Evt) (p : List Opn) (t : List Lt) : Prop where
  may : MayV p t
  left : ∀ id, leftN es id = remP p id
  there : ∀ id, thereB es id = (findT t id).isSome
theorem good_nil : GoodS [] [] [] := ⟨by decide, fun _ => rfl, fun _ => rfl⟩
theorem event_err {p : List Opn} {t : List Lt} {e : Evt} (h : (eventR p t e).2.2 ≠ 0) : (eventR p t e).1 = [] ∧ (eventR p t e).2.1 = [] := by
  by_cases hg : mayV p t = true ∧ e.v = 3 ∧ mayE e = true
  · rw [event_yes hg] at h ⊢
    rcases err_empty p t e with h1 | h1
    · exact absurd h1 h
    · exact h1
  · rw [event_no hg]; exact ⟨rfl, rfl⟩
theorem event_ok {p : List Opn} {t : List Lt} {e : Evt} (h : (eventR p t e).2.2 = 0) : (MayV p t ∧ e.v = 3 ∧ mayE e = true) ∧ eventR p t e = doneR p t e := by
  by_cases hg : mayV p t = true ∧ e.v = 3 ∧ mayE e = true
  · exact ⟨⟨mayV_iff.1 hg.1, hg.2⟩, event_yes hg⟩
  · rw [event_no hg] at h; cases h
theorem pos_left {p : List Opn} {t : List Lt} (h : MayV p t) : ∀ x ∈ p, 0 < x.left := fun x hx => by have := h.2.2.2.1 x hx; unfold MayO at this; omega
theorem done_cases {p : List Opn} {t : List Lt} {e : Evt} (_ : MayV p t) (hv : e.v = 3) (hE : mayE e = true) (h : (doneR p t e).2.2 = 0) :
    (e.kind = 11 ∧ ∃ o : Opn, MayO o ∧ o.id = nth e 0 ∧ o.left = nth e 5 ∧ findP p o.id = none ∧ p.length ≠ 128 ∧ doneR p t e = (insP p o, t, 0)) ∨
    (e.kind = 12 ∧ ∃ o : Opn, findP p (nth e 0) = some o ∧ doneR p t e = (lessP p (nth e 0) o.left, t, 0)) ∨
    (e.kind = 13 ∧ 1 ≤ nth e 3 ∧ ∃ a b : Opn, findP p (nth e 0) = some a ∧ findP p (nth e 1) = some b ∧ nth e 0 ≠ nth e 1 ∧ nth e 3 ≤ a.left ∧ nth e 3 ≤ b.left ∧ doneR p t e = (lessP (lessP p (nth e 0) (nth e 3)) (nth e 1) (nth e 3), t, 0)) ∨
    ((e.kind = 14 ∨ e.kind = 16) ∧ ∃ o : Lt, MayL o ∧ o.id = nth e 0 ∧ findT t o.id = none ∧ t.length ≠ 32 ∧ doneR p t e = (p, insT t o, 0)) ∨
    ((e.kind = 18 ∨ e.kind = 19) ∧ doneR p t e = (p, gone t (nth e 0), 0)) ∨
    ((e.kind ≠ 11 ∧ e.kind ≠ 12 ∧ e.kind ≠ 13 ∧ e.kind ≠ 14 ∧ e.kind ≠ 16 ∧ e.kind ≠ 18 ∧ e.kind ≠ 19) ∧ doneR p t e = (p, t, 0)) := by
  by_cases k1 : e.kind = 11
  · left
    refine ⟨k1, ?_⟩
    obtain ⟨n0, n1, n2, n3, n4, n5, hn, h0, h1, h2, h3, h4, h5⟩ := nums11 hE hv k1
    have hd : doneR p t e = placedR p t e := by unfold doneR; rw [if_pos k1]
    rw [hd] at h ⊢
    unfold placedR at h ⊢
    cases hf : findP p (nth e 0) with
    | some o => rw [hf] at h; cases h
    | none =>
      rw [hf] at h
      rw [if_neg (by simp)] at h ⊢
      by_cases hl : p.length = 128
      · rw [if_pos hl] at h; cases h
      · rw [if_neg hl]
        refine ⟨⟨nth e 1, nth e 0, nth e 2, nth e 3, nth e 4, nth e 5⟩, ?_, rfl, rfl, hf, hl, rfl⟩
        simp only [nth, hn, MayO]
        simp only [List.getD_cons_zero, List.getD_cons_succ]
        omega
  by_cases k2 : e.kind = 12
  · right; left
    refine ⟨k2, ?_⟩
    have hd : doneR p t e = cancelR p t e := by unfold doneR; rw [if_neg k1, if_pos k2]
    rw [hd] at h ⊢
    unfold cancelR at h ⊢
    cases hf : findP p (nth e 0) with
    | none => rw [hf] at h; cases h
    | some o => exact ⟨o, rfl, rfl⟩
  by_cases k3 : e.kind = 13
  · right; right; left
    obtain ⟨n0, n1, n2, n3, n4, hn, h0, h1, h2, h3, h4⟩ := nums13 hE hv k3
    refine ⟨k3, by simp only [nth, hn, List.getD_cons_zero, List.getD_cons_succ]; omega, ?_⟩
    have hd : doneR p t e = tradedR p t e := by unfold doneR; rw [if_neg k1, if_neg k2, if_pos k3]
    rw [hd] at h ⊢
    unfold tradedR at h ⊢
    cases hf : findP p (nth e 0) with
    | none => rw [hf] at h; cases h
    | some a =>
      cases hg : findP p (nth e 1) with
      | none => rw [hf, hg] at h; cases h
      | some b =>
        rw [hf, hg] at h
        dsimp only at h ⊢
        by_cases hc : nth e 0 = nth e 1 ∨ a.left < nth e 3 ∨ b.left < nth e 3
        · rw [if_pos hc] at h; cases h
        · rw [if_neg hc]
          exact ⟨a, b, rfl, rfl, fun e => hc (Or.inl e), by omega, by omega, rfl⟩
  by_cases k4 : e.kind = 14 ∨ e.kind = 16
  · right; right; right; left
    refine ⟨k4, ?_⟩
    obtain ⟨n0, n1, n2, n3, r, hn, h0, h1, h2, h3⟩ := nums14 hE hv k4
    have hd : doneR p t e = openedR p t e := by unfold doneR; rw [if_neg k1, if_neg k2, if_neg k3, if_pos k4]
    rw [hd] at h ⊢
    unfold openedR at h ⊢
    cases hf : findT t (nth e 0) with
    | some o => rw [hf] at h; cases h
    | none =>
      rw [hf] at h
      rw [if_neg (by simp)] at h ⊢
      by_cases hl : t.length = 32
      · rw [if_pos hl] at h; cases h
      · rw [if_neg hl]
        refine ⟨⟨nth e 0, nth e 1, nth e 2, nth e 3⟩, ?_, rfl, hf, hl, rfl⟩
        simp only [nth, hn, MayL]
        simp only [List.getD_cons_zero, List.getD_cons_succ]
        omega
  by_cases k5 : e.kind = 18 ∨ e.kind = 19
  · right; right; right; right; left
    refine ⟨k5, ?_⟩
    have hd : doneR p t e = goneR p t e := by unfold doneR; rw [if_neg k1, if_neg k2, if_neg k3, if_neg k4, if_pos k5]
    rw [hd] at h ⊢
    unfold goneR at h ⊢
    by_cases hf : (findT t (nth e 0)).isSome = true
    · rw [if_pos hf]
    · rw [if_neg hf] at h; cases h
  · right; right; right; right; right
    refine ⟨⟨k1, k2, k3, fun e => k4 (Or.inl e), fun e => k4 (Or.inr e), fun e => k5 (Or.inl e), fun e => k5 (Or.inr e)⟩, ?_⟩
    unfold doneR; rw [if_neg k1, if_neg k2, if_neg k3, if_neg k4, if_neg k5]
theorem event_may {p : List Opn} {t : List Lt} {e : Evt} (h : (eventR p t e).2.2 = 0) : MayV (eventR p t e).1 (eventR p t e).2.1 := by
  obtain ⟨⟨hM, hv, hE⟩, hd⟩ := event_ok h
  rw [hd] at h ⊢
  rcases done_cases hM hv hE h with ⟨_, o, h1, h2, h3, h4, h5, h6⟩ | ⟨_, o, h1, h2⟩ | ⟨_, hq, a, b, h1, h2, h3, h4, h5, h6⟩ | ⟨_, o, h1, h2, h3, h4, h5⟩ | ⟨_, h1⟩ | ⟨_, h1⟩
  · rw [h6]; exact may_insP hM h5 h1 h4
  · rw [h2]
    have := pos_left hM o ((find_iff hM.2.2.2.2.1).1 h1).1
    exact may_less hM (by omega)
  · rw [h6]; exact may_less (may_less hM (by omega)) (by omega)
  · rw [h5]; exact may_insT hM h4 h1 h3
  · rw [h1]; exact may_gone hM
  · rw [h1]; exact hM
theorem good_step {es : List Evt} {p : List Opn} {t : List Lt} {e : Evt} (hG : GoodS es p t) (h : (eventR p t e).2.2 = 0) : GoodS (es ++ [e]) (eventR p t e).1 (eventR p t e).2.1 := by
  have hM2 := event_may h
  obtain ⟨⟨hM, hv, hE⟩, hd⟩ := event_ok h
  refine ⟨hM2, fun id => ?_, fun id => ?_⟩
  · rw [leftN_snoc, hG.left]
    rw [hd] at h hM2 ⊢
    have hnd := hM.2.2.2.2.1
    have hpl := pos_left hM
    unfold leftS
    rcases done_cases hM hv hE h with ⟨hk, o, h1, h2, h3, h4, h5, h6⟩ | ⟨hk, o, h1, h2⟩ | ⟨hk, hq, a, b, h1, h2, h3, h4, h5, h6⟩ | ⟨hk, o, h1, h2, h3, h4, h5⟩ | ⟨hk, h1⟩ | ⟨hk, h1⟩
    · rw [h6] at hM2 ⊢
      rw [if_pos hk, rem_ins hnd h4 hM2.2.2.2.2.1, h2, h3]
    · rw [h2] at hM2 ⊢
      have ho := hpl o ((find_iff hnd).1 h1).1
      rw [if_neg (by omega), if_pos hk, rem_less hnd hpl (by omega)]
      by_cases e0 : nth e 0 = id
      · rw [if_pos e0, if_pos e0]
        have : remP p id = o.left := by unfold remP; rw [← e0, h1]; rfl
        omega
      · rw [if_neg e0, if_neg e0]
    · rw [h6] at hM2 ⊢
      have hM3 : MayV (lessP p (nth e 0) (nth e 3)) t := may_less hM (by omega)
      rw [if_neg (by omega), if_neg (by omega), if_pos hk, rem_less hM3.2.2.2.2.1 (pos_left hM3) (by omega), rem_less hnd hpl (by omega)]
      by_cases e0 : nth e 0 = id
      · have e1 : ¬ nth e 1 = id := by omega
        have : remP p id = a.left := by unfold remP; rw [← e0, h1]; rfl
        rw [if_pos (Or.inl e0), if_neg e1, if_pos e0]; omega
      · by_cases e1 : nth e 1 = id
        · have : remP p id = b.left := by unfold remP; rw [← e1, h2]; rfl
          rw [if_pos (Or.inr e1), if_pos e1, if_neg e0]; omega
        · rw [if_neg (by omega), if_neg e1, if_neg e0]
    · rw [h5, if_neg (by omega), if_neg (by omega), if_neg (by omega)]
    · rw [h1, if_neg (by omega), if_neg (by omega), if_neg (by omega)]
    · rw [h1, if_neg (by omega), if_neg (by omega), if_neg (by omega)]
  · rw [thereB_snoc, hG.there]
    rw [hd] at h hM2 ⊢
    unfold thereS
    rcases done_cases hM hv hE h with ⟨hk, o, h1, h2, h3, h4, h5, h6⟩ | ⟨hk, o, h1, h2⟩ | ⟨hk, hq, a, b, h1, h2, h3, h4, h5, h6⟩ | ⟨hk, o, h1, h2, h3, h4, h5⟩ | ⟨hk, h1⟩ | ⟨hk, h1⟩
    · rw [h6, if_neg (by omega), if_neg (by omega)]
    · rw [h2, if_neg (by omega), if_neg (by omega)]
    · rw [h6, if_neg (by omega), if_neg (by omega)]
    · rw [h5] at hM2 ⊢
      rw [if_pos hk, there_ins hM.2.2.1 hM2.2.2.1, h2]
    · rw [h1, if_neg (by omega), if_pos hk, there_gone]
    · rw [h1, if_neg (by omega), if_neg (by omega)]
theorem good_find {es : List Evt} {p : List Opn} {t : List Lt} (hG : GoodS es p t) (id : Int) : (findP p id).isSome = decide (0 < leftN es id) ∧ ∀ o, findP p id = some o → o.left = leftN es id := by
  rw [hG.left]
  unfold remP
  cases h : findP p id with
  | none => simp
  | some o =>
    have := pos_left hG.may o ((find_iff hG.may.2.2.2.2.1).1 h).1
    simp [this]
/-! ### each account's own -/
theorem filter_two {α : Type} {A B : α → Bool} : ∀ {l : List α}, l.Pairwise (fun x y => ¬ (B x = true ∧ A y = true)) → (∀ x ∈ l, ¬ (A x = true ∧ B x = true)) → l.filter (fun x => A x || B x) = l.filter A ++ l.filter B
  | [], _, _ => rfl
  | x :: r, hp, hd => by
    obtain ⟨h1, h2⟩ := List.pairwise_cons.1 hp
    have ih := filter_two h2 fun y hy => hd y (List.mem_cons_of_mem _ hy)
    cases hA : A x with
    | true =>
      have hB : ¬ B x = true := fun hb => hd x (by simp) ⟨hA, hb⟩
      rw [List.filter_cons_of_pos (by simp [hA]), List.filter_cons_of_pos hA, List.filter_cons_of_neg hB, ih]; rfl
    | false =>
      cases hB : B x with
      | false => rw [List.filter_cons_of_neg (by simp [hA, hB]), List.filter_cons_of_neg (by simp [hA]), List.filter_cons_of_neg (by simp [hB]), ih]
      | true =>
        have hn : r.filter A = [] := List.filter_eq_nil_iff.2 fun y hy ha => h1 y hy ⟨hB, ha⟩
        rw [List.filter_cons_of_pos (by simp [hB]), List.filter_cons_of_neg (by simp [hA]), List.filter_cons_of_pos hB, ih, hn]; rfl
def partsP (p : List Opn) (k : Nat) : List Opn := p.filter fun o => decide (1 ≤ o.acct ∧ o.acct ≤ (k : Int))
theorem parts_succ {p : List Opn} (hp : p.Pairwise keyO) (k : Nat) : partsP p (k + 1) = partsP p k ++ ofP p ((k : Int) + 1) := by
  unfold partsP ofP
  rw [← filter_two]
  · refine List.filter_congr fun x _ => ?_
    rw [Bool.eq_iff_iff]
    simp only [decide_eq_true_eq, Bool.or_eq_true, beq_iff_eq]
    omega
  · refine hp.imp fun {a b} h => ?_
    unfold keyO at h
    simp only [beq_iff_eq, decide_eq_true_eq]
    omega
  · intro x _
    simp only [beq_iff_eq, decide_eq_true_eq]
    omega
theorem parts_all {p : List Opn} (h : ∀ o ∈ p, MayO o) : partsP p 64 = p := List.filter_eq_self.2 fun x hx => by
  have := h x hx
  unfold MayO at this
  simp only [decide_eq_true_eq]
  omega
theorem parts_zero (p : List Opn) : partsP p 0 = [] := List.filter_eq_nil_iff.2 fun x _ => by
  simp only [decide_eq_true_eq]
  omega
theorem parts_len (p : List Opn) (k : Nat) : (partsP p k).length ≤ p.length := List.length_filter_le _ _
/-! ### put and taken back -/
theorem fits_of {v c n lo hi : Int} (hb : boundR v c = some (lo, hi)) (h : lo ≤ n ∧ n ≤ hi) : fitsR v c n = true := by
  unfold fitsR bLo bHi bIs
  rw [hb]
  simpa using h
theorem all_mk {v c n : Int} {cs ns : List Int} (h1 : fitsR v c n = true) (h2 : allR v cs ns = true) : allR v (c :: cs) (n :: ns) = true := by
  unfold allR at h2 ⊢
  simp only [Bool.and_eq_true, decide_eq_true_eq] at h2
  simp only [List.zip_cons_cons, List.all_cons, Bool.and_eq_true, decide_eq_true_eq, List.length_cons]
  exact ⟨by omega, h1, h2.2⟩
theorem all_mk0 (v : Int) : allR v [] [] = true := rfl
theorem mayE_of {k : Int} {ns : List Int} {s : ByteArray} (hf : fieldsR 3 k = some (s, false)) (h : allR 3 (bytesI s) ns = true) : mayE ⟨3, k, ns, []⟩ = true := by
  rw [may_some (e := ⟨3, k, ns, []⟩) hf, h]; rfl
theorem may12 {n : Int} (h : 1 ≤ n ∧ n ≤ 1099511627776) : mayE ⟨3, 12, [n], []⟩ = true := mayE_of fld12 (all_mk (fits_of bnd_o h) (all_mk0 _))
theorem may19 {n : Int} (h : 1 ≤ n ∧ n ≤ 1099511627776) : mayE ⟨3, 19, [n], []⟩ = true := mayE_of fld19 (all_mk (fits_of bnd_c h) (all_mk0 _))
theorem may13 {a b c d e : Int} (ha : 1 ≤ a ∧ a ≤ 1099511627776) (hb : 1 ≤ b ∧ b ≤ 1099511627776) (hc : 1 ≤ c ∧ c ≤ 1073741824) (hd : 1 ≤ d ∧ d ≤ 1048576) (he : 0 ≤ e ∧ e ≤ 1125899906842624) : mayE ⟨3, 13, [a, b, c, d, e], []⟩ = true :=
  mayE_of fld13 (all_mk (fits_of bnd_o ha) (all_mk (fits_of bnd_o hb) (all_mk (fits_of bnd_p hc) (all_mk (fits_of bnd_q hd) (all_mk (fits_of bnd_z he) (all_mk0 _))))))
theorem less_perm {p q : List Opn} (h : p.Perm q) (i a : Int) : (lessP p i a).Perm (lessP q i a) := (h.map _).filter _
theorem less_ins {p : List Opn} {t : List Lt} {o : Opn} (hM : MayV p t) (hM2 : MayV (insP p o) t) (hf : findP p o.id = none) : lessP (insP p o) o.id o.left = p := by
  have ho : 0 < o.left := pos_left hM2 o ((insP_perm o p).mem_iff.2 (by simp))
  refine sortP_eq ((less_perm (insP_perm o p) _ _).trans ?_) (may_less hM2 (by omega)).2.1 hM.2.1
  have : lessP (p ++ [o]) o.id o.left = p := by
    unfold lessP
    rw [List.map_append, List.filter_append, map_other (findP_none hf), keep_pos (pos_left hM)]
    rw [List.map_cons, List.filter_cons_of_neg (by simp [cutP])]
    simp
  rw [this]
theorem gone_ins {p : List Opn} {t : List Lt} {o : Lt} (hM : MayV p t) (hM2 : MayV p (insT t o)) (hf : findT t o.id = none) : gone (insT t o) o.id = t := by
  refine sortT_eq (((insT_perm o t).filter _).trans ?_) (may_gone hM2).2.2.1 hM.2.2.1
  have : (t ++ [o]).filter (fun l => !(l.id == o.id)) = t := by
    rw [List.filter_append, List.filter_eq_self.2 fun x hx => by simpa using findT_none hf x hx, List.filter_cons_of_neg (by simp)]
    simp
  rw [this]
theorem back11 {p : List Opn} {t : List Lt} {e : Evt} (h : (eventR p t e).2.2 = 0) (hk : e.kind = 11) : eventR (eventR p t e).1 (eventR p t e).2.1 ⟨3, 12, [nth e 0], []⟩ = (p, t, 0) := by
  have hM2 := event_may h
  obtain ⟨⟨hM, hv, hE⟩, hd⟩ := event_ok h
  rw [hd] at h hM2 ⊢
  rcases done_cases hM hv hE h with ⟨_, o, h1, h2, h3, h4, h5, h6⟩ | ⟨k, _⟩ | ⟨k, _⟩ | ⟨k, _⟩ | ⟨k, _⟩ | ⟨k, _⟩ <;> try omega
  rw [h6] at hM2 ⊢
  dsimp only at hM2 ⊢
  have hf : findP (insP p o) (nth e 0) = some o := (find_iff hM2.2.2.2.2.1).2 ⟨(insP_perm o p).mem_iff.2 (by simp), h2⟩
  have hb : 1 ≤ nth e 0 ∧ nth e 0 ≤ 1099511627776 := by have := h1.2.1; omega
  rw [event_yes ⟨mayV_iff.2 hM2, rfl, may12 hb⟩]
  show cancelR (insP p o) t ⟨3, 12, [nth e 0], []⟩ = _
  unfold cancelR
  show (match findP (insP p o) (nth e 0) with | none => _ | some o => _) = _
  rw [hf]
  show (lessP (insP p o) (nth e 0) o.left, t, 0) = _
  rw [← h2, less_ins hM hM2 h4]
theorem back14 {p : List Opn} {t : List Lt} {e : Evt} (h : (eventR p t e).2.2 = 0) (hk : e.kind = 14 ∨ e.kind = 16) : eventR (eventR p t e).1 (eventR p t e).2.1 ⟨3, 19, [nth e 0], []⟩ = (p, t, 0) := by
  have hM2 := event_may h
  obtain ⟨⟨hM, hv, hE⟩, hd⟩ := event_ok h
  rw [hd] at h hM2 ⊢
  rcases done_cases hM hv hE h with ⟨k, _⟩ | ⟨k, _⟩ | ⟨k, _⟩ | ⟨_, o, h1, h2, h3, h4, h5⟩ | ⟨k, _⟩ | ⟨k, _⟩ <;> try omega
  rw [h5] at hM2 ⊢
  dsimp only at hM2 ⊢
  have hf : findT (insT t o) (nth e 0) = some o := (findT_iff hM2.2.2.1).2 ⟨(insT_perm o t).mem_iff.2 (by simp), h2⟩
  have hb : 1 ≤ nth e 0 ∧ nth e 0 ≤ 1099511627776 := by have := h1.1; omega
  rw [event_yes ⟨mayV_iff.2 hM2, rfl, may19 hb⟩]
  show goneR p (insT t o) ⟨3, 19, [nth e 0], []⟩ = _
  unfold goneR
  show (if (findT (insT t o) (nth e 0)).isSome = true then _ else _) = _
  rw [hf, if_pos (show (some o).isSome = true from rfl)]
  show (p, gone (insT t o) (nth e 0), 0) = _
  rw [← h2, gone_ins hM hM2 h3]
theorem find_less {p : List Opn} {t : List Lt} {i q : Int} (hM : MayV p t) (hq : 0 ≤ q) {id : Int} {o : Opn} (h : findP p id = some o) (hl : i ≠ id ∨ q < o.left) : findP (lessP p i q) id = some (cutP i q o) := by
  have hM2 := may_less (i := i) hM hq
  obtain ⟨h1, h2⟩ := (find_iff hM.2.2.2.2.1).1 h
  refine (find_iff hM2.2.2.2.2.1).2 ⟨mem_less.2 ⟨⟨o, h1, rfl⟩, ?_⟩, by rw [cut_id]; exact h2⟩
  have := pos_left hM o h1
  unfold cutP
  split
  · show 0 < o.left - q; omega
  · exact this
theorem parted13 {p : List Opn} {t : List Lt} {e : Evt} (h : (eventR p t e).2.2 = 0) (hk : e.kind = 13) {x q : Int} (hx : 1 ≤ x ∧ x < nth e 3) (hq : 1 ≤ q) :
    (eventR p t ⟨3, 13, [nth e 0, nth e 1, 1, x, 0], []⟩).2.2 = 0 ∧ (q ≤ 1073741824 → eventR (eventR p t ⟨3, 13, [nth e 0, nth e 1, 1, x, 0], []⟩).1 (eventR p t ⟨3, 13, [nth e 0, nth e 1, 1, x, 0], []⟩).2.1 ⟨3, 13, [nth e 0, nth e 1, q, nth e 3 - x, 0], []⟩ = eventR p t e) := by
  obtain ⟨⟨hM, hv, hE⟩, hd⟩ := event_ok h
  rw [hd] at h
  rcases done_cases hM hv hE h with ⟨k, _⟩ | ⟨k, _⟩ | ⟨_, hq3, a, b, h1, h2, h3, h4, h5, h6⟩ | ⟨k, _⟩ | ⟨k, _⟩ | ⟨k, _⟩ <;> try omega
  rw [hd, h6]
  obtain ⟨n0, n1, n2, n3, n4, hn, g0, g1, g2, g3, g4⟩ := nums13 hE hv hk
  have e0 : nth e 0 = n0 := by simp [nth, hn]
  have e1 : nth e 1 = n1 := by simp [nth, hn]
  have e3 : nth e 3 = n3 := by simp [nth, hn]
  rw [e0] at h1 h3
  rw [e1] at h2 h3
  rw [e3] at h4 h5 hx hq3
  rw [e0, e1, e3]
  have s1 : eventR p t ⟨3, 13, [n0, n1, 1, x, 0], []⟩ = (lessP (lessP p n0 x) n1 x, t, 0) := by
    rw [event_yes ⟨mayV_iff.2 hM, rfl, may13 g0 g1 (by omega) (by omega) (by omega)⟩]
    show tradedR p t ⟨3, 13, [n0, n1, 1, x, 0], []⟩ = _
    unfold tradedR
    show (match findP p n0, findP p n1 with | some a, some b => if n0 = n1 ∨ a.left < x ∨ b.left < x then _ else _ | _, _ => _) = _
    rw [h1, h2]
    dsimp only
    rw [if_neg (by omega)]
    rfl
  rw [s1]
  refine ⟨rfl, fun hq2 => ?_⟩
  dsimp only
  have hM2 : MayV (lessP p n0 x) t := may_less hM (by omega)
  have hM3 : MayV (lessP (lessP p n0 x) n1 x) t := may_less hM2 (by omega)
  have ia : a.id = n0 := ((find_iff hM.2.2.2.2.1).1 h1).2
  have ib : b.id = n1 := ((find_iff hM.2.2.2.2.1).1 h2).2
  have f1 : findP (lessP p n0 x) n0 = some (cutP n0 x a) := find_less hM (by omega) h1 (Or.inr (by omega))
  have f2 : findP (lessP p n0 x) n1 = some (cutP n0 x b) := find_less hM (by omega) h2 (Or.inl h3)
  have cb : cutP n0 x b = b := by unfold cutP; rw [if_neg (by omega)]
  rw [cb] at f2
  have f3 : findP (lessP (lessP p n0 x) n1 x) n0 = some (cutP n1 x (cutP n0 x a)) := find_less hM2 (by omega) f1 (Or.inl (by omega))
  have f4 : findP (lessP (lessP p n0 x) n1 x) n1 = some (cutP n1 x b) := find_less hM2 (by omega) f2 (Or.inr (by omega))
  have l3 : (cutP n1 x (cutP n0 x a)).left = a.left - x := by
    unfold cutP; rw [if_pos ia, if_neg (by show ¬ a.id = n1; omega)]
  have l4 : (cutP n1 x b).left = b.left - x := by unfold cutP; rw [if_pos ib]
  rw [event_yes ⟨mayV_iff.2 hM3, rfl, may13 g0 g1 (by omega) (by omega) (by omega)⟩]
  show tradedR (lessP (lessP p n0 x) n1 x) t ⟨3, 13, [n0, n1, q, n3 - x, 0], []⟩ = _
  unfold tradedR
  show (match findP (lessP (lessP p n0 x) n1 x) n0, findP (lessP (lessP p n0 x) n1 x) n1 with | some a, some b => if n0 = n1 ∨ a.left < n3 - x ∨ b.left < n3 - x then _ else _ | _, _ => _) = _
  rw [f3, f4]
  dsimp only
  rw [l3, l4, if_neg (by omega)]
  show (lessP (lessP (lessP (lessP p n0 x) n1 x) n0 (n3 - x)) n1 (n3 - x), t, 0) = _
  congr 1
  have key : ∀ (l : List Opn) (i a j b k c : Int), 0 ≤ b → 0 ≤ c → lessP (lessP (lessP l i a) j b) k c = (((l.map (cutP i a)).map (cutP j b)).map (cutP k c)).filter fun o => decide (0 < o.left) := by
    intro l i a j b k c hb hc
    rw [less_less (p := l) hb]
    unfold lessP
    refine filter_map_filter _ _ _ fun x _ hx => ?_
    simp only [decide_eq_false_iff_not] at hx ⊢
    unfold cutP
    split
    · show ¬ 0 < x.left - c; omega
    · exact hx
  rw [less_less (p := p) (by omega : (0 : Int) ≤ n3)]
  rw [less_less (p := lessP (lessP p n0 x) n1 x) (by omega)]
  have step : lessP (lessP (lessP (lessP p n0 x) n1 x) n0 (n3 - x)) n1 (n3 - x) = ((((p.map (cutP n0 x)).map (cutP n1 x)).map (cutP n0 (n3 - x))).map (cutP n1 (n3 - x))).filter fun o => decide (0 < o.left) := by
    rw [key p _ _ _ _ _ _ (by omega) (by omega)]
    unfold lessP
    refine filter_map_filter _ _ _ fun x _ hx => ?_
    simp only [decide_eq_false_iff_not] at hx ⊢
    unfold cutP
    split
    · show ¬ 0 < x.left - _; omega
    · exact hx
  rw [← less_less (p := lessP (lessP p n0 x) n1 x) (by omega), step]
  congr 1
  simp only [List.map_map]
  refine List.map_congr_left fun y _ => ?_
  simp only [Function.comp]
  unfold cutP
  by_cases y0 : y.id = n0
  · have y1 : ¬ y.id = n1 := by omega
    simp only [y0, if_true, if_neg h3]
    congr 1; omega
  · by_cases y1 : y.id = n1
    · simp only [y1, if_true, if_neg (Ne.symm h3)]
      congr 1; omega
    · simp only [if_neg y0, if_neg y1]
end Go.Proofs.YtemngicaoacfaaaGreatDoor
namespace Go.Proofs.YtemngicaoacfaaaGreatDoor
open Go.RowKit Go.PlainAid

structure Pos where
  acct : Int
  inst : Int
  bought : Int
  sold : Int
  spent : Int
  got : Int
deriving DecidableEq, Inhabited
def encS (o : Pos) : List Value := [.int .i64 o.acct, .int .i64 o.inst, .int .i64 o.bought, .int .i64 o.sold, .int .i64 o.spent, .int .i64 o.got]
theorem encS_len (o : Pos) : (encS o).length = 6 := rfl
theorem encS_one (o : Pos) : ∀ v ∈ encS o, v.oneCell' = true := by intro v hv; simp [encS] at hv; rcases hv with rfl | rfl | rfl | rfl | rfl | rfl <;> rfl
abbrev farS : Int := 4611686018427387904
def NumS (n : Int) : Prop := 0 ≤ n ∧ n ≤ farS
instance (n : Int) : Decidable (NumS n) := inferInstanceAs (Decidable (_ ∧ _))
def MayS (o : Pos) : Prop := (1 ≤ o.acct ∧ o.acct ≤ 64) ∧ (1 ≤ o.inst ∧ o.inst ≤ 16) ∧ (NumS o.bought ∧ NumS o.sold ∧ NumS o.spent ∧ NumS o.got) ∧ ¬ (o.bought = 0 ∧ o.sold = 0)
instance (o : Pos) : Decidable (MayS o) := inferInstanceAs (Decidable (_ ∧ _))
def keyS (a b : Pos) : Prop := a.acct < b.acct ∨ (a.acct = b.acct ∧ a.inst < b.inst)
instance (a b : Pos) : Decidable (keyS a b) := inferInstanceAs (Decidable (_ ∨ _))
def sameK (a b : Pos) : Prop := a.acct = b.acct ∧ a.inst = b.inst
instance (a b : Pos) : Decidable (sameK a b) := inferInstanceAs (Decidable (_ ∧ _))
def MayPs (l : List Pos) : Prop := l.Pairwise keyS ∧ ∀ o ∈ l, MayS o
instance (l : List Pos) : Decidable (MayPs l) := inferInstanceAs (Decidable (_ ∧ _))
@[irreducible] def mayPs (l : List Pos) : Bool := decide (MayPs l)
theorem mayPs_iff {l : List Pos} : mayPs l = true ↔ MayPs l := by unfold mayPs; simp
theorem mayPs_no {l : List Pos} : mayPs l = false ↔ ¬ MayPs l := by unfold mayPs; simp
theorem keyS_trans {a b c : Pos} (h : keyS a b) (g : keyS b c) : keyS a c := by unfold keyS at *; omega
theorem keyS_irr (a : Pos) : ¬ keyS a a := by unfold keyS; omega
theorem keyS_tri (a b : Pos) : keyS a b ∨ sameK a b ∨ keyS b a := by unfold keyS sameK; omega
def moreS (a b : Int) : Int := if farS - b < a then farS else a + b
theorem more_num {a b : Int} (ha : NumS a) (hb : NumS b) : NumS (moreS a b) ∧ a ≤ moreS a b := by
  obtain ⟨a1, a2⟩ := ha
  obtain ⟨b1, b2⟩ := hb
  unfold NumS moreS; split <;> omega
theorem more_zero {a : Int} (ha : NumS a) : moreS a 0 = a := by unfold NumS at ha; unfold moreS; split <;> omega
theorem zero_more {b : Int} (hb : NumS b) : moreS 0 b = b := by unfold NumS at hb; unfold moreS; split <;> omega
theorem more_more {a b c : Int} (hc : 0 ≤ c) : moreS (moreS a b) c = moreS a (b + c) := by unfold moreS; (repeat' split) <;> omega
theorem more_sum {a b : Int} (h : a + b ≤ farS) : moreS a b = a + b := by unfold moreS; split <;> omega
theorem more_eq {a b : Int} (h : moreS a b ≠ farS) : moreS a b = a + b := by
  unfold moreS at h ⊢
  by_cases c : farS - b < a
  · rw [if_pos c] at h; exact absurd rfl h
  · rw [if_neg c]
def joinS (x p : Pos) : Pos := ⟨x.acct, x.inst, moreS x.bought p.bought, moreS x.sold p.sold, moreS x.spent p.spent, moreS x.got p.got⟩
def addS : List Pos → Pos → List Pos
  | [], p => [p]
  | x :: r, p => if keyS p x then p :: x :: r else if sameK x p then joinS x p :: r else x :: addS r p
def zS (a i : Int) : Pos := ⟨a, i, 0, 0, 0, 0⟩
def hasS (a i : Int) (x : Pos) : Bool := decide (x.acct = a ∧ x.inst = i)
def findS (l : List Pos) (a i : Int) : Option Pos := l.find? (hasS a i)
def getS (l : List Pos) (a i : Int) : Pos := (findS l a i).getD (zS a i)
def dealS (l : List Pos) (buyer seller inst qty paid fee : Int) : List Pos × Int :=
  if buyer = seller ∨ paid < fee then ([], 1) else (addS (addS l ⟨buyer, inst, qty, 0, paid, 0⟩) ⟨seller, inst, 0, qty, 0, paid - fee⟩, 0)
def tradeS (l : List Pos) (a b : Opn) (price qty fee : Int) : List Pos × Int :=
  if a.side = b.side ∨ a.inst ≠ b.inst then ([], 1) else if a.side = 2 then dealS l b.acct a.acct a.inst qty (price * qty) fee else dealS l a.acct b.acct a.inst qty (price * qty) fee
@[irreducible] def posR (l : List Pos) (p : List Opn) (t : List Lt) (e : Evt) : List Pos × Int :=
  if (eventR p t e).2.2 = 4 ∨ mayPs l = false then ([], 4)
  else if e.kind = 13 then if (eventR p t e).2.2 ≠ 0 then ([], (eventR p t e).2.2) else tradeS l ((findP p (nth e 0)).getD oZ) ((findP p (nth e 1)).getD oZ) (nth e 2) (nth e 3) (nth e 4)
  else if e.kind = 18 then if (eventR p t e).2.2 ≠ 0 then ([], (eventR p t e).2.2) else dealS l (nth e 1) ((findT t (nth e 0)).getD lZ).seller ((findT t (nth e 0)).getD lZ).inst ((findT t (nth e 0)).getD lZ).qty (nth e 2) (nth e 3)
  else (l, 0)
/-! ### one that is added -/
theorem mem_addS {p x : Pos} : ∀ {l : List Pos}, x ∈ addS l p → x ∈ l ∨ sameK x p
  | [], h => by simp [addS] at h; subst h; exact Or.inr ⟨rfl, rfl⟩
  | y :: r, h => by
    unfold addS at h
    split at h
    · rcases List.mem_cons.1 h with rfl | h
      · exact Or.inr ⟨rfl, rfl⟩
      · exact Or.inl h
    · split at h
      · rename_i hs
        rcases List.mem_cons.1 h with rfl | h
        · exact Or.inr ⟨hs.1, hs.2⟩
        · exact Or.inl (List.mem_cons_of_mem _ h)
      · rcases List.mem_cons.1 h with rfl | h
        · exact Or.inl (by simp)
        · rcases mem_addS h with h | h
          · exact Or.inl (List.mem_cons_of_mem _ h)
          · exact Or.inr h
theorem key_same {a b c : Pos} (h : sameK b c) : (keyS a b ↔ keyS a c) ∧ (keyS b a ↔ keyS c a) := by unfold keyS sameK at *; omega
theorem addS_pw {p : Pos} : ∀ {l : List Pos}, l.Pairwise keyS → (addS l p).Pairwise keyS
  | [], _ => by simp [addS]
  | x :: r, h => by
    obtain ⟨h1, h2⟩ := List.pairwise_cons.1 h
    unfold addS
    split
    · rename_i hk
      refine List.pairwise_cons.2 ⟨fun y hy => ?_, h⟩
      rcases List.mem_cons.1 hy with rfl | hy
      · exact hk
      · exact keyS_trans hk (h1 y hy)
    · split
      · rename_i hs
        exact List.pairwise_cons.2 ⟨fun y hy => h1 y hy, h2⟩
      · rename_i hk hs
        refine List.pairwise_cons.2 ⟨fun y hy => ?_, addS_pw h2⟩
        rcases mem_addS hy with hy | hy
        · exact h1 y hy
        · refine (key_same hy).1.2 ?_
          rcases keyS_tri p x with h3 | h3 | h3
          · exact absurd h3 hk
          · exact absurd ⟨h3.1.symm, h3.2.symm⟩ hs
          · exact h3
theorem addS_len (p : Pos) : ∀ l : List Pos, (addS l p).length ≤ l.length + 1
  | [] => by simp [addS]
  | x :: r => by
    have := addS_len p r
    unfold addS
    (repeat' split) <;> simp only [List.length_cons] <;> omega
def OkS (p : Pos) : Prop := (1 ≤ p.acct ∧ p.acct ≤ 64) ∧ (1 ≤ p.inst ∧ p.inst ≤ 16) ∧ (NumS p.bought ∧ NumS p.sold ∧ NumS p.spent ∧ NumS p.got) ∧ ¬ (p.bought = 0 ∧ p.sold = 0)
theorem okb_mk {b i q p : Int} (h1 : 1 ≤ b ∧ b ≤ 64) (h2 : 1 ≤ i ∧ i ≤ 16) (h3 : 1 ≤ q ∧ q ≤ 1048576) (h4 : 0 ≤ p ∧ p ≤ 1125899906842624) : OkS ⟨b, i, q, 0, p, 0⟩ := by
  refine ⟨h1, h2, ⟨?_, ?_, ?_, ?_⟩, ?_⟩ <;> (dsimp only; (try unfold NumS farS); omega)
theorem oks_mk {b i q p : Int} (h1 : 1 ≤ b ∧ b ≤ 64) (h2 : 1 ≤ i ∧ i ≤ 16) (h3 : 1 ≤ q ∧ q ≤ 1048576) (h4 : 0 ≤ p ∧ p ≤ 1125899906842624) : OkS ⟨b, i, 0, q, 0, p⟩ := by
  refine ⟨h1, h2, ⟨?_, ?_, ?_, ?_⟩, ?_⟩ <;> (dsimp only; (try unfold NumS farS); omega)
theorem find_cons (x : Pos) (r : List Pos) (a i : Int) : findS (x :: r) a i = if x.acct = a ∧ x.inst = i then some x else findS r a i := by
  unfold findS
  by_cases h : x.acct = a ∧ x.inst = i
  · rw [List.find?_cons_of_pos (by simpa [hasS] using h), if_pos h]
  · rw [List.find?_cons_of_neg (by simpa [hasS] using h), if_neg h]
theorem findS_some {l : List Pos} {a i : Int} {x : Pos} (h : findS l a i = some x) : x ∈ l ∧ x.acct = a ∧ x.inst = i := by
  unfold findS at h
  exact ⟨List.mem_of_find?_eq_some h, by have := List.find?_some h; simpa [hasS] using this⟩
theorem findS_none {l : List Pos} {a i : Int} (h : ∀ x ∈ l, ¬ (x.acct = a ∧ x.inst = i)) : findS l a i = none := by
  unfold findS
  rw [List.find?_eq_none]
  intro x hx; simpa [hasS] using h x hx
theorem findS_mem {l : List Pos} (hl : l.Pairwise keyS) {x : Pos} (hx : x ∈ l) : findS l x.acct x.inst = some x := by
  induction l with
  | nil => cases hx
  | cons y r ih =>
    obtain ⟨h1, h2⟩ := List.pairwise_cons.1 hl
    rw [find_cons]
    rcases List.mem_cons.1 hx with rfl | hx
    · rw [if_pos ⟨rfl, rfl⟩]
    · have := h1 x hx
      rw [if_neg (by unfold keyS at this; omega), ih h2 hx]
theorem find_addS {p : Pos} (a i : Int) : ∀ {l : List Pos}, l.Pairwise keyS → findS (addS l p) a i = if p.acct = a ∧ p.inst = i then some (match findS l a i with | some x => joinS x p | none => p) else findS l a i
  | [], _ => by
    unfold addS
    rw [find_cons]
    rfl
  | x :: r, h => by
    obtain ⟨h1, h2⟩ := List.pairwise_cons.1 h
    have ih := find_addS (p := p) a i h2
    unfold addS
    split
    · rename_i hk
      rw [find_cons]
      by_cases e : p.acct = a ∧ p.inst = i
      · have : findS (x :: r) a i = none := findS_none fun y hy => by
          rcases List.mem_cons.1 hy with rfl | hy
          · unfold keyS at hk; omega
          · have := h1 y hy; unfold keyS at hk this; omega
        rw [if_pos e, if_pos e, this]
      · rw [if_neg e, if_neg e]
    · split
      · rename_i hs
        rw [find_cons, find_cons]
        have e0 : (joinS x p).acct = x.acct ∧ (joinS x p).inst = x.inst := ⟨rfl, rfl⟩
        rw [e0.1, e0.2]
        unfold sameK at hs
        by_cases e : x.acct = a ∧ x.inst = i
        · rw [if_pos e, if_pos (by omega), if_pos e]
        · rw [if_neg e, if_neg (by omega), if_neg e]
      · rename_i hk hs
        rw [find_cons, find_cons, ih]
        unfold sameK at hs
        by_cases e : x.acct = a ∧ x.inst = i
        · rw [if_pos e, if_neg (by omega), if_pos e]
        · rw [if_neg e, if_neg e]
theorem addS_may {l : List Pos} {p : Pos} (hl : MayPs l) (hp : OkS p) : MayPs (addS l p) := by
  have hpw := addS_pw (p := p) hl.1
  refine ⟨hpw, fun x hx => ?_⟩
  have hf := findS_mem hpw hx
  rw [find_addS _ _ hl.1] at hf
  by_cases e : p.acct = x.acct ∧ p.inst = x.inst
  · rw [if_pos e] at hf
    injection hf with hf
    cases hg : findS l x.acct x.inst with
    | none => rw [hg] at hf; dsimp only at hf; rw [← hf]; exact hp
    | some y =>
      rw [hg] at hf
      dsimp only at hf
      obtain ⟨g1, g2, g3⟩ := findS_some hg
      have hy := hl.2 y g1
      rw [← hf]
      obtain ⟨p1, p2, ⟨p3, p4, p5, p6⟩, p7⟩ := hp
      obtain ⟨y1, y2, ⟨y3, y4, y5, y6⟩, y7⟩ := hy
      refine ⟨y1, y2, ⟨(more_num y3 p3).1, (more_num y4 p4).1, (more_num y5 p5).1, (more_num y6 p6).1⟩, fun hz => ?_⟩
      have z1 : moreS y.bought p.bought = 0 := hz.1
      have z2 : moreS y.sold p.sold = 0 := hz.2
      have m1 := (more_num y3 p3).2
      have m2 := (more_num y4 p4).2
      unfold NumS at y3 y4
      omega
  · rw [if_neg e] at hf
    exact hl.2 x (findS_some hf).1
theorem join_zero {p : Pos} (hp : OkS p) : joinS (zS p.acct p.inst) p = p := by
  obtain ⟨_, _, ⟨p3, p4, p5, p6⟩, _⟩ := hp
  unfold joinS zS
  simp only [zero_more p3, zero_more p4, zero_more p5, zero_more p6]
theorem get_addS {l : List Pos} {p : Pos} (hl : MayPs l) (hp : OkS p) (a i : Int) : getS (addS l p) a i = if p.acct = a ∧ p.inst = i then joinS (getS l a i) p else getS l a i := by
  unfold getS
  rw [find_addS _ _ hl.1]
  by_cases e : p.acct = a ∧ p.inst = i
  · rw [if_pos e, if_pos e]
    cases findS l a i with
    | some x => rfl
    | none =>
      show p = joinS (zS a i) p
      rw [← e.1, ← e.2, join_zero hp]
  · rw [if_neg e, if_neg e]
theorem getS_mem {l : List Pos} (hl : MayPs l) {x : Pos} (hx : x ∈ l) : getS l x.acct x.inst = x := by
  unfold getS; rw [findS_mem hl.1 hx]; rfl
theorem getS_key {l : List Pos} (a i : Int) : (getS l a i).acct = a ∧ (getS l a i).inst = i := by
  unfold getS
  cases h : findS l a i with
  | none => exact ⟨rfl, rfl⟩
  | some x => exact (findS_some h).2
theorem getS_num {l : List Pos} (hl : MayPs l) (a i : Int) : NumS (getS l a i).bought ∧ NumS (getS l a i).sold ∧ NumS (getS l a i).spent ∧ NumS (getS l a i).got := by
  unfold getS
  cases h : findS l a i with
  | none => unfold zS NumS farS; simp
  | some x => exact (hl.2 x (findS_some h).1).2.2.1
theorem pos_ext {l m : List Pos} (hl : MayPs l) (hm : MayPs m) (h : ∀ a i, getS l a i = getS m a i) : l = m := by
  have sub : ∀ {l m : List Pos}, MayPs l → MayPs m → (∀ a i, getS l a i = getS m a i) → ∀ x ∈ l, x ∈ m := by
    intro l m hl hm h x hx
    have h1 := h x.acct x.inst
    rw [getS_mem hl hx] at h1
    unfold getS at h1
    cases hf : findS m x.acct x.inst with
    | none =>
      rw [hf] at h1
      have := (hl.2 x hx).2.2.2
      exact absurd ⟨by rw [h1]; rfl, by rw [h1]; rfl⟩ this
    | some y =>
      rw [hf] at h1
      have : x = y := h1
      rw [this]; exact (findS_some hf).1
  refine List.Perm.eq_of_pairwise (le := keyS) (fun a b _ _ h g => absurd (keyS_trans h g) (keyS_irr a)) hl.1 hm.1 ?_
  refine (List.perm_ext_iff_of_nodup ?_ ?_).2 fun x => ⟨sub hl hm h x, sub hm hl (fun a i => (h a i).symm) x⟩
  · exact hl.1.imp fun {a b} hk e => by subst e; exact keyS_irr a hk
  · exact hm.1.imp fun {a b} hk e => by subst e; exact keyS_irr a hk
/-! ### what a deal makes -/
structure DealS (l out : List Pos) (b s inst qty paid fee : Int) : Prop where
  ne : b ≠ s
  fe : fee ≤ paid
  okb : OkS ⟨b, inst, qty, 0, paid, 0⟩
  oks : OkS ⟨s, inst, 0, qty, 0, paid - fee⟩
  out : out = addS (addS l ⟨b, inst, qty, 0, paid, 0⟩) ⟨s, inst, 0, qty, 0, paid - fee⟩
theorem DealS.may {l out : List Pos} {b s inst qty paid fee : Int} (h : DealS l out b s inst qty paid fee) (hl : MayPs l) : MayPs out := by
  rw [h.out]; exact addS_may (addS_may hl h.okb) h.oks
theorem DealS.get {l out : List Pos} {b s inst qty paid fee : Int} (h : DealS l out b s inst qty paid fee) (hl : MayPs l) (a i : Int) :
    getS out a i = if b = a ∧ inst = i then joinS (getS l a i) ⟨b, inst, qty, 0, paid, 0⟩ else if s = a ∧ inst = i then joinS (getS l a i) ⟨s, inst, 0, qty, 0, paid - fee⟩ else getS l a i := by
  have hn := h.ne
  rw [h.out, get_addS (addS_may hl h.okb) h.oks, get_addS hl h.okb]
  by_cases e1 : b = a ∧ inst = i
  · rw [if_neg (show ¬ (s = a ∧ inst = i) by omega), if_pos e1, if_pos e1]
  · rw [if_neg e1, if_neg e1]
theorem pos_cases {l : List Pos} {p : List Opn} {t : List Lt} {e : Evt} (h : (posR l p t e).2 = 0) :
    MayPs l ∧ ((e.kind ≠ 13 ∧ e.kind ≠ 18 ∧ (posR l p t e).1 = l) ∨
    (e.kind = 13 ∧ (eventR p t e).2.2 = 0 ∧ ∃ a b : Opn, findP p (nth e 0) = some a ∧ findP p (nth e 1) = some b ∧ a.side ≠ b.side ∧ a.inst = b.inst ∧ DealS l (posR l p t e).1 (if a.side = 2 then b.acct else a.acct) (if a.side = 2 then a.acct else b.acct) a.inst (nth e 3) (nth e 2 * nth e 3) (nth e 4) ∧ nth e 3 ≤ 1048576 ∧ 0 ≤ nth e 4 ∧ nth e 2 * nth e 3 ≤ 1125899906842624) ∨
    (e.kind = 18 ∧ (eventR p t e).2.2 = 0 ∧ ∃ x : Lt, findT t (nth e 0) = some x ∧ DealS l (posR l p t e).1 (nth e 1) x.seller x.inst x.qty (nth e 2) (nth e 3) ∧ x.qty ≤ 1048576 ∧ 0 ≤ nth e 3 ∧ nth e 2 ≤ 1125899906842624)) := by
  unfold posR at h ⊢
  by_cases h0 : (eventR p t e).2.2 = 4 ∨ mayPs l = false
  · rw [if_pos h0] at h; cases h
  rw [if_neg h0] at h ⊢
  have hl : MayPs l := mayPs_iff.1 (by cases hm : mayPs l with | true => rfl | false => exact absurd (Or.inr hm) h0)
  refine ⟨hl, ?_⟩
  by_cases k1 : e.kind = 13
  · rw [if_pos k1] at h ⊢
    by_cases h1 : (eventR p t e).2.2 ≠ 0
    · rw [if_pos h1] at h; exact absurd h h1
    rw [if_neg h1] at h ⊢
    have h2 : (eventR p t e).2.2 = 0 := by omega
    refine Or.inr (Or.inl ⟨k1, h2, ?_⟩)
    obtain ⟨⟨hM, hv, hE⟩, hd⟩ := event_ok h2
    rw [hd] at h2
    obtain ⟨n0, n1, n2, n3, n4, hn, g0, g1, g2, g3, g4⟩ := nums13 hE hv k1
    have e2 : nth e 2 = n2 := by simp [nth, hn]
    have e3 : nth e 3 = n3 := by simp [nth, hn]
    have e4 : nth e 4 = n4 := by simp [nth, hn]
    rcases done_cases hM hv hE h2 with ⟨k, _⟩ | ⟨k, _⟩ | ⟨_, hq3, a, b, f1, f2, f3, f4, f5, f6⟩ | ⟨k, _⟩ | ⟨k, _⟩ | ⟨k, _⟩ <;> try omega
    rw [f1, f2] at h ⊢
    have ha := hM.2.2.2.1 a ((find_iff hM.2.2.2.2.1).1 f1).1
    have hb := hM.2.2.2.1 b ((find_iff hM.2.2.2.2.1).1 f2).1
    refine ⟨a, b, rfl, rfl, ?_⟩
    have hpaid : 1 ≤ nth e 2 * nth e 3 ∧ nth e 2 * nth e 3 ≤ 1125899906842624 := by
      rw [e2, e3]
      have m1 : n2 * n3 ≤ 1073741824 * 1048576 := Int.mul_le_mul g2.2 g3.2 (by omega) (by omega)
      have m2 : 1 * 1 ≤ n2 * n3 := Int.mul_le_mul g2.1 g3.1 (by omega) (by omega)
      omega
    rw [e3] at hpaid ⊢
    unfold tradeS dealS at h ⊢
    simp only [Option.getD_some] at h ⊢
    unfold MayO at ha hb
    rw [e4]
    by_cases c1 : a.side = b.side ∨ a.inst ≠ b.inst
    · rw [if_pos c1] at h; cases h
    rw [if_neg c1] at h ⊢
    refine ⟨by omega, by omega, ?_, g3.2, g4.1, hpaid.2⟩
    rw [e3, e4] at h
    generalize nth e 2 * n3 = paid at *
    unfold farS at *
    by_cases c2 : a.side = 2
    · rw [if_pos c2] at h
      rw [if_pos c2, if_pos c2, if_pos c2]
      by_cases c3 : b.acct = a.acct ∨ paid < n4
      · rw [if_pos c3] at h; cases h
      rw [if_neg c3]
      exact ⟨by omega, by omega, okb_mk (by omega) (by omega) (by omega) (by omega), oks_mk (by omega) (by omega) (by omega) (by omega), rfl⟩
    · rw [if_neg c2] at h
      rw [if_neg c2, if_neg c2, if_neg c2]
      by_cases c3 : a.acct = b.acct ∨ paid < n4
      · rw [if_pos c3] at h; cases h
      rw [if_neg c3]
      exact ⟨by omega, by omega, okb_mk (by omega) (by omega) (by omega) (by omega), oks_mk (by omega) (by omega) (by omega) (by omega), rfl⟩
  rw [if_neg k1] at h ⊢
  by_cases k2 : e.kind = 18
  · rw [if_pos k2] at h ⊢
    by_cases h1 : (eventR p t e).2.2 ≠ 0
    · rw [if_pos h1] at h; exact absurd h h1
    rw [if_neg h1] at h ⊢
    have h2 : (eventR p t e).2.2 = 0 := by omega
    refine Or.inr (Or.inr ⟨k2, h2, ?_⟩)
    obtain ⟨⟨hM, hv, hE⟩, hd⟩ := event_ok h2
    rw [hd] at h2
    obtain ⟨n0, n1, n2, n3, hn, g0, g1, g2, g3⟩ := nums18 hE hv k2
    have e1 : nth e 1 = n1 := by simp [nth, hn]
    have e2 : nth e 2 = n2 := by simp [nth, hn]
    have e3 : nth e 3 = n3 := by simp [nth, hn]
    have hx : ∃ x, findT t (nth e 0) = some x := by
      have hdd : doneR p t e = goneR p t e := by unfold doneR; rw [if_neg (show ¬ e.kind = 11 by omega), if_neg (show ¬ e.kind = 12 by omega), if_neg k1, if_neg (show ¬ (e.kind = 14 ∨ e.kind = 16) by omega), if_pos (Or.inl k2)]
      rw [hdd] at h2
      unfold goneR at h2
      cases hf : findT t (nth e 0) with
      | none => rw [hf] at h2; cases h2
      | some x => exact ⟨x, rfl⟩
    obtain ⟨x, hx⟩ := hx
    rw [hx] at h ⊢
    have hxm := hM.2.2.2.2.2 x ((findT_iff hM.2.2.1).1 hx).1
    unfold MayL at hxm
    refine ⟨x, rfl, ?_⟩
    unfold dealS at h ⊢
    simp only [Option.getD_some] at h ⊢
    rw [e1, e2, e3] at h ⊢
    by_cases c3 : n1 = x.seller ∨ n2 < n3
    · rw [if_pos c3] at h; cases h
    rw [if_neg c3]
    refine ⟨?_, by omega, g3.1, g2.2⟩
    exact ⟨by omega, by omega, okb_mk (by omega) (by omega) (by omega) (by omega), oks_mk (by omega) (by omega) (by omega) (by omega), rfl⟩
  · rw [if_neg k2]
    exact Or.inl ⟨k1, k2, rfl⟩
theorem pos_err {l : List Pos} {p : List Opn} {t : List Lt} {e : Evt} (h : (posR l p t e).2 ≠ 0) : (posR l p t e).1 = [] := by
  unfold posR tradeS dealS at h ⊢
  (repeat' split at h) <;> first | rfl | (exact absurd rfl h) | (split <;> rfl)
theorem pos_may {l : List Pos} {p : List Opn} {t : List Lt} {e : Evt} (h : (posR l p t e).2 = 0) : MayPs (posR l p t e).1 := by
  obtain ⟨hl, h1 | ⟨_, _, a, b, _, _, _, _, hD, _⟩ | ⟨_, _, x, _, hD, _⟩⟩ := pos_cases h
  · rw [h1.2.2]; exact hl
  · exact hD.may hl
  · exact hD.may hl
theorem DealS.pos {l out : List Pos} {b s inst qty paid fee : Int} (h : DealS l out b s inst qty paid fee) : 0 < qty := by
  have h1 : 0 ≤ qty := h.okb.2.2.1.1.1
  have h2 : ¬ (qty = 0 ∧ (0 : Int) = 0) := h.okb.2.2.2
  omega
/-! ### no number is less, at most two are other ones -/
theorem join_ge {x p : Pos} (hx : NumS x.bought ∧ NumS x.sold ∧ NumS x.spent ∧ NumS x.got) (hp : OkS p) : x.bought ≤ (joinS x p).bought ∧ x.sold ≤ (joinS x p).sold ∧ x.spent ≤ (joinS x p).spent ∧ x.got ≤ (joinS x p).got := by
  obtain ⟨_, _, ⟨p3, p4, p5, p6⟩, _⟩ := hp
  exact ⟨(more_num hx.1 p3).2, (more_num hx.2.1 p4).2, (more_num hx.2.2.1 p5).2, (more_num hx.2.2.2 p6).2⟩
theorem deal_ge {l out : List Pos} {b s inst qty paid fee : Int} (h : DealS l out b s inst qty paid fee) (hl : MayPs l) (a i : Int) :
    (getS l a i).bought ≤ (getS out a i).bought ∧ (getS l a i).sold ≤ (getS out a i).sold ∧ (getS l a i).spent ≤ (getS out a i).spent ∧ (getS l a i).got ≤ (getS out a i).got := by
  rw [h.get hl]
  have hn := getS_num hl a i
  (repeat' split)
  · exact join_ge hn h.okb
  · exact join_ge hn h.oks
  · exact ⟨Int.le_refl _, Int.le_refl _, Int.le_refl _, Int.le_refl _⟩
theorem deal_other {l out : List Pos} {b s inst qty paid fee : Int} (h : DealS l out b s inst qty paid fee) (hl : MayPs l) {x : Pos} (hx : x ∈ out) (hne : x ≠ getS l x.acct x.inst) : x.inst = inst ∧ (x.acct = b ∨ x.acct = s) := by
  have h1 := h.get hl x.acct x.inst
  rw [getS_mem (h.may hl) hx] at h1
  by_cases e1 : b = x.acct ∧ inst = x.inst
  · exact ⟨e1.2.symm, Or.inl e1.1.symm⟩
  · rw [if_neg e1] at h1
    by_cases e2 : s = x.acct ∧ inst = x.inst
    · exact ⟨e2.2.symm, Or.inr e2.1.symm⟩
    · rw [if_neg e2] at h1; exact absurd h1 hne
theorem two_keys {I b s : Int} {L : List Pos} (hp : L.Pairwise keyS) (h : ∀ x ∈ L, x.inst = I ∧ (x.acct = b ∨ x.acct = s)) : L.length ≤ 2 := by
  match L, hp, h with
  | [], _, _ => simp
  | [_], _, _ => simp
  | [_, _], _, _ => simp
  | x :: y :: z :: r, hp, h =>
    obtain ⟨h1, h2⟩ := List.pairwise_cons.1 hp
    obtain ⟨h3, _⟩ := List.pairwise_cons.1 h2
    have a1 := h1 y (by simp)
    have a2 := h1 z (by simp)
    have a3 := h3 z (by simp)
    have b1 := h x (by simp)
    have b2 := h y (by simp)
    have b3 := h z (by simp)
    unfold keyS at a1 a2 a3
    omega
def chgS (l : List Pos) (x : Pos) : Bool := decide (x ≠ getS l x.acct x.inst)
structure NeverS (l out : List Pos) : Prop where
  may : MayPs out
  mayl : MayPs l
  inst : ∃ I, ∀ x ∈ out, x ≠ getS l x.acct x.inst → x.inst = I
  ge : ∀ x ∈ out, (getS l x.acct x.inst).bought ≤ x.bought ∧ (getS l x.acct x.inst).sold ≤ x.sold ∧ (getS l x.acct x.inst).spent ≤ x.spent ∧ (getS l x.acct x.inst).got ≤ x.got
  two : (out.filter (chgS l)).length ≤ 2
  len : out.length ≤ l.length + 2
  now : ∀ x ∈ l, x.bought ≤ (getS out x.acct x.inst).bought ∧ x.sold ≤ (getS out x.acct x.inst).sold
theorem never_deal {l out : List Pos} {b s inst qty paid fee : Int} (h : DealS l out b s inst qty paid fee) (hl : MayPs l) : NeverS l out := by
  have hm := h.may hl
  refine ⟨hm, hl, ⟨inst, fun x hx hne => (deal_other h hl hx hne).1⟩, fun x hx => ?_, ?_, ?_, fun x hx => ?_⟩
  · have := deal_ge h hl x.acct x.inst
    rwa [getS_mem hm hx] at this
  · refine two_keys (I := inst) (b := b) (s := s) (hm.1.sublist List.filter_sublist) fun x hx => ?_
    obtain ⟨h1, h2⟩ := List.mem_filter.1 hx
    exact deal_other h hl h1 (of_decide_eq_true h2)
  · rw [h.out]
    have h1 := addS_len ⟨b, inst, qty, 0, paid, 0⟩ l
    have h2 := addS_len ⟨s, inst, 0, qty, 0, paid - fee⟩ (addS l ⟨b, inst, qty, 0, paid, 0⟩)
    omega
  · have := deal_ge h hl x.acct x.inst
    rw [getS_mem hl hx] at this
    exact ⟨this.1, this.2.1⟩
theorem never_same {l : List Pos} (hl : MayPs l) : NeverS l l := by
  refine ⟨hl, hl, ⟨0, fun x hx hne => absurd (getS_mem hl hx).symm hne⟩, fun x hx => ?_, ?_, by omega, fun x hx => ?_⟩
  · rw [getS_mem hl hx]; exact ⟨Int.le_refl _, Int.le_refl _, Int.le_refl _, Int.le_refl _⟩
  · have : l.filter (chgS l) = [] := List.filter_eq_nil_iff.2 fun x hx => by
      unfold chgS; rw [getS_mem hl hx]; simp
    rw [this]; simp
  · rw [getS_mem hl hx]; exact ⟨Int.le_refl _, Int.le_refl _⟩
theorem never_ok {l : List Pos} {p : List Opn} {t : List Lt} {e : Evt} (h : (posR l p t e).2 = 0) : NeverS l (posR l p t e).1 ∧ (e.kind ≠ 13 → e.kind ≠ 18 → (posR l p t e).1 = l) := by
  obtain ⟨hl, h1 | ⟨k, _, a, b, _, _, _, _, hD, _⟩ | ⟨k, _, x, _, hD, _⟩⟩ := pos_cases h
  · rw [h1.2.2]; exact ⟨never_same hl, fun _ _ => rfl⟩
  · exact ⟨never_deal hD hl, fun k1 => absurd k k1⟩
  · exact ⟨never_deal hD hl, fun _ k2 => absurd k k2⟩
/-! ### sums -/
def sumS (f : Pos → Int) (L : List Pos) : Int := (L.map f).sum
theorem sumS_nil (f : Pos → Int) : sumS f [] = 0 := rfl
theorem sumS_cons (f : Pos → Int) (x : Pos) (r : List Pos) : sumS f (x :: r) = f x + sumS f r := by unfold sumS; rw [List.map_cons, List.sum_cons]
theorem sumS_snoc (f : Pos → Int) (L : List Pos) (x : Pos) : sumS f (L ++ [x]) = sumS f L + f x := by
  induction L with
  | nil => rw [List.nil_append, sumS_cons, sumS_nil]; omega
  | cons y r ih => rw [List.cons_append, sumS_cons, sumS_cons, ih]; omega
theorem sumS_congr {f g : Pos → Int} {L : List Pos} (h : ∀ x ∈ L, f x = g x) : sumS f L = sumS g L := by
  unfold sumS; rw [List.map_congr_left h]
theorem sumS_zero {f : Pos → Int} {L : List Pos} (h : ∀ x ∈ L, f x = 0) : sumS f L = 0 := by
  induction L with
  | nil => rfl
  | cons x r ih => rw [sumS_cons, h x (by simp), ih fun y hy => h y (List.mem_cons_of_mem _ hy)]; rfl
def oneS (a i v : Int) (x : Pos) : Int := if x.acct = a ∧ x.inst = i then v else 0
theorem sum_one {a i v : Int} : ∀ {L : List Pos}, L.Pairwise keyS → sumS (oneS a i v) L = if (findS L a i).isSome then v else 0
  | [], _ => by rw [sumS_nil]; rfl
  | x :: r, h => by
    obtain ⟨h1, h2⟩ := List.pairwise_cons.1 h
    rw [sumS_cons, sum_one h2, find_cons]
    unfold oneS
    by_cases e : x.acct = a ∧ x.inst = i
    · have : findS r a i = none := findS_none fun y hy => by have := h1 y hy; unfold keyS at this; omega
      rw [if_pos e, if_pos e, this]; simp
    · rw [if_neg e, if_neg e]; omega
theorem sum_one_bnd {a i v : Int} {L : List Pos} (h : L.Pairwise keyS) (hv : 0 ≤ v) : 0 ≤ sumS (oneS a i v) L ∧ sumS (oneS a i v) L ≤ v := by
  rw [sum_one h]; split <;> omega
def fullS (x : Pos) : Bool := x.bought == farS || (x.sold == farS || (x.spent == farS || x.got == farS))
structure DiffS (l out : List Pos) (b s inst qty paid fee : Int) : Prop where
  bought : ∀ x ∈ out, fullS x = false → x.bought - (getS l x.acct x.inst).bought = oneS b inst qty x
  sold : ∀ x ∈ out, fullS x = false → x.sold - (getS l x.acct x.inst).sold = oneS s inst qty x
  spent : ∀ x ∈ out, fullS x = false → x.spent - (getS l x.acct x.inst).spent = oneS b inst paid x
  got : ∀ x ∈ out, fullS x = false → x.got - (getS l x.acct x.inst).got = oneS s inst (paid - fee) x
  hasb : qty ≠ 0 → (findS out b inst).isSome = true
  hass : qty ≠ 0 → (findS out s inst).isSome = true
  qty0 : 0 ≤ qty ∧ qty ≤ 1125899906842624
  paid0 : 0 ≤ paid ∧ paid ≤ 1125899906842624
  fee0 : 0 ≤ fee ∧ fee ≤ paid
  pz : qty = 0 → paid = 0 ∧ fee = 0
  inst0 : qty ≠ 0 → 1 ≤ inst ∧ inst ≤ 16
theorem not_full {x : Pos} (h : fullS x = false) : x.bought ≠ farS ∧ x.sold ≠ farS ∧ x.spent ≠ farS ∧ x.got ≠ farS := by
  unfold fullS at h
  simp only [Bool.or_eq_false_iff, beq_eq_false_iff_ne] at h
  exact h
theorem diff_deal {l out : List Pos} {b s inst qty paid fee : Int} (h : DealS l out b s inst qty paid fee) (hl : MayPs l) (hq : qty ≤ 1125899906842624) (hp : paid ≤ 1125899906842624) (hf : 0 ≤ fee) (hq0 : 0 < qty) : DiffS l out b s inst qty paid fee := by
  have hm := h.may hl
  have hne := h.ne
  have hob := h.okb
  have hos := h.oks
  have h2 := h.fe
  unfold OkS NumS farS at hob hos
  simp only at hob hos
  have key : ∀ x ∈ out, x = if b = x.acct ∧ inst = x.inst then joinS (getS l x.acct x.inst) ⟨b, inst, qty, 0, paid, 0⟩ else if s = x.acct ∧ inst = x.inst then joinS (getS l x.acct x.inst) ⟨s, inst, 0, qty, 0, paid - fee⟩ else getS l x.acct x.inst := fun x hx => by
    have := h.get hl x.acct x.inst
    rwa [getS_mem hm hx] at this
  have nums := fun x : Pos => getS_num hl x.acct x.inst
  have fields : ∀ x ∈ out, fullS x = false →
      x.bought - (getS l x.acct x.inst).bought = oneS b inst qty x ∧ x.sold - (getS l x.acct x.inst).sold = oneS s inst qty x ∧
      x.spent - (getS l x.acct x.inst).spent = oneS b inst paid x ∧ x.got - (getS l x.acct x.inst).got = oneS s inst (paid - fee) x := by
    intro x hx hnf
    obtain ⟨f1, f2, f3, f4⟩ := not_full hnf
    have hk := key x hx
    obtain ⟨m1, m2, m3, m4⟩ := nums x
    generalize getS l x.acct x.inst = g at *
    unfold oneS
    by_cases e1 : b = x.acct ∧ inst = x.inst
    · rw [if_pos e1] at hk
      have t1 : x.bought = moreS g.bought qty := by rw [hk]; rfl
      have t2 : x.sold = moreS g.sold 0 := by rw [hk]; rfl
      have t3 : x.spent = moreS g.spent paid := by rw [hk]; rfl
      have t4 : x.got = moreS g.got 0 := by rw [hk]; rfl
      rw [more_zero m2] at t2
      rw [more_zero m4] at t4
      rw [t1] at f1
      rw [t3] at f3
      rw [more_eq f1] at t1
      rw [more_eq f3] at t3
      rw [if_pos (by omega), if_neg (by omega), if_pos (by omega), if_neg (by omega)]
      omega
    · rw [if_neg e1] at hk
      by_cases e2 : s = x.acct ∧ inst = x.inst
      · rw [if_pos e2] at hk
        have t1 : x.bought = moreS g.bought 0 := by rw [hk]; rfl
        have t2 : x.sold = moreS g.sold qty := by rw [hk]; rfl
        have t3 : x.spent = moreS g.spent 0 := by rw [hk]; rfl
        have t4 : x.got = moreS g.got (paid - fee) := by rw [hk]; rfl
        rw [more_zero m1] at t1
        rw [more_zero m3] at t3
        rw [t2] at f2
        rw [t4] at f4
        rw [more_eq f2] at t2
        rw [more_eq f4] at t4
        rw [if_neg (by omega), if_pos (by omega), if_neg (by omega), if_pos (by omega)]
        omega
      · rw [if_neg e2] at hk
        rw [← hk, if_neg (by omega), if_neg (by omega), if_neg (by omega), if_neg (by omega)]
        omega
  have hasx : ∀ a, (b = a ∨ s = a) → (findS out a inst).isSome = true := by
    intro a ha
    rw [h.out, find_addS _ _ (addS_pw hl.1), find_addS _ _ hl.1]
    rcases ha with rfl | rfl
    · simp only
      rw [if_neg (show ¬ (s = b ∧ True) by simp; omega)]
      simp
    · simp
  exact ⟨fun x hx hn => (fields x hx hn).1, fun x hx hn => (fields x hx hn).2.1, fun x hx hn => (fields x hx hn).2.2.1, fun x hx hn => (fields x hx hn).2.2.2, fun _ => hasx b (Or.inl rfl), fun _ => hasx s (Or.inr rfl), by omega, by omega, by omega, by omega, by omega⟩
theorem diff_same {l : List Pos} (hl : MayPs l) : DiffS l l 0 0 0 0 0 0 := by
  have h : ∀ x ∈ l, getS l x.acct x.inst = x := fun x hx => getS_mem hl hx
  refine ⟨fun x hx _ => ?_, fun x hx _ => ?_, fun x hx _ => ?_, fun x hx _ => ?_, by omega, by omega, by omega, by omega, by omega, by omega, by omega⟩ <;> (rw [h x hx]; unfold oneS; split <;> omega)
theorem diff_ok {l : List Pos} {p : List Opn} {t : List Lt} {e : Evt} (h : (posR l p t e).2 = 0) : ∃ b s I qty paid fee, DiffS l (posR l p t e).1 b s I qty paid fee ∧ (if e.kind = 13 then nth e 4 else if e.kind = 18 then nth e 3 else 0) = fee := by
  obtain ⟨hl, h1 | ⟨k, _, a, b, _, _, _, _, hD, c1, c2, c3⟩ | ⟨k, _, x, _, hD, c1, c2, c3⟩⟩ := pos_cases h
  · rw [h1.2.2]
    exact ⟨0, 0, 0, 0, 0, 0, diff_same hl, by rw [if_neg h1.1, if_neg h1.2.1]⟩
  · exact ⟨_, _, _, _, _, _, diff_deal hD hl (by omega) c3 c2 hD.pos, by rw [if_pos k]⟩
  · exact ⟨_, _, _, _, _, _, diff_deal hD hl (by omega) c3 c2 hD.pos, by rw [if_neg (by omega), if_pos k]⟩
def ofI (i : Int) (f : Pos → Int) (x : Pos) : Int := if x.inst = i then f x else 0
theorem sum_ofI {L : List Pos} {i a I v : Int} {f : Pos → Int} (hf : ∀ x ∈ L, x.inst = i → f x = oneS a I v x) : sumS (ofI i f) L = if i = I then sumS (oneS a I v) L else 0 := by
  by_cases e : i = I
  · rw [if_pos e]
    refine sumS_congr fun x hx => ?_
    unfold ofI
    by_cases e2 : x.inst = i
    · rw [if_pos e2, hf x hx e2]
    · rw [if_neg e2]; unfold oneS; rw [if_neg (by omega)]
  · rw [if_neg e]
    refine sumS_zero fun x hx => ?_
    unfold ofI
    by_cases e2 : x.inst = i
    · rw [if_pos e2, hf x hx e2]; unfold oneS; rw [if_neg (by omega)]
    · rw [if_neg e2]
theorem sum_ofI_bnd {L : List Pos} {i a I v : Int} (h : L.Pairwise keyS) (hv : 0 ≤ v) {f : Pos → Int} (hf : ∀ x ∈ L, x.inst = i → f x = oneS a I v x) : 0 ≤ sumS (ofI i f) L ∧ sumS (ofI i f) L ≤ v := by
  rw [sum_ofI hf]
  have := sum_one_bnd (a := a) (i := I) h hv
  split <;> omega
/-! ### traded in two parts -/
theorem join_join {x p q r : Pos} (h2 : 0 ≤ q.bought ∧ 0 ≤ q.sold ∧ 0 ≤ q.spent ∧ 0 ≤ q.got) (hr : r.bought = p.bought + q.bought ∧ r.sold = p.sold + q.sold ∧ r.spent = p.spent + q.spent ∧ r.got = p.got + q.got) : joinS (joinS x p) q = joinS x r := by
  unfold joinS
  simp only [more_more h2.1, more_more h2.2.1, more_more h2.2.2.1, more_more h2.2.2.2, hr.1, hr.2.1, hr.2.2.1, hr.2.2.2]
theorem deal_parts {l x w at_ : List Pos} {b s inst q1 q2 p1 p2 f1 f2 : Int} (hl : MayPs l) (h1 : DealS l x b s inst q1 p1 f1) (h2 : DealS x w b s inst q2 p2 f2) (h3 : DealS l at_ b s inst (q1 + q2) (p1 + p2) (f1 + f2)) : w = at_ := by
  have hx := h1.may hl
  refine pos_ext (h2.may hx) (h3.may hl) fun a i => ?_
  rw [h2.get hx, h1.get hl, h3.get hl]
  have o2 := h2.okb.2.2.1
  have o4 := h2.oks.2.2.1
  unfold NumS at o2 o4
  by_cases e1 : b = a ∧ inst = i
  · rw [if_pos e1, if_pos e1, if_pos e1]
    (refine join_join ⟨?_, ?_, ?_, ?_⟩ ⟨?_, ?_, ?_, ?_⟩ <;> dsimp only at o2 o4 ⊢ <;> omega)
  · rw [if_neg e1, if_neg e1, if_neg e1]
    by_cases e2 : s = a ∧ inst = i
    · rw [if_pos e2, if_pos e2, if_pos e2]
      (refine join_join ⟨?_, ?_, ?_, ?_⟩ ⟨?_, ?_, ?_, ?_⟩ <;> dsimp only at o2 o4 ⊢ <;> omega)
    · rw [if_neg e2, if_neg e2, if_neg e2]
theorem pos_parts {l : List Pos} {p : List Opn} {a b price q1 q2 y z : Int} (h1 : (posR l p [] ⟨3, 13, [a, b, price, q1, y], []⟩).2 = 0)
    (h2 : (posR (posR l p [] ⟨3, 13, [a, b, price, q1, y], []⟩).1 (eventR p [] ⟨3, 13, [a, b, price, q1, y], []⟩).1 [] ⟨3, 13, [a, b, price, q2, z], []⟩).2 = 0)
    (h3 : (posR l p [] ⟨3, 13, [a, b, price, q1 + q2, y + z], []⟩).2 = 0) :
    (posR (posR l p [] ⟨3, 13, [a, b, price, q1, y], []⟩).1 (eventR p [] ⟨3, 13, [a, b, price, q1, y], []⟩).1 [] ⟨3, 13, [a, b, price, q2, z], []⟩).1 = (posR l p [] ⟨3, 13, [a, b, price, q1 + q2, y + z], []⟩).1 := by
  have k13 : ∀ {q f : Int}, (⟨3, 13, [a, b, price, q, f], []⟩ : Evt).kind = 13 := rfl
  obtain ⟨hl, c1 | ⟨_, e1, a1, b1, fa1, fb1, s1, i1, D1, _⟩ | ⟨c1, _⟩⟩ := pos_cases h1
  · exact absurd rfl c1.1
  · obtain ⟨hx, c2 | ⟨_, e2, a2, b2, fa2, fb2, s2, i2, D2, _⟩ | ⟨c2, _⟩⟩ := pos_cases h2
    · exact absurd rfl c2.1
    · obtain ⟨_, c3 | ⟨_, e3, a3, b3, fa3, fb3, s3, i3, D3, _⟩ | ⟨c3, _⟩⟩ := pos_cases h3
      · exact absurd rfl c3.1
      · have n0 : ∀ q f : Int, nth ⟨3, 13, [a, b, price, q, f], []⟩ 0 = a := fun _ _ => rfl
        have n1 : ∀ q f : Int, nth ⟨3, 13, [a, b, price, q, f], []⟩ 1 = b := fun _ _ => rfl
        have n2 : ∀ q f : Int, nth ⟨3, 13, [a, b, price, q, f], []⟩ 2 = price := fun _ _ => rfl
        have n3 : ∀ q f : Int, nth ⟨3, 13, [a, b, price, q, f], []⟩ 3 = q := fun _ _ => rfl
        have n4 : ∀ q f : Int, nth ⟨3, 13, [a, b, price, q, f], []⟩ 4 = f := fun _ _ => rfl
        rw [n0] at fa1 fa2 fa3
        rw [n1] at fb1 fb2 fb3
        rw [fa1] at fa3
        rw [fb1] at fb3
        injection fa3 with fa3
        injection fb3 with fb3
        subst fa3 fb3
        -- the orders behind the first part
        obtain ⟨⟨hM, hv, hE⟩, hd⟩ := event_ok e1
        have hM2 := event_may e1
        have hdone := e1
        rw [hd] at hdone
        rcases done_cases hM hv hE hdone with ⟨k, _⟩ | ⟨k, _⟩ | ⟨_, hq3, oa, ob, g1, g2, g3, g4, g5, g6⟩ | ⟨k, _⟩ | ⟨k, _⟩ | ⟨k, _⟩
        · exact absurd k (by simp)
        · exact absurd k (by simp)
        · rw [n0, fa1] at g1
          rw [n1, fb1] at g2
          injection g1 with g1
          injection g2 with g2
          subst g1 g2
          rw [hd, g6] at fa2 fb2 hM2
          rw [n0, n1, n3] at fa2 fb2 hM2
          dsimp only at fa2 fb2 hM2
          have same : ∀ {id : Int} {o o2 : Opn}, findP p id = some o → findP (lessP (lessP p a q1) b q1) id = some o2 → o2.acct = o.acct ∧ o2.side = o.side ∧ o2.inst = o.inst := by
            intro id o o2 f1 f2
            obtain ⟨m1, m2⟩ := (find_iff hM2.2.2.2.2.1).1 f2
            obtain ⟨⟨y1, my1, rfl⟩, _⟩ := mem_less.1 m1
            obtain ⟨⟨y2, my2, rfl⟩, _⟩ := mem_less.1 my1
            have hid : y2.id = id := by rw [cut_id, cut_id] at m2; exact m2
            have := (find_iff hM.2.2.2.2.1).2 ⟨my2, hid⟩
            rw [f1] at this
            injection this with this
            subst this
            unfold cutP
            (repeat' split) <;> exact ⟨rfl, rfl, rfl⟩
          obtain ⟨x1, x2, x3⟩ := same fa1 fa2
          obtain ⟨y1, y2, y3⟩ := same fb1 fb2
          rw [x1, x2, x3, y1] at D2
          rw [n2, n3, n4] at D1 D2 D3
          rw [show price * (q1 + q2) = price * q1 + price * q2 from Int.mul_add _ _ _] at D3
          exact deal_parts hl D1 D2 D3
        · exact absurd k (by simp)
        · exact absurd k (by simp)
        · exact absurd rfl k.2.2.1
      · exact absurd c3 (by simp)
    · exact absurd c2 (by simp)
  · exact absurd c1 (by simp)
theorem addS_new {p : Pos} : ∀ {l : List Pos} {i : Nat}, i ≤ l.length → (∀ x ∈ l.take i, keyS x p) → (∀ x ∈ l.drop i, keyS p x) → addS l p = l.take i ++ p :: l.drop i
  | [], i, _, _, _ => by simp [addS]
  | x :: r, 0, _, _, h => by
    have h0 := h x (by simp)
    unfold addS; rw [if_pos h0]; simp
  | x :: r, i + 1, hi, h1, h2 => by
    have hx := h1 x (by simp)
    have n1 : ¬ keyS p x := fun h => keyS_irr _ (keyS_trans h hx)
    have n2 : ¬ sameK x p := by unfold keyS sameK at *; omega
    have ih := addS_new (p := p) (l := r) (i := i) (by simpa using hi) (fun y hy => h1 y (by simp [hy])) (fun y hy => h2 y (by simpa using hy))
    unfold addS; rw [if_neg n1, if_neg n2, ih]; simp
theorem addS_old {p x : Pos} : ∀ {l : List Pos} {i : Nat}, l[i]? = some x → sameK x p → (∀ y ∈ l.take i, keyS y p) → addS l p = l.set i (joinS x p)
  | [], i, h, _, _ => by simp at h
  | y :: r, 0, h, hs, _ => by
    simp at h; subst h
    have n1 : ¬ keyS p y := by unfold keyS sameK at *; omega
    unfold addS; rw [if_neg n1, if_pos hs]; simp
  | y :: r, i + 1, h, hs, h1 => by
    have hx := h1 y (by simp)
    have n1 : ¬ keyS p y := fun h => keyS_irr _ (keyS_trans h hx)
    have n2 : ¬ sameK y p := by unfold keyS sameK at *; omega
    have ih := addS_old (p := p) (x := x) (l := r) (i := i) (by simpa using h) hs (fun z hz => h1 z (by simp [hz]))
    unfold addS; rw [if_neg n1, if_neg n2, ih]; simp
def cmpS (a b : Int) : Int := if a < b then -1 else if b < a then 1 else 0
def rowS (a b : Pos) : Int := if cmpS a.acct b.acct = 0 then cmpS a.inst b.inst else cmpS a.acct b.acct
theorem rowS_lt {a b : Pos} : rowS a b < 0 ↔ keyS a b := by unfold rowS cmpS keyS; (repeat' split) <;> omega
theorem rowS_eq {a b : Pos} : rowS a b = 0 ↔ sameK a b := by unfold rowS cmpS sameK; (repeat' split) <;> omega
theorem rowS_gt {a b : Pos} : 0 < rowS a b ↔ keyS b a := by unfold rowS cmpS keyS; (repeat' split) <;> omega
structure PlaceS (l : List Pos) (p : Pos) (i : Nat) : Prop where
  le : i ≤ l.length
  lo : ∀ j x, j < i → l[j]? = some x → keyS x p
  hi : ∀ j x, i ≤ j → l[j]? = some x → ¬ keyS x p
theorem PlaceS.old {l : List Pos} {p x : Pos} {i : Nat} (h : PlaceS l p i) (hx : l[i]? = some x) (hs : sameK x p) : addS l p = l.set i (joinS x p) :=
  addS_old hx hs fun y hy => by
    obtain ⟨j, hj, he⟩ := List.mem_iff_getElem.1 hy
    rw [List.length_take] at hj
    rw [List.getElem_take] at he
    exact h.lo j y (by omega) (by rw [← he]; exact List.getElem?_eq_getElem _)
theorem PlaceS.new {l : List Pos} {p : Pos} {i : Nat} (h : PlaceS l p i) (hl : l.Pairwise keyS) (hn : ∀ x, l[i]? = some x → ¬ sameK x p) : addS l p = l.take i ++ p :: l.drop i := by
  refine addS_new h.le (fun y hy => ?_) (fun y hy => ?_)
  · obtain ⟨j, hj, he⟩ := List.mem_iff_getElem.1 hy
    rw [List.length_take] at hj
    rw [List.getElem_take] at he
    exact h.lo j y (by omega) (by rw [← he]; exact List.getElem?_eq_getElem _)
  · obtain ⟨j, hj, he⟩ := List.mem_iff_getElem.1 hy
    rw [List.getElem_drop] at he
    rw [List.length_drop] at hj
    have hy2 : l[i + j]? = some y := by rw [← he]; exact List.getElem?_eq_getElem _
    have h0 : l[i]? = some l[i] := List.getElem?_eq_getElem (by omega)
    have h1 := h.hi i _ (Nat.le_refl _) h0
    have h2 := hn _ h0
    have h3 : keyS p l[i] := by
      rcases keyS_tri l[i] p with h | h | h
      · exact absurd h h1
      · exact absurd h h2
      · exact h
    by_cases hj0 : j = 0
    · subst hj0
      rw [Nat.add_zero, h0] at hy2; injection hy2 with hy2; rw [← hy2]; exact h3
    · exact keyS_trans h3 (pwg_get hl (by omega) h0 hy2)
/-! ### what becomes of positions, case by case -/
theorem posR_form {l : List Pos} {p : List Opn} {t : List Lt} {e : Evt} (h : (eventR p t e).2.2 = 4 ∨ mayPs l = false) : posR l p t e = ([], 4) := by unfold posR; rw [if_pos h]
theorem posR_keep {l : List Pos} {p : List Opn} {t : List Lt} {e : Evt} (h : ¬ ((eventR p t e).2.2 = 4 ∨ mayPs l = false)) (k1 : e.kind ≠ 13) (k2 : e.kind ≠ 18) : posR l p t e = (l, 0) := by unfold posR; rw [if_neg h, if_neg k1, if_neg k2]
theorem posR_err {l : List Pos} {p : List Opn} {t : List Lt} {e : Evt} (h : ¬ ((eventR p t e).2.2 = 4 ∨ mayPs l = false)) (k : e.kind = 13 ∨ e.kind = 18) (hf : (eventR p t e).2.2 ≠ 0) : posR l p t e = ([], (eventR p t e).2.2) := by
  unfold posR; rw [if_neg h]
  by_cases k1 : e.kind = 13
  · rw [if_pos k1, if_pos hf]
  · rw [if_neg k1, if_pos (by omega), if_pos hf]
structure TradeN (p : List Opn) (e : Evt) (n0 n1 n2 n3 n4 : Int) (a b : Opn) : Prop where
  nums : e.nums = [n0, n1, n2, n3, n4]
  fa : findP p n0 = some a
  fb : findP p n1 = some b
  ma : (1 ≤ a.acct ∧ a.acct ≤ 64) ∧ (1 ≤ a.inst ∧ a.inst ≤ 16)
  mb : (1 ≤ b.acct ∧ b.acct ≤ 64) ∧ (1 ≤ b.inst ∧ b.inst ≤ 16)
  g2 : 1 ≤ n2 ∧ n2 ≤ 1073741824
  g3 : 1 ≤ n3 ∧ n3 ≤ 1048576
  g4 : 0 ≤ n4
  paid : 1 ≤ n2 * n3 ∧ n2 * n3 ≤ 1125899906842624
theorem trade_at {p : List Opn} {t : List Lt} {e : Evt} (h2 : (eventR p t e).2.2 = 0) (k1 : e.kind = 13) : ∃ n0 n1 n2 n3 n4 a b, TradeN p e n0 n1 n2 n3 n4 a b := by
  obtain ⟨⟨hM, hv, hE⟩, hd⟩ := event_ok h2
  rw [hd] at h2
  obtain ⟨n0, n1, n2, n3, n4, hn, g0, g1, g2, g3, g4⟩ := nums13 hE hv k1
  have e0 : nth e 0 = n0 := by simp [nth, hn]
  have e1 : nth e 1 = n1 := by simp [nth, hn]
  rcases done_cases hM hv hE h2 with ⟨k, _⟩ | ⟨k, _⟩ | ⟨_, hq3, a, b, f1, f2, f3, f4, f5, f6⟩ | ⟨k, _⟩ | ⟨k, _⟩ | ⟨k, _⟩ <;> try omega
  have ha := hM.2.2.2.1 a ((find_iff hM.2.2.2.2.1).1 f1).1
  have hb := hM.2.2.2.1 b ((find_iff hM.2.2.2.2.1).1 f2).1
  unfold MayO at ha hb
  have m1 : n2 * n3 ≤ 1073741824 * 1048576 := Int.mul_le_mul g2.2 g3.2 (by omega) (by omega)
  have m2 : 1 * 1 ≤ n2 * n3 := Int.mul_le_mul g2.1 g3.1 (by omega) (by omega)
  exact ⟨n0, n1, n2, n3, n4, a, b, hn, by rw [← e0]; exact f1, by rw [← e1]; exact f2, by omega, by omega, g2, g3, g4.1, by omega⟩
theorem posR_trade {l : List Pos} {p : List Opn} {t : List Lt} {e : Evt} {n0 n1 n2 n3 n4 : Int} {a b : Opn} (h : ¬ ((eventR p t e).2.2 = 4 ∨ mayPs l = false)) (h2 : (eventR p t e).2.2 = 0) (k1 : e.kind = 13) (hT : TradeN p e n0 n1 n2 n3 n4 a b) : posR l p t e = tradeS l a b n2 n3 n4 := by
  have hn := hT.nums
  have e0 : nth e 0 = n0 := by simp [nth, hn]
  have e1 : nth e 1 = n1 := by simp [nth, hn]
  have e2 : nth e 2 = n2 := by simp [nth, hn]
  have e3 : nth e 3 = n3 := by simp [nth, hn]
  have e4 : nth e 4 = n4 := by simp [nth, hn]
  unfold posR
  rw [if_neg h, if_pos k1, if_neg (by omega), e0, e1, e2, e3, e4, hT.fa, hT.fb]
  rfl
structure SoldN (t : List Lt) (e : Evt) (n0 n1 n2 n3 : Int) (x : Lt) : Prop where
  nums : e.nums = [n0, n1, n2, n3]
  fx : findT t n0 = some x
  mx : (1 ≤ x.seller ∧ x.seller ≤ 64) ∧ (1 ≤ x.inst ∧ x.inst ≤ 16) ∧ (1 ≤ x.qty ∧ x.qty ≤ 1048576)
  g1 : 1 ≤ n1 ∧ n1 ≤ 64
  g2 : 0 ≤ n2 ∧ n2 ≤ 1125899906842624
  g3 : 0 ≤ n3
theorem sold_at {p : List Opn} {t : List Lt} {e : Evt} (h2 : (eventR p t e).2.2 = 0) (k2 : e.kind = 18) : ∃ n0 n1 n2 n3 x, SoldN t e n0 n1 n2 n3 x := by
  obtain ⟨⟨hM, hv, hE⟩, hd⟩ := event_ok h2
  rw [hd] at h2
  obtain ⟨n0, n1, n2, n3, hn, g0, g1, g2, g3⟩ := nums18 hE hv k2
  have e0 : nth e 0 = n0 := by simp [nth, hn]
  have hx : ∃ x, findT t n0 = some x := by
    have hdd : doneR p t e = goneR p t e := by unfold doneR; rw [if_neg (show ¬ e.kind = 11 by omega), if_neg (show ¬ e.kind = 12 by omega), if_neg (show ¬ e.kind = 13 by omega), if_neg (show ¬ (e.kind = 14 ∨ e.kind = 16) by omega), if_pos (Or.inl k2)]
    rw [hdd] at h2
    unfold goneR at h2
    rw [e0] at h2
    cases hf : findT t n0 with
    | none => rw [hf] at h2; cases h2
    | some x => exact ⟨x, rfl⟩
  obtain ⟨x, hx⟩ := hx
  have hxm := hM.2.2.2.2.2 x ((findT_iff hM.2.2.1).1 hx).1
  unfold MayL at hxm
  exact ⟨n0, n1, n2, n3, x, hn, hx, by omega, by omega, by omega, by omega⟩
theorem posR_sold {l : List Pos} {p : List Opn} {t : List Lt} {e : Evt} {n0 n1 n2 n3 : Int} {x : Lt} (h : ¬ ((eventR p t e).2.2 = 4 ∨ mayPs l = false)) (h2 : (eventR p t e).2.2 = 0) (k2 : e.kind = 18) (hT : SoldN t e n0 n1 n2 n3 x) : posR l p t e = dealS l n1 x.seller x.inst x.qty n2 n3 := by
  have hn := hT.nums
  have e0 : nth e 0 = n0 := by simp [nth, hn]
  have e1 : nth e 1 = n1 := by simp [nth, hn]
  have e2 : nth e 2 = n2 := by simp [nth, hn]
  have e3 : nth e 3 = n3 := by simp [nth, hn]
  unfold posR
  rw [if_neg h, if_neg (by omega), if_pos k2, if_neg (by omega), e0, e1, e2, e3, hT.fx]
  rfl

theorem elemS : ElemT Tryz.prog 22 39 6 48 := elem_of Tryz.underlying22 (by kernel_rfl) (by omega)
set_option maxRecDepth 20000 in
theorem indexf_S {xs : List Pos} {m : Nat} {ad : Option Addr} {cap : Nat} {w : World} (base : Nat) (p : Pos → Bool) (F : FuncId) (caps : Array Value) (he : entersB Tryz.prog F = true) (hbw : base ≤ w.heap.size) (hF : ∀ x, x ∈ xs → ∀ w', Below base w w' → Calls Tryz.prog F (#[] ++ [Value.agg (encS x).toArray].toArray ++ caps) w' fun e w'' => e = .returned (.bool (p x)) ∧ Below w'.heap.size w' w'') (hm : xs.length = m) (HS : SlR encS 6 w ad cap xs) : Calls Tryz.prog 48 #[.slice ad m cap, .func (.func F) #[] caps] w fun e w' => (∃ i, e = .returned (.int .i64 i) ∧ ((i = -1 ∧ ∀ x ∈ xs, p x = false) ∨ ∃ (k : Nat) (r : Pos), i = k ∧ xs[k]? = some r ∧ p r = true ∧ ∀ x ∈ xs.take k, p x = false)) ∧ Below w.heap.size w w' := by
  subst hm
  have hw := Below.refl w.heap.size w
  have hla := HS.le
  have hma := HS.max
  refine fn_enter 19 Tryz.func48 rfl rfl rfl ?_
  repeat' (first | (refine lw_pure rfl (pv_move rfl) ?_) | (refine lw_pure rfl (pv_assign rfl) ?_) | (refine is_cw ?_; first | (refine cw_seq ?_) | (refine cw_region ?_) | (refine cw_block ?_)) | (refine is_qw ?_; first | (with_reducible refine qw_then ?_)) | (refine lw_nil ?_) | ((refine is_bi ?_; first | (refine lw_pure rfl (pv_lenl (tS rfl) rfl) ?_))))
  refine cw_loop (σ := Nat) (fun k => [(0, .slice ad xs.length cap), (1, .func (.func F) #[] caps), (7, .int .i64 (xs.length : Nat)), (8, .int .i64 (k : Nat))]) (fun k wr => k ≤ xs.length ∧ Below w.heap.size w wr ∧ ∀ x ∈ xs.take k, p x = false) (fun k => xs.length - k) 0 (by repeat' (first | exact trivial | refine ⟨rfl, ?_⟩)) ⟨Nat.zero_le _, hw, by simp⟩ ?_
  clear hw
  rintro k wr ⟨hk, hw, hn⟩
  by_cases hlt : k < xs.length
  · have hxk : xs[k]? = some xs[k] := List.getElem?_eq_getElem hlt
    have hmem := List.getElem_mem hlt
    obtain ⟨ab, ao, rfl, -, -⟩ := HS.at (by intro h; rw [h] at hlt; simp at hlt)
    generalize xs[k] = x at hxk hmem
    repeat' (first | (refine lw_pure rfl (pv_move rfl) ?_) | (refine lw_pure rfl (pv_assign rfl) ?_) | (refine is_cw ?_; first | (refine cw_seq ?_) | (refine cw_region ?_) | (refine is_cd ?_; refine cw_true rfl (by first | assumption | exact decide_eq_true (by omega) | exact dec_notT (by omega)) ?_) | (refine cw_skip ?_) | (refine cw_block ?_)) | (refine is_qw ?_; first | (with_reducible refine qw_then ?_)) | (refine lw_nil ?_) | ((refine is_bin ?_; first | (refine lw_pure rfl (pv_lss rfl rfl) ?_))) | ((refine is_load ?_; first | (refine lw_pure rfl (pv_loada (tA rfl) rfl (by first | exact SlR.lda (HS.mono hw) hxk) (by rfl)) ?_))) | ((refine is_ia ?_; first | (refine lw_pure rfl (pv_ian (tS rfl) rfl rfl (by omega)) ?_))))
    refine lw_callv (f := F) rfl he rfl rfl (hF x hmem _ (hw.mono hbw)) ?_; rintro e w1 ⟨rfl, hb⟩; refine ⟨_, rfl, ?_⟩; replace hw := grow_trans hw hb; clear hb
    cases hp : p x with
    | true =>
      repeat' (first | (refine lw_pure rfl (pv_move rfl) ?_) | (refine lw_pure rfl (pv_assign rfl) ?_) | (refine is_cw ?_; first | (refine cw_seq ?_) | (refine cw_region ?_) | (refine cw_true rfl rfl ?_) | (refine cw_ret ?_)) | (refine is_qw ?_; first | (with_reducible refine qw_then ?_) | (with_reducible refine qw_then_ret ?_) | (with_reducible refine qw_in_ret ?_)) | (refine lw_nil ?_))
      exact qw_ret1 rfl rfl ⟨⟨_, rfl, Or.inr ⟨k, x, rfl, hxk, hp, hn⟩⟩, hw⟩
    | false =>
      repeat' (first | (refine lw_pure rfl (pv_move rfl) ?_) | (refine is_cw ?_; first | (refine cw_region ?_) | (refine cw_false rfl rfl ?_) | (refine cw_skip ?_)) | (refine is_qw ?_; first | (with_reducible refine qw_then ?_) | (with_reducible refine qw_in ?_)) | (refine lw_nil ?_) | ((refine is_bin ?_; first | (refine lw_pure rfl (pv_inc rfl rfl (by omega)) ?_))))
      refine qw_round (k + 1) (by repeat' (first | exact trivial | refine ⟨rfl, ?_⟩)) ⟨by omega, hw, ?_⟩ (by omega)
      intro y hy
      rw [List.take_add_one, hxk] at hy
      rcases List.mem_append.1 hy with hy | hy
      · exact hn y hy
      · simp at hy; subst hy; exact hp
  · have hkl : k = xs.length := by omega
    subst hkl
    rw [List.take_length] at hn
    repeat' (first | (refine lw_pure rfl (pv_assign rfl) ?_) | (refine is_cw ?_; first | (refine cw_seq ?_) | (refine cw_region ?_) | (refine is_cd ?_; refine cw_false rfl (by first | assumption | exact decide_eq_false (by omega) | exact dec_notF (by omega)) ?_) | (refine cw_exit ?_) | (refine cw_ret ?_)) | (refine is_qw ?_; first | (with_reducible refine qw_then ?_) | (with_reducible refine qw_in_hit ?_) | (with_reducible refine qw_then_exit ?_)) | (refine lw_nil ?_) | ((refine is_bin ?_; first | (refine lw_pure rfl (pv_lss rfl rfl) ?_))))
    exact qw_ret1 rfl rfl ⟨⟨_, rfl, Or.inl ⟨rfl, hn⟩⟩, hw⟩

set_option maxRecDepth 20000 in
theorem clone_S {xs : List Pos} {m : Nat} {ad : Option Addr} {cap : Nat} {w : World} (hm : xs.length = m) (HS : SlR encS 6 w ad cap xs) (hl : xs.length ≤ 1048576) : Calls Tryz.prog 44 #[.slice ad m cap] w fun e w' => (∃ v, e = .returned v ∧ Own encS 6 39 w.heap.size w' v xs) ∧ Below w.heap.size w w' := by
  subst hm
  have hw := Below.refl w.heap.size w
  refine fn_enter 8 Tryz.func44 rfl rfl rfl ?_
  cases ad with
  | none =>
    obtain ⟨rfl, rfl⟩ := HS.ofNone rfl
    repeat' (first | (refine lw_pure rfl (pv_move rfl) ?_) | (refine lw_pure rfl (pv_assign rfl) ?_) | (refine lw_pure rfl (pv_slnil (tS rfl) rfl rfl) ?_) | (refine is_cw ?_; first | (refine cw_seq ?_) | (refine cw_region ?_) | (refine cw_true rfl rfl ?_) | (refine cw_ret ?_)) | (refine is_qw ?_; first | (with_reducible refine qw_then ?_) | (with_reducible refine qw_then_ret ?_)) | (refine lw_nil ?_))
    exact qw_ret1 rfl rfl ⟨⟨_, rfl, Own.nil _⟩, hw⟩
  | some ad =>
    repeat' (first | (refine lw_pure rfl (pv_move rfl) ?_) | (refine lw_pure rfl (pv_assign rfl) ?_) | (refine lw_pure rfl (pv_slnil (tS rfl) rfl rfl) ?_) | (refine is_cw ?_; first | (refine cw_seq ?_) | (refine cw_region ?_) | (refine cw_false rfl rfl ?_) | (refine cw_skip ?_)) | (refine is_qw ?_; first | (with_reducible refine qw_then ?_)) | (refine lw_nil ?_))
    refine lw_bs0 (enc := encS) elemS rfl ?_; intro wn hO hb hz
    repeat' (first | (refine lw_pure rfl (pv_move rfl) ?_))
    refine lw_app elemS encS_len encS_one rfl rfl rfl hO (HS.mono (grow_trans hw hb)) rfl (by omega) (by simp; omega) (by simp [maxLen]; omega) ?_; intro vm wn hOm hg hb9
    replace hb := hb.trans hb9
    repeat' (first | (refine lw_pure rfl (pv_assign rfl) ?_) | (refine is_cw ?_; first | (refine cw_ret ?_)) | (refine is_qw ?_; first | (with_reducible refine qw_then ?_)) | (refine lw_nil ?_))
    exact qw_ret1 rfl rfl ⟨⟨_, rfl, hOm⟩, hb⟩

theorem neq_S (x y : Pos) (w : World) : (binOp .neq 39 (.agg (encS x).toArray) (.agg (encS y).toArray)).run Tryz.prog w = .ok (.bool (!decide (x = y))) w := by
  have hS : (Tryz.prog).underlying 39 = some (.struct ((Tryz.prog).fieldsOf 39)) := by kernel_rfl
  have hp : (Tryz.prog).stoodInHeld 39 = false := by kernel_rfl
  unfold encS
  rw [run_neq_struct, show (10000 : Nat) = 9999 + 1 from rfl, run_equalIn_agg w 9999 39 _ _ hS hp]
  have h : (decide (x = y)) = (x.acct == y.acct && (x.inst == y.inst && (x.bought == y.bought && (x.sold == y.sold && (x.spent == y.spent && x.got == y.got))))) := by
    rw [Bool.eq_iff_iff]
    cases x; cases y; simp
  rw [h]
  simp only [Program.fieldsOf, Tryz.underlying39]
  go_simp
  by_cases h1 : x.acct = y.acct <;> by_cases h2 : x.inst = y.inst <;> by_cases h3 : x.bought = y.bought <;> by_cases h4 : x.sold = y.sold <;> by_cases h5 : x.spent = y.spent <;> by_cases h6 : x.got = y.got <;> simp [*]
theorem eql_S (x y : Pos) (w : World) : (binOp .eql 39 (.agg (encS x).toArray) (.agg (encS y).toArray)).run Tryz.prog w = .ok (.bool (decide (x = y))) w := by
  have hS : (Tryz.prog).underlying 39 = some (.struct ((Tryz.prog).fieldsOf 39)) := by kernel_rfl
  have hp : (Tryz.prog).stoodInHeld 39 = false := by kernel_rfl
  unfold encS
  rw [run_eql_struct, show (10000 : Nat) = 9999 + 1 from rfl, run_equalIn_agg w 9999 39 _ _ hS hp]
  have h : (decide (x = y)) = (x.acct == y.acct && (x.inst == y.inst && (x.bought == y.bought && (x.sold == y.sold && (x.spent == y.spent && x.got == y.got))))) := by
    rw [Bool.eq_iff_iff]
    cases x; cases y; simp
  rw [h]
  simp only [Program.fieldsOf, Tryz.underlying39]
  go_simp
  by_cases h1 : x.acct = y.acct <;> by_cases h2 : x.inst = y.inst <;> by_cases h3 : x.bought = y.bought <;> by_cases h4 : x.sold = y.sold <;> by_cases h5 : x.spent = y.spent <;> by_cases h6 : x.got = y.got <;> simp [*]
theorem pv_neqS {n : Nat} {l : Fr} {w : World} {d : Option Nat} {t' ty : TypeId} {x y : Operand} {pos : String} {af : Array Edge} {g : Option (Nat × Bool)} (a b : Pos) (hx : ev l x = some (.agg (encS a).toArray)) (hy : ev l y = some (.agg (encS b).toArray)) : Pv Tryz.prog n l ⟨d, .binOp .neq 39 x y t', ty, pos, af, g⟩ (.bool (!decide (a = b))) w := ⟨fun A hA => by
  have h1 : (eqGuard .neq 39 x y (.agg (encS a).toArray) (.agg (encS b).toArray)).run Tryz.prog w = .ok () w := run_eqGuard_agg w .neq 39 x y _ _ (by kernel_rfl)
  have h2 := neq_S a b w
  simp [execOp, hA.ev hx, hA.ev hy, h1, h2]⟩
theorem pv_eqlS {n : Nat} {l : Fr} {w : World} {d : Option Nat} {t' ty : TypeId} {x y : Operand} {pos : String} {af : Array Edge} {g : Option (Nat × Bool)} (a b : Pos) (hx : ev l x = some (.agg (encS a).toArray)) (hy : ev l y = some (.agg (encS b).toArray)) : Pv Tryz.prog n l ⟨d, .binOp .eql 39 x y t', ty, pos, af, g⟩ (.bool (decide (a = b))) w := ⟨fun A hA => by
  have h1 : (eqGuard .eql 39 x y (.agg (encS a).toArray) (.agg (encS b).toArray)).run Tryz.prog w = .ok () w := run_eqGuard_agg w .eql 39 x y _ _ (by kernel_rfl)
  have h2 := eql_S a b w
  simp [execOp, hA.ev hx, hA.ev hy, h1, h2]⟩

set_option maxRecDepth 20000 in
theorem total_c (n : Int) (w : World) : Calls Tryz.prog 57 #[.int .i64 n] w fun e w' => e = .returned (.bool (decide (NumS n))) ∧ w = w' := by
  refine fn_enter 9 Tryz.func57 rfl rfl rfl ?_
  repeat' (first | (refine lw_pure rfl (pv_move rfl) ?_) | (refine lw_pure rfl (pv_assign rfl) ?_) | (refine is_cw ?_; first | (refine cw_seq ?_) | (refine cw_region ?_) | (refine cw_ret ?_)) | (refine is_qw ?_; first | (with_reducible refine qw_then ?_)) | (refine lw_nil ?_) | (refine is_guarded ?_; first | (refine lw_on rfl rfl (by first | assumption | exact decide_eq_true (by omega) | exact decide_eq_false (by omega) | exact dec_notT (by omega) | exact dec_notF (by omega)) ?_) | (refine lw_not rfl rfl rfl (by first | assumption | exact decide_eq_true (by omega) | exact decide_eq_false (by omega) | exact dec_notT (by omega) | exact dec_notF (by omega)) ?_) | (refine lw_gs_t rfl rfl rfl (fun hc => ?_) (fun hc => ?_) <;> (first | replace hc := of_decide_eq_true hc | replace hc := of_decide_eq_false hc | replace hc := dec_nT hc | replace hc := dec_nF hc | skip) <;> (try (exfalso; omega)))) | ((refine is_bin ?_; first | (refine lw_pure rfl (pv_leq rfl rfl) ?_) | (refine lw_pure rfl (pv_geq rfl rfl) ?_))) | (refine is_pk ?_; refine lw_pure rfl (pv_pick_t rfl (by first | assumption | exact decide_eq_true (by omega) | exact dec_notT (by omega)) rfl) ?_) | (refine is_pk ?_; refine lw_pure rfl (pv_pick_f rfl (by first | assumption | exact decide_eq_false (by omega) | exact dec_notF (by omega)) rfl) ?_))
  all_goals (refine qw_ret1 rfl rfl ⟨ret_bool ?_, rfl⟩; first | (rw [decide_eq_decide]; unfold NumS farS; omega) | (symm; rw [decide_eq_true_eq]; unfold NumS farS; omega) | (symm; rw [decide_eq_false_iff_not]; unfold NumS farS; omega))
theorem rowS_or (x y : Pos) : orI (cmpI x.acct y.acct) (cmpI x.inst y.inst) = rowS x y := rfl
set_option maxRecDepth 20000 in
theorem comp_d (x y : Pos) (w : World) : Calls Tryz.prog 58 #[.agg (encS x).toArray, .agg (encS y).toArray] w fun e w' => e = .returned (.int .i64 (rowS x y)) ∧ BelowD w w' := by
  have hE := BelowD.refl w
  refine fn_enter 17 Tryz.func58 rfl rfl rfl ?_
  refine cw_seq (cw_region ?_)
  refine lw_boxD rfl rfl (cs := encS x) rfl ?_; intro N1 wn hN1 HA hb
  replace hE := hE.trans hb
  refine lw_boxD rfl rfl (cs := encS y) rfl ?_; intro N2 wm hN2 HB hb2
  replace HA := HA.mono hb2.b
  replace hE := hE.trans hb2
  have hd := BelowD.refl wm
  have hw := hd.b
  repeat' (first | (refine lw_pure rfl (pv_assign rfl) ?_) | (refine is_cw ?_; first | (refine cw_seq ?_)) | (refine is_qw ?_; first | (with_reducible refine qw_then ?_)) | (refine lw_nil ?_))
  refine cw_drawn (fun w' => BelowD wm w') (by kernel_rfl) (by repeat (first | exact NoPanic.body | with_reducible refine NoPanic.then ?_ | with_reducible refine NoPanic.inBlock ?_)) (fun hNP => ?_)
  have hS := hd.drew
  (refine at0 0 rfl (fun w' hq => pv_fa (tF rfl) rfl) ?_)
  (refine at0 1 rfl (fun w' hq => pv_load (t1 rfl) rfl (by first | exact PT.ld0 (HA.mono hq.b) rfl | exact PT.ld (HA.mono hq.b) rfl | exact PT.ld0 (HB.mono hq.b) rfl | exact PT.ld (HB.mono hq.b) rfl)) ?_)
  (refine at0 2 rfl (fun w' hq => pv_fa (tF rfl) rfl) ?_)
  (refine at0 3 rfl (fun w' hq => pv_load (t1 rfl) rfl (by first | exact PT.ld0 (HA.mono hq.b) rfl | exact PT.ld (HA.mono hq.b) rfl | exact PT.ld0 (HB.mono hq.b) rfl | exact PT.ld (HB.mono hq.b) rfl)) ?_)
  (refine at0 5 rfl (fun w' hq => pv_fa (tF rfl) rfl) ?_)
  (refine at0 6 rfl (fun w' hq => pv_load (t1 rfl) rfl (by first | exact PT.ld0 (HA.mono hq.b) rfl | exact PT.ld (HA.mono hq.b) rfl | exact PT.ld0 (HB.mono hq.b) rfl | exact PT.ld (HB.mono hq.b) rfl)) ?_)
  (refine at0 7 rfl (fun w' hq => pv_fa (tF rfl) rfl) ?_)
  (refine at0 8 rfl (fun w' hq => pv_load (t1 rfl) rfl (by first | exact PT.ld0 (HA.mono hq.b) rfl | exact PT.ld (HA.mono hq.b) rfl | exact PT.ld0 (HB.mono hq.b) rfl | exact PT.ld (HB.mono hq.b) rfl)) ?_)
  refine aw_act 4 (by kernel_rfl) rfl rfl rfl ?_
  refine act_call (f := 92) (by kernel_rfl) rfl (cmp_c _ _ _) ?_; rintro e w1 ⟨rfl, rfl⟩; refine ⟨_, rfl, hS, fun hS => ?_⟩
  refine aw_act 9 (by kernel_rfl) rfl rfl rfl ?_
  refine act_call (f := 92) (by kernel_rfl) rfl (cmp_c _ _ _) ?_; rintro e w1 ⟨rfl, rfl⟩; refine ⟨_, rfl, hS, fun hS => ?_⟩
  refine aw_act 10 (by kernel_rfl) rfl rfl rfl ?_
  refine act_bsD (vs := [.int .i64 (cmpI x.acct y.acct), .int .i64 (cmpI x.inst y.inst)]) (cs := [.int .i64 (cmpI x.acct y.acct), .int .i64 (cmpI x.inst y.inst)]) elemN rfl rfl (by omega) (by omega) rfl (by simp [Value.cells]) rfl ?_; intro wb HC hb; refine ⟨hS.trans hb, fun hS => ?_⟩
  refine aw_act 11 (by kernel_rfl) rfl rfl rfl ?_
  refine act_call (f := 91) (by kernel_rfl) rfl (or_c _ _ _ _ HC) ?_; rintro e w1 ⟨rfl, rfl⟩; refine ⟨_, rfl, hS, fun hS => ?_⟩
  (refine at0 12 rfl (fun w' hq => pv_assign rfl) ?_)
  refine aw_done (by kernel_rfl) ?_
  replace hd := hS; have hw := hd.b; clear hS hNP
  repeat' (first | (refine is_cw ?_; first | (refine cw_ret ?_)) | (refine is_qw ?_; first | (with_reducible refine qw_then ?_)))
  exact qw_ret1 rfl rfl ⟨rfl, hE.trans hd⟩
theorem comp_c (x y : Pos) (w : World) : Calls Tryz.prog 58 #[.agg (encS x).toArray, .agg (encS y).toArray] w fun e w' => e = .returned (.int .i64 (rowS x y)) ∧ Below w.heap.size w w' := (comp_d x y w).mono fun _ _ h => ⟨h.1, h.2.b⟩
theorem comp_e {x y : Pos} {r : Int} (h : rowS x y = r) (w : World) : Calls Tryz.prog 58 #[.agg (encS x).toArray, .agg (encS y).toArray] w fun e w' => e = .returned (.int .i64 r) ∧ Below w.heap.size w w' := by subst h; exact comp_c x y w
set_option maxRecDepth 20000 in
theorem equal_S {p q : List Pos} {m n : Nat} {a b : Option Addr} {ca cb : Nat} {w : World} (hm : p.length = m) (hn : q.length = n) (HP : SlR encS 6 w a ca p) (HQ : SlR encS 6 w b cb q) : Calls Tryz.prog 59 #[.slice a m ca, .slice b n cb] w fun e w' => e = .returned (.bool (decide (p = q))) ∧ Below w.heap.size w w' := by
  subst hm hn
  have hw := Below.refl w.heap.size w
  have hca := HP.le
  have hcm := HP.max
  refine fn_enter 26 Tryz.func59 rfl rfl rfl ?_
  by_cases hl : p.length = q.length
  · repeat' ((fail_if_success (refine is_seqb ?_)); (fail_if_success (refine is_blk ?_)); first | (refine lw_pure rfl (pv_move rfl) ?_) | (refine lw_pure rfl (pv_assign rfl) ?_) | (refine is_cw ?_; first | (refine cw_seq ?_) | (refine cw_region ?_) | (refine is_cd ?_; refine cw_false rfl (by first | assumption | exact decide_eq_false (by omega) | exact dec_notF (by omega)) ?_) | (refine cw_skip ?_)) | (refine is_qw ?_; first | (with_reducible refine qw_then ?_)) | (refine lw_nil ?_) | ((refine is_bin ?_; first | (refine lw_pure rfl (pv_neq rfl rfl) ?_))) | ((refine is_bi ?_; first | (refine lw_pure rfl (pv_lenl (tS rfl) rfl) ?_))))
    repeat' (first | (refine is_cw ?_; first | (refine cw_block ?_)))
    refine cw_loop (σ := Nat) (fun k => [(0, .slice a p.length ca), (1, .slice b q.length cb), (12, .int .i64 (p.length : Nat)), (13, .int .i64 (k : Nat))]) (fun k wr => k ≤ p.length ∧ Below w.heap.size w wr ∧ ∀ j, j < k → p[j]? = q[j]?) (fun k => p.length - k) 0 (by repeat' (first | exact trivial | refine ⟨rfl, ?_⟩)) ⟨Nat.zero_le _, hw, by omega⟩ ?_
    clear hw
    rintro k wr ⟨hk, hw, hn⟩
    by_cases hlt : k < p.length
    · have hxk : p[k]? = some p[k] := List.getElem?_eq_getElem hlt
      have hyk : q[k]? = some (q[k]'(by omega)) := List.getElem?_eq_getElem _
      obtain ⟨ab, ao, rfl, -, -⟩ := HP.at (by intro h; rw [h] at hlt; simp at hlt)
      obtain ⟨bb, bo, rfl, -, -⟩ := HQ.at (by intro h; rw [h] at hl; rw [hl] at hlt; simp at hlt)
      generalize p[k] = x at hxk
      generalize q[k] = y at hyk
      repeat' (first | (refine lw_pure rfl (pv_move rfl) ?_) | (refine lw_pure rfl (pv_assign rfl) ?_) | (refine is_cw ?_; first | (refine cw_seq ?_) | (refine cw_region ?_) | (refine is_cd ?_; refine cw_true rfl (by first | assumption | exact decide_eq_true (by omega) | exact dec_notT (by omega)) ?_) | (refine cw_skip ?_) | (refine cw_block ?_)) | (refine is_qw ?_; first | (with_reducible refine qw_then ?_)) | (refine lw_nil ?_) | ((refine is_bin ?_; first | (refine lw_pure rfl (pv_lss rfl rfl) ?_))))
      refine cw_drawn (fun w' => Below w.heap.size w w') (by kernel_rfl) (by repeat (first | exact NoPanic.body | with_reducible refine NoPanic.then ?_ | with_reducible refine NoPanic.inBlock ?_)) (fun hNP => ?_)
      have hS := hw.drew
      (refine at0 0 rfl (fun w' hq => pv_move rfl) ?_)
      (refine at0 1 rfl (fun w' hq => pv_move rfl) ?_)
      (refine at0 2 rfl (fun w' hq => pv_ian (tS rfl) rfl rfl (by omega)) ?_)
      (refine at0 3 rfl (fun w' hq => pv_loada (tA rfl) rfl (by first | exact SlR.lda (HP.mono hq) hxk | exact SlR.lda (HQ.mono hq) hyk) (by rfl)) ?_)
      (refine at0 4 rfl (fun w' hq => pv_move rfl) ?_)
      (refine at0 5 rfl (fun w' hq => pv_move rfl) ?_)
      (refine at0 6 rfl (fun w' hq => pv_ian (tS rfl) rfl rfl (by omega)) ?_)
      (refine at0 7 rfl (fun w' hq => pv_loada (tA rfl) rfl (by first | exact SlR.lda (HP.mono hq) hxk | exact SlR.lda (HQ.mono hq) hyk) (by rfl)) ?_)
      (refine at0 8 rfl (fun w' hq => pv_neqS _ _ rfl rfl) ?_)
      refine aw_done (by kernel_rfl) ?_
      replace hw := hS; clear hS hNP
      by_cases hxy : x = y
      · repeat' (first | (refine lw_pure rfl (pv_move rfl) ?_) | (refine is_cw ?_; first | (refine cw_region ?_) | (refine is_cd ?_; refine cw_false rfl (by first | assumption | exact decide_eq_false (by omega) | exact dec_notF (by omega)) ?_) | (refine cw_skip ?_)) | (refine is_qw ?_; first | (with_reducible refine qw_then ?_) | (with_reducible refine qw_in ?_)) | (refine lw_nil ?_) | ((refine is_bin ?_; first | (refine lw_pure rfl (pv_inc rfl rfl (by omega)) ?_))))
        refine qw_round (k + 1) (by repeat' (first | exact trivial | refine ⟨rfl, ?_⟩)) ⟨by omega, hw, ?_⟩ (by omega)
        intro j hj
        by_cases hjk : j = k
        · subst hjk; rw [hxk, hyk, hxy]
        · exact hn j (by omega)
      · repeat' (first | (refine lw_pure rfl (pv_assign rfl) ?_) | (refine is_cw ?_; first | (refine cw_seq ?_) | (refine cw_region ?_) | (refine is_cd ?_; refine cw_true rfl (by first | assumption | exact decide_eq_true (by omega) | exact dec_notT (by omega)) ?_) | (refine cw_ret ?_)) | (refine is_qw ?_; first | (with_reducible refine qw_then ?_) | (with_reducible refine qw_then_ret ?_) | (with_reducible refine qw_in_ret ?_)) | (refine lw_nil ?_))
        refine qw_ret1 rfl rfl ⟨ret_bool ?_, hw⟩
        symm; rw [decide_eq_false_iff_not]; rintro rfl
        rw [hxk] at hyk; injection hyk with hyk; exact hxy hyk
    · have hkl : k = p.length := by omega
      subst hkl
      have he : p = q := List.ext_getElem? fun j => by
        by_cases hj : j < p.length
        · exact hn j hj
        · rw [List.getElem?_eq_none (by omega), List.getElem?_eq_none (by omega)]
      repeat' (first | (refine lw_pure rfl (pv_assign rfl) ?_) | (refine is_cw ?_; first | (refine cw_seq ?_) | (refine cw_region ?_) | (refine is_cd ?_; refine cw_false rfl (by first | assumption | exact decide_eq_false (by omega) | exact dec_notF (by omega)) ?_) | (refine cw_exit ?_) | (refine cw_ret ?_)) | (refine is_qw ?_; first | (with_reducible refine qw_then ?_) | (with_reducible refine qw_in_hit ?_) | (with_reducible refine qw_then_exit ?_)) | (refine lw_nil ?_) | ((refine is_bin ?_; first | (refine lw_pure rfl (pv_lss rfl rfl) ?_))))
      exact qw_ret1 rfl rfl ⟨ret_bool (by simp [he]), hw⟩
  · repeat' (first | (refine lw_pure rfl (pv_move rfl) ?_) | (refine lw_pure rfl (pv_assign rfl) ?_) | (refine is_cw ?_; first | (refine cw_seq ?_) | (refine cw_region ?_) | (refine is_cd ?_; refine cw_true rfl (by first | assumption | exact decide_eq_true (by omega) | exact dec_notT (by omega)) ?_) | (refine cw_ret ?_)) | (refine is_qw ?_; first | (with_reducible refine qw_then ?_) | (with_reducible refine qw_then_ret ?_)) | (refine lw_nil ?_) | ((refine is_bin ?_; first | (refine lw_pure rfl (pv_neq rfl rfl) ?_))) | ((refine is_bi ?_; first | (refine lw_pure rfl (pv_lenl (tS rfl) rfl) ?_))))
    exact qw_ret1 rfl rfl ⟨ret_bool (by symm; rw [decide_eq_false_iff_not]; rintro rfl; exact hl rfl), hw⟩
set_option maxRecDepth 20000 in
theorem same_S {p q : List Pos} {m n : Nat} {a b : Option Addr} {ca cb : Nat} {w : World} (hm : p.length = m) (hn : q.length = n) (HP : SlR encS 6 w a ca p) (HQ : SlR encS 6 w b cb q) : Calls Tryz.prog 38 #[.slice a m ca, .slice b n cb] w fun e w' => e = .returned (.bool (decide (p = q))) ∧ Below w.heap.size w w' := by
  have hw := Below.refl w.heap.size w
  refine fn_enter 8 Tryz.func38 rfl rfl rfl ?_
  repeat' (first | (refine lw_pure rfl (pv_move rfl) ?_) | (refine lw_pure rfl (pv_assign rfl) ?_) | (refine lw_call (f := 59) (by kernel_rfl) rfl rfl (equal_S hm hn (HP.mono hw) (HQ.mono hw)) ?_; rintro e w1 ⟨rfl, hb⟩; refine ⟨_, rfl, ?_⟩; replace hw := grow_trans hw hb; clear hb) | (refine is_cw ?_; first | (refine cw_seq ?_) | (refine cw_region ?_) | (refine cw_ret ?_)) | (refine is_qw ?_; first | (with_reducible refine qw_then ?_)) | (refine lw_nil ?_))
  exact qw_ret1 rfl rfl ⟨rfl, hw⟩
theorem same_t {p : List Pos} {m n : Nat} {a b : Option Addr} {ca cb : Nat} {w : World} (hm : p.length = m) (hn : p.length = n) (HP : SlR encS 6 w a ca p) (HQ : SlR encS 6 w b cb p) : Calls Tryz.prog 38 #[.slice a m ca, .slice b n cb] w fun e w' => e = .returned (.bool true) ∧ Below w.heap.size w w' := (same_S hm hn HP HQ).mono fun _ _ h => ⟨by rw [h.1]; simp, h.2⟩
set_option maxRecDepth 20000 in
theorem getF_c (o : Pos) (a i : Int) (N M : Nat) (w : World) (h : PT w N 3 [.int .i64 a]) (h2 : PT w M 3 [.int .i64 i]) : Calls Tryz.prog 49 #[.agg (encS o).toArray, .pointer (some ⟨N, 0, none⟩), .pointer (some ⟨M, 0, none⟩)] w fun e w' => e = .returned (.bool (hasS a i o)) ∧ Below w.heap.size w w' := by
  have hE := Ext.refl w
  have hw := Below.refl w.heap.size w
  refine fn_enter 15 Tryz.func49 rfl rfl rfl ?_
  repeat' (first | (refine is_cw ?_; first | (refine cw_seq ?_) | (refine cw_region ?_)))
  refine lw_boxN rfl rfl (cs := encS o) rfl ?_; intro N1 wn hN HA hb
  replace hw := grow_trans hw hb
  clear hb
  replace hE := hE.mono hw; replace h := h.mono hw; replace h2 := h2.mono hw; clear hw; have hw := Below.refl wn.heap.size wn
  repeat' (first | (refine lw_pure rfl (pv_move rfl) ?_) | (refine lw_pure rfl (pv_assign rfl) ?_) | (refine is_cw ?_; first | (refine cw_seq ?_) | (refine cw_region ?_) | (refine cw_ret ?_)) | (refine is_qw ?_; first | (with_reducible refine qw_then ?_)) | (refine lw_nil ?_) | (refine is_guarded ?_; first | (refine lw_on rfl rfl (by first | assumption | exact decide_eq_true (by omega) | exact decide_eq_false (by omega) | exact dec_notT (by omega) | exact dec_notF (by omega)) ?_) | (refine lw_not rfl rfl rfl (by first | assumption | exact decide_eq_true (by omega) | exact decide_eq_false (by omega) | exact dec_notT (by omega) | exact dec_notF (by omega)) ?_) | (refine lw_gs_t rfl rfl rfl (fun hc => ?_) (fun hc => ?_) <;> (first | replace hc := of_decide_eq_true hc | replace hc := of_decide_eq_false hc | replace hc := dec_nT hc | replace hc := dec_nF hc | skip) <;> (try (exfalso; omega)))) | ((refine is_bin ?_; first | (refine lw_pure rfl (pv_eql rfl rfl) ?_))) | ((refine is_load ?_; first | (refine lw_pure rfl (pv_load (t1 rfl) rfl (by first | exact PT.ld0 (HA.mono hw) rfl | exact PT.ld (HA.mono hw) rfl | exact PT.ld0 (h.mono hw) rfl | exact PT.ld (h.mono hw) rfl | exact PT.ld0 (h2.mono hw) rfl | exact PT.ld (h2.mono hw) rfl)) ?_))) | ((refine is_fa ?_; first | (refine lw_pure rfl (pv_fa (tF rfl) rfl) ?_))) | (refine is_pk ?_; refine lw_pure rfl (pv_pick_t rfl (by first | assumption | exact decide_eq_true (by omega) | exact dec_notT (by omega)) rfl) ?_) | (refine is_pk ?_; refine lw_pure rfl (pv_pick_f rfl (by first | assumption | exact decide_eq_false (by omega) | exact dec_notF (by omega)) rfl) ?_))
  all_goals (refine qw_ret1 rfl rfl ⟨ret_bool ?_, (hE.mono hw).b⟩; unfold hasS; first | (rw [decide_eq_decide]; omega) | (symm; rw [decide_eq_true_eq]; omega) | (symm; rw [decide_eq_false_iff_not]; omega))
set_option maxRecDepth 20000 in
theorem get_c {l : List Pos} {m : Nat} {a : Option Addr} {ca : Nat} {w : World} (ac i : Int) (hm : l.length = m) (HP : SlR encS 6 w a ca l) : Calls Tryz.prog 18 #[.slice a m ca, .int .i64 ac, .int .i64 i] w fun e w' => e = .returned (.agg (encS (getS l ac i)).toArray) ∧ Below w.heap.size w w' := by
  subst hm
  have hE := Ext.refl w
  have hw := Below.refl w.heap.size w
  have hca := HP.le
  have hcm := HP.max
  refine fn_enter 20 Tryz.func18 rfl rfl rfl ?_
  repeat' (first | (refine is_cw ?_; first | (refine cw_seq ?_) | (refine cw_region ?_)))
  refine lw_boxN rfl rfl (cs := [.int .i64 ac]) rfl ?_; intro N1 w1 hN1 HA hb
  replace hw := grow_trans hw hb
  clear hb
  refine lw_boxN rfl rfl (cs := [.int .i64 i]) rfl ?_; intro N2 w2 hN2 HB hb
  replace HA := HA.mono hb
  replace hw := grow_trans hw hb
  clear hb
  refine lw_allocN rfl (by first | exact tyv_27 | exact tyv_28 | exact tyv_38 | exact tyv_39 | exact tyv_48 | exact tyv_49 | exact tyv_52 | exact tyv_53 | exact tyv_68 | exact tyv_69 | exact tyv_79 | exact tyv_80 | exact tyv_94 | exact tyv_95 | exact tyv_131 | exact tyv_132) rfl ?_; intro N3 w3 hN3 H hb
  replace hN3 : w.heap.size ≤ N3 := Nat.le_trans hw.size hN3
  replace HA := HA.mono hb
  replace HB := HB.mono hb
  replace hw := grow_trans hw hb
  clear hb
  replace hE := hE.mono hw; replace HP := HP.mono hw; clear hw; have hw := Below.refl w3.heap.size w3
  repeat' (first | (refine lw_pure rfl (pv_move rfl) ?_) | (refine is_cw ?_; first | (refine cw_seq ?_) | (refine cw_region ?_)) | (refine is_qw ?_; first | (with_reducible refine qw_then ?_)) | (refine lw_nil ?_) | (refine lw_pure rfl (pv_makeFunc rfl rfl) ?_))
  refine lw_call (f := 48) (by kernel_rfl) rfl rfl (indexf_S w3.heap.size (hasS ac i) 49 #[.pointer (some ⟨N1, 0, none⟩), .pointer (some ⟨N2, 0, none⟩)] (by kernel_rfl) (Nat.le_refl _) (fun x _ w' hb => by simpa using getF_c x ac i N1 N2 w' (HA.mono hb) (HB.mono hb)) rfl HP) ?_; rintro e w4 ⟨⟨j, rfl, hi⟩, hb⟩; refine ⟨_, rfl, ?_⟩
  replace hE := hE.mono hb
  replace HP := HP.mono hb
  replace HA := HA.mono hb
  replace HB := HB.mono hb
  replace H := H.mono hb
  clear hb hw
  have hw := Below.refl w4.heap.size w4
  rcases hi with ⟨rfl, hn⟩ | ⟨k, r, rfl, hxk, hr, hn⟩
  · have hf : getS l ac i = zS ac i := by unfold getS findS; rw [find_none hn]; rfl
    rw [hf]
    repeat' (first | (refine lw_pure rfl (pv_move rfl) ?_) | (refine lw_pure rfl (pv_assign rfl) ?_) | (refine is_cw ?_; first | (refine cw_seq ?_) | (refine cw_region ?_) | (refine cw_true rfl rfl ?_)) | (refine is_qw ?_; first | (with_reducible refine qw_then ?_)) | (refine lw_nil ?_) | ((refine is_bin ?_; first | (refine lw_pure rfl (pv_lss rfl rfl) ?_))) | ((refine is_load ?_; first | (refine lw_pure rfl (pv_load (t1 rfl) rfl (by first | exact PT.ld0 (HA.mono hw) rfl | exact PT.ld (HA.mono hw) rfl | exact PT.ld0 (HB.mono hw) rfl | exact PT.ld (HB.mono hw) rfl)) ?_))) | ((refine is_bd ?_; first | (refine lw_pure rfl (tyB_39 rfl rfl rfl) ?_))))
    refine lw_storea (vs := encS (zS ac i)) H (tZ rfl) rfl rfl rfl rfl (encS_one _) ?_; intro w5 H2 hg hz
    replace hE := hE.grown hg (by intro q hq; injection hq with hq; omega)
    have hw := Below.refl w5.heap.size w5
    repeat' (first | (refine is_cw ?_; first | (refine cw_ret ?_)) | (refine is_qw ?_; first | (with_reducible refine qw_then ?_) | (with_reducible refine qw_then_ret ?_)) | (refine lw_nil ?_))
    exact qw_retc rfl rfl (agg_ld (tA rfl) rfl (fun i u hu => H2.ld0 hu)) ⟨rfl, hE.b⟩
  · have hf : getS l ac i = r := by unfold getS findS; rw [find_at hxk hr hn]; rfl
    have hlt : k < l.length := (List.getElem?_eq_some_iff.1 hxk).1
    obtain ⟨ab, ao, rfl, -, -⟩ := HP.at (by intro h; rw [h] at hlt; simp at hlt)
    rw [hf]
    repeat' (first | (refine lw_pure rfl (pv_move rfl) ?_) | (refine lw_pure rfl (pv_assign rfl) ?_) | (refine is_cw ?_; first | (refine cw_seq ?_) | (refine cw_region ?_) | (refine cw_false rfl rfl ?_) | (refine cw_skip ?_)) | (refine is_qw ?_; first | (with_reducible refine qw_then ?_)) | (refine lw_nil ?_) | ((refine is_bin ?_; first | (refine lw_pure rfl (pv_lss rfl rfl) ?_))) | ((refine is_load ?_; first | (refine lw_pure rfl (pv_loada (tA rfl) rfl (by first | exact SlR.lda (HP.mono hw) hxk) (by rfl)) ?_))) | ((refine is_ia ?_; first | (refine lw_pure rfl (pv_ian (tS rfl) rfl rfl (by omega)) ?_))))
    refine lw_storea (vs := encS r) (H.mono hw) (tZ rfl) rfl rfl rfl rfl (encS_one _) ?_; intro w5 H2 hg hz
    replace hE := (hE.mono hw).grown hg (by intro q hq; injection hq with hq; omega)
    clear hw
    have hw := Below.refl w5.heap.size w5
    repeat' (first | (refine is_cw ?_; first | (refine cw_ret ?_)) | (refine is_qw ?_; first | (with_reducible refine qw_then ?_)) | (refine lw_nil ?_))
    exact qw_retc rfl rfl (agg_ld (tA rfl) rfl (fun i u hu => H2.ld0 hu)) ⟨rfl, hE.b⟩
theorem total_e {n : Int} {b : Bool} (h : decide (NumS n) = b) (w : World) : Calls Tryz.prog 57 #[.int .i64 n] w fun e w' => e = .returned (.bool b) ∧ w = w' := by subst h; exact total_c n w
end Go.Proofs.YtemngicaoacfaaaGreatDoor
