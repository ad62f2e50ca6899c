/-
  Part 2 of the texts of: PositAll: its row and its card: whatever the input: true; the input reads as it did. Conditions: what the row prints (the table of functions reads as the program's text lays it).
-/
import Derived.Test.YtemngicaoacfaaaGreatDoorZP1
import Derived.Laws.StructEq
import Derived.Test.YtemngicaoacfaaaGreatDoorRows
import Derived.ProofKit
import Derived.OpenShut
import Derived.ChangeArms
import Derived.FnData
import Derived.LaidMore
import Derived.LaidOnce
import Derived.LaidHandle
import Derived.Laws.IdiomArrays
namespace Go.Proofs.YtemngicaoacfaaaGreatDoor
open Go.RowKit Go.PlainAid

theorem own_ne_T {α β : Type} {enc : α → List Value} {enc' : β → List Value} {k k' : Nat} {T T' : TypeId} {B B' : Nat} {w : World} {v v' : Value} {xs : List α} {ys : List β} (h : Own enc k T B w v xs) (h' : Own enc' k' T' B' w v' ys) (hT : T ≠ T') : v.ownBlock = none ∨ v.ownBlock ≠ v'.ownBlock := by
  obtain ⟨_, h2⟩ := h
  obtain ⟨_, h2'⟩ := h'
  rcases h2 with ⟨rfl, _⟩ | ⟨g, cap, cur, rfl, _, hg, _⟩
  · exact Or.inl rfl
  · rcases h2' with ⟨rfl, _⟩ | ⟨g', cap', cur', rfl, _, hg', _⟩
    · exact Or.inr (by simp [Value.ownBlock])
    · refine Or.inr fun e => ?_
      have e2 : g = g' := by simpa [Value.ownBlock] using e
      subst e2
      rw [hg] at hg'; injection hg' with hg'; injection hg' with _ hg' _; exact hT hg'
structure WkO (base : Nat) (w : World) (N : Nat) (p : List Opn) (t : List Lt) (vo vt : Value) : Prop where
  pt : PT w N 80 [vo, vt]
  o : Own encP 6 49 base w vo p
  t : Own encL 4 53 base w vt t
  n : base ≤ N
theorem WkO.mono {base N : Nat} {w w' : World} {p : List Opn} {t : List Lt} {vo vt : Value} (h : WkO base w N p t vo vt) (hb : Below w.heap.size w w') : WkO base w' N p t vo vt := ⟨h.pt.mono hb, h.o.mono hb, h.t.mono hb, h.n⟩
set_option maxRecDepth 20000 in
set_option maxHeartbeats 4000000 in
theorem placed_c {p : List Opn} {t : List Lt} {ev0 : Evt} {w0 w : World} {N : Nat} {a : Option Addr} {c : Nat} {n0 n1 n2 n3 n4 n5 : Int} {vo vt : Value} (hev : ev0.nums = [n0, n1, n2, n3, n4, n5]) (hb0 : Below w0.heap.size w0 w) (hW : WkO w0.heap.size w N p t vo vt) (HN : SlR encI 1 w0 a c [n0, n1, n2, n3, n4, n5]) (hp1 : p.Pairwise keyO) (hl : p.length ≤ 128) (h3 : n3 = 1 ∨ n3 = 2) :
    Calls Tryz.prog 82 #[.pointer (some ⟨N, 0, none⟩), .slice a 6 c] w fun e w' => e = .returned (.int .i64 (placedR p t ev0).2.2) ∧ ((placedR p t ev0).2.2 = 0 → ∃ vo vt, WkO w0.heap.size w' N (placedR p t ev0).1 (placedR p t ev0).2.1 vo vt) ∧ Below w0.heap.size w0 w' := by
  obtain ⟨HW, HO, HT, hNb⟩ := hW
  obtain ⟨ab, ao, rfl, -, -⟩ := HN.at (by simp)
  obtain ⟨oa, oc, rfl, HOs, -⟩ := Own.slR encP_len HO
  have hx0 : [n0, n1, n2, n3, n4, n5][0]? = some n0 := rfl
  have hx1 : [n0, n1, n2, n3, n4, n5][1]? = some n1 := rfl
  have hx2 : [n0, n1, n2, n3, n4, n5][2]? = some n2 := rfl
  have hx3 : [n0, n1, n2, n3, n4, n5][3]? = some n3 := rfl
  have hx4 : [n0, n1, n2, n3, n4, n5][4]? = some n4 := rfl
  have hx5 : [n0, n1, n2, n3, n4, n5][5]? = some n5 := rfl
  have hR : placedR p t ev0 = if (findP p n0).isSome then ([], [], 6) else if p.length = 128 then ([], [], 40) else (insP p ⟨n1, n0, n2, n3, n4, n5⟩, t, 0) := by unfold placedR nth; rw [hev]; rfl
  rw [hR]
  clear hR hev
  have HNw := HN.mono hb0
  have hw := Below.refl w.heap.size w
  refine fn_enter 56 Tryz.func82 rfl rfl rfl ?_
  repeat' (first | (refine lw_pure rfl (pv_assign rfl) ?_) | (refine is_cw ?_; first | (refine cw_seq ?_) | (refine cw_region ?_) | (refine cw_block ?_)) | (refine is_qw ?_; first | (with_reducible refine qw_then ?_)) | (refine lw_nil ?_))
  refine cw_drawn (fun w' => Below w.heap.size w w') (by kernel_rfl) (by repeat (first | exact NoPanic.body | with_reducible refine NoPanic.then ?_ | with_reducible refine NoPanic.inBlock ?_)) (fun hNP => ?_)
  have hS := hw.drew
  (refine at0 0 rfl (fun w' hq => pv_move rfl) ?_)
  (refine at0 1 rfl (fun w' hq => pv_nilp rfl) ?_)
  (refine at0 2 rfl (fun w' hq => pv_fa (tF rfl) rfl) ?_)
  (refine at0 3 rfl (fun w' hq => pv_load (t1 rfl) rfl (by first | exact PT.ld0 (HW.mono hq) rfl | exact PT.ld (HW.mono hq) rfl | exact SlR.ld (HNw.mono hq) hx0 rfl | exact SlR.ld1 (HNw.mono hq) hx0 rfl)) ?_)
  (refine at0 4 rfl (fun w' hq => pv_move rfl) ?_)
  (refine at0 5 rfl (fun w' hq => pv_ia (tS rfl) rfl rfl (by omega)) ?_)
  (refine at0 6 rfl (fun w' hq => pv_load (t1 rfl) rfl (by first | exact PT.ld0 (HW.mono hq) rfl | exact PT.ld (HW.mono hq) rfl | exact SlR.ld (HNw.mono hq) hx0 rfl | exact SlR.ld1 (HNw.mono hq) hx0 rfl)) ?_)
  refine aw_act 7 (by kernel_rfl) rfl rfl rfl ?_
  refine act_call (f := 55) (by kernel_rfl) rfl (at_c n0 rfl (HOs.mono hS)) ?_; rintro e1 w1 ⟨⟨i, rfl, hi⟩, hb1⟩; refine ⟨_, rfl, grow_trans hS hb1, fun hS => ?_⟩
  (refine at0 8 rfl (fun w' hq => pv_geq rfl rfl) ?_)
  (refine at0 9 rfl (fun w' hq => pv_assign rfl) ?_)
  refine aw_done (by kernel_rfl) ?_
  replace hw := hS; clear hS hNP
  have hb2 := grow_trans hb0 hw
  rcases hi with ⟨rfl, hn⟩ | ⟨k, r, rfl, hxk, hr, hn⟩
  · have hf : findP p n0 = none := find_none hn
    rw [hf]
    by_cases h128 : p.length = 128
    · rw [if_neg (by simp), if_pos h128]
      repeat' (first | (refine lw_pure rfl (pv_move rfl) ?_) | (refine lw_pure rfl (pv_assign rfl) ?_) | (refine is_cw ?_; first | (refine cw_seq ?_) | (refine cw_region ?_) | (refine cw_false rfl rfl ?_) | (refine is_cd ?_; refine cw_true rfl (by first | assumption | exact decide_eq_true (by omega) | exact dec_notT (by omega)) ?_) | (refine cw_ret ?_)) | (refine is_qw ?_; first | (with_reducible refine qw_then ?_) | (with_reducible refine qw_then_ret ?_) | (with_reducible refine qw_in_ret ?_)) | (refine lw_nil ?_) | ((refine is_bin ?_; first | (refine lw_pure rfl (pv_eql rfl rfl) ?_))) | ((refine is_load ?_; first | (refine lw_pure rfl (pv_load (t1 rfl) rfl (by first | exact PT.ld0 (HW.mono hw) rfl | exact PT.ld (HW.mono hw) rfl)) ?_))) | ((refine is_fa ?_; first | (refine lw_pure rfl (pv_fa (tF rfl) rfl) ?_))) | ((refine is_bi ?_; first | (refine lw_pure rfl (pv_lenl (tS rfl) rfl) ?_))) | (refine lw_pure rfl (pv_nilp rfl) ?_))
      exact qw_ret1 rfl rfl ⟨rfl, by simp, hb2⟩
    · rw [if_neg (by simp), if_neg h128]
      repeat' (first | (refine lw_pure rfl (pv_move rfl) ?_) | (refine lw_pure rfl (pv_assign rfl) ?_) | (refine is_cw ?_; first | (refine cw_seq ?_) | (refine cw_region ?_) | (refine cw_false rfl rfl ?_) | (refine is_cd ?_; refine cw_false rfl (by first | assumption | exact decide_eq_false (by omega) | exact dec_notF (by omega)) ?_) | (refine cw_skip ?_)) | (refine is_qw ?_; first | (with_reducible refine qw_then ?_) | (with_reducible refine qw_in ?_)) | (refine lw_nil ?_) | ((refine is_bin ?_; first | (refine lw_pure rfl (pv_eql rfl rfl) ?_))) | ((refine is_load ?_; first | (refine lw_pure rfl (pv_load (t1 rfl) rfl (by first | exact PT.ld0 (HW.mono hw) rfl | exact PT.ld (HW.mono hw) rfl)) ?_))) | ((refine is_fa ?_; first | (refine lw_pure rfl (pv_fa (tF rfl) rfl) ?_))) | ((refine is_bi ?_; first | (refine lw_pure rfl (pv_lenl (tS rfl) rfl) ?_))) | (refine lw_pure rfl (pv_nilp rfl) ?_))
      have hs8 : 0 ≤ n3 ∧ n3 ≤ 255 := by omega
      have hO2 := HO.mono hw
      have hT2 := HT.mono hw
      have hwz := hb2.size
      refine cw_drawnF 29 (fun w' => Below w0.heap.size w0 w' ∧ PT w' N 80 [.slice oa p.length oc, vt]) (by kernel_rfl) (by repeat (first | exact NoPanic.body | with_reducible refine NoPanic.then ?_ | with_reducible refine NoPanic.inBlock ?_)) (fun hNP => ?_)
      have hU := And.intro hb2.drew ((HW.mono hw).mono (below_drew _))
      first | (refine fw_take 0 rfl (by kernel_rfl) rfl rfl (by kernel_rfl) (by kernel_rfl) (by kernel_rfl) hNP hU rfl (fun w' hq => pv_move rfl) ?_)
      first | (refine fw_take 1 rfl (by kernel_rfl) rfl rfl (by kernel_rfl) (by kernel_rfl) (by kernel_rfl) hNP hU rfl (fun w' hq => pv_move rfl) ?_)
      first | (refine fw_take 2 rfl (by kernel_rfl) rfl rfl (by kernel_rfl) (by kernel_rfl) (by kernel_rfl) hNP hU rfl (fun w' hq => pv_nilp rfl) ?_)
      first | (refine fw_take 3 rfl (by kernel_rfl) rfl rfl (by kernel_rfl) (by kernel_rfl) (by kernel_rfl) hNP hU rfl (fun w' hq => pv_fa (tF rfl) rfl) ?_)
      first | (refine fw_take 4 rfl (by kernel_rfl) rfl rfl (by kernel_rfl) (by kernel_rfl) (by kernel_rfl) hNP hU rfl (fun w' hq => pv_load (t1 rfl) rfl (by first | exact PT.ld0 hq.2 rfl | exact PT.ld hq.2 rfl)) ?_) | (refine fw_take 4 rfl (by kernel_rfl) rfl rfl (by kernel_rfl) (by kernel_rfl) (by kernel_rfl) hNP hU rfl (fun w' hq => pv_loada (tA rfl) rfl (by first | exact PT.lda hq.2) (by rfl)) ?_) | (refine fw_take 4 rfl (by kernel_rfl) rfl rfl (by kernel_rfl) (by kernel_rfl) (by kernel_rfl) hNP hU rfl (fun w' hq => pv_load (t1 rfl) rfl (by first | exact SlR.ld (HN.mono hq.1) hx0 rfl | exact SlR.ld1 (HN.mono hq.1) hx0 rfl | exact SlR.ld (HN.mono hq.1) hx1 rfl | exact SlR.ld1 (HN.mono hq.1) hx1 rfl | exact SlR.ld (HN.mono hq.1) hx2 rfl | exact SlR.ld1 (HN.mono hq.1) hx2 rfl | exact SlR.ld (HN.mono hq.1) hx3 rfl | exact SlR.ld1 (HN.mono hq.1) hx3 rfl | exact SlR.ld (HN.mono hq.1) hx4 rfl | exact SlR.ld1 (HN.mono hq.1) hx4 rfl | exact SlR.ld (HN.mono hq.1) hx5 rfl | exact SlR.ld1 (HN.mono hq.1) hx5 rfl)) ?_) | (refine fw_take 4 rfl (by kernel_rfl) rfl rfl (by kernel_rfl) (by kernel_rfl) (by kernel_rfl) hNP hU rfl (fun w' hq => pv_loada (tA rfl) rfl (by first | exact SlR.lda (HN.mono hq.1) hx0 | exact SlR.lda (HN.mono hq.1) hx1 | exact SlR.lda (HN.mono hq.1) hx2 | exact SlR.lda (HN.mono hq.1) hx3 | exact SlR.lda (HN.mono hq.1) hx4 | exact SlR.lda (HN.mono hq.1) hx5) (by rfl)) ?_)
      first | (refine fw_take 5 rfl (by kernel_rfl) rfl rfl (by kernel_rfl) (by kernel_rfl) (by kernel_rfl) hNP hU rfl (fun w' hq => pv_move rfl) ?_)
      first | (refine fw_take 6 rfl (by kernel_rfl) rfl rfl (by kernel_rfl) (by kernel_rfl) (by kernel_rfl) hNP hU rfl (fun w' hq => pv_ian (tS rfl) rfl rfl (by omega)) ?_) | (refine fw_take 6 rfl (by kernel_rfl) rfl rfl (by kernel_rfl) (by kernel_rfl) (by kernel_rfl) hNP hU rfl (fun w' hq => pv_ia (tS rfl) rfl rfl (by omega)) ?_)
      first | (refine fw_take 7 rfl (by kernel_rfl) rfl rfl (by kernel_rfl) (by kernel_rfl) (by kernel_rfl) hNP hU rfl (fun w' hq => pv_load (t1 rfl) rfl (by first | exact PT.ld0 hq.2 rfl | exact PT.ld hq.2 rfl)) ?_) | (refine fw_take 7 rfl (by kernel_rfl) rfl rfl (by kernel_rfl) (by kernel_rfl) (by kernel_rfl) hNP hU rfl (fun w' hq => pv_loada (tA rfl) rfl (by first | exact PT.lda hq.2) (by rfl)) ?_) | (refine fw_take 7 rfl (by kernel_rfl) rfl rfl (by kernel_rfl) (by kernel_rfl) (by kernel_rfl) hNP hU rfl (fun w' hq => pv_load (t1 rfl) rfl (by first | exact SlR.ld (HN.mono hq.1) hx0 rfl | exact SlR.ld1 (HN.mono hq.1) hx0 rfl | exact SlR.ld (HN.mono hq.1) hx1 rfl | exact SlR.ld1 (HN.mono hq.1) hx1 rfl | exact SlR.ld (HN.mono hq.1) hx2 rfl | exact SlR.ld1 (HN.mono hq.1) hx2 rfl | exact SlR.ld (HN.mono hq.1) hx3 rfl | exact SlR.ld1 (HN.mono hq.1) hx3 rfl | exact SlR.ld (HN.mono hq.1) hx4 rfl | exact SlR.ld1 (HN.mono hq.1) hx4 rfl | exact SlR.ld (HN.mono hq.1) hx5 rfl | exact SlR.ld1 (HN.mono hq.1) hx5 rfl)) ?_) | (refine fw_take 7 rfl (by kernel_rfl) rfl rfl (by kernel_rfl) (by kernel_rfl) (by kernel_rfl) hNP hU rfl (fun w' hq => pv_loada (tA rfl) rfl (by first | exact SlR.lda (HN.mono hq.1) hx0 | exact SlR.lda (HN.mono hq.1) hx1 | exact SlR.lda (HN.mono hq.1) hx2 | exact SlR.lda (HN.mono hq.1) hx3 | exact SlR.lda (HN.mono hq.1) hx4 | exact SlR.lda (HN.mono hq.1) hx5) (by rfl)) ?_)
      first | (refine fw_take 8 rfl (by kernel_rfl) rfl rfl (by kernel_rfl) (by kernel_rfl) (by kernel_rfl) hNP hU rfl (fun w' hq => pv_move rfl) ?_)
      first | (refine fw_take 9 rfl (by kernel_rfl) rfl rfl (by kernel_rfl) (by kernel_rfl) (by kernel_rfl) hNP hU rfl (fun w' hq => pv_ian (tS rfl) rfl rfl (by omega)) ?_) | (refine fw_take 9 rfl (by kernel_rfl) rfl rfl (by kernel_rfl) (by kernel_rfl) (by kernel_rfl) hNP hU rfl (fun w' hq => pv_ia (tS rfl) rfl rfl (by omega)) ?_)
      first | (refine fw_take 10 rfl (by kernel_rfl) rfl rfl (by kernel_rfl) (by kernel_rfl) (by kernel_rfl) hNP hU rfl (fun w' hq => pv_load (t1 rfl) rfl (by first | exact PT.ld0 hq.2 rfl | exact PT.ld hq.2 rfl)) ?_) | (refine fw_take 10 rfl (by kernel_rfl) rfl rfl (by kernel_rfl) (by kernel_rfl) (by kernel_rfl) hNP hU rfl (fun w' hq => pv_loada (tA rfl) rfl (by first | exact PT.lda hq.2) (by rfl)) ?_) | (refine fw_take 10 rfl (by kernel_rfl) rfl rfl (by kernel_rfl) (by kernel_rfl) (by kernel_rfl) hNP hU rfl (fun w' hq => pv_load (t1 rfl) rfl (by first | exact SlR.ld (HN.mono hq.1) hx0 rfl | exact SlR.ld1 (HN.mono hq.1) hx0 rfl | exact SlR.ld (HN.mono hq.1) hx1 rfl | exact SlR.ld1 (HN.mono hq.1) hx1 rfl | exact SlR.ld (HN.mono hq.1) hx2 rfl | exact SlR.ld1 (HN.mono hq.1) hx2 rfl | exact SlR.ld (HN.mono hq.1) hx3 rfl | exact SlR.ld1 (HN.mono hq.1) hx3 rfl | exact SlR.ld (HN.mono hq.1) hx4 rfl | exact SlR.ld1 (HN.mono hq.1) hx4 rfl | exact SlR.ld (HN.mono hq.1) hx5 rfl | exact SlR.ld1 (HN.mono hq.1) hx5 rfl)) ?_) | (refine fw_take 10 rfl (by kernel_rfl) rfl rfl (by kernel_rfl) (by kernel_rfl) (by kernel_rfl) hNP hU rfl (fun w' hq => pv_loada (tA rfl) rfl (by first | exact SlR.lda (HN.mono hq.1) hx0 | exact SlR.lda (HN.mono hq.1) hx1 | exact SlR.lda (HN.mono hq.1) hx2 | exact SlR.lda (HN.mono hq.1) hx3 | exact SlR.lda (HN.mono hq.1) hx4 | exact SlR.lda (HN.mono hq.1) hx5) (by rfl)) ?_)
      first | (refine fw_take 11 rfl (by kernel_rfl) rfl rfl (by kernel_rfl) (by kernel_rfl) (by kernel_rfl) hNP hU rfl (fun w' hq => pv_move rfl) ?_)
      first | (refine fw_take 12 rfl (by kernel_rfl) rfl rfl (by kernel_rfl) (by kernel_rfl) (by kernel_rfl) hNP hU rfl (fun w' hq => pv_ian (tS rfl) rfl rfl (by omega)) ?_) | (refine fw_take 12 rfl (by kernel_rfl) rfl rfl (by kernel_rfl) (by kernel_rfl) (by kernel_rfl) hNP hU rfl (fun w' hq => pv_ia (tS rfl) rfl rfl (by omega)) ?_)
      first | (refine fw_take 13 rfl (by kernel_rfl) rfl rfl (by kernel_rfl) (by kernel_rfl) (by kernel_rfl) hNP hU rfl (fun w' hq => pv_load (t1 rfl) rfl (by first | exact PT.ld0 hq.2 rfl | exact PT.ld hq.2 rfl)) ?_) | (refine fw_take 13 rfl (by kernel_rfl) rfl rfl (by kernel_rfl) (by kernel_rfl) (by kernel_rfl) hNP hU rfl (fun w' hq => pv_loada (tA rfl) rfl (by first | exact PT.lda hq.2) (by rfl)) ?_) | (refine fw_take 13 rfl (by kernel_rfl) rfl rfl (by kernel_rfl) (by kernel_rfl) (by kernel_rfl) hNP hU rfl (fun w' hq => pv_load (t1 rfl) rfl (by first | exact SlR.ld (HN.mono hq.1) hx0 rfl | exact SlR.ld1 (HN.mono hq.1) hx0 rfl | exact SlR.ld (HN.mono hq.1) hx1 rfl | exact SlR.ld1 (HN.mono hq.1) hx1 rfl | exact SlR.ld (HN.mono hq.1) hx2 rfl | exact SlR.ld1 (HN.mono hq.1) hx2 rfl | exact SlR.ld (HN.mono hq.1) hx3 rfl | exact SlR.ld1 (HN.mono hq.1) hx3 rfl | exact SlR.ld (HN.mono hq.1) hx4 rfl | exact SlR.ld1 (HN.mono hq.1) hx4 rfl | exact SlR.ld (HN.mono hq.1) hx5 rfl | exact SlR.ld1 (HN.mono hq.1) hx5 rfl)) ?_) | (refine fw_take 13 rfl (by kernel_rfl) rfl rfl (by kernel_rfl) (by kernel_rfl) (by kernel_rfl) hNP hU rfl (fun w' hq => pv_loada (tA rfl) rfl (by first | exact SlR.lda (HN.mono hq.1) hx0 | exact SlR.lda (HN.mono hq.1) hx1 | exact SlR.lda (HN.mono hq.1) hx2 | exact SlR.lda (HN.mono hq.1) hx3 | exact SlR.lda (HN.mono hq.1) hx4 | exact SlR.lda (HN.mono hq.1) hx5) (by rfl)) ?_)
      first | (refine fw_take 14 rfl (by kernel_rfl) rfl rfl (by kernel_rfl) (by kernel_rfl) (by kernel_rfl) hNP hU rfl (fun w' hq => pv_move rfl) ?_)
      first | (refine fw_take 15 rfl (by kernel_rfl) rfl rfl (by kernel_rfl) (by kernel_rfl) (by kernel_rfl) hNP hU rfl (fun w' hq => pv_ian (tS rfl) rfl rfl (by omega)) ?_) | (refine fw_take 15 rfl (by kernel_rfl) rfl rfl (by kernel_rfl) (by kernel_rfl) (by kernel_rfl) hNP hU rfl (fun w' hq => pv_ia (tS rfl) rfl rfl (by omega)) ?_)
      first | (refine fw_take 16 rfl (by kernel_rfl) rfl rfl (by kernel_rfl) (by kernel_rfl) (by kernel_rfl) hNP hU rfl (fun w' hq => pv_load (t1 rfl) rfl (by first | exact PT.ld0 hq.2 rfl | exact PT.ld hq.2 rfl)) ?_) | (refine fw_take 16 rfl (by kernel_rfl) rfl rfl (by kernel_rfl) (by kernel_rfl) (by kernel_rfl) hNP hU rfl (fun w' hq => pv_loada (tA rfl) rfl (by first | exact PT.lda hq.2) (by rfl)) ?_) | (refine fw_take 16 rfl (by kernel_rfl) rfl rfl (by kernel_rfl) (by kernel_rfl) (by kernel_rfl) hNP hU rfl (fun w' hq => pv_load (t1 rfl) rfl (by first | exact SlR.ld (HN.mono hq.1) hx0 rfl | exact SlR.ld1 (HN.mono hq.1) hx0 rfl | exact SlR.ld (HN.mono hq.1) hx1 rfl | exact SlR.ld1 (HN.mono hq.1) hx1 rfl | exact SlR.ld (HN.mono hq.1) hx2 rfl | exact SlR.ld1 (HN.mono hq.1) hx2 rfl | exact SlR.ld (HN.mono hq.1) hx3 rfl | exact SlR.ld1 (HN.mono hq.1) hx3 rfl | exact SlR.ld (HN.mono hq.1) hx4 rfl | exact SlR.ld1 (HN.mono hq.1) hx4 rfl | exact SlR.ld (HN.mono hq.1) hx5 rfl | exact SlR.ld1 (HN.mono hq.1) hx5 rfl)) ?_) | (refine fw_take 16 rfl (by kernel_rfl) rfl rfl (by kernel_rfl) (by kernel_rfl) (by kernel_rfl) hNP hU rfl (fun w' hq => pv_loada (tA rfl) rfl (by first | exact SlR.lda (HN.mono hq.1) hx0 | exact SlR.lda (HN.mono hq.1) hx1 | exact SlR.lda (HN.mono hq.1) hx2 | exact SlR.lda (HN.mono hq.1) hx3 | exact SlR.lda (HN.mono hq.1) hx4 | exact SlR.lda (HN.mono hq.1) hx5) (by rfl)) ?_)
      first | (refine fw_take 17 rfl (by kernel_rfl) rfl rfl (by kernel_rfl) (by kernel_rfl) (by kernel_rfl) hNP hU rfl (fun w' hq => pv_conv8 (tCv rfl rfl) rfl hs8) ?_) | (refine fw_take 17 rfl (by kernel_rfl) rfl rfl (by kernel_rfl) (by kernel_rfl) (by kernel_rfl) hNP hU rfl (fun w' hq => pv_conv (tCv rfl rfl) rfl (by omega)) ?_)
      first | (refine fw_take 18 rfl (by kernel_rfl) rfl rfl (by kernel_rfl) (by kernel_rfl) (by kernel_rfl) hNP hU rfl (fun w' hq => pv_move rfl) ?_)
      first | (refine fw_take 19 rfl (by kernel_rfl) rfl rfl (by kernel_rfl) (by kernel_rfl) (by kernel_rfl) hNP hU rfl (fun w' hq => pv_ian (tS rfl) rfl rfl (by omega)) ?_) | (refine fw_take 19 rfl (by kernel_rfl) rfl rfl (by kernel_rfl) (by kernel_rfl) (by kernel_rfl) hNP hU rfl (fun w' hq => pv_ia (tS rfl) rfl rfl (by omega)) ?_)
      first | (refine fw_take 20 rfl (by kernel_rfl) rfl rfl (by kernel_rfl) (by kernel_rfl) (by kernel_rfl) hNP hU rfl (fun w' hq => pv_load (t1 rfl) rfl (by first | exact PT.ld0 hq.2 rfl | exact PT.ld hq.2 rfl)) ?_) | (refine fw_take 20 rfl (by kernel_rfl) rfl rfl (by kernel_rfl) (by kernel_rfl) (by kernel_rfl) hNP hU rfl (fun w' hq => pv_loada (tA rfl) rfl (by first | exact PT.lda hq.2) (by rfl)) ?_) | (refine fw_take 20 rfl (by kernel_rfl) rfl rfl (by kernel_rfl) (by kernel_rfl) (by kernel_rfl) hNP hU rfl (fun w' hq => pv_load (t1 rfl) rfl (by first | exact SlR.ld (HN.mono hq.1) hx0 rfl | exact SlR.ld1 (HN.mono hq.1) hx0 rfl | exact SlR.ld (HN.mono hq.1) hx1 rfl | exact SlR.ld1 (HN.mono hq.1) hx1 rfl | exact SlR.ld (HN.mono hq.1) hx2 rfl | exact SlR.ld1 (HN.mono hq.1) hx2 rfl | exact SlR.ld (HN.mono hq.1) hx3 rfl | exact SlR.ld1 (HN.mono hq.1) hx3 rfl | exact SlR.ld (HN.mono hq.1) hx4 rfl | exact SlR.ld1 (HN.mono hq.1) hx4 rfl | exact SlR.ld (HN.mono hq.1) hx5 rfl | exact SlR.ld1 (HN.mono hq.1) hx5 rfl)) ?_) | (refine fw_take 20 rfl (by kernel_rfl) rfl rfl (by kernel_rfl) (by kernel_rfl) (by kernel_rfl) hNP hU rfl (fun w' hq => pv_loada (tA rfl) rfl (by first | exact SlR.lda (HN.mono hq.1) hx0 | exact SlR.lda (HN.mono hq.1) hx1 | exact SlR.lda (HN.mono hq.1) hx2 | exact SlR.lda (HN.mono hq.1) hx3 | exact SlR.lda (HN.mono hq.1) hx4 | exact SlR.lda (HN.mono hq.1) hx5) (by rfl)) ?_)
      first | (refine fw_take 21 rfl (by kernel_rfl) rfl rfl (by kernel_rfl) (by kernel_rfl) (by kernel_rfl) hNP hU rfl (fun w' hq => pv_move rfl) ?_)
      first | (refine fw_take 22 rfl (by kernel_rfl) rfl rfl (by kernel_rfl) (by kernel_rfl) (by kernel_rfl) hNP hU rfl (fun w' hq => pv_ian (tS rfl) rfl rfl (by omega)) ?_) | (refine fw_take 22 rfl (by kernel_rfl) rfl rfl (by kernel_rfl) (by kernel_rfl) (by kernel_rfl) hNP hU rfl (fun w' hq => pv_ia (tS rfl) rfl rfl (by omega)) ?_)
      first | (refine fw_take 23 rfl (by kernel_rfl) rfl rfl (by kernel_rfl) (by kernel_rfl) (by kernel_rfl) hNP hU rfl (fun w' hq => pv_load (t1 rfl) rfl (by first | exact PT.ld0 hq.2 rfl | exact PT.ld hq.2 rfl)) ?_) | (refine fw_take 23 rfl (by kernel_rfl) rfl rfl (by kernel_rfl) (by kernel_rfl) (by kernel_rfl) hNP hU rfl (fun w' hq => pv_loada (tA rfl) rfl (by first | exact PT.lda hq.2) (by rfl)) ?_) | (refine fw_take 23 rfl (by kernel_rfl) rfl rfl (by kernel_rfl) (by kernel_rfl) (by kernel_rfl) hNP hU rfl (fun w' hq => pv_load (t1 rfl) rfl (by first | exact SlR.ld (HN.mono hq.1) hx0 rfl | exact SlR.ld1 (HN.mono hq.1) hx0 rfl | exact SlR.ld (HN.mono hq.1) hx1 rfl | exact SlR.ld1 (HN.mono hq.1) hx1 rfl | exact SlR.ld (HN.mono hq.1) hx2 rfl | exact SlR.ld1 (HN.mono hq.1) hx2 rfl | exact SlR.ld (HN.mono hq.1) hx3 rfl | exact SlR.ld1 (HN.mono hq.1) hx3 rfl | exact SlR.ld (HN.mono hq.1) hx4 rfl | exact SlR.ld1 (HN.mono hq.1) hx4 rfl | exact SlR.ld (HN.mono hq.1) hx5 rfl | exact SlR.ld1 (HN.mono hq.1) hx5 rfl)) ?_) | (refine fw_take 23 rfl (by kernel_rfl) rfl rfl (by kernel_rfl) (by kernel_rfl) (by kernel_rfl) hNP hU rfl (fun w' hq => pv_loada (tA rfl) rfl (by first | exact SlR.lda (HN.mono hq.1) hx0 | exact SlR.lda (HN.mono hq.1) hx1 | exact SlR.lda (HN.mono hq.1) hx2 | exact SlR.lda (HN.mono hq.1) hx3 | exact SlR.lda (HN.mono hq.1) hx4 | exact SlR.lda (HN.mono hq.1) hx5) (by rfl)) ?_)
      first | (refine fw_take 24 rfl (by kernel_rfl) rfl rfl (by kernel_rfl) (by kernel_rfl) (by kernel_rfl) hNP hU rfl (fun w' hq => tyB_49 rfl rfl rfl) ?_)
      refine fw_act 25 (by kernel_rfl) rfl rfl rfl ?_
      refine act_bs (vs := [.agg (encP ⟨n1, n0, n2, n3, n4, n5⟩).toArray]) (cs := encP ⟨n1, n0, n2, n3, n4, n5⟩) elemP rfl rfl (by omega) (by omega) rfl (by simp [Value.cells, encP]) ?_; intro wb HB hbb; have hO3 := (hO2.mono (below_drew _)).mono hbb; have hT3 := (hT2.mono (below_drew _)).mono hbb; have hbz := hbb.size; refine ⟨⟨grow_trans hU.1 hbb, hU.2.mono hbb⟩, fun hU => ?_⟩
      refine fw_act 26 (by kernel_rfl) rfl rfl rfl ?_
      refine act_app elemP encP_len encP_one rfl rfl hO3 (HB.slR (xs := [⟨n1, n0, n2, n3, n4, n5⟩]) encP_len rfl (by omega)) rfl hU.1.size (by simp; omega) (by simp [maxLen]; omega) ?_; intro v9 w9 hO9 hg9 hb9; refine ⟨⟨hU.1.grown hg9 hU.1.size (fun q hq => (Own.lt hO3 q hq).1), hU.2.grown hg9 (fun e => own_pt_ne hO3 hU.2 (by decide) e)⟩, fun hU => ?_⟩
      first | (refine fw_act 27 (by kernel_rfl) rfl rfl rfl ?_; refine act_pv (pv_nilp rfl) ?_; refine ⟨hU, fun hU => ?_⟩)
      first | (refine fw_take 28 rfl (by kernel_rfl) rfl rfl (by kernel_rfl) (by kernel_rfl) (by kernel_rfl) hNP hU rfl (fun w' hq => pv_fa (tF rfl) rfl) ?_)
      refine fw_last (by kernel_rfl) rfl rfl rfl rfl (by kernel_rfl) ?_
      obtain ⟨hb3, HW3⟩ := hU; clear hNP
      obtain ⟨va, vc, rfl, -, -⟩ := Own.slR encP_len hO9; refine act_store HW3 (tZ rfl) rfl rfl rfl (by simp) ?_; intro wz HWz hgz hzz
      have hT9 := hT3.kept hg9 (own_ne_T hT3 hO3 (by decide))
      have hTz := hT9.kept hgz (Or.inr (own_pt_ne hT9 HW3 (by decide)))
      have hOz := hO9.kept hgz (Or.inr (own_pt_ne hO9 HW3 (by decide)))
      have hbz4 := hb3.grown hgz hb3.size (by intro q hq; injection hq with hq; omega)
      obtain ⟨va', vc', hv', hSz, hvb⟩ := Own.slR encP_len hOz
      injection hv' with hv1 _ hv3; subst hv1 hv3
      obtain ⟨vb, vo2, rfl, -, -⟩ := hSz.at (by simp)
      obtain ⟨hvb1, hvb2⟩ := hvb _ rfl
      simp only at hvb1 hvb2; subst hvb2
      have hw := Below.refl wz.heap.size wz
      have hids : ∀ x ∈ p, x.id ≠ n0 := findP_none hf
      have hll : (p ++ [(⟨n1, n0, n2, n3, n4, n5⟩ : Opn)]).length ≤ 1000000 := by simp; omega
      repeat' (first | (refine lw_pure rfl (pv_move rfl) ?_) | (refine is_cw ?_; first | (refine cw_seq ?_) | (refine cw_region ?_)) | (refine is_qw ?_; first | (with_reducible refine qw_then ?_)) | ((refine is_load ?_; first | (refine lw_pure rfl (pv_load (t1 rfl) rfl (by first | exact PT.ld0 (HWz.mono hw) rfl | exact PT.ld (HWz.mono hw) rfl)) ?_))) | ((refine is_fa ?_; first | (refine lw_pure rfl (pv_fa (tF rfl) rfl) ?_))) | (refine lw_pure rfl (pv_nilp rfl) ?_))
      refine lw_call (f := 108) (by kernel_rfl) rfl rfl (sort_P w0.heap.size vb vc _ wz hOz hll (put_pw hp1 hids)) ?_; rintro e1 w5 ⟨rfl, ⟨zs, hz1, hz2, hOs2⟩, hg5⟩; refine ⟨_, rfl, ?_⟩
      have hze := put_sorted hp1 hids hz1 hz2
      have hT5 := hTz.kept hg5 (own_ne_T hTz hOz (by decide))
      have hW5 := HWz.grown hg5 (own_pt_ne hOz HWz (by decide))
      have hb5 := hbz4.grown hg5 hbz4.size (by intro q hq; injection hq with hq; omega)
      have hw := Below.refl w5.heap.size w5
      repeat' (first | (refine lw_pure rfl (pv_assign rfl) ?_) | (refine is_cw ?_; first | (refine cw_seq ?_) | (refine cw_region ?_) | (refine cw_ret ?_)) | (refine is_qw ?_; first | (with_reducible refine qw_then ?_)) | (refine lw_nil ?_))
      refine qw_ret1 rfl rfl ⟨rfl, fun _ => ⟨_, _, ⟨hW5, ?_, hT5, hNb⟩⟩, hb5⟩
      rw [← hze]
      rw [show (p ++ [(⟨n1, n0, n2, n3, n4, n5⟩ : Opn)]).length = zs.length from hz1.length_eq.symm] at hOs2 ⊢
      exact hOs2
  · have hf : findP p n0 = some r := find_at hxk hr hn
    rw [hf, if_pos (by rfl)]
    repeat' (first | (refine lw_pure rfl (pv_assign rfl) ?_) | (refine is_cw ?_; first | (refine cw_seq ?_) | (refine cw_region ?_) | (refine cw_true rfl rfl ?_) | (refine cw_ret ?_)) | (refine is_qw ?_; first | (with_reducible refine qw_then ?_) | (with_reducible refine qw_then_ret ?_) | (with_reducible refine qw_in_ret ?_)) | (refine lw_nil ?_))
    exact qw_ret1 rfl rfl ⟨rfl, by simp, hb2⟩

theorem nth_eq {e : Evt} {ns : List Int} (h : e.nums = ns) {i : Nat} {n : Int} (hx : ns[i]? = some n) : nth e i = n := by
  unfold nth; rw [h, List.getD_eq_getElem?_getD, hx]; rfl
set_option maxRecDepth 20000 in
set_option maxHeartbeats 4000000 in
theorem opened_c {p : List Opn} {t : List Lt} {ev0 : Evt} {w0 w : World} {N m : Nat} {a : Option Addr} {c : Nat} {ns : List Int} {n0 n1 n2 n3 : Int} {vo vt : Value} (hev : ev0.nums = ns) (hm : ns.length = m) (hx0 : ns[0]? = some n0) (hx1 : ns[1]? = some n1) (hx2 : ns[2]? = some n2) (hx3 : ns[3]? = some n3) (hb0 : Below w0.heap.size w0 w) (hW : WkO w0.heap.size w N p t vo vt) (HN : SlR encI 1 w0 a c ns) (hp1 : t.Pairwise keyT) (hl : t.length ≤ 32) :
    Calls Tryz.prog 85 #[.pointer (some ⟨N, 0, none⟩), .slice a m c] w fun e w' => e = .returned (.int .i64 (openedR p t ev0).2.2) ∧ ((openedR p t ev0).2.2 = 0 → ∃ vo vt, WkO w0.heap.size w' N (openedR p t ev0).1 (openedR p t ev0).2.1 vo vt) ∧ Below w0.heap.size w0 w' := by
  subst hm
  have hlen : 3 < ns.length := (List.getElem?_eq_some_iff.1 hx3).1
  obtain ⟨HW, HO, HT, hNb⟩ := hW
  obtain ⟨ab, ao, rfl, -, -⟩ := HN.at (by intro h; rw [h] at hlen; simp at hlen)
  obtain ⟨ta, tc, rfl, HTs, -⟩ := Own.slR encL_len HT
  have hR : openedR p t ev0 = if (findT t n0).isSome then ([], [], 6) else if t.length = 32 then ([], [], 40) else (p, insT t ⟨n0, n1, n2, n3⟩, 0) := by unfold openedR; rw [nth_eq hev hx0, nth_eq hev hx1, nth_eq hev hx2, nth_eq hev hx3]
  rw [hR]
  clear hR hev
  have HNw := HN.mono hb0
  have hw := Below.refl w.heap.size w
  refine fn_enter 49 Tryz.func85 rfl rfl rfl ?_
  repeat' (first | (refine lw_pure rfl (pv_assign rfl) ?_) | (refine is_cw ?_; first | (refine cw_seq ?_) | (refine cw_region ?_) | (refine cw_block ?_)) | (refine is_qw ?_; first | (with_reducible refine qw_then ?_)) | (refine lw_nil ?_))
  refine cw_drawn (fun w' => Below w.heap.size w w') (by kernel_rfl) (by repeat (first | exact NoPanic.body | with_reducible refine NoPanic.then ?_ | with_reducible refine NoPanic.inBlock ?_)) (fun hNP => ?_)
  have hS := hw.drew
  (refine at0 0 rfl (fun w' hq => pv_move rfl) ?_)
  (refine at0 1 rfl (fun w' hq => pv_nilp rfl) ?_)
  (refine at0 2 rfl (fun w' hq => pv_fa (tF rfl) rfl) ?_)
  (refine at0 3 rfl (fun w' hq => pv_load (t1 rfl) rfl (by first | exact PT.ld0 (HW.mono hq) rfl | exact PT.ld (HW.mono hq) rfl | exact SlR.ld (HNw.mono hq) hx0 rfl | exact SlR.ld1 (HNw.mono hq) hx0 rfl)) ?_)
  (refine at0 4 rfl (fun w' hq => pv_move rfl) ?_)
  (refine at0 5 rfl (fun w' hq => pv_ia (tS rfl) rfl rfl (by omega)) ?_)
  (refine at0 6 rfl (fun w' hq => pv_load (t1 rfl) rfl (by first | exact PT.ld0 (HW.mono hq) rfl | exact PT.ld (HW.mono hq) rfl | exact SlR.ld (HNw.mono hq) hx0 rfl | exact SlR.ld1 (HNw.mono hq) hx0 rfl)) ?_)
  refine aw_act 7 (by kernel_rfl) rfl rfl rfl ?_
  refine act_call (f := 56) (by kernel_rfl) rfl (lot_c n0 rfl (HTs.mono hS)) ?_; rintro e1 w1 ⟨⟨i, rfl, hi⟩, hb1⟩; refine ⟨_, rfl, grow_trans hS hb1, fun hS => ?_⟩
  (refine at0 8 rfl (fun w' hq => pv_geq rfl rfl) ?_)
  (refine at0 9 rfl (fun w' hq => pv_assign rfl) ?_)
  refine aw_done (by kernel_rfl) ?_
  replace hw := hS; clear hS hNP
  have hb2 := grow_trans hb0 hw
  rcases hi with ⟨rfl, hn⟩ | ⟨k, r, rfl, hxk, hr, hn⟩
  · have hf : findT t n0 = none := find_none hn
    rw [hf]
    by_cases h128 : t.length = 32
    · rw [if_neg (by simp), if_pos h128]
      repeat' (first | (refine lw_pure rfl (pv_move rfl) ?_) | (refine lw_pure rfl (pv_assign rfl) ?_) | (refine is_cw ?_; first | (refine cw_seq ?_) | (refine cw_region ?_) | (refine cw_false rfl rfl ?_) | (refine is_cd ?_; refine cw_true rfl (by first | assumption | exact decide_eq_true (by omega) | exact dec_notT (by omega)) ?_) | (refine cw_ret ?_)) | (refine is_qw ?_; first | (with_reducible refine qw_then ?_) | (with_reducible refine qw_then_ret ?_) | (with_reducible refine qw_in_ret ?_)) | (refine lw_nil ?_) | ((refine is_bin ?_; first | (refine lw_pure rfl (pv_eql rfl rfl) ?_))) | ((refine is_load ?_; first | (refine lw_pure rfl (pv_load (t1 rfl) rfl (by first | exact PT.ld0 (HW.mono hw) rfl | exact PT.ld (HW.mono hw) rfl)) ?_))) | ((refine is_fa ?_; first | (refine lw_pure rfl (pv_fa (tF rfl) rfl) ?_))) | ((refine is_bi ?_; first | (refine lw_pure rfl (pv_lenl (tS rfl) rfl) ?_))) | (refine lw_pure rfl (pv_nilp rfl) ?_))
      exact qw_ret1 rfl rfl ⟨rfl, by simp, hb2⟩
    · rw [if_neg (by simp), if_neg h128]
      repeat' (first | (refine lw_pure rfl (pv_move rfl) ?_) | (refine lw_pure rfl (pv_assign rfl) ?_) | (refine is_cw ?_; first | (refine cw_seq ?_) | (refine cw_region ?_) | (refine cw_false rfl rfl ?_) | (refine is_cd ?_; refine cw_false rfl (by first | assumption | exact decide_eq_false (by omega) | exact dec_notF (by omega)) ?_) | (refine cw_skip ?_)) | (refine is_qw ?_; first | (with_reducible refine qw_then ?_) | (with_reducible refine qw_in ?_)) | (refine lw_nil ?_) | ((refine is_bin ?_; first | (refine lw_pure rfl (pv_eql rfl rfl) ?_))) | ((refine is_load ?_; first | (refine lw_pure rfl (pv_load (t1 rfl) rfl (by first | exact PT.ld0 (HW.mono hw) rfl | exact PT.ld (HW.mono hw) rfl)) ?_))) | ((refine is_fa ?_; first | (refine lw_pure rfl (pv_fa (tF rfl) rfl) ?_))) | ((refine is_bi ?_; first | (refine lw_pure rfl (pv_lenl (tS rfl) rfl) ?_))) | (refine lw_pure rfl (pv_nilp rfl) ?_))
      have hO2 := HO.mono hw
      have hT2 := HT.mono hw
      have hwz := hb2.size
      refine cw_drawnF 22 (fun w' => Below w0.heap.size w0 w' ∧ PT w' N 80 [vo, .slice ta t.length tc]) (by kernel_rfl) (by repeat (first | exact NoPanic.body | with_reducible refine NoPanic.then ?_ | with_reducible refine NoPanic.inBlock ?_)) (fun hNP => ?_)
      have hU := And.intro hb2.drew ((HW.mono hw).mono (below_drew _))
      first | (refine fw_take 0 rfl (by kernel_rfl) rfl rfl (by kernel_rfl) (by kernel_rfl) (by kernel_rfl) hNP hU rfl (fun w' hq => pv_move rfl) ?_)
      first | (refine fw_take 1 rfl (by kernel_rfl) rfl rfl (by kernel_rfl) (by kernel_rfl) (by kernel_rfl) hNP hU rfl (fun w' hq => pv_move rfl) ?_)
      first | (refine fw_take 2 rfl (by kernel_rfl) rfl rfl (by kernel_rfl) (by kernel_rfl) (by kernel_rfl) hNP hU rfl (fun w' hq => pv_nilp rfl) ?_)
      first | (refine fw_take 3 rfl (by kernel_rfl) rfl rfl (by kernel_rfl) (by kernel_rfl) (by kernel_rfl) hNP hU rfl (fun w' hq => pv_fa (tF rfl) rfl) ?_)
      first | (refine fw_take 4 rfl (by kernel_rfl) rfl rfl (by kernel_rfl) (by kernel_rfl) (by kernel_rfl) hNP hU rfl (fun w' hq => pv_load (t1 rfl) rfl (by first | exact PT.ld0 hq.2 rfl | exact PT.ld hq.2 rfl)) ?_) | (refine fw_take 4 rfl (by kernel_rfl) rfl rfl (by kernel_rfl) (by kernel_rfl) (by kernel_rfl) hNP hU rfl (fun w' hq => pv_loada (tA rfl) rfl (by first | exact PT.lda hq.2) (by rfl)) ?_) | (refine fw_take 4 rfl (by kernel_rfl) rfl rfl (by kernel_rfl) (by kernel_rfl) (by kernel_rfl) hNP hU rfl (fun w' hq => pv_load (t1 rfl) rfl (by first | exact SlR.ld (HN.mono hq.1) hx0 rfl | exact SlR.ld1 (HN.mono hq.1) hx0 rfl | exact SlR.ld (HN.mono hq.1) hx1 rfl | exact SlR.ld1 (HN.mono hq.1) hx1 rfl | exact SlR.ld (HN.mono hq.1) hx2 rfl | exact SlR.ld1 (HN.mono hq.1) hx2 rfl | exact SlR.ld (HN.mono hq.1) hx3 rfl | exact SlR.ld1 (HN.mono hq.1) hx3 rfl)) ?_) | (refine fw_take 4 rfl (by kernel_rfl) rfl rfl (by kernel_rfl) (by kernel_rfl) (by kernel_rfl) hNP hU rfl (fun w' hq => pv_loada (tA rfl) rfl (by first | exact SlR.lda (HN.mono hq.1) hx0 | exact SlR.lda (HN.mono hq.1) hx1 | exact SlR.lda (HN.mono hq.1) hx2 | exact SlR.lda (HN.mono hq.1) hx3) (by rfl)) ?_)
      first | (refine fw_take 5 rfl (by kernel_rfl) rfl rfl (by kernel_rfl) (by kernel_rfl) (by kernel_rfl) hNP hU rfl (fun w' hq => pv_move rfl) ?_)
      first | (refine fw_take 6 rfl (by kernel_rfl) rfl rfl (by kernel_rfl) (by kernel_rfl) (by kernel_rfl) hNP hU rfl (fun w' hq => pv_ian (tS rfl) rfl rfl (by omega)) ?_) | (refine fw_take 6 rfl (by kernel_rfl) rfl rfl (by kernel_rfl) (by kernel_rfl) (by kernel_rfl) hNP hU rfl (fun w' hq => pv_ia (tS rfl) rfl rfl (by omega)) ?_)
      first | (refine fw_take 7 rfl (by kernel_rfl) rfl rfl (by kernel_rfl) (by kernel_rfl) (by kernel_rfl) hNP hU rfl (fun w' hq => pv_load (t1 rfl) rfl (by first | exact PT.ld0 hq.2 rfl | exact PT.ld hq.2 rfl)) ?_) | (refine fw_take 7 rfl (by kernel_rfl) rfl rfl (by kernel_rfl) (by kernel_rfl) (by kernel_rfl) hNP hU rfl (fun w' hq => pv_loada (tA rfl) rfl (by first | exact PT.lda hq.2) (by rfl)) ?_) | (refine fw_take 7 rfl (by kernel_rfl) rfl rfl (by kernel_rfl) (by kernel_rfl) (by kernel_rfl) hNP hU rfl (fun w' hq => pv_load (t1 rfl) rfl (by first | exact SlR.ld (HN.mono hq.1) hx0 rfl | exact SlR.ld1 (HN.mono hq.1) hx0 rfl | exact SlR.ld (HN.mono hq.1) hx1 rfl | exact SlR.ld1 (HN.mono hq.1) hx1 rfl | exact SlR.ld (HN.mono hq.1) hx2 rfl | exact SlR.ld1 (HN.mono hq.1) hx2 rfl | exact SlR.ld (HN.mono hq.1) hx3 rfl | exact SlR.ld1 (HN.mono hq.1) hx3 rfl)) ?_) | (refine fw_take 7 rfl (by kernel_rfl) rfl rfl (by kernel_rfl) (by kernel_rfl) (by kernel_rfl) hNP hU rfl (fun w' hq => pv_loada (tA rfl) rfl (by first | exact SlR.lda (HN.mono hq.1) hx0 | exact SlR.lda (HN.mono hq.1) hx1 | exact SlR.lda (HN.mono hq.1) hx2 | exact SlR.lda (HN.mono hq.1) hx3) (by rfl)) ?_)
      first | (refine fw_take 8 rfl (by kernel_rfl) rfl rfl (by kernel_rfl) (by kernel_rfl) (by kernel_rfl) hNP hU rfl (fun w' hq => pv_move rfl) ?_)
      first | (refine fw_take 9 rfl (by kernel_rfl) rfl rfl (by kernel_rfl) (by kernel_rfl) (by kernel_rfl) hNP hU rfl (fun w' hq => pv_ian (tS rfl) rfl rfl (by omega)) ?_) | (refine fw_take 9 rfl (by kernel_rfl) rfl rfl (by kernel_rfl) (by kernel_rfl) (by kernel_rfl) hNP hU rfl (fun w' hq => pv_ia (tS rfl) rfl rfl (by omega)) ?_)
      first | (refine fw_take 10 rfl (by kernel_rfl) rfl rfl (by kernel_rfl) (by kernel_rfl) (by kernel_rfl) hNP hU rfl (fun w' hq => pv_load (t1 rfl) rfl (by first | exact PT.ld0 hq.2 rfl | exact PT.ld hq.2 rfl)) ?_) | (refine fw_take 10 rfl (by kernel_rfl) rfl rfl (by kernel_rfl) (by kernel_rfl) (by kernel_rfl) hNP hU rfl (fun w' hq => pv_loada (tA rfl) rfl (by first | exact PT.lda hq.2) (by rfl)) ?_) | (refine fw_take 10 rfl (by kernel_rfl) rfl rfl (by kernel_rfl) (by kernel_rfl) (by kernel_rfl) hNP hU rfl (fun w' hq => pv_load (t1 rfl) rfl (by first | exact SlR.ld (HN.mono hq.1) hx0 rfl | exact SlR.ld1 (HN.mono hq.1) hx0 rfl | exact SlR.ld (HN.mono hq.1) hx1 rfl | exact SlR.ld1 (HN.mono hq.1) hx1 rfl | exact SlR.ld (HN.mono hq.1) hx2 rfl | exact SlR.ld1 (HN.mono hq.1) hx2 rfl | exact SlR.ld (HN.mono hq.1) hx3 rfl | exact SlR.ld1 (HN.mono hq.1) hx3 rfl)) ?_) | (refine fw_take 10 rfl (by kernel_rfl) rfl rfl (by kernel_rfl) (by kernel_rfl) (by kernel_rfl) hNP hU rfl (fun w' hq => pv_loada (tA rfl) rfl (by first | exact SlR.lda (HN.mono hq.1) hx0 | exact SlR.lda (HN.mono hq.1) hx1 | exact SlR.lda (HN.mono hq.1) hx2 | exact SlR.lda (HN.mono hq.1) hx3) (by rfl)) ?_)
      first | (refine fw_take 11 rfl (by kernel_rfl) rfl rfl (by kernel_rfl) (by kernel_rfl) (by kernel_rfl) hNP hU rfl (fun w' hq => pv_move rfl) ?_)
      first | (refine fw_take 12 rfl (by kernel_rfl) rfl rfl (by kernel_rfl) (by kernel_rfl) (by kernel_rfl) hNP hU rfl (fun w' hq => pv_ian (tS rfl) rfl rfl (by omega)) ?_) | (refine fw_take 12 rfl (by kernel_rfl) rfl rfl (by kernel_rfl) (by kernel_rfl) (by kernel_rfl) hNP hU rfl (fun w' hq => pv_ia (tS rfl) rfl rfl (by omega)) ?_)
      first | (refine fw_take 13 rfl (by kernel_rfl) rfl rfl (by kernel_rfl) (by kernel_rfl) (by kernel_rfl) hNP hU rfl (fun w' hq => pv_load (t1 rfl) rfl (by first | exact PT.ld0 hq.2 rfl | exact PT.ld hq.2 rfl)) ?_) | (refine fw_take 13 rfl (by kernel_rfl) rfl rfl (by kernel_rfl) (by kernel_rfl) (by kernel_rfl) hNP hU rfl (fun w' hq => pv_loada (tA rfl) rfl (by first | exact PT.lda hq.2) (by rfl)) ?_) | (refine fw_take 13 rfl (by kernel_rfl) rfl rfl (by kernel_rfl) (by kernel_rfl) (by kernel_rfl) hNP hU rfl (fun w' hq => pv_load (t1 rfl) rfl (by first | exact SlR.ld (HN.mono hq.1) hx0 rfl | exact SlR.ld1 (HN.mono hq.1) hx0 rfl | exact SlR.ld (HN.mono hq.1) hx1 rfl | exact SlR.ld1 (HN.mono hq.1) hx1 rfl | exact SlR.ld (HN.mono hq.1) hx2 rfl | exact SlR.ld1 (HN.mono hq.1) hx2 rfl | exact SlR.ld (HN.mono hq.1) hx3 rfl | exact SlR.ld1 (HN.mono hq.1) hx3 rfl)) ?_) | (refine fw_take 13 rfl (by kernel_rfl) rfl rfl (by kernel_rfl) (by kernel_rfl) (by kernel_rfl) hNP hU rfl (fun w' hq => pv_loada (tA rfl) rfl (by first | exact SlR.lda (HN.mono hq.1) hx0 | exact SlR.lda (HN.mono hq.1) hx1 | exact SlR.lda (HN.mono hq.1) hx2 | exact SlR.lda (HN.mono hq.1) hx3) (by rfl)) ?_)
      first | (refine fw_take 14 rfl (by kernel_rfl) rfl rfl (by kernel_rfl) (by kernel_rfl) (by kernel_rfl) hNP hU rfl (fun w' hq => pv_move rfl) ?_)
      first | (refine fw_take 15 rfl (by kernel_rfl) rfl rfl (by kernel_rfl) (by kernel_rfl) (by kernel_rfl) hNP hU rfl (fun w' hq => pv_ian (tS rfl) rfl rfl (by omega)) ?_) | (refine fw_take 15 rfl (by kernel_rfl) rfl rfl (by kernel_rfl) (by kernel_rfl) (by kernel_rfl) hNP hU rfl (fun w' hq => pv_ia (tS rfl) rfl rfl (by omega)) ?_)
      first | (refine fw_take 16 rfl (by kernel_rfl) rfl rfl (by kernel_rfl) (by kernel_rfl) (by kernel_rfl) hNP hU rfl (fun w' hq => pv_load (t1 rfl) rfl (by first | exact PT.ld0 hq.2 rfl | exact PT.ld hq.2 rfl)) ?_) | (refine fw_take 16 rfl (by kernel_rfl) rfl rfl (by kernel_rfl) (by kernel_rfl) (by kernel_rfl) hNP hU rfl (fun w' hq => pv_loada (tA rfl) rfl (by first | exact PT.lda hq.2) (by rfl)) ?_) | (refine fw_take 16 rfl (by kernel_rfl) rfl rfl (by kernel_rfl) (by kernel_rfl) (by kernel_rfl) hNP hU rfl (fun w' hq => pv_load (t1 rfl) rfl (by first | exact SlR.ld (HN.mono hq.1) hx0 rfl | exact SlR.ld1 (HN.mono hq.1) hx0 rfl | exact SlR.ld (HN.mono hq.1) hx1 rfl | exact SlR.ld1 (HN.mono hq.1) hx1 rfl | exact SlR.ld (HN.mono hq.1) hx2 rfl | exact SlR.ld1 (HN.mono hq.1) hx2 rfl | exact SlR.ld (HN.mono hq.1) hx3 rfl | exact SlR.ld1 (HN.mono hq.1) hx3 rfl)) ?_) | (refine fw_take 16 rfl (by kernel_rfl) rfl rfl (by kernel_rfl) (by kernel_rfl) (by kernel_rfl) hNP hU rfl (fun w' hq => pv_loada (tA rfl) rfl (by first | exact SlR.lda (HN.mono hq.1) hx0 | exact SlR.lda (HN.mono hq.1) hx1 | exact SlR.lda (HN.mono hq.1) hx2 | exact SlR.lda (HN.mono hq.1) hx3) (by rfl)) ?_)
      first | (refine fw_take 17 rfl (by kernel_rfl) rfl rfl (by kernel_rfl) (by kernel_rfl) (by kernel_rfl) hNP hU rfl (fun w' hq => tyB_53 rfl rfl rfl) ?_)
      refine fw_act 18 (by kernel_rfl) rfl rfl rfl ?_
      refine act_bs (vs := [.agg (encL ⟨n0, n1, n2, n3⟩).toArray]) (cs := encL ⟨n0, n1, n2, n3⟩) elemL rfl rfl (by omega) (by omega) rfl (by simp [Value.cells, encL]) ?_; intro wb HB hbb; have hO3 := (hO2.mono (below_drew _)).mono hbb; have hT3 := (hT2.mono (below_drew _)).mono hbb; have hbz := hbb.size; refine ⟨⟨grow_trans hU.1 hbb, hU.2.mono hbb⟩, fun hU => ?_⟩
      refine fw_act 19 (by kernel_rfl) rfl rfl rfl ?_
      refine act_app elemL encL_len encL_one rfl rfl hT3 (HB.slR (xs := [⟨n0, n1, n2, n3⟩]) encL_len rfl (by omega)) rfl hU.1.size (by simp; omega) (by simp [maxLen]; omega) ?_; intro v9 w9 hT9 hg9 hb9; refine ⟨⟨hU.1.grown hg9 hU.1.size (fun q hq => (Own.lt hT3 q hq).1), hU.2.grown hg9 (fun e => own_pt_ne hT3 hU.2 (by decide) e)⟩, fun hU => ?_⟩
      first | (refine fw_act 20 (by kernel_rfl) rfl rfl rfl ?_; refine act_pv (pv_nilp rfl) ?_; refine ⟨hU, fun hU => ?_⟩)
      first | (refine fw_take 21 rfl (by kernel_rfl) rfl rfl (by kernel_rfl) (by kernel_rfl) (by kernel_rfl) hNP hU rfl (fun w' hq => pv_fa (tF rfl) rfl) ?_)
      refine fw_last (by kernel_rfl) rfl rfl rfl rfl (by kernel_rfl) ?_
      obtain ⟨hb3, HW3⟩ := hU; clear hNP
      obtain ⟨va, vc, rfl, -, -⟩ := Own.slR encL_len hT9; refine act_store HW3 (tZ rfl) rfl rfl rfl (by simp) ?_; intro wz HWz hgz hzz
      have hO9 := hO3.kept hg9 (own_ne_T hO3 hT3 (by decide))
      have hOz := hO9.kept hgz (Or.inr (own_pt_ne hO9 HW3 (by decide)))
      have hTz := hT9.kept hgz (Or.inr (own_pt_ne hT9 HW3 (by decide)))
      have hbz4 := hb3.grown hgz hb3.size (by intro q hq; injection hq with hq; omega)
      obtain ⟨va', vc', hv', hSz, hvb⟩ := Own.slR encL_len hTz
      injection hv' with hv1 _ hv3; subst hv1 hv3
      obtain ⟨vb, vo2, rfl, -, -⟩ := hSz.at (by simp)
      obtain ⟨hvb1, hvb2⟩ := hvb _ rfl
      simp only at hvb1 hvb2; subst hvb2
      have hw := Below.refl wz.heap.size wz
      have hids : ∀ x ∈ t, x.id ≠ n0 := findT_none hf
      have hll : (t ++ [(⟨n0, n1, n2, n3⟩ : Lt)]).length ≤ 1000000 := by simp; omega
      repeat' (first | (refine lw_pure rfl (pv_move rfl) ?_) | (refine is_cw ?_; first | (refine cw_seq ?_) | (refine cw_region ?_)) | (refine is_qw ?_; first | (with_reducible refine qw_then ?_)) | ((refine is_load ?_; first | (refine lw_pure rfl (pv_load (t1 rfl) rfl (by first | exact PT.ld0 (HWz.mono hw) rfl | exact PT.ld (HWz.mono hw) rfl)) ?_))) | ((refine is_fa ?_; first | (refine lw_pure rfl (pv_fa (tF rfl) rfl) ?_))) | (refine lw_pure rfl (pv_nilp rfl) ?_))
      refine lw_call (f := 112) (by kernel_rfl) rfl rfl (sort_L w0.heap.size vb vc _ wz hTz hll (putT_pw hp1 hids)) ?_; rintro e1 w5 ⟨rfl, ⟨zs, hz1, hz2, hTs2⟩, hg5⟩; refine ⟨_, rfl, ?_⟩
      have hze := putT_sorted hp1 hids hz1 hz2
      have hO5 := hOz.kept hg5 (own_ne_T hOz hTz (by decide))
      have hW5 := HWz.grown hg5 (own_pt_ne hTz HWz (by decide))
      have hb5 := hbz4.grown hg5 hbz4.size (by intro q hq; injection hq with hq; omega)
      have hw := Below.refl w5.heap.size w5
      repeat' (first | (refine lw_pure rfl (pv_assign rfl) ?_) | (refine is_cw ?_; first | (refine cw_seq ?_) | (refine cw_region ?_) | (refine cw_ret ?_)) | (refine is_qw ?_; first | (with_reducible refine qw_then ?_)) | (refine lw_nil ?_))
      refine qw_ret1 rfl rfl ⟨rfl, fun _ => ⟨_, _, ⟨hW5, hO5, ?_, hNb⟩⟩, hb5⟩
      rw [← hze]
      rw [show (t ++ [(⟨n0, n1, n2, n3⟩ : Lt)]).length = zs.length from hz1.length_eq.symm] at hTs2 ⊢
      exact hTs2
  · have hf : findT t n0 = some r := find_at hxk hr hn
    rw [hf, if_pos (by rfl)]
    repeat' (first | (refine lw_pure rfl (pv_assign rfl) ?_) | (refine is_cw ?_; first | (refine cw_seq ?_) | (refine cw_region ?_) | (refine cw_true rfl rfl ?_) | (refine cw_ret ?_)) | (refine is_qw ?_; first | (with_reducible refine qw_then ?_) | (with_reducible refine qw_then_ret ?_) | (with_reducible refine qw_in_ret ?_)) | (refine lw_nil ?_))
    exact qw_ret1 rfl rfl ⟨rfl, by simp, hb2⟩
set_option maxRecDepth 20000 in
set_option maxHeartbeats 4000000 in
theorem cancelled_c {p : List Opn} {t : List Lt} {ev0 : Evt} {w0 w : World} {N : Nat} {a : Option Addr} {c : Nat} {n0 : Int} {vo vt : Value} (hev : ev0.nums = [n0]) (hb0 : Below w0.heap.size w0 w) (hW : WkO w0.heap.size w N p t vo vt) (HN : SlR encI 1 w0 a c [n0]) (hnd : (p.map (·.id)).Nodup) (hpos : ∀ x ∈ p, 0 < x.left) (hl : p.length ≤ 128) :
    Calls Tryz.prog 83 #[.pointer (some ⟨N, 0, none⟩), .slice a 1 c] w fun e w' => e = .returned (.int .i64 (cancelR p t ev0).2.2) ∧ ((cancelR p t ev0).2.2 = 0 → ∃ vo vt, WkO w0.heap.size w' N (cancelR p t ev0).1 (cancelR p t ev0).2.1 vo vt) ∧ Below w0.heap.size w0 w' := by
  obtain ⟨HW, HO, HT, hNb⟩ := hW
  obtain ⟨ab, ao, rfl, -, -⟩ := HN.at (by simp)
  obtain ⟨oa, oc, rfl, HOs, -⟩ := Own.slR encP_len HO
  have hx0 : [n0][0]? = some n0 := rfl
  have hn0 := nth_eq hev hx0
  have HNw := HN.mono hb0
  have hw := Below.refl w.heap.size w
  refine fn_enter 27 Tryz.func83 rfl rfl rfl ?_
  repeat' (first | (refine lw_pure rfl (pv_assign rfl) ?_) | (refine is_cw ?_; first | (refine cw_seq ?_) | (refine cw_region ?_)) | (refine is_qw ?_; first | (with_reducible refine qw_then ?_)) | (refine lw_nil ?_))
  refine cw_drawn (fun w' => Below w.heap.size w w') (by kernel_rfl) (by repeat (first | exact NoPanic.body | with_reducible refine NoPanic.then ?_ | with_reducible refine NoPanic.inBlock ?_)) (fun hNP => ?_)
  have hS := hw.drew
  (refine at0 0 rfl (fun w' hq => pv_move rfl) ?_)
  (refine at0 1 rfl (fun w' hq => pv_nilp rfl) ?_)
  (refine at0 2 rfl (fun w' hq => pv_fa (tF rfl) rfl) ?_)
  (refine at0 3 rfl (fun w' hq => pv_load (t1 rfl) rfl (by first | exact PT.ld0 (HW.mono hq) rfl | exact PT.ld (HW.mono hq) rfl | exact SlR.ld (HNw.mono hq) hx0 rfl | exact SlR.ld1 (HNw.mono hq) hx0 rfl)) ?_)
  (refine at0 4 rfl (fun w' hq => pv_move rfl) ?_)
  (refine at0 5 rfl (fun w' hq => pv_ia (tS rfl) rfl rfl (by omega)) ?_)
  (refine at0 6 rfl (fun w' hq => pv_load (t1 rfl) rfl (by first | exact PT.ld0 (HW.mono hq) rfl | exact PT.ld (HW.mono hq) rfl | exact SlR.ld (HNw.mono hq) hx0 rfl | exact SlR.ld1 (HNw.mono hq) hx0 rfl)) ?_)
  refine aw_act 7 (by kernel_rfl) rfl rfl rfl ?_
  refine act_call (f := 55) (by kernel_rfl) rfl (at_c n0 rfl (HOs.mono hS)) ?_; rintro e1 w1 ⟨⟨i, rfl, hi⟩, hb1⟩; refine ⟨_, rfl, grow_trans hS hb1, fun hS => ?_⟩
  (refine at0 8 rfl (fun w' hq => pv_assign rfl) ?_)
  refine aw_done (by kernel_rfl) ?_
  replace hw := hS; clear hS hNP
  have hb2 := grow_trans hb0 hw
  rcases hi with ⟨rfl, hn⟩ | ⟨k, r, rfl, hxk, hr, hn⟩
  · have hf : findP p n0 = none := find_none hn
    have hR : cancelR p t ev0 = ([], [], 5) := by unfold cancelR; rw [hn0, hf]
    rw [hR]
    repeat' (first | (refine lw_pure rfl (pv_move rfl) ?_) | (refine lw_pure rfl (pv_assign rfl) ?_) | (refine is_cw ?_; first | (refine cw_seq ?_) | (refine cw_region ?_) | (refine cw_true rfl rfl ?_) | (refine cw_ret ?_)) | (refine is_qw ?_; first | (with_reducible refine qw_then ?_) | (with_reducible refine qw_then_ret ?_)) | (refine lw_nil ?_) | ((refine is_bin ?_; first | (refine lw_pure rfl (pv_lss rfl rfl) ?_))))
    exact qw_ret1 rfl rfl ⟨rfl, by simp, hb2⟩
  · have hf : findP p n0 = some r := find_at hxk hr hn
    have hR : cancelR p t ev0 = (lessP p n0 r.left, t, 0) := by unfold cancelR; rw [hn0, hf]
    rw [hR]
    have hrid : r.id = n0 := by simpa using hr
    have hlt : k < p.length := (List.getElem?_eq_some_iff.1 hxk).1
    have hce := cancel_eq hxk hnd hpos
    rw [hrid] at hce
    repeat' (first | (refine lw_pure rfl (pv_move rfl) ?_) | (refine is_cw ?_; first | (refine cw_seq ?_) | (refine cw_region ?_) | (refine cw_false rfl rfl ?_) | (refine cw_skip ?_)) | (refine is_qw ?_; first | (with_reducible refine qw_then ?_)) | (refine lw_nil ?_) | ((refine is_bin ?_; first | (refine lw_pure rfl (pv_lss rfl rfl) ?_) | (refine lw_pure rfl (pv_inc rfl rfl (by omega)) ?_))) | ((refine is_load ?_; first | (refine lw_pure rfl (pv_load (t1 rfl) rfl (by first | exact PT.ld0 (HW.mono hw) rfl | exact PT.ld (HW.mono hw) rfl)) ?_))) | ((refine is_fa ?_; first | (refine lw_pure rfl (pv_fa (tF rfl) rfl) ?_))) | (refine lw_pure rfl (pv_nilp rfl) ?_))
    refine lw_call (f := 109) (by kernel_rfl) rfl rfl (delone_P w0.heap.size k hlt hb2.size (HO.mono hw)) ?_; rintro e1 w5 ⟨⟨v', rfl, hO5⟩, hg5, hb5⟩; refine ⟨_, rfl, ?_⟩
    have HW5 := (HW.mono hw).grown hg5 (own_pt_ne (HO.mono hw) (HW.mono hw) (by decide))
    have hT5 := (HT.mono hw).kept hg5 (own_ne_T (HT.mono hw) (HO.mono hw) (by decide))
    have hb6 := hb2.trans hb5
    obtain ⟨va, vc, rfl, -, -⟩ := Own.slR encP_len hO5
    have hw := Below.refl w5.heap.size w5
    repeat' (first | ((refine is_fa ?_; first | (refine lw_pure rfl (pv_fa (tF rfl) rfl) ?_))) | (refine lw_pure rfl (pv_nilp rfl) ?_))
    refine lw_store HW5 (tZ rfl) rfl rfl rfl (by simp) ?_; intro w6 HW6 hg6 hz6
    have hO6 := hO5.kept hg6 (Or.inr (own_pt_ne hO5 HW5 (by decide)))
    have hT6 := hT5.kept hg6 (Or.inr (own_pt_ne hT5 HW5 (by decide)))
    have hb7 := hb6.grown hg6 hb6.size (by intro q hq; injection hq with hq; omega)
    have hw := Below.refl w6.heap.size w6
    repeat' (first | (refine lw_pure rfl (pv_assign rfl) ?_) | (refine is_cw ?_; first | (refine cw_seq ?_) | (refine cw_region ?_) | (refine cw_ret ?_)) | (refine is_qw ?_; first | (with_reducible refine qw_then ?_)) | (refine lw_nil ?_))
    refine qw_ret1 rfl rfl ⟨rfl, fun _ => ⟨_, _, ⟨HW6, ?_, hT6, hNb⟩⟩, hb7⟩
    rw [hce]; exact hO6
set_option maxRecDepth 20000 in
set_option maxHeartbeats 4000000 in
theorem gone_c {p : List Opn} {t : List Lt} {ev0 : Evt} {w0 w : World} {N m : Nat} {a : Option Addr} {c : Nat} {ns : List Int} {n0 : Int} {vo vt : Value} (hev : ev0.nums = ns) (hm : ns.length = m) (hx0 : ns[0]? = some n0) (hb0 : Below w0.heap.size w0 w) (hW : WkO w0.heap.size w N p t vo vt) (HN : SlR encI 1 w0 a c ns) (hp1 : t.Pairwise keyT) (hl : t.length ≤ 32) :
    Calls Tryz.prog 86 #[.pointer (some ⟨N, 0, none⟩), .slice a m c] w fun e w' => e = .returned (.int .i64 (goneR p t ev0).2.2) ∧ ((goneR p t ev0).2.2 = 0 → ∃ vo vt, WkO w0.heap.size w' N (goneR p t ev0).1 (goneR p t ev0).2.1 vo vt) ∧ Below w0.heap.size w0 w' := by
  subst hm
  have hlen : 0 < ns.length := (List.getElem?_eq_some_iff.1 hx0).1
  obtain ⟨HW, HO, HT, hNb⟩ := hW
  obtain ⟨ab, ao, rfl, -, -⟩ := HN.at (by intro h; rw [h] at hlen; simp at hlen)
  obtain ⟨ta, tc, rfl, HTs, -⟩ := Own.slR encL_len HT
  have hn0 := nth_eq hev hx0
  have HNw := HN.mono hb0
  have hw := Below.refl w.heap.size w
  refine fn_enter 27 Tryz.func86 rfl rfl rfl ?_
  repeat' (first | (refine lw_pure rfl (pv_assign rfl) ?_) | (refine is_cw ?_; first | (refine cw_seq ?_) | (refine cw_region ?_)) | (refine is_qw ?_; first | (with_reducible refine qw_then ?_)) | (refine lw_nil ?_))
  refine cw_drawn (fun w' => Below w.heap.size w w') (by kernel_rfl) (by repeat (first | exact NoPanic.body | with_reducible refine NoPanic.then ?_ | with_reducible refine NoPanic.inBlock ?_)) (fun hNP => ?_)
  have hS := hw.drew
  (refine at0 0 rfl (fun w' hq => pv_move rfl) ?_)
  (refine at0 1 rfl (fun w' hq => pv_nilp rfl) ?_)
  (refine at0 2 rfl (fun w' hq => pv_fa (tF rfl) rfl) ?_)
  (refine at0 3 rfl (fun w' hq => pv_load (t1 rfl) rfl (by first | exact PT.ld0 (HW.mono hq) rfl | exact PT.ld (HW.mono hq) rfl | exact SlR.ld (HNw.mono hq) hx0 rfl | exact SlR.ld1 (HNw.mono hq) hx0 rfl)) ?_)
  (refine at0 4 rfl (fun w' hq => pv_move rfl) ?_)
  (refine at0 5 rfl (fun w' hq => pv_ian (tS rfl) rfl rfl (by omega)) ?_)
  (refine at0 6 rfl (fun w' hq => pv_load (t1 rfl) rfl (by first | exact PT.ld0 (HW.mono hq) rfl | exact PT.ld (HW.mono hq) rfl | exact SlR.ld (HNw.mono hq) hx0 rfl | exact SlR.ld1 (HNw.mono hq) hx0 rfl)) ?_)
  refine aw_act 7 (by kernel_rfl) rfl rfl rfl ?_
  refine act_call (f := 56) (by kernel_rfl) rfl (lot_c n0 rfl (HTs.mono hS)) ?_; rintro e1 w1 ⟨⟨i, rfl, hi⟩, hb1⟩; refine ⟨_, rfl, grow_trans hS hb1, fun hS => ?_⟩
  (refine at0 8 rfl (fun w' hq => pv_assign rfl) ?_)
  refine aw_done (by kernel_rfl) ?_
  replace hw := hS; clear hS hNP
  have hb2 := grow_trans hb0 hw
  rcases hi with ⟨rfl, hn⟩ | ⟨k, r, rfl, hxk, hr, hn⟩
  · have hf : findT t n0 = none := find_none hn
    have hR : goneR p t ev0 = ([], [], 5) := by unfold goneR; rw [hn0, hf]; rfl
    rw [hR]
    repeat' (first | (refine lw_pure rfl (pv_move rfl) ?_) | (refine lw_pure rfl (pv_assign rfl) ?_) | (refine is_cw ?_; first | (refine cw_seq ?_) | (refine cw_region ?_) | (refine cw_true rfl rfl ?_) | (refine cw_ret ?_)) | (refine is_qw ?_; first | (with_reducible refine qw_then ?_) | (with_reducible refine qw_then_ret ?_)) | (refine lw_nil ?_) | ((refine is_bin ?_; first | (refine lw_pure rfl (pv_lss rfl rfl) ?_))))
    exact qw_ret1 rfl rfl ⟨rfl, by simp, hb2⟩
  · have hf : findT t n0 = some r := find_at hxk hr hn
    have hR : goneR p t ev0 = (p, gone t n0, 0) := by unfold goneR; rw [hn0, hf]; rfl
    rw [hR]
    have hrid : r.id = n0 := by simpa using hr
    have hlt : k < t.length := (List.getElem?_eq_some_iff.1 hxk).1
    have hce := gone_eq hxk hp1
    rw [hrid] at hce
    repeat' (first | (refine lw_pure rfl (pv_move rfl) ?_) | (refine is_cw ?_; first | (refine cw_seq ?_) | (refine cw_region ?_) | (refine cw_false rfl rfl ?_) | (refine cw_skip ?_)) | (refine is_qw ?_; first | (with_reducible refine qw_then ?_)) | (refine lw_nil ?_) | ((refine is_bin ?_; first | (refine lw_pure rfl (pv_lss rfl rfl) ?_) | (refine lw_pure rfl (pv_inc rfl rfl (by omega)) ?_))) | ((refine is_load ?_; first | (refine lw_pure rfl (pv_load (t1 rfl) rfl (by first | exact PT.ld0 (HW.mono hw) rfl | exact PT.ld (HW.mono hw) rfl)) ?_))) | ((refine is_fa ?_; first | (refine lw_pure rfl (pv_fa (tF rfl) rfl) ?_))) | (refine lw_pure rfl (pv_nilp rfl) ?_))
    refine lw_call (f := 113) (by kernel_rfl) rfl rfl (delone_L w0.heap.size k hlt hb2.size (HT.mono hw)) ?_; rintro e1 w5 ⟨⟨v', rfl, hT5⟩, hg5, hb5⟩; refine ⟨_, rfl, ?_⟩
    have HW5 := (HW.mono hw).grown hg5 (own_pt_ne (HT.mono hw) (HW.mono hw) (by decide))
    have hO5 := (HO.mono hw).kept hg5 (own_ne_T (HO.mono hw) (HT.mono hw) (by decide))
    have hb6 := hb2.trans hb5
    obtain ⟨va, vc, rfl, -, -⟩ := Own.slR encL_len hT5
    have hw := Below.refl w5.heap.size w5
    repeat' (first | ((refine is_fa ?_; first | (refine lw_pure rfl (pv_fa (tF rfl) rfl) ?_))) | (refine lw_pure rfl (pv_nilp rfl) ?_))
    refine lw_store HW5 (tZ rfl) rfl rfl rfl (by simp) ?_; intro w6 HW6 hg6 hz6
    have hO6 := hO5.kept hg6 (Or.inr (own_pt_ne hO5 HW5 (by decide)))
    have hT6 := hT5.kept hg6 (Or.inr (own_pt_ne hT5 HW5 (by decide)))
    have hb7 := hb6.grown hg6 hb6.size (by intro q hq; injection hq with hq; omega)
    have hw := Below.refl w6.heap.size w6
    repeat' (first | (refine lw_pure rfl (pv_assign rfl) ?_) | (refine is_cw ?_; first | (refine cw_seq ?_) | (refine cw_region ?_) | (refine cw_ret ?_)) | (refine is_qw ?_; first | (with_reducible refine qw_then ?_)) | (refine lw_nil ?_))
    refine qw_ret1 rfl rfl ⟨rfl, fun _ => ⟨_, _, ⟨HW6, hO6, ?_, hNb⟩⟩, hb7⟩
    rw [hce]; exact hT6

set_option maxRecDepth 20000 in
theorem zeroF_c (o : Opn) (w : World) : Calls Tryz.prog 111 #[.agg (encP o).toArray] w fun e w' => e = .returned (.bool (o.left == 0)) ∧ Below w.heap.size w w' := by
  have hE := Ext.refl w
  have hw := Below.refl w.heap.size w
  refine fn_enter 6 Tryz.func111 rfl rfl rfl ?_
  repeat' (first | (refine is_cw ?_; first | (refine cw_seq ?_) | (refine cw_region ?_)))
  refine lw_boxN rfl rfl (cs := encP o) rfl ?_; intro N1 wn hN HA hb
  replace hw := grow_trans hw hb
  clear hb
  replace hE := hE.mono hw; clear hw; have hw := Below.refl wn.heap.size wn
  repeat' (first | (refine lw_pure rfl (pv_assign rfl) ?_) | (refine is_cw ?_; first | (refine cw_seq ?_) | (refine cw_region ?_) | (refine cw_ret ?_)) | (refine is_qw ?_; first | (with_reducible refine qw_then ?_)) | (refine lw_nil ?_) | ((refine is_bin ?_; first | (refine lw_pure rfl (pv_eql rfl rfl) ?_))) | ((refine is_load ?_; first | (refine lw_pure rfl (pv_load (t1 rfl) rfl (by first | exact PT.ld0 (HA.mono hw) rfl | exact PT.ld (HA.mono hw) rfl)) ?_))) | ((refine is_fa ?_; first | (refine lw_pure rfl (pv_fa (tF rfl) rfl) ?_))))
  exact qw_ret1 rfl rfl ⟨ret_bool rfl, (hE.mono hw).b⟩
set_option maxRecDepth 20000 in
set_option maxHeartbeats 8000000 in
theorem traded_c {p : List Opn} {t : List Lt} {ev0 : Evt} {w0 w : World} {N m : Nat} {a : Option Addr} {c : Nat} {ns : List Int} {n0 n1 n3 : Int} {vo vt : Value} (hev : ev0.nums = ns) (hm : ns.length = m) (hx0 : ns[0]? = some n0) (hx1 : ns[1]? = some n1) (hx3 : ns[3]? = some n3) (hq : 1 ≤ n3 ∧ n3 ≤ 1048576) (hb0 : Below w0.heap.size w0 w) (hW : WkO w0.heap.size w N p t vo vt) (HN : SlR encI 1 w0 a c ns) (hnd : (p.map (·.id)).Nodup) (hpos : ∀ x ∈ p, 0 < x.left ∧ x.left ≤ 1048576) :
    Calls Tryz.prog 84 #[.pointer (some ⟨N, 0, none⟩), .slice a m c] w fun e w' => e = .returned (.int .i64 (tradedR p t ev0).2.2) ∧ ((tradedR p t ev0).2.2 = 0 → ∃ vo vt, WkO w0.heap.size w' N (tradedR p t ev0).1 (tradedR p t ev0).2.1 vo vt) ∧ Below w0.heap.size w0 w' := by
  subst hm
  have hlen : 3 < ns.length := (List.getElem?_eq_some_iff.1 hx3).1
  obtain ⟨HW, HO, HT, hNb⟩ := hW
  obtain ⟨ab, ao, rfl, -, -⟩ := HN.at (by intro h; rw [h] at hlen; simp at hlen)
  obtain ⟨oa, oc, rfl, HOs, hob⟩ := Own.slR encP_len HO
  have hn0 := nth_eq hev hx0
  have hn1 := nth_eq hev hx1
  have hn3 := nth_eq hev hx3
  have hR : tradedR p t ev0 = match findP p n0, findP p n1 with | some a, some b => if n0 = n1 ∨ a.left < n3 ∨ b.left < n3 then ([], [], 1) else (lessP (lessP p n0 n3) n1 n3, t, 0) | _, _ => ([], [], 5) := by
    unfold tradedR; rw [hn0, hn1, hn3]; rfl
  have HNw := HN.mono hb0
  have hw := Below.refl w.heap.size w
  refine fn_enter 94 Tryz.func84 rfl rfl rfl ?_
  repeat' (first | (refine lw_pure rfl (pv_assign rfl) ?_) | (refine is_cw ?_; first | (refine cw_seq ?_) | (refine cw_region ?_)) | (refine is_qw ?_; first | (with_reducible refine qw_then ?_)) | (refine lw_nil ?_))
  refine cw_drawn (fun w' => Below w.heap.size w w') (by kernel_rfl) (by repeat (first | exact NoPanic.body | with_reducible refine NoPanic.then ?_ | with_reducible refine NoPanic.inBlock ?_)) (fun hNP => ?_)
  have hS := hw.drew
  (refine at0 0 rfl (fun w' hq => pv_move rfl) ?_)
  (refine at0 1 rfl (fun w' hq => pv_nilp rfl) ?_)
  (refine at0 2 rfl (fun w' hq => pv_fa (tF rfl) rfl) ?_)
  (refine at0 3 rfl (fun w' hq => pv_load (t1 rfl) rfl (by first | exact PT.ld0 (HW.mono hq) rfl | exact PT.ld (HW.mono hq) rfl | exact SlR.ld (HNw.mono hq) hx0 rfl | exact SlR.ld1 (HNw.mono hq) hx0 rfl | exact SlR.ld (HNw.mono hq) hx1 rfl | exact SlR.ld1 (HNw.mono hq) hx1 rfl | exact SlR.ld (HNw.mono hq) hx3 rfl | exact SlR.ld1 (HNw.mono hq) hx3 rfl)) ?_)
  (refine at0 4 rfl (fun w' hq => pv_move rfl) ?_)
  (refine at0 5 rfl (fun w' hq => pv_ia (tS rfl) rfl rfl (by omega)) ?_)
  (refine at0 6 rfl (fun w' hq => pv_load (t1 rfl) rfl (by first | exact PT.ld0 (HW.mono hq) rfl | exact PT.ld (HW.mono hq) rfl | exact SlR.ld (HNw.mono hq) hx0 rfl | exact SlR.ld1 (HNw.mono hq) hx0 rfl | exact SlR.ld (HNw.mono hq) hx1 rfl | exact SlR.ld1 (HNw.mono hq) hx1 rfl | exact SlR.ld (HNw.mono hq) hx3 rfl | exact SlR.ld1 (HNw.mono hq) hx3 rfl)) ?_)
  (refine at0 8 rfl (fun w' hq => pv_move rfl) ?_)
  (refine at0 9 rfl (fun w' hq => pv_nilp rfl) ?_)
  (refine at0 10 rfl (fun w' hq => pv_fa (tF rfl) rfl) ?_)
  (refine at0 11 rfl (fun w' hq => pv_load (t1 rfl) rfl (by first | exact PT.ld0 (HW.mono hq) rfl | exact PT.ld (HW.mono hq) rfl | exact SlR.ld (HNw.mono hq) hx0 rfl | exact SlR.ld1 (HNw.mono hq) hx0 rfl | exact SlR.ld (HNw.mono hq) hx1 rfl | exact SlR.ld1 (HNw.mono hq) hx1 rfl | exact SlR.ld (HNw.mono hq) hx3 rfl | exact SlR.ld1 (HNw.mono hq) hx3 rfl)) ?_)
  (refine at0 12 rfl (fun w' hq => pv_move rfl) ?_)
  (refine at0 13 rfl (fun w' hq => pv_ia (tS rfl) rfl rfl (by omega)) ?_)
  (refine at0 14 rfl (fun w' hq => pv_load (t1 rfl) rfl (by first | exact PT.ld0 (HW.mono hq) rfl | exact PT.ld (HW.mono hq) rfl | exact SlR.ld (HNw.mono hq) hx0 rfl | exact SlR.ld1 (HNw.mono hq) hx0 rfl | exact SlR.ld (HNw.mono hq) hx1 rfl | exact SlR.ld1 (HNw.mono hq) hx1 rfl | exact SlR.ld (HNw.mono hq) hx3 rfl | exact SlR.ld1 (HNw.mono hq) hx3 rfl)) ?_)
  (refine at0 16 rfl (fun w' hq => pv_move rfl) ?_)
  (refine at0 17 rfl (fun w' hq => pv_ian (tS rfl) rfl rfl (by omega)) ?_)
  (refine at0 18 rfl (fun w' hq => pv_load (t1 rfl) rfl (by first | exact PT.ld0 (HW.mono hq) rfl | exact PT.ld (HW.mono hq) rfl | exact SlR.ld (HNw.mono hq) hx0 rfl | exact SlR.ld1 (HNw.mono hq) hx0 rfl | exact SlR.ld (HNw.mono hq) hx1 rfl | exact SlR.ld1 (HNw.mono hq) hx1 rfl | exact SlR.ld (HNw.mono hq) hx3 rfl | exact SlR.ld1 (HNw.mono hq) hx3 rfl)) ?_)
  refine aw_act 7 (by kernel_rfl) rfl rfl rfl ?_
  refine act_call (f := 55) (by kernel_rfl) rfl (at_c n0 rfl (HOs.mono hS)) ?_; rintro e1 w1 ⟨⟨i, rfl, hi⟩, hb1⟩; refine ⟨_, rfl, grow_trans hS hb1, fun hS => ?_⟩
  refine aw_act 15 (by kernel_rfl) rfl rfl rfl ?_
  refine act_call (f := 55) (by kernel_rfl) rfl (at_c n1 rfl (HOs.mono hS)) ?_; rintro e1 w1 ⟨⟨j, rfl, hj⟩, hb1⟩; refine ⟨_, rfl, grow_trans hS hb1, fun hS => ?_⟩
  (refine at0 19 rfl (fun w' hq => pv_assign rfl) ?_)
  (refine at0 20 rfl (fun w' hq => pv_assign rfl) ?_)
  (refine at0 21 rfl (fun w' hq => pv_assign rfl) ?_)
  refine aw_done (by kernel_rfl) ?_
  replace hw := hS; clear hS hNP
  have hb2 := grow_trans hb0 hw
  rcases hi with ⟨rfl, hi⟩ | ⟨i, r, rfl, hxi, hri, hi⟩
  · have hf : findP p n0 = none := find_none hi
    rw [hf] at hR
    rw [hR]
    rcases hj with ⟨rfl, hj⟩ | ⟨j, s, rfl, hxj, hrj, hj⟩
    all_goals repeat' (first | (refine lw_pure rfl (pv_move rfl) ?_) | (refine lw_pure rfl (pv_assign rfl) ?_) | (refine is_cw ?_; first | (refine cw_seq ?_) | (refine cw_region ?_) | (refine cw_true rfl rfl ?_) | (refine cw_block ?_) | (refine cw_ret ?_)) | (refine is_qw ?_; first | (with_reducible refine qw_then ?_) | (with_reducible refine qw_then_ret ?_) | (with_reducible refine qw_in_ret ?_)) | (refine lw_nil ?_) | (refine is_guarded ?_; first | (refine lw_not rfl rfl rfl rfl ?_)) | ((refine is_bin ?_; first | (refine lw_pure rfl (pv_lss rfl rfl) ?_))) | (refine is_pk ?_; refine lw_pure rfl (pv_pick_t rfl rfl rfl) ?_))
    all_goals exact qw_ret1 rfl rfl ⟨rfl, by simp, hb2⟩
  · have hf : findP p n0 = some r := find_at hxi hri hi
    have hrid : r.id = n0 := by simpa using hri
    rcases hj with ⟨rfl, hj⟩ | ⟨j, s, rfl, hxj, hrj, hj⟩
    · have hg : findP p n1 = none := find_none hj
      rw [hf, hg] at hR
      rw [hR]
      repeat' (first | (refine lw_pure rfl (pv_move rfl) ?_) | (refine lw_pure rfl (pv_assign rfl) ?_) | (refine is_cw ?_; first | (refine cw_seq ?_) | (refine cw_region ?_) | (refine cw_true rfl rfl ?_) | (refine cw_block ?_) | (refine cw_ret ?_)) | (refine is_qw ?_; first | (with_reducible refine qw_then ?_) | (with_reducible refine qw_then_ret ?_) | (with_reducible refine qw_in_ret ?_)) | (refine lw_nil ?_) | (refine is_guarded ?_; first | (refine lw_on rfl rfl rfl ?_)) | ((refine is_bin ?_; first | (refine lw_pure rfl (pv_lss rfl rfl) ?_))) | (refine is_pk ?_; refine lw_pure rfl (pv_pick_f rfl rfl rfl) ?_))
      all_goals exact qw_ret1 rfl rfl ⟨rfl, by simp, hb2⟩
    · have hg : findP p n1 = some s := find_at hxj hrj hj
      have hsid : s.id = n1 := by simpa using hrj
      rw [hf, hg] at hR
      dsimp only at hR
      rw [hR]
      have hlti : i < p.length := (List.getElem?_eq_some_iff.1 hxi).1
      have hltj : j < p.length := (List.getElem?_eq_some_iff.1 hxj).1
      have hij : i = j ↔ n0 = n1 := by
        constructor
        · rintro rfl; rw [hxi] at hxj; injection hxj with hxj; subst hxj; rw [← hrid, ← hsid]
        · intro e
          have hrs : r = s := inj_of_nodup hnd (List.mem_of_getElem? hxi) (List.mem_of_getElem? hxj) (by rw [hrid, hsid, e])
          subst hrs
          have h1 : (p.map (·.id))[i]? = some r.id := by rw [List.getElem?_map, hxi]; rfl
          have h2 : (p.map (·.id))[j]? = some r.id := by rw [List.getElem?_map, hxj]; rfl
          rcases Nat.lt_trichotomy i j with h3 | h3 | h3
          · exact absurd rfl (pwg_get (List.nodup_iff_pairwise_ne.1 hnd) h3 h1 h2)
          · exact h3
          · exact absurd rfl (pwg_get (List.nodup_iff_pairwise_ne.1 hnd) h3 h2 h1)
      obtain ⟨ob, oo, rfl, -, -⟩ := HOs.at (by intro h; rw [h] at hlti; simp at hlti)
      obtain ⟨hob1, hob2⟩ := hob _ rfl
      simp only at hob1 hob2; subst hob2
      have hrl := hpos r (List.mem_of_getElem? hxi)
      have hsl := hpos s (List.mem_of_getElem? hxj)
      have HOw := HOs
      by_cases hbad : n0 = n1 ∨ r.left < n3 ∨ s.left < n3
      · rw [if_pos hbad]
        repeat' (first | (refine lw_pure rfl (pv_move rfl) ?_) | (refine lw_pure rfl (pv_assign rfl) ?_) | (refine is_cw ?_; first | (refine cw_seq ?_) | (refine cw_region ?_) | (refine cw_true rfl rfl ?_) | (refine cw_false rfl rfl ?_) | (refine is_cd ?_; refine cw_true rfl (by first | assumption | exact decide_eq_true (by omega) | exact dec_notT (by omega)) ?_) | (refine cw_block ?_) | (refine cw_ret ?_)) | (refine is_qw ?_; first | (with_reducible refine qw_then ?_) | (with_reducible refine qw_then_ret ?_) | (with_reducible refine qw_in_ret ?_)) | (refine lw_nil ?_) | (refine is_guarded ?_; first | (refine lw_not rfl rfl rfl rfl ?_) | (refine lw_on rfl rfl rfl ?_) | (refine lw_on rfl rfl (by first | assumption | exact decide_eq_true (by omega) | exact decide_eq_false (by omega) | exact dec_notT (by omega) | exact dec_notF (by omega)) ?_) | (refine lw_not rfl rfl rfl (by first | assumption | exact decide_eq_true (by omega) | exact decide_eq_false (by omega) | exact dec_notT (by omega) | exact dec_notF (by omega)) ?_) | (refine lw_gs_f rfl rfl rfl (fun hc => ?_) (fun hc => ?_) <;> (first | replace hc := of_decide_eq_true hc | replace hc := of_decide_eq_false hc | replace hc := dec_nT hc | replace hc := dec_nF hc | skip) <;> (try (exfalso; omega)))) | ((refine is_bin ?_; first | (refine lw_pure rfl (pv_lss rfl rfl) ?_) | (refine lw_pure rfl (pv_eql rfl rfl) ?_) | (refine lw_pure rfl (pv_gtr rfl rfl) ?_))) | ((refine is_load ?_; first | (refine lw_pure rfl (pv_load (t1 rfl) rfl (by first | exact PT.ld0 (HW.mono hw) rfl | exact PT.ld (HW.mono hw) rfl | exact SlR.ld (HOw.mono hw) hxi rfl | exact SlR.ld1 (HOw.mono hw) hxi rfl | exact SlR.ld (HOw.mono hw) hxj rfl | exact SlR.ld1 (HOw.mono hw) hxj rfl)) ?_))) | ((refine is_fa ?_; first | (refine lw_pure rfl (pv_fa (tF rfl) rfl) ?_))) | ((refine is_ia ?_; first | (refine lw_pure rfl (pv_ian (tS rfl) rfl rfl (by omega)) ?_))) | (refine is_pk ?_; refine lw_pure rfl (pv_pick_t rfl rfl rfl) ?_) | (refine is_pk ?_; refine lw_pure rfl (pv_pick_f rfl rfl rfl) ?_) | (refine is_pk ?_; refine lw_pure rfl (pv_pick_t rfl (by first | assumption | exact decide_eq_true (by omega) | exact dec_notT (by omega)) rfl) ?_) | (refine is_pk ?_; refine lw_pure rfl (pv_pick_f rfl (by first | assumption | exact decide_eq_false (by omega) | exact dec_notF (by omega)) rfl) ?_) | (refine lw_pure rfl (pv_nilp rfl) ?_))
        all_goals first | (exfalso; omega) | exact qw_ret1 rfl rfl ⟨rfl, by simp, hb2⟩
      · rw [if_neg hbad]
        have hne : ¬ i = j := fun e => hbad (Or.inl (hij.1 e))
        have hg1 : ¬ r.left < n3 := fun e => hbad (Or.inr (Or.inl e))
        have hg2 : ¬ s.left < n3 := fun e => hbad (Or.inr (Or.inr e))
        repeat' (first | (refine lw_pure rfl (pv_move rfl) ?_) | (refine lw_pure rfl (pv_assign rfl) ?_) | (refine is_cw ?_; first | (refine cw_seq ?_) | (refine cw_region ?_) | (refine cw_false rfl rfl ?_) | (refine is_cd ?_; refine cw_false rfl (by first | assumption | exact decide_eq_false (by omega) | exact dec_notF (by omega)) ?_) | (refine cw_skip ?_) | (refine cw_block ?_)) | (refine is_qw ?_; first | (with_reducible refine qw_then ?_) | (with_reducible refine qw_in ?_)) | (refine lw_nil ?_) | (refine is_guarded ?_; first | (refine lw_on rfl rfl rfl ?_) | (refine lw_on rfl rfl (by first | assumption | exact decide_eq_true (by omega) | exact decide_eq_false (by omega) | exact dec_notT (by omega) | exact dec_notF (by omega)) ?_)) | ((refine is_bin ?_; first | (refine lw_pure rfl (pv_lss rfl rfl) ?_) | (refine lw_pure rfl (pv_eql rfl rfl) ?_) | (refine lw_pure rfl (pv_gtr rfl rfl) ?_) | (refine lw_pure rfl (pv_sub rfl rfl (by omega)) ?_))) | ((refine is_load ?_; first | (refine lw_pure rfl (pv_load (t1 rfl) rfl (by first | exact PT.ld0 (HW.mono hw) rfl | exact PT.ld (HW.mono hw) rfl | exact SlR.ld (HOw.mono hw) hxi rfl | exact SlR.ld1 (HOw.mono hw) hxi rfl | exact SlR.ld (HOw.mono hw) hxj rfl | exact SlR.ld1 (HOw.mono hw) hxj rfl)) ?_))) | ((refine is_fa ?_; first | (refine lw_pure rfl (pv_fa (tF rfl) rfl) ?_))) | ((refine is_ia ?_; first | (refine lw_pure rfl (pv_ian (tS rfl) rfl rfl (by omega)) ?_))) | (refine is_pk ?_; refine lw_pure rfl (pv_pick_f rfl rfl rfl) ?_) | (refine is_pk ?_; refine lw_pure rfl (pv_pick_f rfl (by first | assumption | exact decide_eq_false (by omega) | exact dec_notF (by omega)) rfl) ?_) | (refine lw_pure rfl (pv_nilp rfl) ?_))
        refine lw_storeF (i := i) (f := 5) (u := { r with left := r.left - n3 }) encP_len (tZ rfl) rfl (by omega) rfl rfl (HO.mono hw) hxi rfl (by omega) ?_; intro w3 hO3 hg3 hz3
        have HW3 := (HW.mono hw).grown hg3 (own_pt_ne (HO.mono hw) (HW.mono hw) (by decide))
        have hT3 := (HT.mono hw).kept hg3 (own_ne_T (HT.mono hw) (HO.mono hw) (by decide))
        have hb3 := hb2.grown hg3 hb2.size (by intro q hq; injection hq with hq; omega)
        have hl3 : (p.set i { r with left := r.left - n3 }).length = p.length := List.length_set
        rw [← hl3] at hO3
        obtain ⟨a3, c3, hv3, HO3, -⟩ := Own.slR encP_len hO3
        injection hv3 with hv31 _ hv33; subst hv31 hv33
        have hxj3 : (p.set i { r with left := r.left - n3 })[j]? = some s := by rw [List.getElem?_set, if_neg hne]; exact hxj
        have hltj3 : j < (p.set i { r with left := r.left - n3 }).length := by omega
        clear hw
        have hw := Below.refl w3.heap.size w3
        repeat' (first | (refine lw_pure rfl (pv_move rfl) ?_) | (refine is_cw ?_; first | (refine cw_seq ?_) | (refine cw_region ?_)) | (refine is_qw ?_; first | (with_reducible refine qw_then ?_)) | (refine lw_nil ?_) | ((refine is_bin ?_; first | (refine lw_pure rfl (pv_sub rfl rfl (by omega)) ?_))) | ((refine is_load ?_; first | (refine lw_pure rfl (pv_load (t1 rfl) rfl (by first | exact PT.ld0 (HW3.mono hw) rfl | exact PT.ld (HW3.mono hw) rfl | exact SlR.ld (HO3.mono hw) hxj3 rfl | exact SlR.ld1 (HO3.mono hw) hxj3 rfl)) ?_))) | ((refine is_fa ?_; first | (refine lw_pure rfl (pv_fa (tF rfl) rfl) ?_))) | ((refine is_ia ?_; first | (refine lw_pure rfl (pv_ian (tS rfl) rfl rfl (by omega)) ?_))) | (refine lw_pure rfl (pv_nilp rfl) ?_))
        refine lw_storeF (i := j) (f := 5) (u := { s with left := s.left - n3 }) encP_len (tZ rfl) rfl (by omega) rfl rfl hO3 hxj3 rfl (by omega) ?_; intro w4 hO4 hg4 hz4
        have HW4 := HW3.grown hg4 (own_pt_ne hO3 HW3 (by decide))
        have hT4 := hT3.kept hg4 (own_ne_T hT3 hO3 (by decide))
        have hb4 := hb3.grown hg4 hb3.size (by intro q hq; injection hq with hq; omega)
        have hl4 : ((p.set i { r with left := r.left - n3 }).set j { s with left := s.left - n3 }).length = (p.set i { r with left := r.left - n3 }).length := List.length_set
        rw [← hl4] at hO4
        clear hw
        have hw := Below.refl w4.heap.size w4
        have hte := traded_eq (q := n3) hxi hxj hnd (fun x hx => (hpos x hx).1) (by rw [hrid, hsid]; exact fun e => hbad (Or.inl e)) (by omega) (by omega)
        repeat' (first | (refine lw_pure rfl (pv_move rfl) ?_) | (refine is_cw ?_; first | (refine cw_seq ?_) | (refine cw_region ?_)) | (refine is_qw ?_; first | (with_reducible refine qw_then ?_)) | (refine lw_nil ?_) | ((refine is_load ?_; first | (refine lw_pure rfl (pv_load (t1 rfl) rfl (by first | exact PT.ld0 (HW4.mono hw) rfl | exact PT.ld (HW4.mono hw) rfl)) ?_))) | ((refine is_fa ?_; first | (refine lw_pure rfl (pv_fa (tF rfl) rfl) ?_))) | (refine lw_pure rfl (pv_nilp rfl) ?_))
        rw [← hl3, ← hl4]
        refine lw_call (f := 110) (by kernel_rfl) rfl rfl (delfg_P w0.heap.size (fun o => o.left == 0) 111 #[] (by kernel_rfl) hb4.size (fun x _ w' _ => by simpa using zeroF_c x w') hO4) ?_; rintro e1 w5 ⟨⟨v', rfl, hO5⟩, hg5, hb5⟩; refine ⟨_, rfl, ?_⟩
        have HW5 := HW4.grown hg5 (own_pt_ne hO4 HW4 (by decide))
        have hT5 := hT4.kept hg5 (own_ne_T hT4 hO4 (by decide))
        have hb6 := hb4.trans hb5
        obtain ⟨va, vc, rfl, -, -⟩ := Own.slR encP_len hO5
        clear hw
        have hw := Below.refl w5.heap.size w5
        repeat' (first | ((refine is_fa ?_; first | (refine lw_pure rfl (pv_fa (tF rfl) rfl) ?_))) | (refine lw_pure rfl (pv_nilp rfl) ?_))
        refine lw_store HW5 (tZ rfl) rfl rfl rfl (by simp) ?_; intro w6 HW6 hg6 hz6
        have hO6 := hO5.kept hg6 (Or.inr (own_pt_ne hO5 HW5 (by decide)))
        have hT6 := hT5.kept hg6 (Or.inr (own_pt_ne hT5 HW5 (by decide)))
        have hb7 := hb6.grown hg6 hb6.size (by intro q hq; injection hq with hq; omega)
        have hw := Below.refl w6.heap.size w6
        repeat' (first | (refine lw_pure rfl (pv_assign rfl) ?_) | (refine is_cw ?_; first | (refine cw_seq ?_) | (refine cw_region ?_) | (refine cw_ret ?_)) | (refine is_qw ?_; first | (with_reducible refine qw_then ?_)) | (refine lw_nil ?_))
        refine qw_ret1 rfl rfl ⟨rfl, fun _ => ⟨_, _, ⟨HW6, ?_, hT6, hNb⟩⟩, hb7⟩
        rw [hte, hrid, hsid] at hO6 ⊢; exact hO6
end Go.Proofs.YtemngicaoacfaaaGreatDoor
namespace Go.Proofs.YtemngicaoacfaaaGreatDoor
open Go.RowKit Go.PlainAid Go.ChangeShapes Go.WideShapes Go.Maps

section
variable {κ ν : Type} [DecidableEq κ] {eK : κ → Value} {eV : ν → Value} {P : Program} {n : Nat} {l : Fr} {w : World} {B : Nat} {Q : Exit → Act → World → Prop} {ops : Array Oper} {os : List Oper} {d : Option Nat} {ty : TypeId} {pos : String} {af : Array Edge} {g : Option (Nat × Bool)} {T K V : TypeId} {x y z : Operand}
theorem lw_insertM (ht : P.underlying T = some (.map K V)) (E : KeyE P K eK) {m : List (κ × ν)} (k : κ) (v : ν) (hx : ev l x = some (.map (some B))) (hy : ev l y = some (eK k)) (hz : ev l z = some (eV v)) (h : Mp eK eV w B m)
    (hc : ∀ w', Mp eK eV w' B (putM m k v) → w.grownBy w' (some B) → w'.heap.size = w.heap.size → LW P n ops Q os l w') : LW P n ops Q (⟨none, .insert T x y z, ty, pos, af, none⟩ :: os) l w :=
  lw_skips (Φ := fun w' => Mp eK eV w' B (putM m k v) ∧ w.grownBy w' (some B) ∧ w'.heap.size = w.heap.size) (fun A hA => by
    obtain ⟨w', h1, h2⟩ := run_updateM (w := w) ht E h k v
    exact ⟨w', by simp [execOp, hA.ev hx, hA.ev hy, hA.ev hz, h1], h2⟩) fun w' ⟨h1, h2, h3⟩ => hc w' h1 h2 h3
end
def kU (q : Fin 256) : Value := .int .u8 (q.val : Int)
def vF (f : Option Nat) : Value := match f with | some f => .func (.func f) #[] #[] | none => .nilFunc
theorem keyU : KeyE Tryz.prog 5 kU := ⟨int_keyed Tryz.underlying5, fun q => ⟨_, keyOf_int_mk Tryz.underlying5 (by have := q.isLt; simp only [Lit.wf, Bool.and_eq_true, decide_eq_true_eq]; exact ⟨show (0 : Int) ≤ _ by omega, show _ ≤ (255 : Int) by omega⟩)⟩, fun a b h => by
  simp only [kU, Value.int.injEq, true_and] at h
  exact Fin.ext (by omega)⟩
theorem zF (w : World) : (zeroValue 81).run Tryz.prog w = .ok (vF none) w := by kernel_rfl
def doesM : List (Fin 256 × Option Nat) := [(11, some 82), (12, some 83), (13, some 84), (14, some 85), (16, some 85), (18, some 86), (19, some 86)]
set_option maxRecDepth 20000 in
set_option maxHeartbeats 1000000 in
theorem does_c (w : World) : Calls Tryz.prog 54 #[] w fun e w' => (∃ N, e = .returned (.map (some N)) ∧ Mp kU vF w' N doesM ∧ w.heap.size ≤ N) ∧ Below w.heap.size w w' := by
  have hW := Below.refl w.heap.size w
  refine fn_enter 3 Tryz.func54 rfl rfl rfl ?_
  have hw := Below.refl w.heap.size w
  repeat' (first | (refine lw_pure rfl (pv_assign rfl) ?_) | (refine is_cw ?_; first | (refine cw_seq ?_) | (refine cw_region ?_)) | (refine is_qw ?_; first | (with_reducible refine qw_then ?_)) | (refine lw_nil ?_))
  refine lw_makeMap kU vF rfl ?_; intro N w1 hN HM hb
  replace hW := hW.trans hb
  refine lw_insertM (eV := vF) Tryz.underlying83 keyU 11 (some 82) rfl rfl rfl HM ?_; clear HM; intro w1 HM hg hz; replace hW := hW.grown hg hW.size (by intro q hq; injection hq with hq; omega); clear hg hz
  refine lw_insertM (eV := vF) Tryz.underlying83 keyU 12 (some 83) rfl rfl rfl HM ?_; clear HM; intro w1 HM hg hz; replace hW := hW.grown hg hW.size (by intro q hq; injection hq with hq; omega); clear hg hz
  refine lw_insertM (eV := vF) Tryz.underlying83 keyU 13 (some 84) rfl rfl rfl HM ?_; clear HM; intro w1 HM hg hz; replace hW := hW.grown hg hW.size (by intro q hq; injection hq with hq; omega); clear hg hz
  refine lw_insertM (eV := vF) Tryz.underlying83 keyU 14 (some 85) rfl rfl rfl HM ?_; clear HM; intro w1 HM hg hz; replace hW := hW.grown hg hW.size (by intro q hq; injection hq with hq; omega); clear hg hz
  refine lw_insertM (eV := vF) Tryz.underlying83 keyU 16 (some 85) rfl rfl rfl HM ?_; clear HM; intro w1 HM hg hz; replace hW := hW.grown hg hW.size (by intro q hq; injection hq with hq; omega); clear hg hz
  refine lw_insertM (eV := vF) Tryz.underlying83 keyU 18 (some 86) rfl rfl rfl HM ?_; clear HM; intro w1 HM hg hz; replace hW := hW.grown hg hW.size (by intro q hq; injection hq with hq; omega); clear hg hz
  refine lw_insertM (eV := vF) Tryz.underlying83 keyU 19 (some 86) rfl rfl rfl HM ?_; clear HM; intro w1 HM hg hz; replace hW := hW.grown hg hW.size (by intro q hq; injection hq with hq; omega); clear hg hz
  clear hw
  have hw := Below.refl w1.heap.size w1
  repeat' (first | (refine lw_pure rfl (pv_move rfl) ?_) | (refine lw_pure rfl (pv_assign rfl) ?_) | (refine is_cw ?_; first | (refine cw_ret ?_)) | (refine is_qw ?_; first | (with_reducible refine qw_then ?_)) | (refine lw_nil ?_))
  exact qw_ret1 rfl rfl ⟨⟨N, rfl, HM, hN⟩, hW⟩
theorem fld11 : fieldsR 3 11 = some ({ data := #[111, 97, 105, 115, 112, 113] }, false) := by kernel_rfl
theorem fld12 : fieldsR 3 12 = some ({ data := #[111] }, false) := by kernel_rfl
theorem fld13 : fieldsR 3 13 = some ({ data := #[111, 111, 112, 113, 122] }, false) := by kernel_rfl
theorem fld14 : fieldsR 3 14 = some ({ data := #[99, 97, 105, 113, 109, 109, 116] }, false) := by kernel_rfl
theorem fld16 : fieldsR 3 16 = some ({ data := #[99, 97, 105, 113, 109, 116] }, false) := by kernel_rfl
theorem fld18 : fieldsR 3 18 = some ({ data := #[99, 97, 109, 122] }, false) := by kernel_rfl
theorem fld19 : fieldsR 3 19 = some ({ data := #[99] }, false) := by kernel_rfl
theorem nums11 {e : Evt} (h : mayE e = true) (hv : e.v = 3) (hk : e.kind = 11) : ∃ n0 n1 n2 n3 n4 n5, e.nums = [n0, n1, n2, n3, n4, n5] ∧ (1 ≤ n0 ∧ n0 ≤ 1099511627776) ∧ (1 ≤ n1 ∧ n1 ≤ 64) ∧ (1 ≤ n2 ∧ n2 ≤ 16) ∧ (1 ≤ n3 ∧ n3 ≤ 2) ∧ (1 ≤ n4 ∧ n4 ≤ 1073741824) ∧ (1 ≤ n5 ∧ n5 ≤ 1048576) := by
  have h1 : allR 3 [111, 97, 105, 115, 112, 113] e.nums = true := (may_nums h hv hk fld11).1
  obtain ⟨n0, r0, e0, f0, h1⟩ := all_cons h1
  obtain ⟨n1, r1, rfl, f1, h1⟩ := all_cons h1
  obtain ⟨n2, r2, rfl, f2, h1⟩ := all_cons h1
  obtain ⟨n3, r3, rfl, f3, h1⟩ := all_cons h1
  obtain ⟨n4, r4, rfl, f4, h1⟩ := all_cons h1
  obtain ⟨n5, r5, rfl, f5, h1⟩ := all_cons h1
  have h2 := all_nil h1; subst h2
  exact ⟨n0, n1, n2, n3, n4, n5, e0, fits_lo f0 bnd_o, fits_lo f1 bnd_a, fits_lo f2 bnd_i, fits_lo f3 bnd_s, fits_lo f4 bnd_p, fits_lo f5 bnd_q⟩
theorem nums12 {e : Evt} (h : mayE e = true) (hv : e.v = 3) (hk : e.kind = 12) : ∃ n0, e.nums = [n0] ∧ (1 ≤ n0 ∧ n0 ≤ 1099511627776) := by
  have h1 : allR 3 [111] e.nums = true := (may_nums h hv hk fld12).1
  obtain ⟨n0, r0, e0, f0, h1⟩ := all_cons h1
  have h2 := all_nil h1; subst h2
  exact ⟨n0, e0, fits_lo f0 bnd_o⟩
theorem nums13 {e : Evt} (h : mayE e = true) (hv : e.v = 3) (hk : e.kind = 13) : ∃ n0 n1 n2 n3 n4, e.nums = [n0, n1, n2, n3, n4] ∧ (1 ≤ n0 ∧ n0 ≤ 1099511627776) ∧ (1 ≤ n1 ∧ n1 ≤ 1099511627776) ∧ (1 ≤ n2 ∧ n2 ≤ 1073741824) ∧ (1 ≤ n3 ∧ n3 ≤ 1048576) ∧ (0 ≤ n4 ∧ n4 ≤ 1125899906842624) := by
  have h1 : allR 3 [111, 111, 112, 113, 122] e.nums = true := (may_nums h hv hk fld13).1
  obtain ⟨n0, r0, e0, f0, h1⟩ := all_cons h1
  obtain ⟨n1, r1, rfl, f1, h1⟩ := all_cons h1
  obtain ⟨n2, r2, rfl, f2, h1⟩ := all_cons h1
  obtain ⟨n3, r3, rfl, f3, h1⟩ := all_cons h1
  obtain ⟨n4, r4, rfl, f4, h1⟩ := all_cons h1
  have h2 := all_nil h1; subst h2
  exact ⟨n0, n1, n2, n3, n4, e0, fits_lo f0 bnd_o, fits_lo f1 bnd_o, fits_lo f2 bnd_p, fits_lo f3 bnd_q, fits_lo f4 bnd_z⟩
theorem nums14 {e : Evt} (h : mayE e = true) (hv : e.v = 3) (hk : e.kind = 14 ∨ e.kind = 16) : ∃ n0 n1 n2 n3 r, e.nums = n0 :: n1 :: n2 :: n3 :: r ∧ (1 ≤ n0 ∧ n0 ≤ 1099511627776) ∧ (1 ≤ n1 ∧ n1 ≤ 64) ∧ (1 ≤ n2 ∧ n2 ≤ 16) ∧ (1 ≤ n3 ∧ n3 ≤ 1048576) := by
  have key : ∃ cs, allR 3 (99 :: 97 :: 105 :: 113 :: cs) e.nums = true := by
    rcases hk with hk | hk
    · exact ⟨[109, 109, 116], (may_nums h hv hk fld14).1⟩
    · exact ⟨[109, 116], (may_nums h hv hk fld16).1⟩
  obtain ⟨cs, h1⟩ := key
  obtain ⟨n0, r0, e0, f0, h1⟩ := all_cons h1
  obtain ⟨n1, r1, rfl, f1, h1⟩ := all_cons h1
  obtain ⟨n2, r2, rfl, f2, h1⟩ := all_cons h1
  obtain ⟨n3, r3, rfl, f3, h1⟩ := all_cons h1
  exact ⟨n0, n1, n2, n3, r3, e0, fits_lo f0 bnd_c, fits_lo f1 bnd_a, fits_lo f2 bnd_i, fits_lo f3 bnd_q⟩
theorem nums18 {e : Evt} (h : mayE e = true) (hv : e.v = 3) (hk : e.kind = 18) : ∃ n0 n1 n2 n3, e.nums = [n0, n1, n2, n3] ∧ (1 ≤ n0 ∧ n0 ≤ 1099511627776) ∧ (1 ≤ n1 ∧ n1 ≤ 64) ∧ (1 ≤ n2 ∧ n2 ≤ 1125899906842624) ∧ (0 ≤ n3 ∧ n3 ≤ 1125899906842624) := by
  have h1 : allR 3 [99, 97, 109, 122] e.nums = true := (may_nums h hv hk fld18).1
  obtain ⟨n0, r0, e0, f0, h1⟩ := all_cons h1
  obtain ⟨n1, r1, rfl, f1, h1⟩ := all_cons h1
  obtain ⟨n2, r2, rfl, f2, h1⟩ := all_cons h1
  obtain ⟨n3, r3, rfl, f3, h1⟩ := all_cons h1
  have h2 := all_nil h1; subst h2
  exact ⟨n0, n1, n2, n3, e0, fits_lo f0 bnd_c, fits_lo f1 bnd_a, fits_lo f2 bnd_m, fits_lo f3 bnd_z⟩
theorem nums19 {e : Evt} (h : mayE e = true) (hv : e.v = 3) (hk : e.kind = 19) : ∃ n0, e.nums = [n0] ∧ (1 ≤ n0 ∧ n0 ≤ 1099511627776) := by
  have h1 : allR 3 [99] e.nums = true := (may_nums h hv hk fld19).1
  obtain ⟨n0, r0, e0, f0, h1⟩ := all_cons h1
  have h2 := all_nil h1; subst h2
  exact ⟨n0, e0, fits_lo f0 bnd_c⟩
def methR (k : Int) : Option Nat := if k = 11 then some 82 else if k = 12 then some 83 else if k = 13 then some 84 else if k = 14 ∨ k = 16 then some 85 else if k = 18 ∨ k = 19 then some 86 else none
set_option maxHeartbeats 1000000 in
theorem meth_c {p : List Opn} {t : List Lt} {ev0 : Evt} {w0 w : World} {N m F : Nat} {a : Option Addr} {c : Nat} {vo vt : Value} (hF : methR ev0.kind = some F) (hM : MayV p t) (hE : mayE ev0 = true) (hv : ev0.v = 3) (hm : ev0.nums.length = m) (hb0 : Below w0.heap.size w0 w) (hW : WkO w0.heap.size w N p t vo vt) (HN : SlR encI 1 w0 a c ev0.nums) :
    Calls Tryz.prog F #[.pointer (some ⟨N, 0, none⟩), .slice a m c] w fun e w' => e = .returned (.int .i64 (doneR p t ev0).2.2) ∧ ((doneR p t ev0).2.2 = 0 → ∃ vo vt, WkO w0.heap.size w' N (doneR p t ev0).1 (doneR p t ev0).2.1 vo vt) ∧ Below w0.heap.size w0 w' := by
  obtain ⟨⟨hl1, hl2⟩, hp1, ht1, hmo, hnd, hml⟩ := hM
  subst hm
  unfold methR at hF
  unfold doneR
  by_cases k1 : ev0.kind = 11
  · rw [if_pos k1] at hF ⊢
    injection hF with hF; subst hF
    obtain ⟨n0, n1, n2, n3, n4, n5, hn, h0, h1, h2, h3, h4, h5⟩ := nums11 hE hv k1
    rw [hn] at HN ⊢
    exact placed_c hn hb0 hW HN hp1 hl1 (by omega)
  rw [if_neg k1] at hF ⊢
  by_cases k2 : ev0.kind = 12
  · rw [if_pos k2] at hF ⊢
    injection hF with hF; subst hF
    obtain ⟨n0, hn, h0⟩ := nums12 hE hv k2
    rw [hn] at HN ⊢
    exact cancelled_c hn hb0 hW HN hnd (fun x hx => by have := hmo x hx; unfold MayO at this; omega) hl1
  rw [if_neg k2] at hF ⊢
  by_cases k3 : ev0.kind = 13
  · rw [if_pos k3] at hF ⊢
    injection hF with hF; subst hF
    obtain ⟨n0, n1, n2, n3, n4, hn, h0, h1, h2, h3, h4⟩ := nums13 hE hv k3
    exact traded_c rfl rfl (by rw [hn]; rfl) (by rw [hn]; rfl) (by rw [hn]; rfl) h3 hb0 hW HN hnd (fun x hx => by have := hmo x hx; unfold MayO at this; omega)
  rw [if_neg k3] at hF ⊢
  by_cases k4 : ev0.kind = 14 ∨ ev0.kind = 16
  · rw [if_pos k4] at hF ⊢
    injection hF with hF; subst hF
    obtain ⟨n0, n1, n2, n3, r, hn, h0, h1, h2, h3⟩ := nums14 hE hv k4
    exact opened_c rfl rfl (by rw [hn]; rfl) (by rw [hn]; rfl) (by rw [hn]; rfl) (by rw [hn]; rfl) hb0 hW HN ht1 hl2
  rw [if_neg k4] at hF ⊢
  by_cases k5 : ev0.kind = 18 ∨ ev0.kind = 19
  · rw [if_pos k5] at hF ⊢
    injection hF with hF; subst hF
    have key : ∃ n0, ev0.nums[0]? = some n0 := by
      rcases k5 with k5 | k5
      · obtain ⟨n0, n1, n2, n3, hn, _⟩ := nums18 hE hv k5; exact ⟨n0, by rw [hn]; rfl⟩
      · obtain ⟨n0, hn, _⟩ := nums19 hE hv k5; exact ⟨n0, by rw [hn]; rfl⟩
    obtain ⟨n0, hn⟩ := key
    exact gone_c rfl rfl hn hb0 hW HN ht1 hl2
  rw [if_neg k5] at hF; cases hF

theorem err_empty (p : List Opn) (t : List Lt) (e : Evt) : (doneR p t e).2.2 = 0 ∨ ((doneR p t e).1 = [] ∧ (doneR p t e).2.1 = []) := by
  unfold doneR placedR cancelR tradedR openedR goneR
  (repeat' split) <;> first | exact Or.inl rfl | exact Or.inr ⟨rfl, rfl⟩
theorem event_no {p : List Opn} {t : List Lt} {e : Evt} (h : ¬ (mayV p t = true ∧ e.v = 3 ∧ mayE e = true)) : eventR p t e = ([], [], 4) := by unfold eventR; rw [if_neg h]
theorem event_yes {p : List Opn} {t : List Lt} {e : Evt} (h : mayV p t = true ∧ e.v = 3 ∧ mayE e = true) : eventR p t e = doneR p t e := by unfold eventR; rw [if_pos h]
theorem mayV_e {p : List Opn} {t : List Lt} {m n : Nat} {a b : Option Addr} {ca cb : Nat} {r : Bool} {w : World} (h : mayV p t = r) (hm : p.length = m) (hn : t.length = n) (HP : SlR encP 6 w a ca p) (HL : SlR encL 4 w b cb t) : Calls Tryz.prog 50 #[.slice a m ca, .slice b n cb] w fun e w' => e = .returned (.bool r) ∧ Below w.heap.size w w' := by
  subst h; exact mayV_c hm hn HP HL
theorem mayE_e {e : Evt} {m n : Nat} {a b : Option Addr} {ca cb : Nat} {r : Bool} {w : World} (h : mayE e = r) (h8 : 0 ≤ e.kind ∧ e.kind ≤ 255) (hm : e.nums.length = m) (hn : e.texts.length = n) (HN : SlR encI 1 w a ca e.nums) (HT : SlR encT 1 w b cb e.texts) (hT : TxtIn e.texts) (hK : KnW w) : Calls Tryz.prog 51 #[.agg #[.int .u8 e.v, .int .u8 e.kind, .slice a m ca, .slice b n cb]] w fun e1 w' => e1 = .returned (.bool r) ∧ Below w.heap.size w w' := by
  subst h; exact mayE_c h8 hm hn HN HT hT hK
def keyOf8 (k : Int) (h : 0 ≤ k ∧ k ≤ 255) : Fin 256 := ⟨k.toNat, by omega⟩
theorem kU_of (k : Int) (h : 0 ≤ k ∧ k ≤ 255) : kU (keyOf8 k h) = .int .u8 k := by unfold kU keyOf8; congr 1; simp; omega
set_option maxRecDepth 20000 in
theorem does_at : (List.range 256).all (fun k => decide ((getM doesM (Fin.ofNat 256 k)) = (methR (k : Nat)).map some)) = true := by kernel_rfl
theorem does_get (k : Int) (h : 0 ≤ k ∧ k ≤ 255) : getM doesM (keyOf8 k h) = (methR k).map some := by
  have h1 := List.all_eq_true.1 does_at k.toNat (List.mem_range.2 (by omega))
  have h2 := of_decide_eq_true h1
  rw [show ((k.toNat : Nat) : Int) = k by omega] at h2
  rw [← h2]
  congr 1
  apply Fin.ext
  show k.toNat = k.toNat % 256
  omega
set_option maxRecDepth 20000 in
theorem meth_enters {k : Int} {F : Nat} (h : methR k = some F) : entersB Tryz.prog F = true := by
  unfold methR at h
  (repeat' split at h) <;> first | (injection h with h; subst h; kernel_rfl) | (cases h; done)
theorem done_none {p : List Opn} {t : List Lt} {e : Evt} (h : methR e.kind = none) : doneR p t e = (p, t, 0) := by
  unfold methR at h
  unfold doneR
  by_cases k1 : e.kind = 11
  · rw [if_pos k1] at h; cases h
  rw [if_neg k1] at h ⊢
  by_cases k2 : e.kind = 12
  · rw [if_pos k2] at h; cases h
  rw [if_neg k2] at h ⊢
  by_cases k3 : e.kind = 13
  · rw [if_pos k3] at h; cases h
  rw [if_neg k3] at h ⊢
  by_cases k4 : e.kind = 14 ∨ e.kind = 16
  · rw [if_pos k4] at h; cases h
  rw [if_neg k4] at h ⊢
  by_cases k5 : e.kind = 18 ∨ e.kind = 19
  · rw [if_pos k5] at h; cases h
  rw [if_neg k5]
theorem look_e {P : Program} {n : Nat} {l : Fr} {w : World} {d : Option Nat} {ty : TypeId} {pos : String} {af : Array Edge} {g : Option (Nat × Bool)} {T K V : TypeId} {x y : Operand} {B : Nat} {κ ν : Type} [DecidableEq κ] {eK : κ → Value} {eV : ν → Value} (ht : P.underlying T = some (.map K V)) (E : KeyE P K eK) {zv : ν} (hz : ∀ w, (zeroValue V).run P w = .ok (eV zv) w) {m : List (κ × ν)} {k : κ} {o : Option ν} (ho : getM m k = o) (hx : ev l x = some (.map (some B))) (hy : ev l y = some (eK k)) (h : Mp eK eV w B m) :
    Pv P n l ⟨d, .lookup T x y true, ty, pos, af, g⟩ (.tuple #[eV (o.getD zv), .bool o.isSome]) w := by subst ho; exact pv_lookupM_ok ht E hz hx hy h
set_option maxRecDepth 20000 in
set_option maxHeartbeats 8000000 in
theorem ev_c {p : List Opn} {t : List Lt} {e : Evt} {mp mt mn mx : Nat} {ap at_ an ax : Option Addr} {cp ct cn cx : Nat} {w : World} (h8 : 0 ≤ e.kind ∧ e.kind ≤ 255) (hmp : p.length = mp) (hmt : t.length = mt) (hmn : e.nums.length = mn) (hmx : e.texts.length = mx) (HP : SlR encP 6 w ap cp p) (HL : SlR encL 4 w at_ ct t) (HN : SlR encI 1 w an cn e.nums) (HX : SlR encT 1 w ax cx e.texts) (hT : TxtIn e.texts) (hK : KnW w) :
    Calls Tryz.prog 20 #[.slice ap mp cp, .slice at_ mt ct, .agg #[.int .u8 e.v, .int .u8 e.kind, .slice an mn cn, .slice ax mx cx]] w fun e1 w' => (∃ vo vt, e1 = .returned (.tuple #[vo, vt, .int .i64 (eventR p t e).2.2]) ∧ Own encP 6 49 w.heap.size w' vo (eventR p t e).1 ∧ Own encL 4 53 w.heap.size w' vt (eventR p t e).2.1) ∧ Below w.heap.size w w' := by
  subst hmp hmt hmn hmx
  have hw := Below.refl w.heap.size w
  refine fn_enter 57 Tryz.func20 rfl rfl rfl ?_
  repeat' (first | (refine is_cw ?_; first | (refine cw_seq ?_) | (refine cw_region ?_)))
  refine lw_boxN rfl rfl (cs := [.int .u8 e.v, .int .u8 e.kind, .slice an e.nums.length cn, .slice ax e.texts.length cx]) rfl ?_; intro NE w1 hNE H hb
  replace hw := grow_trans hw hb
  clear hb
  have hE := Ext.mk hw
  replace HP := HP.mono hw
  replace HL := HL.mono hw
  have HN1 := HN.mono hw
  replace HX := HX.mono hw
  replace hK := hK.mono hw
  have hw0 := hw
  clear hw
  have hw := Below.refl w1.heap.size w1
  by_cases hgood : mayV p t = true ∧ e.v = 3 ∧ mayE e = true
  · rw [event_yes hgood]
    obtain ⟨hg1, hg2, hg3⟩ := hgood
    have hM := mayV_iff.1 hg1
    have hl1 := hM.1
    repeat' (first | (refine lw_pure rfl (pv_move rfl) ?_) | (refine lw_pure rfl (pv_assign rfl) ?_) | (refine lw_call (f := 50) (by kernel_rfl) rfl rfl (mayV_e hg1 rfl rfl HP HL) ?_; rintro e w1 ⟨rfl, hb⟩; refine ⟨_, rfl, ?_⟩; replace hw := grow_trans hw hb; clear hb) | (refine lw_call (f := 51) (by kernel_rfl) rfl rfl (mayE_e hg3 h8 rfl rfl (HN1.mono hw) (HX.mono hw) hT (hK.mono hw)) ?_; rintro e w1 ⟨rfl, hb⟩; refine ⟨_, rfl, ?_⟩; replace hw := grow_trans hw hb; clear hb) | (refine is_cw ?_; first | (refine cw_seq ?_) | (refine cw_region ?_) | (refine cw_false rfl rfl ?_) | (refine cw_skip ?_)) | (refine is_qw ?_; first | (with_reducible refine qw_then ?_)) | (refine lw_nil ?_) | (refine is_guarded ?_; first | (refine lw_on rfl rfl rfl ?_) | (refine lw_on rfl rfl (by first | assumption | exact decide_eq_true (by omega) | exact decide_eq_false (by omega) | exact dec_notT (by omega) | exact dec_notF (by omega)) ?_)) | ((refine is_bin ?_; first | (refine lw_pure rfl (pv_neq rfl rfl) ?_))) | ((refine is_load ?_; first | (refine lw_pure rfl (pv_load (t1 rfl) rfl (by first | exact PT.ld0 (H.mono hw) rfl | exact PT.ld (H.mono hw) rfl)) ?_) | (refine lw_pure rfl (pv_loada (tA rfl) rfl (by first | exact PT.lda (H.mono hw)) (by rfl)) ?_))) | ((refine is_fa ?_; first | (refine lw_pure rfl (pv_fa (tF rfl) rfl) ?_))) | ((refine is_un ?_; first | (refine lw_pure rfl (pv_not rfl) ?_))) | (refine is_pk ?_; refine lw_pure rfl (pv_pick_f rfl rfl rfl) ?_) | (refine is_pk ?_; refine lw_pure rfl (pv_pick_f rfl (by first | assumption | exact decide_eq_false (by omega) | exact dec_notF (by omega)) rfl) ?_))
    refine lw_call (f := 52) (by kernel_rfl) rfl rfl (clone_P rfl (HP.mono hw) (by omega)) ?_; rintro e1 w2 ⟨⟨vo, rfl, hO⟩, hb⟩; refine ⟨_, rfl, ?_⟩
    have hz1 := hw.size
    have hze := hE.le
    replace hw := grow_trans hw hb
    replace hO := hO.weaken (Nat.le_trans hze hz1)
    obtain ⟨oa, oc, rfl, -, -⟩ := Own.slR encP_len hO
    clear hb
    repeat' (first | (refine lw_pure rfl (pv_move rfl) ?_))
    refine lw_call (f := 53) (by kernel_rfl) rfl rfl (clone_L rfl (HL.mono hw) (by omega)) ?_; rintro e1 w3 ⟨⟨vt, rfl, hTt⟩, hb⟩; refine ⟨_, rfl, ?_⟩
    have hz2 := hw.size
    replace hw := grow_trans hw hb
    replace hO := hO.mono hb
    replace hTt := hTt.weaken (Nat.le_trans hze hz2)
    obtain ⟨ta, tc, rfl, -, -⟩ := Own.slR encL_len hTt
    clear hb
    repeat' (first | ((refine is_bd ?_; first | (refine lw_pure rfl (tyB_80 rfl rfl rfl) ?_))))
    refine lw_boxN rfl rfl (cs := [.slice oa p.length oc, .slice ta t.length tc]) rfl ?_; intro NW w4 hNW HW hb
    have hz3 := hw.size
    replace hw := grow_trans hw hb
    replace hO := hO.mono hb
    replace hTt := hTt.mono hb
    clear hb
    have hb0 := grow_trans hw0 hw
    have hWk : WkO w.heap.size w4 NW p t (.slice oa p.length oc) (.slice ta t.length tc) := ⟨HW, hO, hTt, by omega⟩
    replace H := H.mono hw
    clear hw
    have hw := Below.refl w4.heap.size w4
    repeat' (first | (refine lw_pure rfl (pv_assign rfl) ?_) | (refine is_cw ?_; first | (refine cw_seq ?_)) | (refine is_qw ?_; first | (with_reducible refine qw_then ?_)) | (refine lw_nil ?_))
    cases hmr : methR e.kind with
    | none =>
      have hget : getM doesM (keyOf8 e.kind h8) = none := by rw [does_get, hmr]; rfl
      rw [done_none hmr]
      refine cw_drawn (fun w' => Below w4.heap.size w4 w') (by kernel_rfl) (by repeat (first | exact NoPanic.body | with_reducible refine NoPanic.then ?_ | with_reducible refine NoPanic.inBlock ?_)) (fun hNP => ?_)
      have hS := hw.drew
      (refine at0 1 rfl (fun w' hq => pv_fa (tF rfl) rfl) ?_)
      (refine at0 2 rfl (fun w' hq => pv_load (t1 rfl) rfl (by first | exact PT.ld0 (H.mono hq) rfl | exact PT.ld (H.mono hq) rfl)) ?_)
      refine aw_act 0 (by kernel_rfl) rfl rfl rfl ?_
      refine act_call (f := 54) (by kernel_rfl) rfl (does_c _) ?_; rintro e1 w5 ⟨⟨NM, rfl, HM, hNM⟩, hb5⟩; refine ⟨_, rfl, grow_trans hS hb5, fun hS => ?_⟩
      refine aw_act 3 (by kernel_rfl) rfl rfl rfl ?_
      refine act_pv (look_e (k := keyOf8 e.kind h8) Tryz.underlying83 keyU zF hget rfl (by rw [kU_of]; rfl) HM) ?_; refine ⟨hS, fun hS => ?_⟩
      (refine at0 4 rfl (fun w' hq => pv_move rfl) ?_)
      (refine at0 5 rfl (fun w' hq => pv_extract rfl rfl) ?_)
      (refine at0 6 rfl (fun w' hq => pv_extract rfl rfl) ?_)
      (refine at0 7 rfl (fun w' hq => pv_assign rfl) ?_)
      (refine at0 8 rfl (fun w' hq => pv_assign rfl) ?_)
      refine aw_done (by kernel_rfl) ?_
      replace hw := hS; clear hS hNP
      repeat' (first | (refine lw_pure rfl (pv_move rfl) ?_) | (refine is_cw ?_; first | (refine cw_seq ?_) | (refine cw_region ?_) | (refine cw_false rfl rfl ?_) | (refine cw_skip ?_)) | (refine is_qw ?_; first | (with_reducible refine qw_then ?_)) | (refine lw_nil ?_))
      refine cw_drawn (fun w' => Below w4.heap.size w4 w') (by kernel_rfl) (by repeat (first | exact NoPanic.body | with_reducible refine NoPanic.then ?_ | with_reducible refine NoPanic.inBlock ?_)) (fun hNP => ?_)
      have hS := hw.drew
      (refine at0 0 rfl (fun w' hq => pv_move rfl) ?_)
      (refine at0 1 rfl (fun w' hq => pv_nilp rfl) ?_)
      (refine at0 2 rfl (fun w' hq => pv_fa (tF rfl) rfl) ?_)
      (refine at0 3 rfl (fun w' hq => pv_load (t1 rfl) rfl (by first | exact PT.ld0 (HW.mono hq) rfl | exact PT.ld (HW.mono hq) rfl)) ?_)
      (refine at0 4 rfl (fun w' hq => pv_move rfl) ?_)
      (refine at0 5 rfl (fun w' hq => pv_nilp rfl) ?_)
      (refine at0 6 rfl (fun w' hq => pv_fa (tF rfl) rfl) ?_)
      (refine at0 7 rfl (fun w' hq => pv_load (t1 rfl) rfl (by first | exact PT.ld0 (HW.mono hq) rfl | exact PT.ld (HW.mono hq) rfl)) ?_)
      (refine at0 8 rfl (fun w' hq => pv_assign rfl) ?_)
      (refine at0 9 rfl (fun w' hq => pv_assign rfl) ?_)
      (refine at0 10 rfl (fun w' hq => pv_assign rfl) ?_)
      refine aw_done (by kernel_rfl) ?_
      replace hw := hS; clear hS hNP
      have hbz := grow_trans hb0 hw
      repeat' (first | (refine is_cw ?_; first | (refine cw_ret ?_)) | (refine is_qw ?_; first | (with_reducible refine qw_then ?_)))
      exact qw_ret3 rfl rfl rfl rfl ⟨⟨_, _, rfl, hO.mono hw, hTt.mono hw⟩, hbz⟩
    | some F =>
      have hget : getM doesM (keyOf8 e.kind h8) = some (some F) := by rw [does_get, hmr]; rfl
      refine cw_drawn (fun w' => Below w4.heap.size w4 w') (by kernel_rfl) (by repeat (first | exact NoPanic.body | with_reducible refine NoPanic.then ?_ | with_reducible refine NoPanic.inBlock ?_)) (fun hNP => ?_)
      have hS := hw.drew
      (refine at0 1 rfl (fun w' hq => pv_fa (tF rfl) rfl) ?_)
      (refine at0 2 rfl (fun w' hq => pv_load (t1 rfl) rfl (by first | exact PT.ld0 (H.mono hq) rfl | exact PT.ld (H.mono hq) rfl)) ?_)
      refine aw_act 0 (by kernel_rfl) rfl rfl rfl ?_
      refine act_call (f := 54) (by kernel_rfl) rfl (does_c _) ?_; rintro e1 w5 ⟨⟨NM, rfl, HM, hNM⟩, hb5⟩; refine ⟨_, rfl, grow_trans hS hb5, fun hS => ?_⟩
      refine aw_act 3 (by kernel_rfl) rfl rfl rfl ?_
      refine act_pv (look_e (k := keyOf8 e.kind h8) Tryz.underlying83 keyU zF hget rfl (by rw [kU_of]; rfl) HM) ?_; refine ⟨hS, fun hS => ?_⟩
      (refine at0 4 rfl (fun w' hq => pv_move rfl) ?_)
      (refine at0 5 rfl (fun w' hq => pv_extract rfl rfl) ?_)
      (refine at0 6 rfl (fun w' hq => pv_extract rfl rfl) ?_)
      (refine at0 7 rfl (fun w' hq => pv_assign rfl) ?_)
      (refine at0 8 rfl (fun w' hq => pv_assign rfl) ?_)
      refine aw_done (by kernel_rfl) ?_
      replace hw := hS; clear hS hNP
      repeat' (first | (refine lw_pure rfl (pv_move rfl) ?_) | (refine is_cw ?_; first | (refine cw_seq ?_) | (refine cw_region ?_) | (refine cw_true rfl rfl ?_)) | (refine is_qw ?_; first | (with_reducible refine qw_then ?_)) | (refine lw_nil ?_) | ((refine is_load ?_; first | (refine lw_pure rfl (pv_load (t1 rfl) rfl (by first | exact PT.ld0 (H.mono hw) rfl | exact PT.ld (H.mono hw) rfl)) ?_))) | ((refine is_fa ?_; first | (refine lw_pure rfl (pv_fa (tF rfl) rfl) ?_))))
      refine lw_callv (f := F) rfl (meth_enters hmr) rfl rfl (by simpa using meth_c hmr hM hg3 hg2 rfl (grow_trans hb0 hw) (hWk.mono hw) HN) ?_; rintro e1 w6 ⟨rfl, hpost, hb6⟩; refine ⟨_, rfl, ?_⟩
      clear hw
      have hw := Below.refl w6.heap.size w6
      by_cases h0 : (doneR p t e).2.2 = 0
      · obtain ⟨vo2, vt2, HW6, hO6, hT6, -⟩ := hpost h0
        repeat' (first | (refine lw_pure rfl (pv_move rfl) ?_) | (refine lw_pure rfl (pv_assign rfl) ?_) | (refine is_cw ?_; first | (refine cw_seq ?_) | (refine cw_region ?_) | (refine is_cd ?_; refine cw_false rfl (by first | assumption | exact decide_eq_false (by omega) | exact dec_notF (by omega)) ?_) | (refine cw_skip ?_)) | (refine is_qw ?_; first | (with_reducible refine qw_then ?_)) | (refine lw_nil ?_) | ((refine is_bin ?_; first | (refine lw_pure rfl (pv_neq rfl rfl) ?_))))
        refine cw_drawn (fun w' => Below w6.heap.size w6 w') (by kernel_rfl) (by repeat (first | exact NoPanic.body | with_reducible refine NoPanic.then ?_ | with_reducible refine NoPanic.inBlock ?_)) (fun hNP => ?_)
        have hS := hw.drew
        (refine at0 0 rfl (fun w' hq => pv_move rfl) ?_)
        (refine at0 1 rfl (fun w' hq => pv_nilp rfl) ?_)
        (refine at0 2 rfl (fun w' hq => pv_fa (tF rfl) rfl) ?_)
        (refine at0 3 rfl (fun w' hq => pv_load (t1 rfl) rfl (by first | exact PT.ld0 (HW6.mono hq) rfl | exact PT.ld (HW6.mono hq) rfl)) ?_)
        (refine at0 4 rfl (fun w' hq => pv_move rfl) ?_)
        (refine at0 5 rfl (fun w' hq => pv_nilp rfl) ?_)
        (refine at0 6 rfl (fun w' hq => pv_fa (tF rfl) rfl) ?_)
        (refine at0 7 rfl (fun w' hq => pv_load (t1 rfl) rfl (by first | exact PT.ld0 (HW6.mono hq) rfl | exact PT.ld (HW6.mono hq) rfl)) ?_)
        (refine at0 8 rfl (fun w' hq => pv_assign rfl) ?_)
        (refine at0 9 rfl (fun w' hq => pv_assign rfl) ?_)
        (refine at0 10 rfl (fun w' hq => pv_assign rfl) ?_)
        refine aw_done (by kernel_rfl) ?_
        replace hw := hS; clear hS hNP
        have hbz := grow_trans hb6 hw
        repeat' (first | (refine is_cw ?_; first | (refine cw_ret ?_)) | (refine is_qw ?_; first | (with_reducible refine qw_then ?_)))
        exact qw_ret3 rfl rfl rfl rfl ⟨⟨_, _, by rw [h0], hO6.mono hw, hT6.mono hw⟩, hbz⟩
      · obtain ⟨he1, he2⟩ := (err_empty p t e).resolve_left h0
        repeat' (first | (refine lw_pure rfl (pv_move rfl) ?_) | (refine lw_pure rfl (pv_assign rfl) ?_) | (refine is_cw ?_; first | (refine cw_seq ?_) | (refine cw_region ?_) | (refine is_cd ?_; refine cw_true rfl (by first | assumption | exact decide_eq_true (by omega) | exact dec_notT (by omega)) ?_) | (refine cw_ret ?_)) | (refine is_qw ?_; first | (with_reducible refine qw_then ?_) | (with_reducible refine qw_then_ret ?_)) | (refine lw_nil ?_) | ((refine is_bin ?_; first | (refine lw_pure rfl (pv_neq rfl rfl) ?_))))
        refine qw_ret3 rfl rfl rfl rfl ⟨⟨_, _, rfl, ?_, ?_⟩, hb6⟩
        · rw [he1]; exact Own.nil _
        · rw [he2]; exact Own.nil _
  · rw [event_no hgood]
    cases hg1 : mayV p t with
    | false =>
      repeat' (first | (refine lw_pure rfl (pv_move rfl) ?_) | (refine lw_pure rfl (pv_assign rfl) ?_) | (refine lw_call (f := 50) (by kernel_rfl) rfl rfl (mayV_e hg1 rfl rfl HP HL) ?_; rintro e w1 ⟨rfl, hb⟩; refine ⟨_, rfl, ?_⟩; replace hw := grow_trans hw hb; clear hb) | (refine is_cw ?_; first | (refine cw_seq ?_) | (refine cw_region ?_) | (refine cw_true rfl rfl ?_) | (refine cw_ret ?_)) | (refine is_qw ?_; first | (with_reducible refine qw_then ?_) | (with_reducible refine qw_then_ret ?_)) | (refine lw_nil ?_) | (refine is_guarded ?_; first | (refine lw_not rfl rfl rfl rfl ?_)) | ((refine is_un ?_; first | (refine lw_pure rfl (pv_not rfl) ?_))) | (refine is_pk ?_; refine lw_pure rfl (pv_pick_t rfl rfl rfl) ?_))
      all_goals exact qw_ret3 rfl rfl rfl rfl ⟨⟨_, _, rfl, Own.nil _, Own.nil _⟩, grow_trans hw0 hw⟩
    | true =>
      by_cases hg2 : e.v = 3
      · have hg3 : mayE e = false := by rw [Bool.eq_false_iff]; exact fun h => hgood ⟨hg1, hg2, h⟩
        repeat' (first | (refine lw_pure rfl (pv_move rfl) ?_) | (refine lw_pure rfl (pv_assign rfl) ?_) | (refine lw_call (f := 50) (by kernel_rfl) rfl rfl (mayV_e hg1 rfl rfl HP HL) ?_; rintro e w1 ⟨rfl, hb⟩; refine ⟨_, rfl, ?_⟩; replace hw := grow_trans hw hb; clear hb) | (refine lw_call (f := 51) (by kernel_rfl) rfl rfl (mayE_e hg3 h8 rfl rfl (HN1.mono hw) (HX.mono hw) hT (hK.mono hw)) ?_; rintro e w1 ⟨rfl, hb⟩; refine ⟨_, rfl, ?_⟩; replace hw := grow_trans hw hb; clear hb) | (refine is_cw ?_; first | (refine cw_seq ?_) | (refine cw_region ?_) | (refine cw_true rfl rfl ?_) | (refine cw_ret ?_)) | (refine is_qw ?_; first | (with_reducible refine qw_then ?_) | (with_reducible refine qw_then_ret ?_)) | (refine lw_nil ?_) | (refine is_guarded ?_; first | (refine lw_on rfl rfl rfl ?_) | (refine lw_on rfl rfl (by first | assumption | exact decide_eq_true (by omega) | exact decide_eq_false (by omega) | exact dec_notT (by omega) | exact dec_notF (by omega)) ?_)) | ((refine is_bin ?_; first | (refine lw_pure rfl (pv_neq rfl rfl) ?_))) | ((refine is_load ?_; first | (refine lw_pure rfl (pv_load (t1 rfl) rfl (by first | exact PT.ld0 (H.mono hw) rfl | exact PT.ld (H.mono hw) rfl)) ?_) | (refine lw_pure rfl (pv_loada (tA rfl) rfl (by first | exact PT.lda (H.mono hw)) (by rfl)) ?_))) | ((refine is_fa ?_; first | (refine lw_pure rfl (pv_fa (tF rfl) rfl) ?_))) | ((refine is_un ?_; first | (refine lw_pure rfl (pv_not rfl) ?_))) | (refine is_pk ?_; refine lw_pure rfl (pv_pick_f rfl rfl rfl) ?_) | (refine is_pk ?_; refine lw_pure rfl (pv_pick_f rfl (by first | assumption | exact decide_eq_false (by omega) | exact dec_notF (by omega)) rfl) ?_))
        all_goals exact qw_ret3 rfl rfl rfl rfl ⟨⟨_, _, rfl, Own.nil _, Own.nil _⟩, grow_trans hw0 hw⟩
      · repeat' (first | (refine lw_pure rfl (pv_move rfl) ?_) | (refine lw_pure rfl (pv_assign rfl) ?_) | (refine lw_call (f := 50) (by kernel_rfl) rfl rfl (mayV_e hg1 rfl rfl HP HL) ?_; rintro e w1 ⟨rfl, hb⟩; refine ⟨_, rfl, ?_⟩; replace hw := grow_trans hw hb; clear hb) | (refine is_cw ?_; first | (refine cw_seq ?_) | (refine cw_region ?_) | (refine cw_true rfl rfl ?_) | (refine cw_ret ?_)) | (refine is_qw ?_; first | (with_reducible refine qw_then ?_) | (with_reducible refine qw_then_ret ?_)) | (refine lw_nil ?_) | (refine is_guarded ?_; first | (refine lw_on rfl rfl rfl ?_) | (refine lw_not rfl rfl rfl (by first | assumption | exact decide_eq_true (by omega) | exact decide_eq_false (by omega) | exact dec_notT (by omega) | exact dec_notF (by omega)) ?_)) | ((refine is_bin ?_; first | (refine lw_pure rfl (pv_neq rfl rfl) ?_))) | ((refine is_load ?_; first | (refine lw_pure rfl (pv_load (t1 rfl) rfl (by first | exact PT.ld0 (H.mono hw) rfl | exact PT.ld (H.mono hw) rfl)) ?_))) | ((refine is_fa ?_; first | (refine lw_pure rfl (pv_fa (tF rfl) rfl) ?_))) | ((refine is_un ?_; first | (refine lw_pure rfl (pv_not rfl) ?_))) | (refine is_pk ?_; refine lw_pure rfl (pv_pick_f rfl rfl rfl) ?_) | (refine is_pk ?_; refine lw_pure rfl (pv_pick_t rfl (by first | assumption | exact decide_eq_true (by omega) | exact dec_notT (by omega)) rfl) ?_))
        all_goals exact qw_ret3 rfl rfl rfl rfl ⟨⟨_, _, rfl, Own.nil _, Own.nil _⟩, grow_trans hw0 hw⟩
end Go.Proofs.YtemngicaoacfaaaGreatDoor
namespace Go.Proofs.YtemngicaoacfaaaGreatDoor
open Go.RowKit Go.PlainAid

theorem neq_P (x y : Opn) (w : World) : (binOp .neq 49 (.agg (encP x).toArray) (.agg (encP y).toArray)).run Tryz.prog w = .ok (.bool (!decide (x = y))) w := by
  have hS : (Tryz.prog).underlying 49 = some (.struct ((Tryz.prog).fieldsOf 49)) := by kernel_rfl
  have hp : (Tryz.prog).stoodInHeld 49 = false := by kernel_rfl
  unfold encP
  rw [run_neq_struct, show (10000 : Nat) = 9999 + 1 from rfl, run_equalIn_agg w 9999 49 _ _ hS hp]
  have h : (decide (x = y)) = (x.acct == y.acct && (x.id == y.id && (x.inst == y.inst && (x.side == y.side && (x.price == y.price && x.left == y.left))))) := by
    rw [Bool.eq_iff_iff]
    cases x; cases y; simp
  rw [h]
  simp only [Program.fieldsOf, Tryz.underlying49]
  go_simp
  by_cases h1 : x.acct = y.acct <;> by_cases h2 : x.id = y.id <;> by_cases h3 : x.inst = y.inst <;> by_cases h4 : x.side = y.side <;> by_cases h5 : x.price = y.price <;> by_cases h6 : x.left = y.left <;> simp [*]
theorem eql_P (x y : Opn) (w : World) : (binOp .eql 49 (.agg (encP x).toArray) (.agg (encP y).toArray)).run Tryz.prog w = .ok (.bool (decide (x = y))) w := by
  have hS : (Tryz.prog).underlying 49 = some (.struct ((Tryz.prog).fieldsOf 49)) := by kernel_rfl
  have hp : (Tryz.prog).stoodInHeld 49 = false := by kernel_rfl
  unfold encP
  rw [run_eql_struct, show (10000 : Nat) = 9999 + 1 from rfl, run_equalIn_agg w 9999 49 _ _ hS hp]
  have h : (decide (x = y)) = (x.acct == y.acct && (x.id == y.id && (x.inst == y.inst && (x.side == y.side && (x.price == y.price && x.left == y.left))))) := by
    rw [Bool.eq_iff_iff]
    cases x; cases y; simp
  rw [h]
  simp only [Program.fieldsOf, Tryz.underlying49]
  go_simp
  by_cases h1 : x.acct = y.acct <;> by_cases h2 : x.id = y.id <;> by_cases h3 : x.inst = y.inst <;> by_cases h4 : x.side = y.side <;> by_cases h5 : x.price = y.price <;> by_cases h6 : x.left = y.left <;> simp [*]
theorem pv_neqP {n : Nat} {l : Fr} {w : World} {d : Option Nat} {t' ty : TypeId} {x y : Operand} {pos : String} {af : Array Edge} {g : Option (Nat × Bool)} (a b : Opn) (hx : ev l x = some (.agg (encP a).toArray)) (hy : ev l y = some (.agg (encP b).toArray)) : Pv Tryz.prog n l ⟨d, .binOp .neq 49 x y t', ty, pos, af, g⟩ (.bool (!decide (a = b))) w := ⟨fun A hA => by
  have h1 : (eqGuard .neq 49 x y (.agg (encP a).toArray) (.agg (encP b).toArray)).run Tryz.prog w = .ok () w := run_eqGuard_agg w .neq 49 x y _ _ (by kernel_rfl)
  have h2 := neq_P a b w
  simp [execOp, hA.ev hx, hA.ev hy, h1, h2]⟩
theorem pv_eqlP {n : Nat} {l : Fr} {w : World} {d : Option Nat} {t' ty : TypeId} {x y : Operand} {pos : String} {af : Array Edge} {g : Option (Nat × Bool)} (a b : Opn) (hx : ev l x = some (.agg (encP a).toArray)) (hy : ev l y = some (.agg (encP b).toArray)) : Pv Tryz.prog n l ⟨d, .binOp .eql 49 x y t', ty, pos, af, g⟩ (.bool (decide (a = b))) w := ⟨fun A hA => by
  have h1 : (eqGuard .eql 49 x y (.agg (encP a).toArray) (.agg (encP b).toArray)).run Tryz.prog w = .ok () w := run_eqGuard_agg w .eql 49 x y _ _ (by kernel_rfl)
  have h2 := eql_P a b w
  simp [execOp, hA.ev hx, hA.ev hy, h1, h2]⟩

theorem neq_L (x y : Lt) (w : World) : (binOp .neq 53 (.agg (encL x).toArray) (.agg (encL y).toArray)).run Tryz.prog w = .ok (.bool (!decide (x = y))) w := by
  have hS : (Tryz.prog).underlying 53 = some (.struct ((Tryz.prog).fieldsOf 53)) := by kernel_rfl
  have hp : (Tryz.prog).stoodInHeld 53 = false := by kernel_rfl
  unfold encL
  rw [run_neq_struct, show (10000 : Nat) = 9999 + 1 from rfl, run_equalIn_agg w 9999 53 _ _ hS hp]
  have h : (decide (x = y)) = (x.id == y.id && (x.seller == y.seller && (x.inst == y.inst && x.qty == y.qty))) := by
    rw [Bool.eq_iff_iff]
    cases x; cases y; simp
  rw [h]
  simp only [Program.fieldsOf, Tryz.underlying53]
  go_simp
  by_cases h1 : x.id = y.id <;> by_cases h2 : x.seller = y.seller <;> by_cases h3 : x.inst = y.inst <;> by_cases h4 : x.qty = y.qty <;> simp [*]
theorem eql_L (x y : Lt) (w : World) : (binOp .eql 53 (.agg (encL x).toArray) (.agg (encL y).toArray)).run Tryz.prog w = .ok (.bool (decide (x = y))) w := by
  have hS : (Tryz.prog).underlying 53 = some (.struct ((Tryz.prog).fieldsOf 53)) := by kernel_rfl
  have hp : (Tryz.prog).stoodInHeld 53 = false := by kernel_rfl
  unfold encL
  rw [run_eql_struct, show (10000 : Nat) = 9999 + 1 from rfl, run_equalIn_agg w 9999 53 _ _ hS hp]
  have h : (decide (x = y)) = (x.id == y.id && (x.seller == y.seller && (x.inst == y.inst && x.qty == y.qty))) := by
    rw [Bool.eq_iff_iff]
    cases x; cases y; simp
  rw [h]
  simp only [Program.fieldsOf, Tryz.underlying53]
  go_simp
  by_cases h1 : x.id = y.id <;> by_cases h2 : x.seller = y.seller <;> by_cases h3 : x.inst = y.inst <;> by_cases h4 : x.qty = y.qty <;> simp [*]
theorem pv_neqL {n : Nat} {l : Fr} {w : World} {d : Option Nat} {t' ty : TypeId} {x y : Operand} {pos : String} {af : Array Edge} {g : Option (Nat × Bool)} (a b : Lt) (hx : ev l x = some (.agg (encL a).toArray)) (hy : ev l y = some (.agg (encL b).toArray)) : Pv Tryz.prog n l ⟨d, .binOp .neq 53 x y t', ty, pos, af, g⟩ (.bool (!decide (a = b))) w := ⟨fun A hA => by
  have h1 : (eqGuard .neq 53 x y (.agg (encL a).toArray) (.agg (encL b).toArray)).run Tryz.prog w = .ok () w := run_eqGuard_agg w .neq 53 x y _ _ (by kernel_rfl)
  have h2 := neq_L a b w
  simp [execOp, hA.ev hx, hA.ev hy, h1, h2]⟩
theorem pv_eqlL {n : Nat} {l : Fr} {w : World} {d : Option Nat} {t' ty : TypeId} {x y : Operand} {pos : String} {af : Array Edge} {g : Option (Nat × Bool)} (a b : Lt) (hx : ev l x = some (.agg (encL a).toArray)) (hy : ev l y = some (.agg (encL b).toArray)) : Pv Tryz.prog n l ⟨d, .binOp .eql 53 x y t', ty, pos, af, g⟩ (.bool (decide (a = b))) w := ⟨fun A hA => by
  have h1 : (eqGuard .eql 53 x y (.agg (encL a).toArray) (.agg (encL b).toArray)).run Tryz.prog w = .ok () w := run_eqGuard_agg w .eql 53 x y _ _ (by kernel_rfl)
  have h2 := eql_L a b w
  simp [execOp, hA.ev hx, hA.ev hy, h1, h2]⟩

set_option maxRecDepth 20000 in
theorem rfind_P {p : List Opn} {m : Nat} {a : Option Addr} {ca : Nat} {w : World} (id : Int) (hm : p.length = m) (HP : SlR encP 6 w a ca p) : Calls Tryz.prog 41 #[.slice a m ca, .int .i64 id] w fun e w' => e = .returned (.tuple #[.agg (encP ((findP p id).getD oZ)).toArray, .bool (findP p id).isSome]) ∧ Below w.heap.size w w' := by
  subst hm
  have hE := Ext.refl w
  have hw := Below.refl w.heap.size w
  have hca := HP.le
  have hcm := HP.max
  refine fn_enter 25 Tryz.func41 rfl rfl rfl ?_
  repeat' (first | (refine is_cw ?_; first | (refine cw_seq ?_) | (refine cw_region ?_)))
  refine lw_allocN rfl (by first | exact tyv_27 | exact tyv_28 | exact tyv_38 | exact tyv_39 | exact tyv_48 | exact tyv_49 | exact tyv_52 | exact tyv_53 | exact tyv_68 | exact tyv_69 | exact tyv_79 | exact tyv_80 | exact tyv_94 | exact tyv_95 | exact tyv_131 | exact tyv_132) rfl ?_; intro N w1 hN H hb
  replace hE := hE.mono hb
  replace HP := HP.mono hb
  clear hb hw
  have hw := Below.refl w1.heap.size w1
  repeat' (first | (refine lw_pure rfl (pv_assign rfl) ?_) | (refine is_cw ?_; first | (refine cw_seq ?_) | (refine cw_region ?_) | (refine cw_block ?_)) | (refine is_qw ?_; first | (with_reducible refine qw_then ?_)) | (refine lw_nil ?_))
  refine cw_loop (σ := Nat) (fun k => [(0, .slice a p.length ca), (1, .int .i64 id), (4, .pointer (some ⟨N, 0, none⟩)), (6, .int .i64 (k : Nat))]) (fun k wr => k ≤ p.length ∧ Below w1.heap.size w1 wr ∧ ∀ x ∈ p.take k, (x.id == id) = false) (fun k => p.length - k) 0 (by repeat' (first | exact trivial | refine ⟨rfl, ?_⟩)) ⟨Nat.zero_le _, hw, by simp⟩ ?_
  clear hw
  rintro k wr ⟨hk, hw, hn⟩
  by_cases hlt : k < p.length
  · have hxk : p[k]? = some p[k] := List.getElem?_eq_getElem hlt
    obtain ⟨ab, ao, rfl, -, -⟩ := HP.at (by intro h; rw [h] at hlt; simp at hlt)
    generalize p[k] = x at hxk
    by_cases hx : x.id = id
    · have hf : findP p id = some x := find_at hxk (by simp [hx]) hn
      rw [hf]
      repeat' (first | (refine lw_pure rfl (pv_move rfl) ?_) | (refine is_cw ?_; first | (refine cw_seq ?_) | (refine cw_region ?_) | (refine is_cd ?_; refine cw_true rfl (by first | assumption | exact decide_eq_true (by omega) | exact dec_notT (by omega)) ?_) | (refine cw_skip ?_) | (refine cw_block ?_)) | (refine is_qw ?_; first | (with_reducible refine qw_then ?_)) | (refine lw_nil ?_) | ((refine is_bin ?_; first | (refine lw_pure rfl (pv_lss rfl rfl) ?_) | (refine lw_pure rfl (pv_eql rfl rfl) ?_))) | ((refine is_load ?_; first | (refine lw_pure rfl (pv_load (t1 rfl) rfl (by first | exact SlR.ld (HP.mono hw) hxk rfl | exact SlR.ld1 (HP.mono hw) hxk rfl)) ?_) | (refine lw_pure rfl (pv_loada (tA rfl) rfl (by first | exact SlR.lda (HP.mono hw) hxk) (by rfl)) ?_))) | ((refine is_fa ?_; first | (refine lw_pure rfl (pv_fa (tF rfl) rfl) ?_))) | ((refine is_ia ?_; first | (refine lw_pure rfl (pv_ian (tS rfl) rfl rfl (by omega)) ?_))) | ((refine is_bi ?_; first | (refine lw_pure rfl (pv_lenl (tS rfl) rfl) ?_))))
      refine lw_storea (vs := encP x) (H.mono hw) (tZ rfl) rfl rfl rfl rfl (encP_one _) ?_; intro w3 H2 hg hz
      replace hE := (hE.mono hw).grown hg (by intro q hq; injection hq with hq; omega)
      clear hw
      have hw := Below.refl w3.heap.size w3
      repeat' (first | (refine lw_pure rfl (pv_assign rfl) ?_) | (refine is_cw ?_; first | (refine cw_ret ?_)) | (refine is_qw ?_; first | (with_reducible refine qw_then ?_) | (with_reducible refine qw_then_ret ?_) | (with_reducible refine qw_in_ret ?_)) | (refine lw_nil ?_))
      exact qw_retct rfl rfl rfl (agg_ld (tA rfl) rfl (fun i u hu => H2.ld0 hu)) ⟨rfl, hE.b⟩
    · repeat' (first | (refine lw_pure rfl (pv_move rfl) ?_) | (refine lw_pure rfl (pv_assign rfl) ?_) | (refine is_cw ?_; first | (refine cw_seq ?_) | (refine cw_region ?_) | (refine is_cd ?_; refine cw_true rfl (by first | assumption | exact decide_eq_true (by omega) | exact dec_notT (by omega)) ?_) | (refine is_cd ?_; refine cw_false rfl (by first | assumption | exact decide_eq_false (by omega) | exact dec_notF (by omega)) ?_) | (refine cw_skip ?_) | (refine cw_block ?_)) | (refine is_qw ?_; first | (with_reducible refine qw_then ?_) | (with_reducible refine qw_in ?_)) | (refine lw_nil ?_) | ((refine is_bin ?_; first | (refine lw_pure rfl (pv_lss rfl rfl) ?_) | (refine lw_pure rfl (pv_eql rfl rfl) ?_) | (refine lw_pure rfl (pv_inc rfl rfl (by omega)) ?_))) | ((refine is_load ?_; first | (refine lw_pure rfl (pv_load (t1 rfl) rfl (by first | exact SlR.ld (HP.mono hw) hxk rfl | exact SlR.ld1 (HP.mono hw) hxk rfl)) ?_))) | ((refine is_fa ?_; first | (refine lw_pure rfl (pv_fa (tF rfl) rfl) ?_))) | ((refine is_ia ?_; first | (refine lw_pure rfl (pv_ian (tS rfl) rfl rfl (by omega)) ?_))) | ((refine is_bi ?_; first | (refine lw_pure rfl (pv_lenl (tS rfl) rfl) ?_))))
      refine qw_round (k + 1) (by repeat' (first | exact trivial | refine ⟨rfl, ?_⟩)) ⟨by omega, hw, ?_⟩ (by omega)
      intro y hy
      rw [List.take_add_one, hxk] at hy
      rcases List.mem_append.1 hy with hy | hy
      · exact hn y hy
      · simp at hy; subst hy; simp [hx]
  · have hkl : k = p.length := by omega
    subst hkl
    rw [List.take_length] at hn
    have hf : findP p id = none := find_none hn
    rw [hf]
    repeat' (first | (refine lw_pure rfl (pv_move rfl) ?_) | (refine is_cw ?_; first | (refine cw_seq ?_) | (refine cw_region ?_) | (refine is_cd ?_; refine cw_false rfl (by first | assumption | exact decide_eq_false (by omega) | exact dec_notF (by omega)) ?_) | (refine cw_exit ?_)) | (refine is_qw ?_; first | (with_reducible refine qw_then ?_) | (with_reducible refine qw_in_hit ?_) | (with_reducible refine qw_then_exit ?_)) | (refine lw_nil ?_) | ((refine is_bin ?_; first | (refine lw_pure rfl (pv_lss rfl rfl) ?_))) | ((refine is_bi ?_; first | (refine lw_pure rfl (pv_lenl (tS rfl) rfl) ?_))) | ((refine is_bd ?_; first | (refine lw_pure rfl (tyB_49 rfl rfl rfl) ?_))))
    refine lw_storea (vs := encP oZ) (H.mono hw) (tZ rfl) rfl rfl rfl rfl (encP_one _) ?_; intro w3 H2 hg hz
    replace hE := (hE.mono hw).grown hg (by intro q hq; injection hq with hq; omega)
    clear hw
    have hw := Below.refl w3.heap.size w3
    repeat' (first | (refine lw_pure rfl (pv_assign rfl) ?_) | (refine is_cw ?_; first | (refine cw_ret ?_)) | (refine is_qw ?_; first | (with_reducible refine qw_then ?_)) | (refine lw_nil ?_))
    exact qw_retct rfl rfl rfl (agg_ld (tA rfl) rfl (fun i u hu => H2.ld0 hu)) ⟨rfl, hE.b⟩

set_option maxRecDepth 20000 in
theorem rfind_L {p : List Lt} {m : Nat} {a : Option Addr} {ca : Nat} {w : World} (id : Int) (hm : p.length = m) (HP : SlR encL 4 w a ca p) : Calls Tryz.prog 43 #[.slice a m ca, .int .i64 id] w fun e w' => e = .returned (.tuple #[.agg (encL ((findT p id).getD lZ)).toArray, .bool (findT p id).isSome]) ∧ Below w.heap.size w w' := by
  subst hm
  have hE := Ext.refl w
  have hw := Below.refl w.heap.size w
  have hca := HP.le
  have hcm := HP.max
  refine fn_enter 25 Tryz.func43 rfl rfl rfl ?_
  repeat' (first | (refine is_cw ?_; first | (refine cw_seq ?_) | (refine cw_region ?_)))
  refine lw_allocN rfl (by first | exact tyv_27 | exact tyv_28 | exact tyv_38 | exact tyv_39 | exact tyv_48 | exact tyv_49 | exact tyv_52 | exact tyv_53 | exact tyv_68 | exact tyv_69 | exact tyv_79 | exact tyv_80 | exact tyv_94 | exact tyv_95 | exact tyv_131 | exact tyv_132) rfl ?_; intro N w1 hN H hb
  replace hE := hE.mono hb
  replace HP := HP.mono hb
  clear hb hw
  have hw := Below.refl w1.heap.size w1
  repeat' (first | (refine lw_pure rfl (pv_assign rfl) ?_) | (refine is_cw ?_; first | (refine cw_seq ?_) | (refine cw_region ?_) | (refine cw_block ?_)) | (refine is_qw ?_; first | (with_reducible refine qw_then ?_)) | (refine lw_nil ?_))
  refine cw_loop (σ := Nat) (fun k => [(0, .slice a p.length ca), (1, .int .i64 id), (4, .pointer (some ⟨N, 0, none⟩)), (6, .int .i64 (k : Nat))]) (fun k wr => k ≤ p.length ∧ Below w1.heap.size w1 wr ∧ ∀ x ∈ p.take k, (x.id == id) = false) (fun k => p.length - k) 0 (by repeat' (first | exact trivial | refine ⟨rfl, ?_⟩)) ⟨Nat.zero_le _, hw, by simp⟩ ?_
  clear hw
  rintro k wr ⟨hk, hw, hn⟩
  by_cases hlt : k < p.length
  · have hxk : p[k]? = some p[k] := List.getElem?_eq_getElem hlt
    obtain ⟨ab, ao, rfl, -, -⟩ := HP.at (by intro h; rw [h] at hlt; simp at hlt)
    generalize p[k] = x at hxk
    by_cases hx : x.id = id
    · have hf : findT p id = some x := find_at hxk (by simp [hx]) hn
      rw [hf]
      repeat' (first | (refine lw_pure rfl (pv_move rfl) ?_) | (refine is_cw ?_; first | (refine cw_seq ?_) | (refine cw_region ?_) | (refine is_cd ?_; refine cw_true rfl (by first | assumption | exact decide_eq_true (by omega) | exact dec_notT (by omega)) ?_) | (refine cw_skip ?_) | (refine cw_block ?_)) | (refine is_qw ?_; first | (with_reducible refine qw_then ?_)) | (refine lw_nil ?_) | ((refine is_bin ?_; first | (refine lw_pure rfl (pv_lss rfl rfl) ?_) | (refine lw_pure rfl (pv_eql rfl rfl) ?_))) | ((refine is_load ?_; first | (refine lw_pure rfl (pv_load (t1 rfl) rfl (by first | exact SlR.ld (HP.mono hw) hxk rfl | exact SlR.ld1 (HP.mono hw) hxk rfl)) ?_) | (refine lw_pure rfl (pv_loada (tA rfl) rfl (by first | exact SlR.lda (HP.mono hw) hxk) (by rfl)) ?_))) | ((refine is_fa ?_; first | (refine lw_pure rfl (pv_fa (tF rfl) rfl) ?_))) | ((refine is_ia ?_; first | (refine lw_pure rfl (pv_ian (tS rfl) rfl rfl (by omega)) ?_))) | ((refine is_bi ?_; first | (refine lw_pure rfl (pv_lenl (tS rfl) rfl) ?_))))
      refine lw_storea (vs := encL x) (H.mono hw) (tZ rfl) rfl rfl rfl rfl (encL_one _) ?_; intro w3 H2 hg hz
      replace hE := (hE.mono hw).grown hg (by intro q hq; injection hq with hq; omega)
      clear hw
      have hw := Below.refl w3.heap.size w3
      repeat' (first | (refine lw_pure rfl (pv_assign rfl) ?_) | (refine is_cw ?_; first | (refine cw_ret ?_)) | (refine is_qw ?_; first | (with_reducible refine qw_then ?_) | (with_reducible refine qw_then_ret ?_) | (with_reducible refine qw_in_ret ?_)) | (refine lw_nil ?_))
      exact qw_retct rfl rfl rfl (agg_ld (tA rfl) rfl (fun i u hu => H2.ld0 hu)) ⟨rfl, hE.b⟩
    · repeat' (first | (refine lw_pure rfl (pv_move rfl) ?_) | (refine lw_pure rfl (pv_assign rfl) ?_) | (refine is_cw ?_; first | (refine cw_seq ?_) | (refine cw_region ?_) | (refine is_cd ?_; refine cw_true rfl (by first | assumption | exact decide_eq_true (by omega) | exact dec_notT (by omega)) ?_) | (refine is_cd ?_; refine cw_false rfl (by first | assumption | exact decide_eq_false (by omega) | exact dec_notF (by omega)) ?_) | (refine cw_skip ?_) | (refine cw_block ?_)) | (refine is_qw ?_; first | (with_reducible refine qw_then ?_) | (with_reducible refine qw_in ?_)) | (refine lw_nil ?_) | ((refine is_bin ?_; first | (refine lw_pure rfl (pv_lss rfl rfl) ?_) | (refine lw_pure rfl (pv_eql rfl rfl) ?_) | (refine lw_pure rfl (pv_inc rfl rfl (by omega)) ?_))) | ((refine is_load ?_; first | (refine lw_pure rfl (pv_load (t1 rfl) rfl (by first | exact SlR.ld (HP.mono hw) hxk rfl | exact SlR.ld1 (HP.mono hw) hxk rfl)) ?_))) | ((refine is_fa ?_; first | (refine lw_pure rfl (pv_fa (tF rfl) rfl) ?_))) | ((refine is_ia ?_; first | (refine lw_pure rfl (pv_ian (tS rfl) rfl rfl (by omega)) ?_))) | ((refine is_bi ?_; first | (refine lw_pure rfl (pv_lenl (tS rfl) rfl) ?_))))
      refine qw_round (k + 1) (by repeat' (first | exact trivial | refine ⟨rfl, ?_⟩)) ⟨by omega, hw, ?_⟩ (by omega)
      intro y hy
      rw [List.take_add_one, hxk] at hy
      rcases List.mem_append.1 hy with hy | hy
      · exact hn y hy
      · simp at hy; subst hy; simp [hx]
  · have hkl : k = p.length := by omega
    subst hkl
    rw [List.take_length] at hn
    have hf : findT p id = none := find_none hn
    rw [hf]
    repeat' (first | (refine lw_pure rfl (pv_move rfl) ?_) | (refine is_cw ?_; first | (refine cw_seq ?_) | (refine cw_region ?_) | (refine is_cd ?_; refine cw_false rfl (by first | assumption | exact decide_eq_false (by omega) | exact dec_notF (by omega)) ?_) | (refine cw_exit ?_)) | (refine is_qw ?_; first | (with_reducible refine qw_then ?_) | (with_reducible refine qw_in_hit ?_) | (with_reducible refine qw_then_exit ?_)) | (refine lw_nil ?_) | ((refine is_bin ?_; first | (refine lw_pure rfl (pv_lss rfl rfl) ?_))) | ((refine is_bi ?_; first | (refine lw_pure rfl (pv_lenl (tS rfl) rfl) ?_))) | ((refine is_bd ?_; first | (refine lw_pure rfl (tyB_53 rfl rfl rfl) ?_))))
    refine lw_storea (vs := encL lZ) (H.mono hw) (tZ rfl) rfl rfl rfl rfl (encL_one _) ?_; intro w3 H2 hg hz
    replace hE := (hE.mono hw).grown hg (by intro q hq; injection hq with hq; omega)
    clear hw
    have hw := Below.refl w3.heap.size w3
    repeat' (first | (refine lw_pure rfl (pv_assign rfl) ?_) | (refine is_cw ?_; first | (refine cw_ret ?_)) | (refine is_qw ?_; first | (with_reducible refine qw_then ?_)) | (refine lw_nil ?_))
    exact qw_retct rfl rfl rfl (agg_ld (tA rfl) rfl (fun i u hu => H2.ld0 hu)) ⟨rfl, hE.b⟩

set_option maxRecDepth 20000 in
theorem rsame_P {p q : List Opn} {m n : Nat} {a b : Option Addr} {ca cb : Nat} {w : World} (hm : p.length = m) (hn : q.length = n) (HP : SlR encP 6 w a ca p) (HQ : SlR encP 6 w b cb q) : Calls Tryz.prog 15 #[.slice a m ca, .slice b n cb] w fun e w' => e = .returned (.bool (decide (p = q))) ∧ Below w.heap.size w w' := by
  subst hm hn
  have hw := Below.refl w.heap.size w
  have hca := HP.le
  have hcm := HP.max
  refine fn_enter 26 Tryz.func15 rfl rfl rfl ?_
  by_cases hl : p.length = q.length
  · repeat' ((fail_if_success (refine is_seqb ?_)); (fail_if_success (refine is_blk ?_)); first | (refine lw_pure rfl (pv_move rfl) ?_) | (refine lw_pure rfl (pv_assign rfl) ?_) | (refine is_cw ?_; first | (refine cw_seq ?_) | (refine cw_region ?_) | (refine is_cd ?_; refine cw_false rfl (by first | assumption | exact decide_eq_false (by omega) | exact dec_notF (by omega)) ?_) | (refine cw_skip ?_)) | (refine is_qw ?_; first | (with_reducible refine qw_then ?_)) | (refine lw_nil ?_) | ((refine is_bin ?_; first | (refine lw_pure rfl (pv_neq rfl rfl) ?_))) | ((refine is_bi ?_; first | (refine lw_pure rfl (pv_lenl (tS rfl) rfl) ?_))))
    repeat' (first | (refine is_cw ?_; first | (refine cw_block ?_)))
    refine cw_loop (σ := Nat) (fun k => [(0, .slice a p.length ca), (1, .slice b q.length cb), (5, .int .i64 (k : Nat))]) (fun k wr => k ≤ p.length ∧ Below w.heap.size w wr ∧ ∀ j, j < k → p[j]? = q[j]?) (fun k => p.length - k) 0 (by repeat' (first | exact trivial | refine ⟨rfl, ?_⟩)) ⟨Nat.zero_le _, hw, by omega⟩ ?_
    clear hw
    rintro k wr ⟨hk, hw, hn⟩
    by_cases hlt : k < p.length
    · have hxk : p[k]? = some p[k] := List.getElem?_eq_getElem hlt
      have hyk : q[k]? = some (q[k]'(by omega)) := List.getElem?_eq_getElem _
      obtain ⟨ab, ao, rfl, -, -⟩ := HP.at (by intro h; rw [h] at hlt; simp at hlt)
      obtain ⟨bb, bo, rfl, -, -⟩ := HQ.at (by intro h; rw [h] at hl; rw [hl] at hlt; simp at hlt)
      generalize p[k] = x at hxk
      generalize q[k] = y at hyk
      repeat' (first | (refine lw_pure rfl (pv_move rfl) ?_) | (refine is_cw ?_; first | (refine cw_seq ?_) | (refine cw_region ?_) | (refine is_cd ?_; refine cw_true rfl (by first | assumption | exact decide_eq_true (by omega) | exact dec_notT (by omega)) ?_) | (refine cw_skip ?_) | (refine cw_block ?_)) | (refine is_qw ?_; first | (with_reducible refine qw_then ?_)) | (refine lw_nil ?_) | ((refine is_bin ?_; first | (refine lw_pure rfl (pv_lss rfl rfl) ?_))) | ((refine is_bi ?_; first | (refine lw_pure rfl (pv_lenl (tS rfl) rfl) ?_))))
      refine cw_drawn (fun w' => Below w.heap.size w w') (by kernel_rfl) (by repeat (first | exact NoPanic.body | with_reducible refine NoPanic.then ?_ | with_reducible refine NoPanic.inBlock ?_)) (fun hNP => ?_)
      have hS := hw.drew
      (refine at0 0 rfl (fun w' hq => pv_move rfl) ?_)
      (refine at0 1 rfl (fun w' hq => pv_move rfl) ?_)
      (refine at0 2 rfl (fun w' hq => pv_ian (tS rfl) rfl rfl (by omega)) ?_)
      (refine at0 3 rfl (fun w' hq => pv_loada (tA rfl) rfl (by first | exact SlR.lda (HP.mono hq) hxk | exact SlR.lda (HQ.mono hq) hyk) (by rfl)) ?_)
      (refine at0 4 rfl (fun w' hq => pv_move rfl) ?_)
      (refine at0 5 rfl (fun w' hq => pv_move rfl) ?_)
      (refine at0 6 rfl (fun w' hq => pv_ian (tS rfl) rfl rfl (by omega)) ?_)
      (refine at0 7 rfl (fun w' hq => pv_loada (tA rfl) rfl (by first | exact SlR.lda (HP.mono hq) hxk | exact SlR.lda (HQ.mono hq) hyk) (by rfl)) ?_)
      (refine at0 8 rfl (fun w' hq => pv_neqP _ _ rfl rfl) ?_)
      refine aw_done (by kernel_rfl) ?_
      replace hw := hS; clear hS hNP
      by_cases hxy : x = y
      · repeat' (first | (refine lw_pure rfl (pv_move rfl) ?_) | (refine lw_pure rfl (pv_assign rfl) ?_) | (refine is_cw ?_; first | (refine cw_region ?_) | (refine is_cd ?_; refine cw_false rfl (by first | assumption | exact decide_eq_false (by omega) | exact dec_notF (by omega)) ?_) | (refine cw_skip ?_)) | (refine is_qw ?_; first | (with_reducible refine qw_then ?_) | (with_reducible refine qw_in ?_)) | (refine lw_nil ?_) | ((refine is_bin ?_; first | (refine lw_pure rfl (pv_inc rfl rfl (by omega)) ?_))))
        refine qw_round (k + 1) (by repeat' (first | exact trivial | refine ⟨rfl, ?_⟩)) ⟨by omega, hw, ?_⟩ (by omega)
        intro j hj
        by_cases hjk : j = k
        · subst hjk; rw [hxk, hyk, hxy]
        · exact hn j (by omega)
      · repeat' (first | (refine lw_pure rfl (pv_assign rfl) ?_) | (refine is_cw ?_; first | (refine cw_seq ?_) | (refine cw_region ?_) | (refine is_cd ?_; refine cw_true rfl (by first | assumption | exact decide_eq_true (by omega) | exact dec_notT (by omega)) ?_) | (refine cw_ret ?_)) | (refine is_qw ?_; first | (with_reducible refine qw_then ?_) | (with_reducible refine qw_then_ret ?_) | (with_reducible refine qw_in_ret ?_)) | (refine lw_nil ?_))
        refine qw_ret1 rfl rfl ⟨ret_bool ?_, hw⟩
        symm; rw [decide_eq_false_iff_not]; rintro rfl
        rw [hxk] at hyk; injection hyk with hyk; exact hxy hyk
    · have hkl : k = p.length := by omega
      subst hkl
      have he : p = q := List.ext_getElem? fun j => by
        by_cases hj : j < p.length
        · exact hn j hj
        · rw [List.getElem?_eq_none (by omega), List.getElem?_eq_none (by omega)]
      repeat' (first | (refine lw_pure rfl (pv_move rfl) ?_) | (refine lw_pure rfl (pv_assign rfl) ?_) | (refine is_cw ?_; first | (refine cw_seq ?_) | (refine cw_region ?_) | (refine is_cd ?_; refine cw_false rfl (by first | assumption | exact decide_eq_false (by omega) | exact dec_notF (by omega)) ?_) | (refine cw_exit ?_) | (refine cw_ret ?_)) | (refine is_qw ?_; first | (with_reducible refine qw_then ?_) | (with_reducible refine qw_in_hit ?_) | (with_reducible refine qw_then_exit ?_)) | (refine lw_nil ?_) | ((refine is_bin ?_; first | (refine lw_pure rfl (pv_lss rfl rfl) ?_))) | ((refine is_bi ?_; first | (refine lw_pure rfl (pv_lenl (tS rfl) rfl) ?_))))
      exact qw_ret1 rfl rfl ⟨ret_bool (by simp [he]), hw⟩
  · repeat' (first | (refine lw_pure rfl (pv_move rfl) ?_) | (refine lw_pure rfl (pv_assign rfl) ?_) | (refine is_cw ?_; first | (refine cw_seq ?_) | (refine cw_region ?_) | (refine is_cd ?_; refine cw_true rfl (by first | assumption | exact decide_eq_true (by omega) | exact dec_notT (by omega)) ?_) | (refine cw_ret ?_)) | (refine is_qw ?_; first | (with_reducible refine qw_then ?_) | (with_reducible refine qw_then_ret ?_)) | (refine lw_nil ?_) | ((refine is_bin ?_; first | (refine lw_pure rfl (pv_neq rfl rfl) ?_))) | ((refine is_bi ?_; first | (refine lw_pure rfl (pv_lenl (tS rfl) rfl) ?_))))
    exact qw_ret1 rfl rfl ⟨ret_bool (by symm; rw [decide_eq_false_iff_not]; rintro rfl; exact hl rfl), hw⟩

set_option maxRecDepth 20000 in
theorem rsame_L {p q : List Lt} {m n : Nat} {a b : Option Addr} {ca cb : Nat} {w : World} (hm : p.length = m) (hn : q.length = n) (HP : SlR encL 4 w a ca p) (HQ : SlR encL 4 w b cb q) : Calls Tryz.prog 16 #[.slice a m ca, .slice b n cb] w fun e w' => e = .returned (.bool (decide (p = q))) ∧ Below w.heap.size w w' := by
  subst hm hn
  have hw := Below.refl w.heap.size w
  have hca := HP.le
  have hcm := HP.max
  refine fn_enter 26 Tryz.func16 rfl rfl rfl ?_
  by_cases hl : p.length = q.length
  · repeat' ((fail_if_success (refine is_seqb ?_)); (fail_if_success (refine is_blk ?_)); first | (refine lw_pure rfl (pv_move rfl) ?_) | (refine lw_pure rfl (pv_assign rfl) ?_) | (refine is_cw ?_; first | (refine cw_seq ?_) | (refine cw_region ?_) | (refine is_cd ?_; refine cw_false rfl (by first | assumption | exact decide_eq_false (by omega) | exact dec_notF (by omega)) ?_) | (refine cw_skip ?_)) | (refine is_qw ?_; first | (with_reducible refine qw_then ?_)) | (refine lw_nil ?_) | ((refine is_bin ?_; first | (refine lw_pure rfl (pv_neq rfl rfl) ?_))) | ((refine is_bi ?_; first | (refine lw_pure rfl (pv_lenl (tS rfl) rfl) ?_))))
    repeat' (first | (refine is_cw ?_; first | (refine cw_block ?_)))
    refine cw_loop (σ := Nat) (fun k => [(0, .slice a p.length ca), (1, .slice b q.length cb), (5, .int .i64 (k : Nat))]) (fun k wr => k ≤ p.length ∧ Below w.heap.size w wr ∧ ∀ j, j < k → p[j]? = q[j]?) (fun k => p.length - k) 0 (by repeat' (first | exact trivial | refine ⟨rfl, ?_⟩)) ⟨Nat.zero_le _, hw, by omega⟩ ?_
    clear hw
    rintro k wr ⟨hk, hw, hn⟩
    by_cases hlt : k < p.length
    · have hxk : p[k]? = some p[k] := List.getElem?_eq_getElem hlt
      have hyk : q[k]? = some (q[k]'(by omega)) := List.getElem?_eq_getElem _
      obtain ⟨ab, ao, rfl, -, -⟩ := HP.at (by intro h; rw [h] at hlt; simp at hlt)
      obtain ⟨bb, bo, rfl, -, -⟩ := HQ.at (by intro h; rw [h] at hl; rw [hl] at hlt; simp at hlt)
      generalize p[k] = x at hxk
      generalize q[k] = y at hyk
      repeat' (first | (refine lw_pure rfl (pv_move rfl) ?_) | (refine is_cw ?_; first | (refine cw_seq ?_) | (refine cw_region ?_) | (refine is_cd ?_; refine cw_true rfl (by first | assumption | exact decide_eq_true (by omega) | exact dec_notT (by omega)) ?_) | (refine cw_skip ?_) | (refine cw_block ?_)) | (refine is_qw ?_; first | (with_reducible refine qw_then ?_)) | (refine lw_nil ?_) | ((refine is_bin ?_; first | (refine lw_pure rfl (pv_lss rfl rfl) ?_))) | ((refine is_bi ?_; first | (refine lw_pure rfl (pv_lenl (tS rfl) rfl) ?_))))
      refine cw_drawn (fun w' => Below w.heap.size w w') (by kernel_rfl) (by repeat (first | exact NoPanic.body | with_reducible refine NoPanic.then ?_ | with_reducible refine NoPanic.inBlock ?_)) (fun hNP => ?_)
      have hS := hw.drew
      (refine at0 0 rfl (fun w' hq => pv_move rfl) ?_)
      (refine at0 1 rfl (fun w' hq => pv_move rfl) ?_)
      (refine at0 2 rfl (fun w' hq => pv_ian (tS rfl) rfl rfl (by omega)) ?_)
      (refine at0 3 rfl (fun w' hq => pv_loada (tA rfl) rfl (by first | exact SlR.lda (HP.mono hq) hxk | exact SlR.lda (HQ.mono hq) hyk) (by rfl)) ?_)
      (refine at0 4 rfl (fun w' hq => pv_move rfl) ?_)
      (refine at0 5 rfl (fun w' hq => pv_move rfl) ?_)
      (refine at0 6 rfl (fun w' hq => pv_ian (tS rfl) rfl rfl (by omega)) ?_)
      (refine at0 7 rfl (fun w' hq => pv_loada (tA rfl) rfl (by first | exact SlR.lda (HP.mono hq) hxk | exact SlR.lda (HQ.mono hq) hyk) (by rfl)) ?_)
      (refine at0 8 rfl (fun w' hq => pv_neqL _ _ rfl rfl) ?_)
      refine aw_done (by kernel_rfl) ?_
      replace hw := hS; clear hS hNP
      by_cases hxy : x = y
      · repeat' (first | (refine lw_pure rfl (pv_move rfl) ?_) | (refine lw_pure rfl (pv_assign rfl) ?_) | (refine is_cw ?_; first | (refine cw_region ?_) | (refine is_cd ?_; refine cw_false rfl (by first | assumption | exact decide_eq_false (by omega) | exact dec_notF (by omega)) ?_) | (refine cw_skip ?_)) | (refine is_qw ?_; first | (with_reducible refine qw_then ?_) | (with_reducible refine qw_in ?_)) | (refine lw_nil ?_) | ((refine is_bin ?_; first | (refine lw_pure rfl (pv_inc rfl rfl (by omega)) ?_))))
        refine qw_round (k + 1) (by repeat' (first | exact trivial | refine ⟨rfl, ?_⟩)) ⟨by omega, hw, ?_⟩ (by omega)
        intro j hj
        by_cases hjk : j = k
        · subst hjk; rw [hxk, hyk, hxy]
        · exact hn j (by omega)
      · repeat' (first | (refine lw_pure rfl (pv_assign rfl) ?_) | (refine is_cw ?_; first | (refine cw_seq ?_) | (refine cw_region ?_) | (refine is_cd ?_; refine cw_true rfl (by first | assumption | exact decide_eq_true (by omega) | exact dec_notT (by omega)) ?_) | (refine cw_ret ?_)) | (refine is_qw ?_; first | (with_reducible refine qw_then ?_) | (with_reducible refine qw_then_ret ?_) | (with_reducible refine qw_in_ret ?_)) | (refine lw_nil ?_))
        refine qw_ret1 rfl rfl ⟨ret_bool ?_, hw⟩
        symm; rw [decide_eq_false_iff_not]; rintro rfl
        rw [hxk] at hyk; injection hyk with hyk; exact hxy hyk
    · have hkl : k = p.length := by omega
      subst hkl
      have he : p = q := List.ext_getElem? fun j => by
        by_cases hj : j < p.length
        · exact hn j hj
        · rw [List.getElem?_eq_none (by omega), List.getElem?_eq_none (by omega)]
      repeat' (first | (refine lw_pure rfl (pv_move rfl) ?_) | (refine lw_pure rfl (pv_assign rfl) ?_) | (refine is_cw ?_; first | (refine cw_seq ?_) | (refine cw_region ?_) | (refine is_cd ?_; refine cw_false rfl (by first | assumption | exact decide_eq_false (by omega) | exact dec_notF (by omega)) ?_) | (refine cw_exit ?_) | (refine cw_ret ?_)) | (refine is_qw ?_; first | (with_reducible refine qw_then ?_) | (with_reducible refine qw_in_hit ?_) | (with_reducible refine qw_then_exit ?_)) | (refine lw_nil ?_) | ((refine is_bin ?_; first | (refine lw_pure rfl (pv_lss rfl rfl) ?_))) | ((refine is_bi ?_; first | (refine lw_pure rfl (pv_lenl (tS rfl) rfl) ?_))))
      exact qw_ret1 rfl rfl ⟨ret_bool (by simp [he]), hw⟩
  · repeat' (first | (refine lw_pure rfl (pv_move rfl) ?_) | (refine lw_pure rfl (pv_assign rfl) ?_) | (refine is_cw ?_; first | (refine cw_seq ?_) | (refine cw_region ?_) | (refine is_cd ?_; refine cw_true rfl (by first | assumption | exact decide_eq_true (by omega) | exact dec_notT (by omega)) ?_) | (refine cw_ret ?_)) | (refine is_qw ?_; first | (with_reducible refine qw_then ?_) | (with_reducible refine qw_then_ret ?_)) | (refine lw_nil ?_) | ((refine is_bin ?_; first | (refine lw_pure rfl (pv_neq rfl rfl) ?_))) | ((refine is_bi ?_; first | (refine lw_pure rfl (pv_lenl (tS rfl) rfl) ?_))))
    exact qw_ret1 rfl rfl ⟨ret_bool (by symm; rw [decide_eq_false_iff_not]; rintro rfl; exact hl rfl), hw⟩

set_option maxRecDepth 20000 in
theorem rbtw_c (n m : Int) (w : World) : Calls Tryz.prog 93 #[.int .i64 n, .int .i64 m] w fun e w' => e = .returned (.bool (btw n m)) ∧ Below w.heap.size w w' := by
  have hw := Below.refl w.heap.size w
  refine fn_enter 12 Tryz.func93 rfl rfl rfl ?_
  repeat' (first | (refine lw_pure rfl (pv_move rfl) ?_) | (refine lw_pure rfl (pv_assign rfl) ?_) | (refine is_cw ?_; first | (refine cw_seq ?_) | (refine cw_region ?_) | (refine cw_ret ?_)) | (refine is_qw ?_; first | (with_reducible refine qw_then ?_)) | (refine lw_nil ?_) | (refine is_guarded ?_; first | (refine lw_on rfl rfl (by first | assumption | exact decide_eq_true (by omega) | exact decide_eq_false (by omega) | exact dec_notT (by omega) | exact dec_notF (by omega)) ?_) | (refine lw_not rfl rfl rfl (by first | assumption | exact decide_eq_true (by omega) | exact decide_eq_false (by omega) | exact dec_notT (by omega) | exact dec_notF (by omega)) ?_) | (refine lw_gs_t rfl rfl rfl (fun hc => ?_) (fun hc => ?_) <;> (first | replace hc := of_decide_eq_true hc | replace hc := of_decide_eq_false hc | replace hc := dec_nT hc | replace hc := dec_nF hc | skip) <;> (try (exfalso; omega)))) | ((refine is_bin ?_; first | (refine lw_pure rfl (pv_leq rfl rfl) ?_) | (refine lw_pure rfl (pv_geq rfl rfl) ?_))) | (refine is_pk ?_; refine lw_pure rfl (pv_pick_t rfl (by first | assumption | exact decide_eq_true (by omega) | exact dec_notT (by omega)) rfl) ?_) | (refine is_pk ?_; refine lw_pure rfl (pv_pick_f rfl (by first | assumption | exact decide_eq_false (by omega) | exact dec_notF (by omega)) rfl) ?_))
  all_goals (refine qw_ret1 rfl rfl ⟨ret_bool ?_, hw⟩; unfold btw; first | (rw [decide_eq_decide]; omega) | (symm; rw [decide_eq_true_eq]; omega) | (symm; rw [decide_eq_false_iff_not]; omega))

theorem insP_end {o : Opn} : ∀ {l : List Opn}, (∀ x ∈ l, ¬ keyO o x) → insP l o = l ++ [o]
  | [], _ => rfl
  | x :: r, h => by unfold insP; rw [if_neg (h x (by simp)), insP_end (fun y hy => h y (List.mem_cons_of_mem _ hy))]; rfl
theorem insP_here {o y : Opn} (hk : keyO o y) : ∀ {l : List Opn}, (∀ x ∈ l, ¬ keyO o x) → insP (l ++ [y]) o = l ++ [o] ++ [y]
  | [], _ => by simp [insP, hk]
  | x :: r, h => by
    rw [List.cons_append]; unfold insP
    rw [if_neg (h x (by simp)), insP_here hk (fun y hy => h y (List.mem_cons_of_mem _ hy))]; rfl
theorem insP_past {o y : Opn} : ∀ {l : List Opn}, (∃ x ∈ l, keyO o x) → insP (l ++ [y]) o = insP l o ++ [y]
  | [], h => by obtain ⟨x, hx, _⟩ := h; cases hx
  | x :: r, h => by
    rw [List.cons_append]; unfold insP
    by_cases hk : keyO o x
    · rw [if_pos hk, if_pos hk]; rfl
    · rw [if_neg hk, if_neg hk]
      obtain ⟨z, hz, hkz⟩ := h
      rcases List.mem_cons.1 hz with rfl | hz
      · exact absurd hkz hk
      · rw [insP_past ⟨z, hz, hkz⟩]; rfl
theorem insT_end {o : Lt} : ∀ {l : List Lt}, (∀ x ∈ l, ¬ keyT o x) → insT l o = l ++ [o]
  | [], _ => rfl
  | x :: r, h => by unfold insT; rw [if_neg (h x (by simp)), insT_end (fun y hy => h y (List.mem_cons_of_mem _ hy))]; rfl
theorem insT_here {o y : Lt} (hk : keyT o y) : ∀ {l : List Lt}, (∀ x ∈ l, ¬ keyT o x) → insT (l ++ [y]) o = l ++ [o] ++ [y]
  | [], _ => by simp [insT, hk]
  | x :: r, h => by
    rw [List.cons_append]; unfold insT
    rw [if_neg (h x (by simp)), insT_here hk (fun y hy => h y (List.mem_cons_of_mem _ hy))]; rfl
theorem insT_past {o y : Lt} : ∀ {l : List Lt}, (∃ x ∈ l, keyT o x) → insT (l ++ [y]) o = insT l o ++ [y]
  | [], h => by obtain ⟨x, hx, _⟩ := h; cases hx
  | x :: r, h => by
    rw [List.cons_append]; unfold insT
    by_cases hk : keyT o x
    · rw [if_pos hk, if_pos hk]; rfl
    · rw [if_neg hk, if_neg hk]
      obtain ⟨z, hz, hkz⟩ := h
      rcases List.mem_cons.1 hz with rfl | hz
      · exact absurd hkz hk
      · rw [insT_past ⟨z, hz, hkz⟩]; rfl
theorem take_snoc {α : Type} {l : List α} {k : Nat} {x : α} (h : l[k]? = some x) : l.take (k + 1) = l.take k ++ [x] := by rw [List.take_add_one, h]; rfl
def putI (p : List Opn) (o : Opn) (k : Nat) (done : Bool) (L : List Opn) : Prop := (done = false ∧ L = p.take k ∧ ∀ x ∈ p.take k, ¬ keyO o x) ∨ (done = true ∧ L = insP (p.take k) o ∧ ∃ x ∈ p.take k, keyO o x)
theorem putI.len {p : List Opn} {o : Opn} {k : Nat} {d : Bool} {L : List Opn} (h : putI p o k d L) : L.length ≤ k + 1 := by
  have ht : (p.take k).length ≤ k := by rw [List.length_take]; omega
  rcases h with ⟨_, rfl, _⟩ | ⟨_, rfl, _⟩
  · omega
  · have := (insP_perm o (p.take k)).length_eq
    rw [this, List.length_append]; simp; omega
theorem putI.end_f {p : List Opn} {o : Opn} {L : List Opn} (h : putI p o p.length false L) : L ++ [o] = insP p o := by
  rcases h with ⟨_, rfl, h⟩ | ⟨h, _⟩
  · rw [List.take_length] at h ⊢; exact (insP_end h).symm
  · cases h
theorem putI.end_t {p : List Opn} {o : Opn} {L : List Opn} (h : putI p o p.length true L) : L = insP p o := by
  rcases h with ⟨h, _⟩ | ⟨_, rfl, _⟩
  · cases h
  · rw [List.take_length]
theorem putI.past {p : List Opn} {o x : Opn} {k : Nat} {L : List Opn} (h : putI p o k true L) (hx : p[k]? = some x) : putI p o (k + 1) true (L ++ [x]) := by
  rcases h with ⟨h, _⟩ | ⟨_, rfl, z, hz, hk⟩
  · cases h
  · exact Or.inr ⟨rfl, by rw [take_snoc hx, insP_past ⟨z, hz, hk⟩], z, by rw [take_snoc hx]; exact List.mem_append_left _ hz, hk⟩
theorem putI.here {p : List Opn} {o x : Opn} {k : Nat} {L : List Opn} (h : putI p o k false L) (hx : p[k]? = some x) (hk : keyO o x) : putI p o (k + 1) true (L ++ [o] ++ [x]) := by
  rcases h with ⟨_, rfl, h⟩ | ⟨h, _⟩
  · exact Or.inr ⟨rfl, by rw [take_snoc hx, insP_here hk h], x, by rw [take_snoc hx]; simp, hk⟩
  · cases h
theorem putI.yet {p : List Opn} {o x : Opn} {k : Nat} {L : List Opn} (h : putI p o k false L) (hx : p[k]? = some x) (hk : ¬ keyO o x) : putI p o (k + 1) false (L ++ [x]) := by
  rcases h with ⟨_, rfl, h⟩ | ⟨h, _⟩
  · refine Or.inl ⟨rfl, (take_snoc hx).symm, fun y hy => ?_⟩
    rw [take_snoc hx] at hy
    rcases List.mem_append.1 hy with hy | hy
    · exact h y hy
    · simp at hy; subst hy; exact hk
  · cases h
def putJ (p : List Lt) (o : Lt) (k : Nat) (done : Bool) (L : List Lt) : Prop := (done = false ∧ L = p.take k ∧ ∀ x ∈ p.take k, ¬ keyT o x) ∨ (done = true ∧ L = insT (p.take k) o ∧ ∃ x ∈ p.take k, keyT o x)
theorem putJ.len {p : List Lt} {o : Lt} {k : Nat} {d : Bool} {L : List Lt} (h : putJ p o k d L) : L.length ≤ k + 1 := by
  have ht : (p.take k).length ≤ k := by rw [List.length_take]; omega
  rcases h with ⟨_, rfl, _⟩ | ⟨_, rfl, _⟩
  · omega
  · have := (insT_perm o (p.take k)).length_eq
    rw [this, List.length_append]; simp; omega
theorem putJ.end_f {p : List Lt} {o : Lt} {L : List Lt} (h : putJ p o p.length false L) : L ++ [o] = insT p o := by
  rcases h with ⟨_, rfl, h⟩ | ⟨h, _⟩
  · rw [List.take_length] at h ⊢; exact (insT_end h).symm
  · cases h
theorem putJ.end_t {p : List Lt} {o : Lt} {L : List Lt} (h : putJ p o p.length true L) : L = insT p o := by
  rcases h with ⟨h, _⟩ | ⟨_, rfl, _⟩
  · cases h
  · rw [List.take_length]
theorem putJ.past {p : List Lt} {o x : Lt} {k : Nat} {L : List Lt} (h : putJ p o k true L) (hx : p[k]? = some x) : putJ p o (k + 1) true (L ++ [x]) := by
  rcases h with ⟨h, _⟩ | ⟨_, rfl, z, hz, hk⟩
  · cases h
  · exact Or.inr ⟨rfl, by rw [take_snoc hx, insT_past ⟨z, hz, hk⟩], z, by rw [take_snoc hx]; exact List.mem_append_left _ hz, hk⟩
theorem putJ.here {p : List Lt} {o x : Lt} {k : Nat} {L : List Lt} (h : putJ p o k false L) (hx : p[k]? = some x) (hk : keyT o x) : putJ p o (k + 1) true (L ++ [o] ++ [x]) := by
  rcases h with ⟨_, rfl, h⟩ | ⟨h, _⟩
  · exact Or.inr ⟨rfl, by rw [take_snoc hx, insT_here hk h], x, by rw [take_snoc hx]; simp, hk⟩
  · cases h
theorem putJ.yet {p : List Lt} {o x : Lt} {k : Nat} {L : List Lt} (h : putJ p o k false L) (hx : p[k]? = some x) (hk : ¬ keyT o x) : putJ p o (k + 1) false (L ++ [x]) := by
  rcases h with ⟨_, rfl, h⟩ | ⟨h, _⟩
  · refine Or.inl ⟨rfl, (take_snoc hx).symm, fun y hy => ?_⟩
    rw [take_snoc hx] at hy
    rcases List.mem_append.1 hy with hy | hy
    · exact h y hy
    · simp at hy; subst hy; exact hk
  · cases h
set_option maxRecDepth 20000 in
set_option maxHeartbeats 4000000 in
theorem put_c {p : List Opn} {m : Nat} {a : Option Addr} {ca : Nat} {w : World} (o : Opn) (hm : p.length = m) (HP : SlR encP 6 w a ca p) (hlp : p.length ≤ 1048576) : Calls Tryz.prog 62 #[.slice a m ca, .agg (encP o).toArray] w fun e w' => (∃ v, e = .returned v ∧ Own encP 6 49 w.heap.size w' v (insP p o)) ∧ Below w.heap.size w w' := by
  subst hm
  have hca := HP.le
  have hcm := HP.max
  refine fn_enter 64 Tryz.func62 rfl rfl rfl ?_
  have hw := Below.refl w.heap.size w
  repeat' (first | (refine is_cw ?_; first | (refine cw_seq ?_) | (refine cw_region ?_)))
  refine lw_boxN rfl rfl (cs := encP o) rfl ?_; intro N w1 hN HA hb
  have hE := Ext.mk (grow_trans hw hb)
  have hE0 := hb.size
  replace HP := HP.mono hb
  clear hb hw
  have hw := Below.refl w1.heap.size w1
  repeat' (first | (refine lw_pure rfl (pv_assign rfl) ?_) | (refine is_cw ?_; first | (refine cw_seq ?_) | (refine cw_region ?_) | (refine cw_block ?_)) | (refine is_qw ?_; first | (with_reducible refine qw_then ?_)) | (refine lw_nil ?_))
  refine cw_loop (σ := Nat × Value × Bool × List Opn) (fun s => [(0, .slice a p.length ca), (3, .pointer (some ⟨N, 0, none⟩)), (5, s.2.1), (6, .bool s.2.2.1), (7, .int .i64 (s.1 : Nat))]) (fun s wr => s.1 ≤ p.length ∧ Below w1.heap.size w1 wr ∧ Own encP 6 49 w1.heap.size wr s.2.1 s.2.2.2 ∧ putI p o s.1 s.2.2.1 s.2.2.2) (fun s => p.length - s.1) (0, .slice none 0 0, false, []) (by repeat' (first | exact trivial | refine ⟨rfl, ?_⟩)) ⟨Nat.zero_le _, hw, Own.nil _, Or.inl ⟨rfl, by simp, by simp⟩⟩ ?_
  clear hw
  rintro ⟨k, v, d, L⟩ wr ⟨hk, hw, hO, hI⟩
  dsimp only at hk hO hI
  change CW _ _ _ _ [(0, .slice a p.length ca), (3, .pointer (some ⟨N, 0, none⟩)), (5, v), (6, .bool d), (7, .int .i64 (k : Nat))] wr
  have hLl := hI.len
  by_cases hlt : k < p.length
  · have hxk : p[k]? = some p[k] := List.getElem?_eq_getElem hlt
    obtain ⟨ab, ao, rfl, -, -⟩ := HP.at (by intro h; rw [h] at hlt; simp at hlt)
    generalize p[k] = x at hxk
    cases d with
    | true =>
      repeat' (first | (refine lw_pure rfl (pv_move rfl) ?_) | (refine is_cw ?_; first | (refine cw_seq ?_) | (refine cw_region ?_) | (refine is_cd ?_; refine cw_true rfl (by first | assumption | exact decide_eq_true (by omega) | exact dec_notT (by omega)) ?_) | (refine cw_skip ?_) | (refine cw_block ?_)) | (refine is_qw ?_; first | (with_reducible refine qw_then ?_)) | (refine lw_nil ?_) | ((refine is_bin ?_; first | (refine lw_pure rfl (pv_lss rfl rfl) ?_))) | ((refine is_bi ?_; first | (refine lw_pure rfl (pv_lenl (tS rfl) rfl) ?_))))
      have hO1 := hO.mono (below_drew _)
      refine cw_drawn (fun w' => Below w1.heap.size w1 w') (by kernel_rfl) (by repeat (first | exact NoPanic.body | with_reducible refine NoPanic.then ?_ | with_reducible refine NoPanic.inBlock ?_)) (fun hNP => ?_)
      have hS := hw.drew
      all_goals (refine at0 0 rfl (fun w' hq => pv_move rfl) ?_)
      all_goals (refine at0 1 rfl (fun w' hq => pv_not rfl) ?_)
      all_goals (refine at0 2 rfl (fun w' hq => pv_move rfl) ?_)
      all_goals (refine an1 3 rfl rfl rfl rfl ?_)
      all_goals (refine an1 4 rfl rfl rfl rfl ?_)
      all_goals (refine an1 5 rfl rfl rfl rfl ?_)
      all_goals (refine an1 6 rfl rfl rfl rfl ?_)
      all_goals (refine an1 7 rfl rfl rfl rfl ?_)
      all_goals (refine an1 8 rfl rfl rfl rfl ?_)
      all_goals (refine an1 9 rfl rfl rfl rfl ?_)
      all_goals (refine an1 10 rfl rfl rfl rfl ?_)
      all_goals (refine an1 11 rfl rfl rfl rfl ?_)
      all_goals (refine an0 12 rfl rfl rfl ?_)
      all_goals (refine an0 13 rfl rfl rfl ?_)
      all_goals (refine an0 14 rfl rfl rfl ?_)
      all_goals (refine an0 15 rfl rfl rfl ?_)
      all_goals (refine an0 16 rfl rfl rfl ?_)
      all_goals (refine an0 17 rfl rfl rfl ?_)
      all_goals (refine an0 18 rfl rfl rfl ?_)
      all_goals (refine an0 19 rfl rfl rfl ?_)
      all_goals (refine an0 20 rfl rfl rfl ?_)
      all_goals (refine an0 21 rfl rfl rfl ?_)
      all_goals (refine an0 22 rfl rfl rfl ?_)
      all_goals (refine an0 23 rfl rfl rfl ?_)
      all_goals (refine an0 24 rfl rfl rfl ?_)
      all_goals (refine an0 25 rfl rfl rfl ?_)
      all_goals (refine an0 26 rfl rfl rfl ?_)
      all_goals (refine an0 27 rfl rfl rfl ?_)
      all_goals (refine an0 28 rfl rfl rfl ?_)
      all_goals (refine an0 29 rfl rfl rfl ?_)
      all_goals (refine an1 30 rfl rfl rfl rfl ?_)
      all_goals (refine at0 31 rfl (fun w' hq => pv_pick_f rfl rfl rfl) ?_)
      all_goals (refine aw_done (by kernel_rfl) ?_; replace hw := hS; clear hS hNP)
      repeat' (first | (refine lw_pure rfl (pv_move rfl) ?_) | (refine is_cw ?_; first | (refine cw_region ?_) | (refine cw_false rfl rfl ?_) | (refine cw_skip ?_)) | (refine is_qw ?_; first | (with_reducible refine qw_then ?_)) | ((refine is_load ?_; first | (refine lw_pure rfl (pv_loada (tA rfl) rfl (by first | exact SlR.lda (HP.mono hw) hxk | exact PT.lda (HA.mono hw)) (by rfl)) ?_))) | ((refine is_ia ?_; first | (refine lw_pure rfl (pv_ian (tS rfl) rfl rfl (by omega)) ?_))))
      refine lw_bs (vs := [.agg (encP x).toArray]) (cs := encP x) elemP rfl rfl rfl (by omega) (by omega) rfl (by simp [Value.cells, encP]) ?_; intro wb HB hb hz9
      refine lw_app elemP encP_len encP_one rfl rfl rfl ((hO1).mono hb) (HB.slR (xs := [x]) encP_len rfl (by omega)) rfl (Nat.le_trans hw.size hb.size) (by simp; omega) (by simp [maxLen]; omega) ?_; intro v2 wc hO2 hg9 hb9
      replace hw := (grow_trans hw hb).trans hb9; clear hb hb9 hz9 HB hg9
      repeat' (first | (refine lw_pure rfl (pv_move rfl) ?_) | (refine lw_pure rfl (pv_assign rfl) ?_) | (refine is_cw ?_; first | (refine cw_region ?_)) | (refine is_qw ?_; first | (with_reducible refine qw_then ?_) | (with_reducible refine qw_in ?_)) | (refine lw_nil ?_) | ((refine is_bin ?_; first | (refine lw_pure rfl (pv_inc rfl rfl (by omega)) ?_))))
      exact qw_round (k + 1, v2, true, L ++ [x]) (by repeat' (first | exact trivial | refine ⟨rfl, ?_⟩)) ⟨by show k + 1 ≤ _; omega, hw, hO2, hI.past hxk⟩ (by show p.length - (k + 1) < p.length - k; omega)
    | false =>
      by_cases hkey : keyO o x
      · have hk2 : o.acct < x.acct ∨ (o.acct = x.acct ∧ o.id < x.id) := hkey
        by_cases c1 : o.acct < x.acct
        · repeat' (first | (refine lw_pure rfl (pv_move rfl) ?_) | (refine is_cw ?_; first | (refine cw_seq ?_) | (refine cw_region ?_) | (refine is_cd ?_; refine cw_true rfl (by first | assumption | exact decide_eq_true (by omega) | exact dec_notT (by omega)) ?_) | (refine cw_skip ?_) | (refine cw_block ?_)) | (refine is_qw ?_; first | (with_reducible refine qw_then ?_)) | (refine lw_nil ?_) | ((refine is_bin ?_; first | (refine lw_pure rfl (pv_lss rfl rfl) ?_))) | ((refine is_bi ?_; first | (refine lw_pure rfl (pv_lenl (tS rfl) rfl) ?_))))
          have hO1 := hO.mono (below_drew _)
          refine cw_drawn (fun w' => Below w1.heap.size w1 w') (by kernel_rfl) (by repeat (first | exact NoPanic.body | with_reducible refine NoPanic.then ?_ | with_reducible refine NoPanic.inBlock ?_)) (fun hNP => ?_)
          have hS := hw.drew
          all_goals (refine at0 0 rfl (fun w' hq => pv_move rfl) ?_)
          all_goals (refine at0 1 rfl (fun w' hq => pv_not rfl) ?_)
          all_goals (refine at0 2 rfl (fun w' hq => pv_move rfl) ?_)
          all_goals (refine at1 3 rfl rfl rfl rfl (fun w' hq => pv_move rfl) ?_)
          all_goals (refine at1 4 rfl rfl rfl rfl (fun w' hq => pv_move rfl) ?_)
          all_goals (refine at1 5 rfl rfl rfl rfl (fun w' hq => pv_ian (tS rfl) rfl rfl (by omega)) ?_)
          all_goals (refine at1 6 rfl rfl rfl rfl (fun w' hq => pv_fa (tF rfl) rfl) ?_)
          all_goals (refine at1 7 rfl rfl rfl rfl (fun w' hq => pv_load (t1 rfl) rfl (by first | exact SlR.ld (HP.mono hq) hxk rfl | exact SlR.ld1 (HP.mono hq) hxk rfl | exact PT.ld0 (HA.mono hq) rfl | exact PT.ld (HA.mono hq) rfl)) ?_)
          all_goals (refine at1 8 rfl rfl rfl rfl (fun w' hq => pv_fa (tF rfl) rfl) ?_)
          all_goals (refine at1 9 rfl rfl rfl rfl (fun w' hq => pv_load (t1 rfl) rfl (by first | exact SlR.ld (HP.mono hq) hxk rfl | exact SlR.ld1 (HP.mono hq) hxk rfl | exact PT.ld0 (HA.mono hq) rfl | exact PT.ld (HA.mono hq) rfl)) ?_)
          all_goals (refine at1 10 rfl rfl rfl rfl (fun w' hq => pv_gtr rfl rfl) ?_)
          all_goals (refine at1 11 rfl rfl rfl rfl (fun w' hq => pv_move rfl) ?_)
          all_goals (refine an2 12 rfl rfl rfl ?_)
          all_goals (refine an2 13 rfl rfl rfl ?_)
          all_goals (refine an2 14 rfl rfl rfl ?_)
          all_goals (refine an2 15 rfl rfl rfl ?_)
          all_goals (refine an2 16 rfl rfl rfl ?_)
          all_goals (refine an2 17 rfl rfl rfl ?_)
          all_goals (refine an2 18 rfl rfl rfl ?_)
          all_goals (refine an2 19 rfl rfl rfl ?_)
          all_goals (refine an2 20 rfl rfl rfl ?_)
          all_goals (refine an0 21 rfl rfl rfl ?_)
          all_goals (refine an0 22 rfl rfl rfl ?_)
          all_goals (refine an0 23 rfl rfl rfl ?_)
          all_goals (refine an0 24 rfl rfl rfl ?_)
          all_goals (refine an0 25 rfl rfl rfl ?_)
          all_goals (refine an0 26 rfl rfl rfl ?_)
          all_goals (refine an0 27 rfl rfl rfl ?_)
          all_goals (refine an0 28 rfl rfl rfl ?_)
          all_goals (refine an2 29 rfl rfl rfl ?_)
          all_goals (refine at1 30 rfl rfl rfl rfl (fun w' hq => pv_pick_t rfl (by first | assumption | exact decide_eq_true (by omega) | exact dec_notT (by omega)) rfl) ?_)
          all_goals (refine at0 31 rfl (fun w' hq => pv_pick_t rfl rfl rfl) ?_)
          all_goals (refine aw_done (by kernel_rfl) ?_; replace hw := hS; clear hS hNP)
          repeat' (first | (refine lw_pure rfl (pv_move rfl) ?_) | (refine is_cw ?_; first | (refine cw_seq ?_) | (refine cw_region ?_) | (refine cw_true rfl rfl ?_)) | (refine is_qw ?_; first | (with_reducible refine qw_then ?_)) | ((refine is_load ?_; first | (refine lw_pure rfl (pv_loada (tA rfl) rfl (by first | exact SlR.lda (HP.mono hw) hxk | exact PT.lda (HA.mono hw)) (by rfl)) ?_))))
          refine lw_bs (vs := [.agg (encP o).toArray]) (cs := encP o) elemP rfl rfl rfl (by omega) (by omega) rfl (by simp [Value.cells, encP]) ?_; intro wb HB hb hz9
          refine lw_app elemP encP_len encP_one rfl rfl rfl ((hO1).mono hb) (HB.slR (xs := [o]) encP_len rfl (by omega)) rfl (Nat.le_trans hw.size hb.size) (by simp; omega) (by simp [maxLen]; omega) ?_; intro v2 wc hO2 hg9 hb9
          replace hw := (grow_trans hw hb).trans hb9; clear hb hb9 hz9 HB hg9
          repeat' (first | (refine lw_pure rfl (pv_move rfl) ?_) | (refine lw_pure rfl (pv_assign rfl) ?_) | (refine is_cw ?_; first | (refine cw_region ?_)) | (refine is_qw ?_; first | (with_reducible refine qw_then ?_)) | (refine lw_nil ?_) | ((refine is_load ?_; first | (refine lw_pure rfl (pv_loada (tA rfl) rfl (by first | exact SlR.lda (HP.mono hw) hxk | exact PT.lda (HA.mono hw)) (by rfl)) ?_))) | ((refine is_ia ?_; first | (refine lw_pure rfl (pv_ian (tS rfl) rfl rfl (by omega)) ?_))))
          refine lw_bs (vs := [.agg (encP x).toArray]) (cs := encP x) elemP rfl rfl rfl (by omega) (by omega) rfl (by simp [Value.cells, encP]) ?_; intro wb HB hb hz9
          refine lw_app elemP encP_len encP_one rfl rfl rfl ((hO2).mono hb) (HB.slR (xs := [x]) encP_len rfl (by omega)) rfl (Nat.le_trans hw.size hb.size) (by simp; omega) (by simp [maxLen]; omega) ?_; intro v3 wc hO3 hg9 hb9
          replace hw := (grow_trans hw hb).trans hb9; clear hb hb9 hz9 HB hg9
          repeat' (first | (refine lw_pure rfl (pv_move rfl) ?_) | (refine lw_pure rfl (pv_assign rfl) ?_) | (refine is_cw ?_; first | (refine cw_region ?_)) | (refine is_qw ?_; first | (with_reducible refine qw_then ?_) | (with_reducible refine qw_in ?_)) | (refine lw_nil ?_) | ((refine is_bin ?_; first | (refine lw_pure rfl (pv_inc rfl rfl (by omega)) ?_))))
          exact qw_round (k + 1, v3, true, L ++ [o] ++ [x]) (by repeat' (first | exact trivial | refine ⟨rfl, ?_⟩)) ⟨by show k + 1 ≤ _; omega, hw, hO3, hI.here hxk hkey⟩ (by show p.length - (k + 1) < p.length - k; omega)
        · have c2 : x.acct = o.acct := by omega
          have c3 : o.id < x.id := by omega
          clear hk2
          repeat' (first | (refine lw_pure rfl (pv_move rfl) ?_) | (refine is_cw ?_; first | (refine cw_seq ?_) | (refine cw_region ?_) | (refine is_cd ?_; refine cw_true rfl (by first | assumption | exact decide_eq_true (by omega) | exact dec_notT (by omega)) ?_) | (refine cw_skip ?_) | (refine cw_block ?_)) | (refine is_qw ?_; first | (with_reducible refine qw_then ?_)) | (refine lw_nil ?_) | ((refine is_bin ?_; first | (refine lw_pure rfl (pv_lss rfl rfl) ?_))) | ((refine is_bi ?_; first | (refine lw_pure rfl (pv_lenl (tS rfl) rfl) ?_))))
          have hO1 := hO.mono (below_drew _)
          refine cw_drawn (fun w' => Below w1.heap.size w1 w') (by kernel_rfl) (by repeat (first | exact NoPanic.body | with_reducible refine NoPanic.then ?_ | with_reducible refine NoPanic.inBlock ?_)) (fun hNP => ?_)
          have hS := hw.drew
          all_goals (refine at0 0 rfl (fun w' hq => pv_move rfl) ?_)
          all_goals (refine at0 1 rfl (fun w' hq => pv_not rfl) ?_)
          all_goals (refine at0 2 rfl (fun w' hq => pv_move rfl) ?_)
          all_goals (refine at1 3 rfl rfl rfl rfl (fun w' hq => pv_move rfl) ?_)
          all_goals (refine at1 4 rfl rfl rfl rfl (fun w' hq => pv_move rfl) ?_)
          all_goals (refine at1 5 rfl rfl rfl rfl (fun w' hq => pv_ian (tS rfl) rfl rfl (by omega)) ?_)
          all_goals (refine at1 6 rfl rfl rfl rfl (fun w' hq => pv_fa (tF rfl) rfl) ?_)
          all_goals (refine at1 7 rfl rfl rfl rfl (fun w' hq => pv_load (t1 rfl) rfl (by first | exact SlR.ld (HP.mono hq) hxk rfl | exact SlR.ld1 (HP.mono hq) hxk rfl | exact PT.ld0 (HA.mono hq) rfl | exact PT.ld (HA.mono hq) rfl)) ?_)
          all_goals (refine at1 8 rfl rfl rfl rfl (fun w' hq => pv_fa (tF rfl) rfl) ?_)
          all_goals (refine at1 9 rfl rfl rfl rfl (fun w' hq => pv_load (t1 rfl) rfl (by first | exact SlR.ld (HP.mono hq) hxk rfl | exact SlR.ld1 (HP.mono hq) hxk rfl | exact PT.ld0 (HA.mono hq) rfl | exact PT.ld (HA.mono hq) rfl)) ?_)
          all_goals (refine at1 10 rfl rfl rfl rfl (fun w' hq => pv_gtr rfl rfl) ?_)
          all_goals (refine at1 11 rfl rfl rfl rfl (fun w' hq => pv_move rfl) ?_)
          all_goals (refine at2 12 rfl rfl rfl (fun w' hq => pv_move rfl) ?_)
          all_goals (refine at2 13 rfl rfl rfl (fun w' hq => pv_move rfl) ?_)
          all_goals (refine at2 14 rfl rfl rfl (fun w' hq => pv_ian (tS rfl) rfl rfl (by omega)) ?_)
          all_goals (refine at2 15 rfl rfl rfl (fun w' hq => pv_fa (tF rfl) rfl) ?_)
          all_goals (refine at2 16 rfl rfl rfl (fun w' hq => pv_load (t1 rfl) rfl (by first | exact SlR.ld (HP.mono hq) hxk rfl | exact SlR.ld1 (HP.mono hq) hxk rfl | exact PT.ld0 (HA.mono hq) rfl | exact PT.ld (HA.mono hq) rfl)) ?_)
          all_goals (refine at2 17 rfl rfl rfl (fun w' hq => pv_fa (tF rfl) rfl) ?_)
          all_goals (refine at2 18 rfl rfl rfl (fun w' hq => pv_load (t1 rfl) rfl (by first | exact SlR.ld (HP.mono hq) hxk rfl | exact SlR.ld1 (HP.mono hq) hxk rfl | exact PT.ld0 (HA.mono hq) rfl | exact PT.ld (HA.mono hq) rfl)) ?_)
          all_goals (refine at2 19 rfl rfl rfl (fun w' hq => pv_eql rfl rfl) ?_)
          all_goals (refine at2 20 rfl rfl rfl (fun w' hq => pv_move rfl) ?_)
          all_goals (refine at2 21 rfl rfl rfl (fun w' hq => pv_move rfl) ?_)
          all_goals (refine at2 22 rfl rfl rfl (fun w' hq => pv_move rfl) ?_)
          all_goals (refine at2 23 rfl rfl rfl (fun w' hq => pv_ian (tS rfl) rfl rfl (by omega)) ?_)
          all_goals (refine at2 24 rfl rfl rfl (fun w' hq => pv_fa (tF rfl) rfl) ?_)
          all_goals (refine at2 25 rfl rfl rfl (fun w' hq => pv_load (t1 rfl) rfl (by first | exact SlR.ld (HP.mono hq) hxk rfl | exact SlR.ld1 (HP.mono hq) hxk rfl | exact PT.ld0 (HA.mono hq) rfl | exact PT.ld (HA.mono hq) rfl)) ?_)
          all_goals (refine at2 26 rfl rfl rfl (fun w' hq => pv_fa (tF rfl) rfl) ?_)
          all_goals (refine at2 27 rfl rfl rfl (fun w' hq => pv_load (t1 rfl) rfl (by first | exact SlR.ld (HP.mono hq) hxk rfl | exact SlR.ld1 (HP.mono hq) hxk rfl | exact PT.ld0 (HA.mono hq) rfl | exact PT.ld (HA.mono hq) rfl)) ?_)
          all_goals (refine at2 28 rfl rfl rfl (fun w' hq => pv_gtr rfl rfl) ?_)
          all_goals (refine at2 29 rfl rfl rfl (fun w' hq => pv_pick_t rfl (by first | assumption | exact decide_eq_true (by omega) | exact dec_notT (by omega)) rfl) ?_)
          all_goals (refine at1 30 rfl rfl rfl rfl (fun w' hq => pv_pick_f rfl (by first | assumption | exact decide_eq_false (by omega) | exact dec_notF (by omega)) rfl) ?_)
          all_goals (refine at0 31 rfl (fun w' hq => pv_pick_t rfl rfl rfl) ?_)
          all_goals (refine aw_done (by kernel_rfl) ?_; replace hw := hS; clear hS hNP)
          repeat' (first | (refine lw_pure rfl (pv_move rfl) ?_) | (refine is_cw ?_; first | (refine cw_seq ?_) | (refine cw_region ?_) | (refine is_cd ?_; refine cw_true rfl (by first | assumption | exact decide_eq_true (by omega) | exact dec_notT (by omega)) ?_)) | (refine is_qw ?_; first | (with_reducible refine qw_then ?_)) | ((refine is_load ?_; first | (refine lw_pure rfl (pv_loada (tA rfl) rfl (by first | exact SlR.lda (HP.mono hw) hxk | exact PT.lda (HA.mono hw)) (by rfl)) ?_))))
          refine lw_bs (vs := [.agg (encP o).toArray]) (cs := encP o) elemP rfl rfl rfl (by omega) (by omega) rfl (by simp [Value.cells, encP]) ?_; intro wb HB hb hz9
          refine lw_app elemP encP_len encP_one rfl rfl rfl ((hO1).mono hb) (HB.slR (xs := [o]) encP_len rfl (by omega)) rfl (Nat.le_trans hw.size hb.size) (by simp; omega) (by simp [maxLen]; omega) ?_; intro v2 wc hO2 hg9 hb9
          replace hw := (grow_trans hw hb).trans hb9; clear hb hb9 hz9 HB hg9
          repeat' (first | (refine lw_pure rfl (pv_move rfl) ?_) | (refine lw_pure rfl (pv_assign rfl) ?_) | (refine is_cw ?_; first | (refine cw_region ?_)) | (refine is_qw ?_; first | (with_reducible refine qw_then ?_)) | (refine lw_nil ?_) | ((refine is_load ?_; first | (refine lw_pure rfl (pv_loada (tA rfl) rfl (by first | exact SlR.lda (HP.mono hw) hxk | exact PT.lda (HA.mono hw)) (by rfl)) ?_))) | ((refine is_ia ?_; first | (refine lw_pure rfl (pv_ian (tS rfl) rfl rfl (by omega)) ?_))))
          refine lw_bs (vs := [.agg (encP x).toArray]) (cs := encP x) elemP rfl rfl rfl (by omega) (by omega) rfl (by simp [Value.cells, encP]) ?_; intro wb HB hb hz9
          refine lw_app elemP encP_len encP_one rfl rfl rfl ((hO2).mono hb) (HB.slR (xs := [x]) encP_len rfl (by omega)) rfl (Nat.le_trans hw.size hb.size) (by simp; omega) (by simp [maxLen]; omega) ?_; intro v3 wc hO3 hg9 hb9
          replace hw := (grow_trans hw hb).trans hb9; clear hb hb9 hz9 HB hg9
          repeat' (first | (refine lw_pure rfl (pv_move rfl) ?_) | (refine lw_pure rfl (pv_assign rfl) ?_) | (refine is_cw ?_; first | (refine cw_region ?_)) | (refine is_qw ?_; first | (with_reducible refine qw_then ?_) | (with_reducible refine qw_in ?_)) | (refine lw_nil ?_) | ((refine is_bin ?_; first | (refine lw_pure rfl (pv_inc rfl rfl (by omega)) ?_))))
          exact qw_round (k + 1, v3, true, L ++ [o] ++ [x]) (by repeat' (first | exact trivial | refine ⟨rfl, ?_⟩)) ⟨by show k + 1 ≤ _; omega, hw, hO3, hI.here hxk hkey⟩ (by show p.length - (k + 1) < p.length - k; omega)
      · have hk2 : ¬ (o.acct < x.acct ∨ (o.acct = x.acct ∧ o.id < x.id)) := hkey
        have c1 : ¬ o.acct < x.acct := by omega
        by_cases c2 : x.acct = o.acct
        · have c3 : ¬ o.id < x.id := by omega
          clear hk2
          repeat' (first | (refine lw_pure rfl (pv_move rfl) ?_) | (refine is_cw ?_; first | (refine cw_seq ?_) | (refine cw_region ?_) | (refine is_cd ?_; refine cw_true rfl (by first | assumption | exact decide_eq_true (by omega) | exact dec_notT (by omega)) ?_) | (refine cw_skip ?_) | (refine cw_block ?_)) | (refine is_qw ?_; first | (with_reducible refine qw_then ?_)) | (refine lw_nil ?_) | ((refine is_bin ?_; first | (refine lw_pure rfl (pv_lss rfl rfl) ?_))) | ((refine is_bi ?_; first | (refine lw_pure rfl (pv_lenl (tS rfl) rfl) ?_))))
          have hO1 := hO.mono (below_drew _)
          refine cw_drawn (fun w' => Below w1.heap.size w1 w') (by kernel_rfl) (by repeat (first | exact NoPanic.body | with_reducible refine NoPanic.then ?_ | with_reducible refine NoPanic.inBlock ?_)) (fun hNP => ?_)
          have hS := hw.drew
          all_goals (refine at0 0 rfl (fun w' hq => pv_move rfl) ?_)
          all_goals (refine at0 1 rfl (fun w' hq => pv_not rfl) ?_)
          all_goals (refine at0 2 rfl (fun w' hq => pv_move rfl) ?_)
          all_goals (refine at1 3 rfl rfl rfl rfl (fun w' hq => pv_move rfl) ?_)
          all_goals (refine at1 4 rfl rfl rfl rfl (fun w' hq => pv_move rfl) ?_)
          all_goals (refine at1 5 rfl rfl rfl rfl (fun w' hq => pv_ian (tS rfl) rfl rfl (by omega)) ?_)
          all_goals (refine at1 6 rfl rfl rfl rfl (fun w' hq => pv_fa (tF rfl) rfl) ?_)
          all_goals (refine at1 7 rfl rfl rfl rfl (fun w' hq => pv_load (t1 rfl) rfl (by first | exact SlR.ld (HP.mono hq) hxk rfl | exact SlR.ld1 (HP.mono hq) hxk rfl | exact PT.ld0 (HA.mono hq) rfl | exact PT.ld (HA.mono hq) rfl)) ?_)
          all_goals (refine at1 8 rfl rfl rfl rfl (fun w' hq => pv_fa (tF rfl) rfl) ?_)
          all_goals (refine at1 9 rfl rfl rfl rfl (fun w' hq => pv_load (t1 rfl) rfl (by first | exact SlR.ld (HP.mono hq) hxk rfl | exact SlR.ld1 (HP.mono hq) hxk rfl | exact PT.ld0 (HA.mono hq) rfl | exact PT.ld (HA.mono hq) rfl)) ?_)
          all_goals (refine at1 10 rfl rfl rfl rfl (fun w' hq => pv_gtr rfl rfl) ?_)
          all_goals (refine at1 11 rfl rfl rfl rfl (fun w' hq => pv_move rfl) ?_)
          all_goals (refine at2 12 rfl rfl rfl (fun w' hq => pv_move rfl) ?_)
          all_goals (refine at2 13 rfl rfl rfl (fun w' hq => pv_move rfl) ?_)
          all_goals (refine at2 14 rfl rfl rfl (fun w' hq => pv_ian (tS rfl) rfl rfl (by omega)) ?_)
          all_goals (refine at2 15 rfl rfl rfl (fun w' hq => pv_fa (tF rfl) rfl) ?_)
          all_goals (refine at2 16 rfl rfl rfl (fun w' hq => pv_load (t1 rfl) rfl (by first | exact SlR.ld (HP.mono hq) hxk rfl | exact SlR.ld1 (HP.mono hq) hxk rfl | exact PT.ld0 (HA.mono hq) rfl | exact PT.ld (HA.mono hq) rfl)) ?_)
          all_goals (refine at2 17 rfl rfl rfl (fun w' hq => pv_fa (tF rfl) rfl) ?_)
          all_goals (refine at2 18 rfl rfl rfl (fun w' hq => pv_load (t1 rfl) rfl (by first | exact SlR.ld (HP.mono hq) hxk rfl | exact SlR.ld1 (HP.mono hq) hxk rfl | exact PT.ld0 (HA.mono hq) rfl | exact PT.ld (HA.mono hq) rfl)) ?_)
          all_goals (refine at2 19 rfl rfl rfl (fun w' hq => pv_eql rfl rfl) ?_)
          all_goals (refine at2 20 rfl rfl rfl (fun w' hq => pv_move rfl) ?_)
          all_goals (refine at2 21 rfl rfl rfl (fun w' hq => pv_move rfl) ?_)
          all_goals (refine at2 22 rfl rfl rfl (fun w' hq => pv_move rfl) ?_)
          all_goals (refine at2 23 rfl rfl rfl (fun w' hq => pv_ian (tS rfl) rfl rfl (by omega)) ?_)
          all_goals (refine at2 24 rfl rfl rfl (fun w' hq => pv_fa (tF rfl) rfl) ?_)
          all_goals (refine at2 25 rfl rfl rfl (fun w' hq => pv_load (t1 rfl) rfl (by first | exact SlR.ld (HP.mono hq) hxk rfl | exact SlR.ld1 (HP.mono hq) hxk rfl | exact PT.ld0 (HA.mono hq) rfl | exact PT.ld (HA.mono hq) rfl)) ?_)
          all_goals (refine at2 26 rfl rfl rfl (fun w' hq => pv_fa (tF rfl) rfl) ?_)
          all_goals (refine at2 27 rfl rfl rfl (fun w' hq => pv_load (t1 rfl) rfl (by first | exact SlR.ld (HP.mono hq) hxk rfl | exact SlR.ld1 (HP.mono hq) hxk rfl | exact PT.ld0 (HA.mono hq) rfl | exact PT.ld (HA.mono hq) rfl)) ?_)
          all_goals (refine at2 28 rfl rfl rfl (fun w' hq => pv_gtr rfl rfl) ?_)
          all_goals (refine at2 29 rfl rfl rfl (fun w' hq => pv_pick_t rfl (by first | assumption | exact decide_eq_true (by omega) | exact dec_notT (by omega)) rfl) ?_)
          all_goals (refine at1 30 rfl rfl rfl rfl (fun w' hq => pv_pick_f rfl (by first | assumption | exact decide_eq_false (by omega) | exact dec_notF (by omega)) rfl) ?_)
          all_goals (refine at0 31 rfl (fun w' hq => pv_pick_t rfl rfl rfl) ?_)
          all_goals (refine aw_done (by kernel_rfl) ?_; replace hw := hS; clear hS hNP)
          repeat' (first | (refine lw_pure rfl (pv_move rfl) ?_) | (refine is_cw ?_; first | (refine cw_region ?_) | (refine is_cd ?_; refine cw_false rfl (by first | assumption | exact decide_eq_false (by omega) | exact dec_notF (by omega)) ?_) | (refine cw_skip ?_)) | (refine is_qw ?_; first | (with_reducible refine qw_then ?_)) | ((refine is_load ?_; first | (refine lw_pure rfl (pv_loada (tA rfl) rfl (by first | exact SlR.lda (HP.mono hw) hxk | exact PT.lda (HA.mono hw)) (by rfl)) ?_))) | ((refine is_ia ?_; first | (refine lw_pure rfl (pv_ian (tS rfl) rfl rfl (by omega)) ?_))))
          refine lw_bs (vs := [.agg (encP x).toArray]) (cs := encP x) elemP rfl rfl rfl (by omega) (by omega) rfl (by simp [Value.cells, encP]) ?_; intro wb HB hb hz9
          refine lw_app elemP encP_len encP_one rfl rfl rfl ((hO1).mono hb) (HB.slR (xs := [x]) encP_len rfl (by omega)) rfl (Nat.le_trans hw.size hb.size) (by simp; omega) (by simp [maxLen]; omega) ?_; intro v2 wc hO2 hg9 hb9
          replace hw := (grow_trans hw hb).trans hb9; clear hb hb9 hz9 HB hg9
          repeat' (first | (refine lw_pure rfl (pv_move rfl) ?_) | (refine lw_pure rfl (pv_assign rfl) ?_) | (refine is_cw ?_; first | (refine cw_region ?_)) | (refine is_qw ?_; first | (with_reducible refine qw_then ?_) | (with_reducible refine qw_in ?_)) | (refine lw_nil ?_) | ((refine is_bin ?_; first | (refine lw_pure rfl (pv_inc rfl rfl (by omega)) ?_))))
          exact qw_round (k + 1, v2, false, L ++ [x]) (by repeat' (first | exact trivial | refine ⟨rfl, ?_⟩)) ⟨by show k + 1 ≤ _; omega, hw, hO2, hI.yet hxk hkey⟩ (by show p.length - (k + 1) < p.length - k; omega)
        · clear hk2
          repeat' (first | (refine lw_pure rfl (pv_move rfl) ?_) | (refine is_cw ?_; first | (refine cw_seq ?_) | (refine cw_region ?_) | (refine is_cd ?_; refine cw_true rfl (by first | assumption | exact decide_eq_true (by omega) | exact dec_notT (by omega)) ?_) | (refine cw_skip ?_) | (refine cw_block ?_)) | (refine is_qw ?_; first | (with_reducible refine qw_then ?_)) | (refine lw_nil ?_) | ((refine is_bin ?_; first | (refine lw_pure rfl (pv_lss rfl rfl) ?_))) | ((refine is_bi ?_; first | (refine lw_pure rfl (pv_lenl (tS rfl) rfl) ?_))))
          have hO1 := hO.mono (below_drew _)
          refine cw_drawn (fun w' => Below w1.heap.size w1 w') (by kernel_rfl) (by repeat (first | exact NoPanic.body | with_reducible refine NoPanic.then ?_ | with_reducible refine NoPanic.inBlock ?_)) (fun hNP => ?_)
          have hS := hw.drew
          all_goals (refine at0 0 rfl (fun w' hq => pv_move rfl) ?_)
          all_goals (refine at0 1 rfl (fun w' hq => pv_not rfl) ?_)
          all_goals (refine at0 2 rfl (fun w' hq => pv_move rfl) ?_)
          all_goals (refine at1 3 rfl rfl rfl rfl (fun w' hq => pv_move rfl) ?_)
          all_goals (refine at1 4 rfl rfl rfl rfl (fun w' hq => pv_move rfl) ?_)
          all_goals (refine at1 5 rfl rfl rfl rfl (fun w' hq => pv_ian (tS rfl) rfl rfl (by omega)) ?_)
          all_goals (refine at1 6 rfl rfl rfl rfl (fun w' hq => pv_fa (tF rfl) rfl) ?_)
          all_goals (refine at1 7 rfl rfl rfl rfl (fun w' hq => pv_load (t1 rfl) rfl (by first | exact SlR.ld (HP.mono hq) hxk rfl | exact SlR.ld1 (HP.mono hq) hxk rfl | exact PT.ld0 (HA.mono hq) rfl | exact PT.ld (HA.mono hq) rfl)) ?_)
          all_goals (refine at1 8 rfl rfl rfl rfl (fun w' hq => pv_fa (tF rfl) rfl) ?_)
          all_goals (refine at1 9 rfl rfl rfl rfl (fun w' hq => pv_load (t1 rfl) rfl (by first | exact SlR.ld (HP.mono hq) hxk rfl | exact SlR.ld1 (HP.mono hq) hxk rfl | exact PT.ld0 (HA.mono hq) rfl | exact PT.ld (HA.mono hq) rfl)) ?_)
          all_goals (refine at1 10 rfl rfl rfl rfl (fun w' hq => pv_gtr rfl rfl) ?_)
          all_goals (refine at1 11 rfl rfl rfl rfl (fun w' hq => pv_move rfl) ?_)
          all_goals (refine at2 12 rfl rfl rfl (fun w' hq => pv_move rfl) ?_)
          all_goals (refine at2 13 rfl rfl rfl (fun w' hq => pv_move rfl) ?_)
          all_goals (refine at2 14 rfl rfl rfl (fun w' hq => pv_ian (tS rfl) rfl rfl (by omega)) ?_)
          all_goals (refine at2 15 rfl rfl rfl (fun w' hq => pv_fa (tF rfl) rfl) ?_)
          all_goals (refine at2 16 rfl rfl rfl (fun w' hq => pv_load (t1 rfl) rfl (by first | exact SlR.ld (HP.mono hq) hxk rfl | exact SlR.ld1 (HP.mono hq) hxk rfl | exact PT.ld0 (HA.mono hq) rfl | exact PT.ld (HA.mono hq) rfl)) ?_)
          all_goals (refine at2 17 rfl rfl rfl (fun w' hq => pv_fa (tF rfl) rfl) ?_)
          all_goals (refine at2 18 rfl rfl rfl (fun w' hq => pv_load (t1 rfl) rfl (by first | exact SlR.ld (HP.mono hq) hxk rfl | exact SlR.ld1 (HP.mono hq) hxk rfl | exact PT.ld0 (HA.mono hq) rfl | exact PT.ld (HA.mono hq) rfl)) ?_)
          all_goals (refine at2 19 rfl rfl rfl (fun w' hq => pv_eql rfl rfl) ?_)
          all_goals (refine at2 20 rfl rfl rfl (fun w' hq => pv_move rfl) ?_)
          all_goals (refine an2 21 rfl rfl rfl ?_)
          all_goals (refine an2 22 rfl rfl rfl ?_)
          all_goals (refine an2 23 rfl rfl rfl ?_)
          all_goals (refine an2 24 rfl rfl rfl ?_)
          all_goals (refine an2 25 rfl rfl rfl ?_)
          all_goals (refine an2 26 rfl rfl rfl ?_)
          all_goals (refine an2 27 rfl rfl rfl ?_)
          all_goals (refine an2 28 rfl rfl rfl ?_)
          all_goals (refine at2 29 rfl rfl rfl (fun w' hq => pv_pick_f rfl (by first | assumption | exact decide_eq_false (by omega) | exact dec_notF (by omega)) rfl) ?_)
          all_goals (refine at1 30 rfl rfl rfl rfl (fun w' hq => pv_pick_f rfl (by first | assumption | exact decide_eq_false (by omega) | exact dec_notF (by omega)) rfl) ?_)
          all_goals (refine at0 31 rfl (fun w' hq => pv_pick_t rfl rfl rfl) ?_)
          all_goals (refine aw_done (by kernel_rfl) ?_; replace hw := hS; clear hS hNP)
          repeat' (first | (refine lw_pure rfl (pv_move rfl) ?_) | (refine is_cw ?_; first | (refine cw_region ?_) | (refine cw_false rfl rfl ?_) | (refine cw_skip ?_)) | (refine is_qw ?_; first | (with_reducible refine qw_then ?_)) | ((refine is_load ?_; first | (refine lw_pure rfl (pv_loada (tA rfl) rfl (by first | exact SlR.lda (HP.mono hw) hxk | exact PT.lda (HA.mono hw)) (by rfl)) ?_))) | ((refine is_ia ?_; first | (refine lw_pure rfl (pv_ian (tS rfl) rfl rfl (by omega)) ?_))))
          refine lw_bs (vs := [.agg (encP x).toArray]) (cs := encP x) elemP rfl rfl rfl (by omega) (by omega) rfl (by simp [Value.cells, encP]) ?_; intro wb HB hb hz9
          refine lw_app elemP encP_len encP_one rfl rfl rfl ((hO1).mono hb) (HB.slR (xs := [x]) encP_len rfl (by omega)) rfl (Nat.le_trans hw.size hb.size) (by simp; omega) (by simp [maxLen]; omega) ?_; intro v2 wc hO2 hg9 hb9
          replace hw := (grow_trans hw hb).trans hb9; clear hb hb9 hz9 HB hg9
          repeat' (first | (refine lw_pure rfl (pv_move rfl) ?_) | (refine lw_pure rfl (pv_assign rfl) ?_) | (refine is_cw ?_; first | (refine cw_region ?_)) | (refine is_qw ?_; first | (with_reducible refine qw_then ?_) | (with_reducible refine qw_in ?_)) | (refine lw_nil ?_) | ((refine is_bin ?_; first | (refine lw_pure rfl (pv_inc rfl rfl (by omega)) ?_))))
          exact qw_round (k + 1, v2, false, L ++ [x]) (by repeat' (first | exact trivial | refine ⟨rfl, ?_⟩)) ⟨by show k + 1 ≤ _; omega, hw, hO2, hI.yet hxk hkey⟩ (by show p.length - (k + 1) < p.length - k; omega)
  · have hkl : k = p.length := by omega
    subst hkl
    cases d with
    | true =>
      repeat' (first | (refine lw_pure rfl (pv_move rfl) ?_) | (refine lw_pure rfl (pv_assign rfl) ?_) | (refine is_cw ?_; first | (refine cw_seq ?_) | (refine cw_region ?_) | (refine cw_false rfl rfl ?_) | (refine is_cd ?_; refine cw_false rfl (by first | assumption | exact decide_eq_false (by omega) | exact dec_notF (by omega)) ?_) | (refine cw_skip ?_) | (refine cw_exit ?_) | (refine cw_ret ?_)) | (refine is_qw ?_; first | (with_reducible refine qw_then ?_) | (with_reducible refine qw_in_hit ?_) | (with_reducible refine qw_then_exit ?_)) | (refine lw_nil ?_) | ((refine is_bin ?_; first | (refine lw_pure rfl (pv_lss rfl rfl) ?_))) | ((refine is_un ?_; first | (refine lw_pure rfl (pv_not rfl) ?_))) | ((refine is_bi ?_; first | (refine lw_pure rfl (pv_lenl (tS rfl) rfl) ?_))))
      refine qw_ret1 rfl rfl ⟨⟨_, rfl, ?_⟩, (hE.mono hw).b⟩
      rw [← hI.end_t]; exact hO.weaken hE.le
    | false =>
      repeat' (first | (refine lw_pure rfl (pv_move rfl) ?_) | (refine is_cw ?_; first | (refine cw_seq ?_) | (refine cw_region ?_) | (refine cw_true rfl rfl ?_) | (refine is_cd ?_; refine cw_false rfl (by first | assumption | exact decide_eq_false (by omega) | exact dec_notF (by omega)) ?_) | (refine cw_exit ?_)) | (refine is_qw ?_; first | (with_reducible refine qw_then ?_) | (with_reducible refine qw_in_hit ?_) | (with_reducible refine qw_then_exit ?_)) | (refine lw_nil ?_) | ((refine is_bin ?_; first | (refine lw_pure rfl (pv_lss rfl rfl) ?_))) | ((refine is_load ?_; first | (refine lw_pure rfl (pv_loada (tA rfl) rfl (by first | exact PT.lda (HA.mono hw)) (by rfl)) ?_))) | ((refine is_un ?_; first | (refine lw_pure rfl (pv_not rfl) ?_))) | ((refine is_bi ?_; first | (refine lw_pure rfl (pv_lenl (tS rfl) rfl) ?_))))
      refine lw_bs (vs := [.agg (encP o).toArray]) (cs := encP o) elemP rfl rfl rfl (by omega) (by omega) rfl (by simp [Value.cells, encP]) ?_; intro wb HB hb hz9
      refine lw_app elemP encP_len encP_one rfl rfl rfl ((hO).mono hb) (HB.slR (xs := [o]) encP_len rfl (by omega)) rfl (Nat.le_trans hw.size hb.size) (by simp; omega) (by simp [maxLen]; omega) ?_; intro v2 wc hO2 hg9 hb9
      replace hw := (grow_trans hw hb).trans hb9; clear hb hb9 hz9 HB hg9
      repeat' (first | (refine lw_pure rfl (pv_move rfl) ?_) | (refine lw_pure rfl (pv_assign rfl) ?_) | (refine is_cw ?_; first | (refine cw_seq ?_) | (refine cw_region ?_) | (refine cw_ret ?_)) | (refine is_qw ?_; first | (with_reducible refine qw_then ?_)) | (refine lw_nil ?_))
      refine qw_ret1 rfl rfl ⟨⟨_, rfl, ?_⟩, (hE.mono hw).b⟩
      rw [← hI.end_f]; exact hO2.weaken hE.le
theorem less_take {p : List Opn} {k : Nat} {x : Opn} (id q : Int) (h : p[k]? = some x) : lessP (p.take (k + 1)) id q = lessP (p.take k) id q ++ if 0 < (cutP id q x).left then [cutP id q x] else [] := by
  unfold lessP
  rw [take_snoc h, List.map_append, List.filter_append]
  congr 1
  by_cases hl : 0 < (cutP id q x).left <;> simp [hl]
theorem less_len (p : List Opn) (id q : Int) : (lessP p id q).length ≤ p.length := by
  unfold lessP
  exact Nat.le_trans (List.length_filter_le _ _) (by simp)
set_option maxRecDepth 20000 in
set_option maxHeartbeats 4000000 in
theorem less_c {p : List Opn} {m : Nat} {a : Option Addr} {ca : Nat} {w : World} (id q : Int) (hm : p.length = m) (HP : SlR encP 6 w a ca p) (hlp : p.length ≤ 1048576) (hq : ∀ x ∈ p, (0 ≤ x.left ∧ x.left ≤ 1048576)) (hq2 : 0 ≤ q ∧ q ≤ 1048576) : Calls Tryz.prog 63 #[.slice a m ca, .int .i64 id, .int .i64 q] w fun e w' => (∃ v, e = .returned v ∧ Own encP 6 49 w.heap.size w' v (lessP p id q)) ∧ Below w.heap.size w w' := by
  subst hm
  have hca := HP.le
  have hcm := HP.max
  refine fn_enter 37 Tryz.func63 rfl rfl rfl ?_
  have hw := Below.refl w.heap.size w
  repeat' (first | (refine lw_pure rfl (pv_assign rfl) ?_) | (refine is_cw ?_; first | (refine cw_seq ?_) | (refine cw_region ?_) | (refine cw_block ?_)) | (refine is_qw ?_; first | (with_reducible refine qw_then ?_)) | (refine lw_nil ?_))
  refine cw_loop (σ := Nat × Value) (fun s => [(0, .slice a p.length ca), (1, .int .i64 id), (2, .int .i64 q), (7, s.2), (8, .int .i64 (s.1 : Nat))]) (fun s wr => s.1 ≤ p.length ∧ Below w.heap.size w wr ∧ Own encP 6 49 w.heap.size wr s.2 (lessP (p.take s.1) id q)) (fun s => p.length - s.1) (0, .slice none 0 0) (by repeat' (first | exact trivial | refine ⟨rfl, ?_⟩)) ⟨Nat.zero_le _, hw, Own.nil _⟩ ?_
  clear hw
  rintro ⟨k, v⟩ wr ⟨hk, hW, hO⟩
  dsimp only at hk hO
  change CW _ _ _ _ [(0, .slice a p.length ca), (1, .int .i64 id), (2, .int .i64 q), (7, v), (8, .int .i64 (k : Nat))] wr
  have hLl := less_len (p.take k) id q
  have htl : (p.take k).length ≤ k := by rw [List.length_take]; omega
  by_cases hlt : k < p.length
  · have hxk : p[k]? = some p[k] := List.getElem?_eq_getElem hlt
    have hxq := hq _ (List.getElem_mem hlt)
    obtain ⟨ab, ao, rfl, -, -⟩ := HP.at (by intro h; rw [h] at hlt; simp at hlt)
    generalize p[k] = x at hxk hxq
    have hrec := less_take id q hxk
    have hw := hW
    have hNE := Own.lt hO
    have hwr := Nat.le_refl wr.heap.size
    repeat' (first | (refine lw_pure rfl (pv_move rfl) ?_) | (refine is_cw ?_; first | (refine cw_seq ?_) | (refine cw_region ?_) | (refine is_cd ?_; refine cw_true rfl (by first | assumption | exact decide_eq_true (by omega) | exact dec_notT (by omega)) ?_) | (refine cw_skip ?_) | (refine cw_block ?_)) | (refine is_qw ?_; first | (with_reducible refine qw_then ?_)) | (refine lw_nil ?_) | ((refine is_bin ?_; first | (refine lw_pure rfl (pv_lss rfl rfl) ?_))) | ((refine is_load ?_; first | (refine lw_pure rfl (pv_loada (tA rfl) rfl (by first | exact SlR.lda (HP.mono hw) hxk) (by rfl)) ?_))) | ((refine is_ia ?_; first | (refine lw_pure rfl (pv_ian (tS rfl) rfl rfl (by omega)) ?_))) | ((refine is_bi ?_; first | (refine lw_pure rfl (pv_lenl (tS rfl) rfl) ?_))))
    refine lw_varN rfl (by first | exact tyv_27 | exact tyv_28 | exact tyv_38 | exact tyv_39 | exact tyv_48 | exact tyv_49 | exact tyv_52 | exact tyv_53 | exact tyv_68 | exact tyv_69 | exact tyv_79 | exact tyv_80 | exact tyv_94 | exact tyv_95 | exact tyv_131 | exact tyv_132) rfl (tZ rfl) (fun _ => rfl) rfl rfl ?_; intro N wn hN HX hb
    have hNv : v.ownBlock = none ∨ v.ownBlock ≠ some N := Or.inr (fun e => by have := (hNE N e).2; omega)
    have hNw : w.heap.size ≤ N := by have := hw.size; omega
    replace hO := hO.mono hb
    replace hw := grow_trans hw hb
    clear hb hNE hwr hN hW
    generalize lessP (p.take k) id q = L at *
    have hB := hw
    clear hw
    have hw := Below.refl wn.heap.size wn
    by_cases hid : x.id = id
    · obtain ⟨y, hy⟩ : ∃ y : Opn, y = { x with left := x.left - q } := ⟨_, rfl⟩
      have hcy : cutP id q x = y := by unfold cutP; rw [if_pos hid, hy]
      have hyl : y.left = x.left - q := by rw [hy]
      repeat' (first | (refine lw_pure rfl (pv_move rfl) ?_) | (refine is_cw ?_; first | (refine cw_seq ?_) | (refine cw_region ?_) | (refine is_cd ?_; refine cw_true rfl (by first | assumption | exact decide_eq_true (by omega) | exact dec_notT (by omega)) ?_)) | (refine is_qw ?_; first | (with_reducible refine qw_then ?_)) | (refine lw_nil ?_) | ((refine is_bin ?_; first | (refine lw_pure rfl (pv_eql rfl rfl) ?_) | (refine lw_pure rfl (pv_sub rfl rfl (by omega)) ?_))) | ((refine is_load ?_; first | (refine lw_pure rfl (pv_load (t1 rfl) rfl (by first | exact PT.ld0 (HX.mono hw) rfl | exact PT.ld (HX.mono hw) rfl)) ?_))) | ((refine is_fa ?_; first | (refine lw_pure rfl (pv_fa (tF rfl) rfl) ?_))))
      refine lw_store HX (tZ rfl) rfl rfl rfl (by simp [encP]) ?_; intro wz HXz hg hz
      replace hO := hO.kept hg hNv
      replace hB := st_hw hB hg hNw
      have HY : PT wz N 49 (encP y) := by rw [hy]; exact HXz
      clear HX HXz hg hz hw
      have hw := Below.refl wz.heap.size wz
      rw [hcy] at hrec
      by_cases hpos : 0 < y.left
      · rw [if_pos hpos] at hrec
        repeat' (first | (refine lw_pure rfl (pv_move rfl) ?_) | (refine is_cw ?_; first | (refine cw_seq ?_) | (refine cw_region ?_) | (refine is_cd ?_; refine cw_true rfl (by first | assumption | exact decide_eq_true (by omega) | exact dec_notT (by omega)) ?_)) | (refine is_qw ?_; first | (with_reducible refine qw_then ?_)) | (refine lw_nil ?_) | ((refine is_bin ?_; first | (refine lw_pure rfl (pv_gtr rfl rfl) ?_))) | ((refine is_load ?_; first | (refine lw_pure rfl (pv_load (t1 rfl) rfl (by first | exact PT.ld0 (HY.mono hw) rfl | exact PT.ld (HY.mono hw) rfl)) ?_) | (refine lw_pure rfl (pv_loada (tA rfl) rfl (by first | exact PT.lda (HY.mono hw)) (by rfl)) ?_))) | ((refine is_fa ?_; first | (refine lw_pure rfl (pv_fa (tF rfl) rfl) ?_))))
        refine lw_bs (vs := [.agg (encP y).toArray]) (cs := encP y) elemP rfl rfl rfl (by omega) (by omega) rfl (by simp [Value.cells, encP]) ?_; intro wb HB hb hz9
        refine lw_app elemP encP_len encP_one rfl rfl rfl ((hO).mono hb) (HB.slR (xs := [y]) encP_len rfl (by omega)) rfl (Nat.le_trans hB.size hb.size) (by simp; omega) (by simp [maxLen]; omega) ?_; intro v2 wc hO2 hg9 hb9
        have hWs := (grow_trans hB hb).trans hb9; clear hw hb hb9 hz9 HB hg9; have hw := Below.refl wc.heap.size wc
        repeat' (first | (refine lw_pure rfl (pv_move rfl) ?_) | (refine lw_pure rfl (pv_assign rfl) ?_) | (refine is_cw ?_; first | (refine cw_region ?_)) | (refine is_qw ?_; first | (with_reducible refine qw_then ?_) | (with_reducible refine qw_in ?_)) | (refine lw_nil ?_) | ((refine is_bin ?_; first | (refine lw_pure rfl (pv_inc rfl rfl (by omega)) ?_))))
        exact qw_round (k + 1, v2) (by repeat' (first | exact trivial | refine ⟨rfl, ?_⟩)) ⟨by show k + 1 ≤ _; omega, hWs, by rw [hrec]; exact hO2⟩ (by show p.length - (k + 1) < p.length - k; omega)
      · rw [if_neg hpos, List.append_nil] at hrec
        repeat' (first | (refine lw_pure rfl (pv_move rfl) ?_) | (refine lw_pure rfl (pv_assign rfl) ?_) | (refine is_cw ?_; first | (refine cw_seq ?_) | (refine cw_region ?_) | (refine is_cd ?_; refine cw_false rfl (by first | assumption | exact decide_eq_false (by omega) | exact dec_notF (by omega)) ?_) | (refine cw_skip ?_)) | (refine is_qw ?_; first | (with_reducible refine qw_then ?_) | (with_reducible refine qw_in ?_)) | (refine lw_nil ?_) | ((refine is_bin ?_; first | (refine lw_pure rfl (pv_gtr rfl rfl) ?_) | (refine lw_pure rfl (pv_inc rfl rfl (by omega)) ?_))) | ((refine is_load ?_; first | (refine lw_pure rfl (pv_load (t1 rfl) rfl (by first | exact PT.ld0 (HY.mono hw) rfl | exact PT.ld (HY.mono hw) rfl)) ?_))) | ((refine is_fa ?_; first | (refine lw_pure rfl (pv_fa (tF rfl) rfl) ?_))))
        exact qw_round (k + 1, v) (by repeat' (first | exact trivial | refine ⟨rfl, ?_⟩)) ⟨by show k + 1 ≤ _; omega, hB, by rw [hrec]; exact hO⟩ (by show p.length - (k + 1) < p.length - k; omega)
    · have hcy : cutP id q x = x := by unfold cutP; rw [if_neg hid]
      rw [hcy] at hrec
      by_cases hpos : 0 < x.left
      · rw [if_pos hpos] at hrec
        repeat' (first | (refine lw_pure rfl (pv_move rfl) ?_) | (refine is_cw ?_; first | (refine cw_seq ?_) | (refine cw_region ?_) | (refine is_cd ?_; refine cw_true rfl (by first | assumption | exact decide_eq_true (by omega) | exact dec_notT (by omega)) ?_) | (refine is_cd ?_; refine cw_false rfl (by first | assumption | exact decide_eq_false (by omega) | exact dec_notF (by omega)) ?_) | (refine cw_skip ?_)) | (refine is_qw ?_; first | (with_reducible refine qw_then ?_)) | (refine lw_nil ?_) | ((refine is_bin ?_; first | (refine lw_pure rfl (pv_eql rfl rfl) ?_) | (refine lw_pure rfl (pv_gtr rfl rfl) ?_))) | ((refine is_load ?_; first | (refine lw_pure rfl (pv_load (t1 rfl) rfl (by first | exact PT.ld0 (HX.mono hw) rfl | exact PT.ld (HX.mono hw) rfl)) ?_) | (refine lw_pure rfl (pv_loada (tA rfl) rfl (by first | exact PT.lda (HX.mono hw)) (by rfl)) ?_))) | ((refine is_fa ?_; first | (refine lw_pure rfl (pv_fa (tF rfl) rfl) ?_))))
        refine lw_bs (vs := [.agg (encP x).toArray]) (cs := encP x) elemP rfl rfl rfl (by omega) (by omega) rfl (by simp [Value.cells, encP]) ?_; intro wb HB hb hz9
        refine lw_app elemP encP_len encP_one rfl rfl rfl ((hO).mono hb) (HB.slR (xs := [x]) encP_len rfl (by omega)) rfl (Nat.le_trans hB.size hb.size) (by simp; omega) (by simp [maxLen]; omega) ?_; intro v2 wc hO2 hg9 hb9
        have hWs := (grow_trans hB hb).trans hb9; clear hw hb hb9 hz9 HB hg9; have hw := Below.refl wc.heap.size wc
        repeat' (first | (refine lw_pure rfl (pv_move rfl) ?_) | (refine lw_pure rfl (pv_assign rfl) ?_) | (refine is_cw ?_; first | (refine cw_region ?_)) | (refine is_qw ?_; first | (with_reducible refine qw_then ?_) | (with_reducible refine qw_in ?_)) | (refine lw_nil ?_) | ((refine is_bin ?_; first | (refine lw_pure rfl (pv_inc rfl rfl (by omega)) ?_))))
        exact qw_round (k + 1, v2) (by repeat' (first | exact trivial | refine ⟨rfl, ?_⟩)) ⟨by show k + 1 ≤ _; omega, hWs, by rw [hrec]; exact hO2⟩ (by show p.length - (k + 1) < p.length - k; omega)
      · rw [if_neg hpos, List.append_nil] at hrec
        repeat' (first | (refine lw_pure rfl (pv_move rfl) ?_) | (refine lw_pure rfl (pv_assign rfl) ?_) | (refine is_cw ?_; first | (refine cw_seq ?_) | (refine cw_region ?_) | (refine is_cd ?_; refine cw_false rfl (by first | assumption | exact decide_eq_false (by omega) | exact dec_notF (by omega)) ?_) | (refine cw_skip ?_)) | (refine is_qw ?_; first | (with_reducible refine qw_then ?_) | (with_reducible refine qw_in ?_)) | (refine lw_nil ?_) | ((refine is_bin ?_; first | (refine lw_pure rfl (pv_eql rfl rfl) ?_) | (refine lw_pure rfl (pv_gtr rfl rfl) ?_) | (refine lw_pure rfl (pv_inc rfl rfl (by omega)) ?_))) | ((refine is_load ?_; first | (refine lw_pure rfl (pv_load (t1 rfl) rfl (by first | exact PT.ld0 (HX.mono hw) rfl | exact PT.ld (HX.mono hw) rfl)) ?_))) | ((refine is_fa ?_; first | (refine lw_pure rfl (pv_fa (tF rfl) rfl) ?_))))
        exact qw_round (k + 1, v) (by repeat' (first | exact trivial | refine ⟨rfl, ?_⟩)) ⟨by show k + 1 ≤ _; omega, hB, by rw [hrec]; exact hO⟩ (by show p.length - (k + 1) < p.length - k; omega)
  · have hkl : k = p.length := by omega
    subst hkl
    rw [List.take_length] at hO
    have hw := hW
    repeat' (first | (refine lw_pure rfl (pv_move rfl) ?_) | (refine lw_pure rfl (pv_assign rfl) ?_) | (refine is_cw ?_; first | (refine cw_seq ?_) | (refine cw_region ?_) | (refine is_cd ?_; refine cw_false rfl (by first | assumption | exact decide_eq_false (by omega) | exact dec_notF (by omega)) ?_) | (refine cw_exit ?_) | (refine cw_ret ?_)) | (refine is_qw ?_; first | (with_reducible refine qw_then ?_) | (with_reducible refine qw_in_hit ?_) | (with_reducible refine qw_then_exit ?_)) | (refine lw_nil ?_) | ((refine is_bin ?_; first | (refine lw_pure rfl (pv_lss rfl rfl) ?_))) | ((refine is_bi ?_; first | (refine lw_pure rfl (pv_lenl (tS rfl) rfl) ?_))))
    exact qw_ret1 rfl rfl ⟨⟨_, rfl, hO⟩, hw⟩

def capN (n : Nat) : Int := if (n : Int) < 400 then (n : Int) else 400
theorem capN_le (n : Nat) : 0 ≤ capN n ∧ capN n ≤ 400 := by unfold capN; split <;> omega
theorem capN_lt {n : Nat} (h : capN n < 400) : n < 400 := by unfold capN at h; split at h <;> omega

def stepF (s : List Opn × List Lt × Int) (e : Evt) : List Opn × List Lt × Int := if (eventR s.1 s.2.1 e).2.2 = 0 then eventR s.1 s.2.1 e else (s.1, s.2.1, (eventR s.1 s.2.1 e).2.2)
def runF (es : List Evt) : List Opn × List Lt × Int := es.foldl stepF ([], [], 0)
theorem runF_take {es : List Evt} {k : Nat} {e : Evt} (h : es[k]? = some e) : runF (es.take (k + 1)) = stepF (runF (es.take k)) e := by
  unfold runF; rw [take_snoc h, List.foldl_append]; rfl
def EvsR (w : World) (xs : List EvC) (es : List Evt) : Prop := xs.length = es.length ∧ ∀ (j : Nat) x e, xs[j]? = some x → es[j]? = some e → EvR w x e
theorem EvsR.mono {w w' : World} {xs : List EvC} {es : List Evt} (h : EvsR w xs es) (hb : Below w.heap.size w w') : EvsR w' xs es := ⟨h.1, fun j x e h1 h2 => (h.2 j x e h1 h2).mono hb⟩
end Go.Proofs.YtemngicaoacfaaaGreatDoor
namespace Go.Proofs.YtemngicaoacfaaaGreatDoor
open Go.ChangeShapes Go.WideShapes Go.ChangeAt Go.RowKit Go.Deep Go.WideElems Go.Joins
section
variable {H : Type} {enc : TypeId × Value → H} {P : Program} {w : World} {base : Nat} {held : Bool}
theorem cell_in {a : Addr} {v : Value} (h : w.cell? a = some v) : a.spot = none ∧ a.block < w.heap.size := by
  unfold World.cell? at h
  cases hb : w.heap[a.block]? with
  | none => rw [hb] at h; cases h
  | some o =>
    refine ⟨?_, (Array.getElem?_eq_some_iff.1 hb).1⟩
    rw [hb] at h
    cases o <;> first | (cases h; done) | (cases hs : a.spot with | none => rfl | some s => rw [hs] at h; simp at h)
theorem open_slT {α : Type} (encE : α → List Value) (k : Nat) (Pr : α → DataW H → Prop) {t e : TypeId} {fuel : Nat} {c : Value} {x : DataW H × List MemPlace} (hk : ∀ x, (encE x).length = k) (hk0 : 0 < k) (ht : P.underlying t = some (.slice e)) (hC : P.cellsOf e = k)
    (hdec : ∀ n cs y, DataW.trod enc P w base (fun _ => true) held n e cs = some y → ∃ x : α, cs = encE x ∧ Pr x y.1)
    (h : DataW.trod enc P w base (fun _ => true) held fuel t [c] = some x) : ∃ a cap, ∃ xs : List α, c = .slice a xs.length cap ∧ SlR encE k w a cap xs ∧ ∀ z ∈ xs, ∃ ds rest, x.1 = .slice ds rest ∧ ∃ y ∈ ds, Pr z y := by
  rcases open_slice ht h with ⟨h0, _⟩ | ⟨a, len, cap, m, n, D, Pl, hcs, hb, hl, hm, hmm, hx, hi⟩
  · simp only [List.cons.injEq, and_true] at h0
    exact ⟨none, 0, [], h0, SlR.nil w, by simp⟩
  · simp only [List.cons.injEq, and_true] at hcs
    subst hcs
    simp only [if_true] at hmm
    subst hmm
    have hE : ∀ i, i < len → ∃ x : α, w.cells? base (a.add (i * P.cellsOf e)) (P.cellsOf e) = some (encE x) ∧ Pr x (D i) := fun i h => by
      obtain ⟨cs', h1, h2⟩ := hi i (by omega)
      obtain ⟨x, rfl, hp⟩ := hdec _ _ _ h2
      exact ⟨x, h1, hp⟩
    have hL : ∀ m, m ≤ len → ∃ xs : List α, xs.length = m ∧ (∀ j x, xs[j]? = some x → w.cells? base (a.add (j * P.cellsOf e)) (P.cellsOf e) = some (encE x)) ∧ ∀ x ∈ xs, ∃ i, i < len ∧ Pr x (D i) := by
      intro m hm
      induction m with
      | zero => exact ⟨[], rfl, fun j x hx => by simp at hx, by simp⟩
      | succ m ih =>
        obtain ⟨xs, h1, h2, h3⟩ := ih (by omega)
        obtain ⟨x, hx, hp⟩ := hE m (by omega)
        refine ⟨xs ++ [x], by simp [h1], fun j y hy => ?_, fun y hy => ?_⟩
        · by_cases hj : j < xs.length
          · rw [List.getElem?_append_left hj] at hy; exact h2 j y hy
          · rw [List.getElem?_append_right (by omega)] at hy
            have : j - xs.length = 0 := by
              have := (List.getElem?_eq_some_iff.1 hy).1; simp at this; omega
            rw [this] at hy; simp at hy; subst hy
            have : j = m := by omega
            subst this; exact hx
        · rcases List.mem_append.1 hy with hy | hy
          · exact h3 y hy
          · simp at hy; subst hy; exact ⟨m, by omega, hp⟩
    obtain ⟨xs, hlen, hxs, hpr⟩ := hL len (Nat.le_refl _)
    refine ⟨some a, _, xs, by rw [hlen], ⟨by omega, by simpa [maxLen] using hm, (fun h => by cases h), fun ad had hc => ?_⟩, fun x hx2 => ?_⟩
    · cases had
      obtain ⟨cs0, h1, _⟩ := hi 0 hc
      obtain ⟨_, h2, h3⟩ := World.cells?_some h1
      have h4 := h3 0 (by rw [hC]; exact hk0)
      rw [List.getElem?_eq_getElem (by rw [h2, hC]; exact hk0)] at h4
      obtain ⟨hsp, hlt⟩ := cell_in h4
      obtain ⟨b, off, sp⟩ := a
      have e0 : ((⟨b, off, sp⟩ : Addr).add (0 * P.cellsOf e)).add 0 = ⟨b, off, sp⟩ := by simp [Addr.add]
      rw [e0] at hsp hlt
      have hsp0 : sp = none := hsp
      subst hsp0
      refine ⟨rfl, hlt, fun j x hx i v hv => ?_⟩
      obtain ⟨_, h1, h2⟩ := World.cells?_some (hxs j x hx)
      have hik : i < k := by have := (List.getElem?_eq_some_iff.1 hv).1; rwa [hk] at this
      have h3 := h2 i (by rw [hC]; exact hik)
      rw [hv] at h3
      rw [hC] at h3
      rwa [Addr.add_lit, Addr.add_lit] at h3
    · obtain ⟨i, hi2, hp⟩ := hpr x hx2
      subst hx
      exact ⟨_, _, rfl, D i, List.mem_map.2 ⟨i, List.mem_range.2 hi2, rfl⟩, hp⟩
theorem SlR.map_fst {α β : Type} {encE : α → List Value} {k : Nat} {a : Option Addr} {cap : Nat} {xs : List β} (f : β → α) (h : SlR (fun x => encE (f x)) k w a cap xs) : SlR encE k w a cap (xs.map f) := by
  refine ⟨by rw [List.length_map]; exact h.le, h.max, fun hn => ?_, fun ad had hc => ?_⟩
  · obtain ⟨h1, h2⟩ := h.ofNone hn; exact ⟨by rw [h1]; rfl, h2⟩
  · obtain ⟨h1, h2, h3⟩ := h.ofSome ad had hc
    refine ⟨h1, h2, fun j x hx i v hv => ?_⟩
    rw [List.getElem?_map] at hx
    cases hq : xs[j]? with
    | none => rw [hq] at hx; cases hx
    | some z => rw [hq, Option.map_some] at hx; injection hx with hx; subst hx; exact h3 j z hq i v hv
end
section
variable {H : Type} {enc : TypeId × Value → H} {W : World} {base : Nat} {held : Bool} {b0 : Nat} {v : Value} {d : DataW H} {p : List MemPlace}
abbrev bndW (t : TypeId) (d : DataW H) : Prop := ∀ n ∈ DataW.weights Tryz.prog t d, n ≤ reachBytes
set_option maxRecDepth 20000 in
theorem ev_decT (n : Nat) (cs : List Value) (y : DataW H × List MemPlace) (h : DataW.trod enc Tryz.prog W base (fun _ => true) held n 28 cs = some y) : ∃ r : EvC × Evt, cs = encV r.1 ∧ (bndW 28 y.1 → EvR W r.1 r.2) := by
  obtain ⟨xs, m, _, hx, hl, hlen, hfi⟩ := DataW.trod_struct Tryz.underlying28 h
  rw [show Tryz.prog.cellsOf 28 = 4 by kernel_rfl] at hl
  have hl2 : cs.length = 4 := hl
  match xs, hlen, cs, hl2 with
  | [y0, y1, y2, y3], _, [c0, c1, c2, c3], _ =>
    obtain ⟨a, rfl, _⟩ := trod_u8 (c := c0) Tryz.underlying5 (hfi 0 _ rfl)
    obtain ⟨b, rfl, hb1, hb2⟩ := trod_u8 (c := c1) Tryz.underlying5 (hfi 1 _ rfl)
    have g2 : DataW.trod enc Tryz.prog W base (fun _ => true) held m 25 [c2] = some y2 := hfi 2 _ rfl
    have g3 : DataW.trod enc Tryz.prog W base (fun _ => true) held m 26 [c3] = some y3 := hfi 3 _ rfl
    obtain ⟨a2, q2, ns, rfl, S2, -⟩ := open_slT encI 1 (fun _ _ => True) encI_len (by omega) Tryz.underlying25 (by kernel_rfl) (fun n cs y h => int_dec n cs y h) g2
    obtain ⟨a3, q3, tx, rfl, S3, w3⟩ := open_slT encT 1 (fun x y => y = .lit (.string x.data.toList)) (fun _ => rfl) (by omega) Tryz.underlying26 (by kernel_rfl) (fun n cs y h => txt_dec n cs y h) g3
    refine ⟨⟨⟨a, b, _, _, _, _, _, _⟩, ⟨a, b, ns, tx⟩⟩, rfl, fun hwt => ⟨rfl, rfl, rfl, rfl, S2, S3, ⟨hb1, hb2⟩, fun s hs => ?_⟩⟩
    obtain ⟨ds, rest, e3, yy, hy, rfl⟩ := w3 s hs
    have h5 := hwt s.size (by
      rw [hx, DataW.weights, Tryz.underlying28]
      simp only [List.map_cons, List.map_nil, DataW.weightsEach]
      refine List.mem_append_right _ (List.mem_append_right _ (List.mem_append_right _ (List.mem_append_left _ ?_)))
      rw [e3, DataW.weights, Tryz.underlying26]
      refine List.mem_cons_of_mem _ (List.mem_append_left _ (mem_weightsAll ?_ hy))
      rw [DataW.weights]
      exact List.mem_singleton.2 Array.length_toList.symm)
    have h7 : reachBytes ≤ 140737488355328 := by decide
    exact Nat.le_trans h5 h7
set_option maxRecDepth 20000 in
theorem evs_open (hv : Value.okWide Tryz.prog W .any b0 42 v) (h : DataW.Trod enc Tryz.prog W base (fun _ => true) held 42 v d p) (hwt : bndW 42 d) : ∃ a cap xs es, v = .slice a xs.length cap ∧ SlR encV 4 W a cap xs ∧ EvsR W xs es := by
  obtain ⟨i, j, k, rfl⟩ := okWide_slice Tryz.underlying42 hv
  obtain ⟨fuel, hf⟩ := h
  obtain ⟨a, cap, zs, e1, S1, h1⟩ := open_slT (fun x : EvC × Evt => encV x.1) 4 (fun x y => bndW 28 y → EvR W x.1 x.2) (fun _ => rfl) (by omega) Tryz.underlying42 (by kernel_rfl) ev_decT hf
  refine ⟨a, cap, zs.map (·.1), zs.map (·.2), by rw [List.length_map]; exact e1, SlR.map_fst _ S1, by simp, fun q x e hx he => ?_⟩
  rw [List.getElem?_map] at hx he
  cases hq : zs[q]? with
  | none => rw [hq] at hx; cases hx
  | some z =>
    rw [hq, Option.map_some] at hx he
    injection hx with hx; injection he with he
    subst hx he
    obtain ⟨ds, rest, e2, y, hy, hp⟩ := h1 z (List.mem_of_getElem? hq)
    refine hp fun n hn => hwt n ?_
    dsimp only at e2
    rw [e2, DataW.weights, Tryz.underlying42]
    exact List.mem_cons_of_mem _ (List.mem_append_left _ (mem_weightsAll hn hy))
end
end Go.Proofs.YtemngicaoacfaaaGreatDoor
namespace Go.Proofs.YtemngicaoacfaaaGreatDoor
open Go.ChangeShapes Go.WideShapes Go.ChangeAt Go.RowKit

theorem str_back (s : ByteArray) : (⟨s.data.toList.toArray⟩ : ByteArray) = s := by cases s; simp
set_option maxRecDepth 20000 in
theorem krow_dec {W : World} {n : Nat} {cs : List Value} {y : DataW Unit × List MemPlace} (h : DataW.trod (fun _ => ()) Tryz.prog W 0 (fun _ => true) false n 132 cs = some y) : cs = encK (krowOf y.1) := by
  obtain ⟨xs, m, _, rfl, hl, hlen, hf⟩ := DataW.trod_struct Tryz.underlying132 h
  have hstr : Tryz.prog.underlying 9 = some .string := Tryz.underlying9
  rw [show Tryz.prog.cellsOf 132 = 5 by kernel_rfl] at hl
  match xs, hlen, cs, hl with
  | [y0, y1, y2], _, [c0, c1, c2, c3, c4], _ =>
    have h0 := hf 0 _ rfl
    have h1 := hf 1 _ rfl
    have h2 := hf 2 _ rfl
    obtain ⟨s, e0, x0, _⟩ := DataW.trod_string hstr h0
    obtain ⟨z0, z1, z2, n', hx, g0, g1, g2⟩ := trod_array3 (c0 := c1) (c1 := c2) (c2 := c3) Tryz.underlying130 (by kernel_rfl) h1
    obtain ⟨s0, f0, w0, _⟩ := DataW.trod_string hstr g0
    obtain ⟨s1, f1, w1, _⟩ := DataW.trod_string hstr g1
    obtain ⟨s2, f2, w2, _⟩ := DataW.trod_string hstr g2
    obtain ⟨b, e4, x4⟩ := DataW.trod_bool Tryz.underlying4 h2
    have e0' : c0 = .string s := by
      have : [c0] = [Value.string s] := e0
      injection this
    have e4' : c4 = .bool b := by
      have : [c4] = [Value.bool b] := e4
      injection this
    injection f0 with f0
    injection f1 with f1
    injection f2 with f2
    subst e0' e4' f0 f1 f2 w0 w1 w2 hx x0 x4
    simp [krowOf, encK]
set_option maxRecDepth 20000 in
theorem knW_of {W : World} (h : laidMetH Tryz.prog [("souk/schema.kinds", Rows.laid_souk_schema_kinds)] W) : KnW W := by
  have h1 : laidMet Tryz.prog [("souk/schema.kinds", Rows.laid_souk_schema_kinds)] W := h
  obtain ⟨ps, ⟨g, t, cs, fuel, p, q, hg, ht, hv, hd, -, -⟩, -, -⟩ := h1
  obtain rfl := Option.some.inj ((show Tryz.prog.globalNamed "souk/schema.kinds" = some 0 by kernel_rfl).symm.trans hg)
  obtain rfl := Option.some.inj ((show (Tryz.prog.globals[0]?).map (·.type) = some 160 by kernel_rfl).symm.trans ht)
  have hcell := fun i => World.var?_cell hg hv i
  obtain ⟨xs, m, _, hx, hl, hlen, hf⟩ := DataW.trod_array Tryz.underlying160 hd
  injection hx with hx1 hx2
  have hk : kindsT = xs.map (fun y => krowOf y.1) := by
    unfold kindsT
    rw [hx1]
    simp [partsOf]
  have hC : Tryz.prog.cellsOf 132 = 5 := by kernel_rfl
  have hCt : Tryz.prog.cellsOf 160 = 115 := by kernel_rfl
  rw [hCt] at hl
  have hlt : 0 < W.heap.size := by
    refine Nat.lt_of_not_le fun hle => ?_
    have h9 := hcell 0
    have h8 : W.heap[0]? = none := Array.getElem?_eq_none hle
    have h7 : cs[0]? ≠ none := by
      rw [← Array.getElem?_toList]
      intro h; have := List.getElem?_eq_none_iff.1 h; omega
    rw [← h9] at h7
    simp [World.cell?, h8] at h7
  refine ⟨⟨by rw [kindsT_len]; omega, by omega, (fun h => by cases h), fun ad had _ => ?_⟩⟩
  cases had
  refine ⟨rfl, hlt, fun j x hj i v hi => ?_⟩
  rw [hk, List.getElem?_map, Option.map_eq_some_iff] at hj
  obtain ⟨y, hy, rfl⟩ := hj
  have hj23 : j < 23 := by have := (List.getElem?_eq_some_iff.1 hy).1; omega
  have hfj := hf j hj23
  rw [hy, hC] at hfj
  have he := krow_dec hfj
  have hi5 : i < 5 := by have := (List.getElem?_eq_some_iff.1 hi).1; rw [encK_len] at this; exact this
  rw [hcell, ← Array.getElem?_toList]
  rw [← he, List.getElem?_take, if_pos hi5, List.getElem?_drop] at hi
  rw [show (0 + j * 5 + i) = j * 5 + i by omega]
  exact hi
theorem wt_in {H : Type} {P : Program} {n : Nat} : ∀ {ts : List TypeId} {ds : List (DataW H)} {j : Nat} {t : TypeId} {d : DataW H}, ts[j]? = some t → ds[j]? = some d → n ∈ DataW.weights P t d → n ∈ DataW.weightsEach P ts ds
  | t :: ts, d :: ds, 0, _, _, h1, h2, hn => by
    simp at h1 h2; subst h1 h2
    rw [DataW.weightsEach]; exact List.mem_append_left _ hn
  | t :: ts, d :: ds, j + 1, _, _, h1, h2, hn => by
    rw [DataW.weightsEach]; exact List.mem_append_right _ (wt_in (by simpa using h1) (by simpa using h2) hn)
  | [], _, _, _, _, h1, _, _ => by simp at h1
  | _ :: _, [], _, _, _, _, h2, _ => by simp at h2
theorem wt_of {H : Type} {P : Program} {ts us : List TypeId} {ds gs : List (DataW H)} (hZ : ((DataW.weightsEach P (ts ++ us) (ds ++ gs)).all fun x => decide (x ≤ reachBytes)) = true) {j : Nat} {t : TypeId} {d : DataW H} (ht : ts[j]? = some t) (hd : ds[j]? = some d) : ∀ n ∈ DataW.weights P t d, n ≤ reachBytes := fun n hn => by
  have h1 : (ts ++ us)[j]? = some t := by rw [List.getElem?_append_left (List.getElem?_eq_some_iff.1 ht).1]; exact ht
  have h2 : (ds ++ gs)[j]? = some d := by rw [List.getElem?_append_left (List.getElem?_eq_some_iff.1 hd).1]; exact hd
  exact of_decide_eq_true (List.all_eq_true.1 hZ n (wt_in h1 h2 hn))
set_option maxRecDepth 100000 in
theorem door_met (os : Os) (args : Array Value) : laidMetH Tryz.prog [("souk/schema.kinds", Rows.laid_souk_schema_kinds)] ((World.doorLaid Tryz.prog 200 os).forCall (fun _ _ => 0) ⟨#[], args, []⟩).memory :=
  laidMetH_of_parts (laidMet_of_run' 8 (by kernel_rfl) (by kernel_rfl)) (by kernel_rfl)
end Go.Proofs.YtemngicaoacfaaaGreatDoor
namespace Go.Proofs.YtemngicaoacfaaaGreatDoor
open Go.PlainAid Go.RowKit

theorem rsP_t {p : List Opn} {m n : Nat} {a b : Option Addr} {ca cb : Nat} {w : World} (hm : p.length = m) (hn : p.length = n) (HP : SlR encP 6 w a ca p) (HQ : SlR encP 6 w b cb p) : Calls Tryz.prog 15 #[.slice a m ca, .slice b n cb] w fun e w' => e = .returned (.bool true) ∧ Below w.heap.size w w' := by
  have h := rsame_P hm hn HP HQ
  rw [show decide (p = p) = true by simp] at h; exact h
theorem rsT_t {p : List Lt} {m n : Nat} {a b : Option Addr} {ca cb : Nat} {w : World} (hm : p.length = m) (hn : p.length = n) (HP : SlR encL 4 w a ca p) (HQ : SlR encL 4 w b cb p) : Calls Tryz.prog 16 #[.slice a m ca, .slice b n cb] w fun e w' => e = .returned (.bool true) ∧ Below w.heap.size w w' := by
  have h := rsame_L hm hn HP HQ
  rw [show decide (p = p) = true by simp] at h; exact h
theorem pv_bneqs2 {P : Program} {n : Nat} {l : Fr} {w : World} {d : Option Nat} {t t' ty : TypeId} {x y : Operand} {pos : String} {af : Array Edge} {g : Option (Nat × Bool)} {c : Bool} (ht : isT P t (fun x => x matches .bool) = true) (hx : ev l x = some (.bool c)) (hy : ev l y = some (.bool c)) : Pv P n l ⟨d, .binOp .neq t x y t', ty, pos, af, g⟩ (.bool false) w := by
  have := pv_bneq (n := n) (w := w) (d := d) (t' := t') (ty := ty) (pos := pos) (af := af) (g := g) ht hx hy
  simpa using this

theorem find_iff {p : List Opn} (hn : (p.map (·.id)).Nodup) {id : Int} {o : Opn} : findP p id = some o ↔ o ∈ p ∧ o.id = id := by
  constructor
  · intro h
    unfold findP at h
    exact ⟨List.mem_of_find?_eq_some h, by have := List.find?_some h; simpa using this⟩
  · rintro ⟨hm, rfl⟩
    cases h : findP p o.id with
    | none => exact absurd rfl (findP_none h o hm)
    | some x =>
      unfold findP at h
      have h1 := List.mem_of_find?_eq_some h
      have h2 := List.find?_some h
      rw [inj_of_nodup hn h1 hm (by simpa using h2)]
theorem findT_iff {t : List Lt} (hn : t.Pairwise keyT) {id : Int} {o : Lt} : findT t id = some o ↔ o ∈ t ∧ o.id = id := by
  have inj : ∀ {t : List Lt}, t.Pairwise keyT → ∀ x ∈ t, ∀ y ∈ t, x.id = y.id → x = y := by
    intro t
    induction t with
    | nil => intro _ x hx; cases hx
    | cons z r ih =>
      intro hp x hx y hy e
      obtain ⟨h1, h2⟩ := List.pairwise_cons.1 hp
      rcases List.mem_cons.1 hx with rfl | hx' <;> rcases List.mem_cons.1 hy with rfl | hy'
      · rfl
      · have := h1 y hy'; unfold keyT at this; omega
      · have := h1 x hx'; unfold keyT at this; omega
      · exact ih h2 x hx' y hy' e
  constructor
  · intro h
    unfold findT at h
    exact ⟨List.mem_of_find?_eq_some h, by have := List.find?_some h; simpa using this⟩
  · rintro ⟨hm, rfl⟩
    cases h : findT t o.id with
    | none => exact absurd rfl (findT_none h o hm)
    | some x =>
      unfold findT at h
      have h1 := List.mem_of_find?_eq_some h
      have h2 := List.find?_some h
      rw [inj hn x h1 o hm (by simpa using h2)]
/-! ### less of one, once more -/
theorem less_less {p : List Opn} {i j a b : Int} (hb : 0 ≤ b) : lessP (lessP p i a) j b = ((p.map (cutP i a)).map (cutP j b)).filter fun o => decide (0 < o.left) := by
  unfold lessP
  refine filter_map_filter _ _ _ fun x _ hx => ?_
  simp only [decide_eq_false_iff_not] at hx ⊢
  unfold cutP
  split
  · show ¬ 0 < x.left - b; omega
  · exact hx
theorem mem_less {p : List Opn} {i q : Int} {x : Opn} : x ∈ lessP p i q ↔ (∃ y ∈ p, cutP i q y = x) ∧ 0 < x.left := by
  unfold lessP; rw [List.mem_filter, List.mem_map, decide_eq_true_eq]
theorem cut_key {i q : Int} {a b : Opn} : keyO (cutP i q a) (cutP i q b) ↔ keyO a b := by
  have h : ∀ o : Opn, (cutP i q o).acct = o.acct ∧ (cutP i q o).id = o.id := fun o => by unfold cutP; split <;> exact ⟨rfl, rfl⟩
  unfold keyO
  rw [(h a).1, (h a).2, (h b).1, (h b).2]
theorem less_le (p : List Opn) (i q : Int) : (lessP p i q).length ≤ p.length := by
  unfold lessP; exact Nat.le_trans (List.length_filter_le _ _) (by simp)
theorem may_less {p : List Opn} {t : List Lt} {i q : Int} (h : MayV p t) (hq : 0 ≤ q) : MayV (lessP p i q) t := by
  obtain ⟨⟨h1, h2⟩, h3, h4, h5, h6, h7⟩ := h
  have hl := less_le p i q
  refine ⟨⟨by omega, h2⟩, ?_, h4, ?_, ?_, h7⟩
  · unfold lessP
    exact List.Pairwise.filter _ (List.pairwise_map.2 (h3.imp fun h => cut_key.2 h))
  · intro o ho
    obtain ⟨⟨y, hy, rfl⟩, hpos⟩ := mem_less.1 ho
    have hm := h5 y hy
    unfold MayO at hm ⊢
    unfold cutP at hpos ⊢
    split
    · rename_i e
      rw [if_pos e] at hpos
      replace hpos : 0 < y.left - q := hpos
      refine ⟨hm.1, hm.2.1, hm.2.2.1, hm.2.2.2.1, hm.2.2.2.2.1, ?_⟩
      show 1 ≤ y.left - q ∧ y.left - q ≤ 1048576; omega
    · exact hm
  · refine List.Nodup.sublist ?_ h6
    rw [← map_ids p i q]
    unfold lessP
    exact List.Sublist.map _ List.filter_sublist
theorem may_insP {p : List Opn} {t : List Lt} {o : Opn} (h : MayV p t) (hl : p.length ≠ 128) (ho : MayO o) (hf : findP p o.id = none) : MayV (insP p o) t := by
  obtain ⟨⟨h1, h2⟩, h3, h4, h5, h6, h7⟩ := h
  have hn := findP_none hf
  have hp := insP_perm o p
  refine ⟨⟨by rw [hp.length_eq, List.length_append, List.length_singleton]; omega, h2⟩, insP_pw h3 fun x hx => key_diff (hn x hx), h4, fun x hx => ?_, ?_, h7⟩
  · rcases List.mem_append.1 (hp.mem_iff.1 hx) with hx | hx
    · exact h5 x hx
    · rw [List.mem_singleton] at hx; subst hx; exact ho
  · rw [(hp.map (·.id)).nodup_iff, List.map_append, List.nodup_append]
    refine ⟨h6, by simp, fun a ha b hb => ?_⟩
    obtain ⟨y, hy, rfl⟩ := List.mem_map.1 ha
    simp at hb; subst hb
    exact hn y hy
theorem may_insT {p : List Opn} {t : List Lt} {o : Lt} (h : MayV p t) (hl : t.length ≠ 32) (ho : MayL o) (hf : findT t o.id = none) : MayV p (insT t o) := by
  obtain ⟨⟨h1, h2⟩, h3, h4, h5, h6, h7⟩ := h
  have hn := findT_none hf
  have hp := insT_perm o t
  refine ⟨⟨h1, by rw [hp.length_eq, List.length_append, List.length_singleton]; omega⟩, h3, insT_pw h4 fun x hx => keyT_diff (hn x hx), h5, h6, fun x hx => ?_⟩
  rcases List.mem_append.1 (hp.mem_iff.1 hx) with hx | hx
  · exact h7 x hx
  · rw [List.mem_singleton] at hx; subst hx; exact ho
theorem may_gone {p : List Opn} {t : List Lt} {id : Int} (h : MayV p t) : MayV p (gone t id) := by
  obtain ⟨⟨h1, h2⟩, h3, h4, h5, h6, h7⟩ := h
  have hs : (gone t id).Sublist t := List.filter_sublist
  exact ⟨⟨h1, Nat.le_trans hs.length_le h2⟩, h3, h4.sublist hs, h5, h6, fun x hx => h7 x (hs.subset hx)⟩
/-! ### what an event has left, and what is there -/
def leftS (id : Int) (n : Int) (e : Evt) : Int :=
  if e.kind = 11 then (if nth e 0 = id then nth e 5 else n) else if e.kind = 12 then (if nth e 0 = id then 0 else n)
  else if e.kind = 13 then (if nth e 0 = id ∨ nth e 1 = id then n - nth e 3 else n) else n
def leftN (es : List Evt) (id : Int) : Int := es.foldl (leftS id) 0
def thereS (id : Int) (b : Bool) (e : Evt) : Bool :=
  if e.kind = 14 ∨ e.kind = 16 then b || nth e 0 == id else if e.kind = 18 ∨ e.kind = 19 then b && !(nth e 0 == id) else b
def thereB (es : List Evt) (id : Int) : Bool := es.foldl (thereS id) false
theorem leftN_snoc (es : List Evt) (e : Evt) (id : Int) : leftN (es ++ [e]) id = leftS id (leftN es id) e := by unfold leftN; rw [List.foldl_append]; rfl
theorem thereB_snoc (es : List Evt) (e : Evt) (id : Int) : thereB (es ++ [e]) id = thereS id (thereB es id) e := by unfold thereB; rw [List.foldl_append]; rfl
def remP (p : List Opn) (id : Int) : Int := ((findP p id).map (·.left)).getD 0
theorem rem_cons (x : Opn) (p : List Opn) (id : Int) : remP (x :: p) id = if x.id = id then x.left else remP p id := by
  unfold remP findP
  by_cases h : x.id = id
  · rw [List.find?_cons_of_pos (by simp [h]), if_pos h]; rfl
  · rw [List.find?_cons_of_neg (by simp [h]), if_neg h]
theorem rem_zero {p : List Opn} {id : Int} (h : ∀ x ∈ p, x.id ≠ id) : remP p id = 0 := by
  induction p with
  | nil => rfl
  | cons x r ih => rw [rem_cons, if_neg (h x (by simp)), ih fun y hy => h y (List.mem_cons_of_mem _ hy)]
theorem rem_less {p : List Opn} {i q : Int} (hn : (p.map (·.id)).Nodup) (hl : ∀ x ∈ p, 0 < x.left) (hq : 0 ≤ q) (id : Int) : remP (lessP p i q) id = if i = id then max 0 (remP p id - q) else remP p id := by
  induction p with
  | nil =>
    have : remP ([] : List Opn) id = 0 := rfl
    rw [show lessP [] i q = [] from rfl, this]; split <;> omega
  | cons x r ih =>
    rw [List.map_cons, List.nodup_cons] at hn
    have ih' := ih hn.2 fun y hy => hl y (List.mem_cons_of_mem _ hy)
    have hx := hl x (by simp)
    have hr : ∀ id, x.id = id → remP r id = 0 := fun id e => rem_zero fun y hy e2 => hn.1 (List.mem_map.2 ⟨y, hy, by omega⟩)
    have hlr : lessP (x :: r) i q = if 0 < (cutP i q x).left then cutP i q x :: lessP r i q else lessP r i q := by
      unfold lessP
      rw [List.map_cons, List.filter_cons]
      by_cases h : 0 < (cutP i q x).left
      · rw [if_pos (by simpa using h), if_pos h]
      · rw [if_neg (by simpa using h), if_neg h]
    rw [hlr]
    have hcl : (cutP i q x).left = if x.id = i then x.left - q else x.left := by unfold cutP; split <;> rfl
    by_cases hp : 0 < (cutP i q x).left
    · rw [if_pos hp, rem_cons, rem_cons, cut_id, ih', hcl]
      by_cases e : x.id = id
      · rw [if_pos e, if_pos e]
        by_cases e2 : i = id
        · rw [if_pos (by omega), if_pos e2]
          rw [hcl, if_pos (by omega)] at hp
          omega
        · rw [if_neg (by omega), if_neg e2]
      · rw [if_neg e, if_neg e]
    · rw [if_neg hp, rem_cons, ih']
      rw [hcl] at hp
      by_cases e : x.id = i
      · rw [if_pos e] at hp
        by_cases e2 : i = id
        · have := hr id (by omega)
          rw [if_pos e2, if_pos (show x.id = id by omega)]; omega
        · rw [if_neg e2, if_neg e2, if_neg (by omega)]
      · rw [if_neg e] at hp; omega
theorem rem_ins {p : List Opn} {o : Opn} (hn : (p.map (·.id)).Nodup) (hf : findP p o.id = none) (hm : ((insP p o).map (·.id)).Nodup) (id : Int) : remP (insP p o) id = if o.id = id then o.left else remP p id := by
  have hp := insP_perm o p
  by_cases e : o.id = id
  · have : findP (insP p o) id = some o := (find_iff hm).2 ⟨hp.mem_iff.2 (by simp), e⟩
    rw [if_pos e]; unfold remP; rw [this]; rfl
  · rw [if_neg e]
    unfold remP
    congr 2
    cases h : findP p id with
    | some x =>
      obtain ⟨h1, h2⟩ := (find_iff hn).1 h
      exact (find_iff hm).2 ⟨hp.mem_iff.2 (List.mem_append_left _ h1), h2⟩
    | none =>
      have hx := findP_none h
      cases h2 : findP (insP p o) id with
      | none => rfl
      | some x =>
        obtain ⟨h3, h4⟩ := (find_iff hm).1 h2
        rcases List.mem_append.1 (hp.mem_iff.1 h3) with h3 | h3
        · exact absurd h4 (hx x h3)
        · rw [List.mem_singleton] at h3; subst h3; exact absurd h4 e
theorem there_ins {t : List Lt} {o : Lt} (hf : t.Pairwise keyT) (hm : (insT t o).Pairwise keyT) (id : Int) : (findT (insT t o) id).isSome = ((findT t id).isSome || o.id == id) := by
  have hp := insT_perm o t
  by_cases e : o.id = id
  · have : findT (insT t o) id = some o := (findT_iff hm).2 ⟨hp.mem_iff.2 (by simp), e⟩
    rw [this]; simp [e]
  · cases h : findT t id with
    | some x =>
      obtain ⟨h1, h2⟩ := (findT_iff hf).1 h
      rw [(findT_iff hm).2 ⟨hp.mem_iff.2 (List.mem_append_left _ h1), h2⟩]; simp
    | none =>
      have hx := findT_none h
      cases h2 : findT (insT t o) id with
      | none => simp [e]
      | some x =>
        obtain ⟨h3, h4⟩ := (findT_iff hm).1 h2
        rcases List.mem_append.1 (hp.mem_iff.1 h3) with h3 | h3
        · exact absurd h4 (hx x h3)
        · rw [List.mem_singleton] at h3; subst h3; exact absurd h4 e
theorem there_gone (t : List Lt) (i id : Int) : (findT (gone t i) id).isSome = ((findT t id).isSome && !(i == id)) := by
  induction t with
  | nil => simp [findT, gone]
  | cons x r ih =>
    unfold gone findT at ih ⊢
    rw [List.filter_cons]
    by_cases hx : x.id = i
    · rw [if_neg (by simp [hx]), ih]
      by_cases e : i = id
      · simp [e]
      · rw [List.find?_cons_of_neg (by simp [hx, e])]
    · rw [if_pos (by simp [hx])]
      by_cases e : x.id = id
      · have e2 : ¬ i = id := by omega
        rw [List.find?_cons_of_pos (by simp [e]), List.find?_cons_of_pos (by simp [e])]; simp [e2]
      · rw [List.find?_cons_of_neg (by simp [e]), List.find?_cons_of_neg (by simp [e]), ih]
/-! ### what comes of an event -/
structure GoodS (es : List Evt) (p : List Opn) (t : List Lt) : Prop where
  may : MayV p t
  left : ∀ id, leftN es id = remP p id
  there : ∀ id, thereB es id = (findT t id).isSome
theorem good_nil : GoodS [] [] [] := ⟨by decide, fun _ => rfl, fun _ => rfl⟩
theorem event_err {p : List Opn} {t : List Lt} {e : Evt} (h : (eventR p t e).2.2 ≠ 0) : (eventR p t e).1 = [] ∧ (eventR p t e).2.1 = [] := by
  by_cases hg : mayV p t = true ∧ e.v = 3 ∧ mayE e = true
  · rw [event_yes hg] at h ⊢
    rcases err_empty p t e with h1 | h1
    · exact absurd h1 h
    · exact h1
  · rw [event_no hg]; exact ⟨rfl, rfl⟩
theorem event_ok {p : List Opn} {t : List Lt} {e : Evt} (h : (eventR p t e).2.2 = 0) : (MayV p t ∧ e.v = 3 ∧ mayE e = true) ∧ eventR p t e = doneR p t e := by
  by_cases hg : mayV p t = true ∧ e.v = 3 ∧ mayE e = true
  · exact ⟨⟨mayV_iff.1 hg.1, hg.2⟩, event_yes hg⟩
  · rw [event_no hg] at h; cases h
theorem pos_left {p : List Opn} {t : List Lt} (h : MayV p t) : ∀ x ∈ p, 0 < x.left := fun x hx => by have := h.2.2.2.1 x hx; unfold MayO at this; omega
theorem done_cases {p : List Opn} {t : List Lt} {e : Evt} (_ : MayV p t) (hv : e.v = 3) (hE : mayE e = true) (h : (doneR p t e).2.2 = 0) :
    (e.kind = 11 ∧ ∃ o : Opn, MayO o ∧ o.id = nth e 0 ∧ o.left = nth e 5 ∧ findP p o.id = none ∧ p.length ≠ 128 ∧ doneR p t e = (insP p o, t, 0)) ∨
    (e.kind = 12 ∧ ∃ o : Opn, findP p (nth e 0) = some o ∧ doneR p t e = (lessP p (nth e 0) o.left, t, 0)) ∨
    (e.kind = 13 ∧ 1 ≤ nth e 3 ∧ ∃ a b : Opn, findP p (nth e 0) = some a ∧ findP p (nth e 1) = some b ∧ nth e 0 ≠ nth e 1 ∧ nth e 3 ≤ a.left ∧ nth e 3 ≤ b.left ∧ doneR p t e = (lessP (lessP p (nth e 0) (nth e 3)) (nth e 1) (nth e 3), t, 0)) ∨
    ((e.kind = 14 ∨ e.kind = 16) ∧ ∃ o : Lt, MayL o ∧ o.id = nth e 0 ∧ findT t o.id = none ∧ t.length ≠ 32 ∧ doneR p t e = (p, insT t o, 0)) ∨
    ((e.kind = 18 ∨ e.kind = 19) ∧ doneR p t e = (p, gone t (nth e 0), 0)) ∨
    ((e.kind ≠ 11 ∧ e.kind ≠ 12 ∧ e.kind ≠ 13 ∧ e.kind ≠ 14 ∧ e.kind ≠ 16 ∧ e.kind ≠ 18 ∧ e.kind ≠ 19) ∧ doneR p t e = (p, t, 0)) := by
  by_cases k1 : e.kind = 11
  · left
    refine ⟨k1, ?_⟩
    obtain ⟨n0, n1, n2, n3, n4, n5, hn, h0, h1, h2, h3, h4, h5⟩ := nums11 hE hv k1
    have hd : doneR p t e = placedR p t e := by unfold doneR; rw [if_pos k1]
    rw [hd] at h ⊢
    unfold placedR at h ⊢
    cases hf : findP p (nth e 0) with
    | some o => rw [hf] at h; cases h
    | none =>
      rw [hf] at h
      rw [if_neg (by simp)] at h ⊢
      by_cases hl : p.length = 128
      · rw [if_pos hl] at h; cases h
      · rw [if_neg hl]
        refine ⟨⟨nth e 1, nth e 0, nth e 2, nth e 3, nth e 4, nth e 5⟩, ?_, rfl, rfl, hf, hl, rfl⟩
        simp only [nth, hn, MayO]
        simp only [List.getD_cons_zero, List.getD_cons_succ]
        omega
  by_cases k2 : e.kind = 12
  · right; left
    refine ⟨k2, ?_⟩
    have hd : doneR p t e = cancelR p t e := by unfold doneR; rw [if_neg k1, if_pos k2]
    rw [hd] at h ⊢
    unfold cancelR at h ⊢
    cases hf : findP p (nth e 0) with
    | none => rw [hf] at h; cases h
    | some o => exact ⟨o, rfl, rfl⟩
  by_cases k3 : e.kind = 13
  · right; right; left
    obtain ⟨n0, n1, n2, n3, n4, hn, h0, h1, h2, h3, h4⟩ := nums13 hE hv k3
    refine ⟨k3, by simp only [nth, hn, List.getD_cons_zero, List.getD_cons_succ]; omega, ?_⟩
    have hd : doneR p t e = tradedR p t e := by unfold doneR; rw [if_neg k1, if_neg k2, if_pos k3]
    rw [hd] at h ⊢
    unfold tradedR at h ⊢
    cases hf : findP p (nth e 0) with
    | none => rw [hf] at h; cases h
    | some a =>
      cases hg : findP p (nth e 1) with
      | none => rw [hf, hg] at h; cases h
      | some b =>
        rw [hf, hg] at h
        dsimp only at h ⊢
        by_cases hc : nth e 0 = nth e 1 ∨ a.left < nth e 3 ∨ b.left < nth e 3
        · rw [if_pos hc] at h; cases h
        · rw [if_neg hc]
          exact ⟨a, b, rfl, rfl, fun e => hc (Or.inl e), by omega, by omega, rfl⟩
  by_cases k4 : e.kind = 14 ∨ e.kind = 16
  · right; right; right; left
    refine ⟨k4, ?_⟩
    obtain ⟨n0, n1, n2, n3, r, hn, h0, h1, h2, h3⟩ := nums14 hE hv k4
    have hd : doneR p t e = openedR p t e := by unfold doneR; rw [if_neg k1, if_neg k2, if_neg k3, if_pos k4]
    rw [hd] at h ⊢
    unfold openedR at h ⊢
    cases hf : findT t (nth e 0) with
    | some o => rw [hf] at h; cases h
    | none =>
      rw [hf] at h
      rw [if_neg (by simp)] at h ⊢
      by_cases hl : t.length = 32
      · rw [if_pos hl] at h; cases h
      · rw [if_neg hl]
        refine ⟨⟨nth e 0, nth e 1, nth e 2, nth e 3⟩, ?_, rfl, hf, hl, rfl⟩
        simp only [nth, hn, MayL]
        simp only [List.getD_cons_zero, List.getD_cons_succ]
        omega
  by_cases k5 : e.kind = 18 ∨ e.kind = 19
  · right; right; right; right; left
    refine ⟨k5, ?_⟩
    have hd : doneR p t e = goneR p t e := by unfold doneR; rw [if_neg k1, if_neg k2, if_neg k3, if_neg k4, if_pos k5]
    rw [hd] at h ⊢
    unfold goneR at h ⊢
    by_cases hf : (findT t (nth e 0)).isSome = true
    · rw [if_pos hf]
    · rw [if_neg hf] at h; cases h
  · right; right; right; right; right
    refine ⟨⟨k1, k2, k3, fun e => k4 (Or.inl e), fun e => k4 (Or.inr e), fun e => k5 (Or.inl e), fun e => k5 (Or.inr e)⟩, ?_⟩
    unfold doneR; rw [if_neg k1, if_neg k2, if_neg k3, if_neg k4, if_neg k5]
theorem event_may {p : List Opn} {t : List Lt} {e : Evt} (h : (eventR p t e).2.2 = 0) : MayV (eventR p t e).1 (eventR p t e).2.1 := by
  obtain ⟨⟨hM, hv, hE⟩, hd⟩ := event_ok h
  rw [hd] at h ⊢
  rcases done_cases hM hv hE h with ⟨_, o, h1, h2, h3, h4, h5, h6⟩ | ⟨_, o, h1, h2⟩ | ⟨_, hq, a, b, h1, h2, h3, h4, h5, h6⟩ | ⟨_, o, h1, h2, h3, h4, h5⟩ | ⟨_, h1⟩ | ⟨_, h1⟩
  · rw [h6]; exact may_insP hM h5 h1 h4
  · rw [h2]
    have := pos_left hM o ((find_iff hM.2.2.2.2.1).1 h1).1
    exact may_less hM (by omega)
  · rw [h6]; exact may_less (may_less hM (by omega)) (by omega)
  · rw [h5]; exact may_insT hM h4 h1 h3
  · rw [h1]; exact may_gone hM
  · rw [h1]; exact hM
theorem good_step {es : List Evt} {p : List Opn} {t : List Lt} {e : Evt} (hG : GoodS es p t) (h : (eventR p t e).2.2 = 0) : GoodS (es ++ [e]) (eventR p t e).1 (eventR p t e).2.1 := by
  have hM2 := event_may h
  obtain ⟨⟨hM, hv, hE⟩, hd⟩ := event_ok h
  refine ⟨hM2, fun id => ?_, fun id => ?_⟩
  · rw [leftN_snoc, hG.left]
    rw [hd] at h hM2 ⊢
    have hnd := hM.2.2.2.2.1
    have hpl := pos_left hM
    unfold leftS
    rcases done_cases hM hv hE h with ⟨hk, o, h1, h2, h3, h4, h5, h6⟩ | ⟨hk, o, h1, h2⟩ | ⟨hk, hq, a, b, h1, h2, h3, h4, h5, h6⟩ | ⟨hk, o, h1, h2, h3, h4, h5⟩ | ⟨hk, h1⟩ | ⟨hk, h1⟩
    · rw [h6] at hM2 ⊢
      rw [if_pos hk, rem_ins hnd h4 hM2.2.2.2.2.1, h2, h3]
    · rw [h2] at hM2 ⊢
      have ho := hpl o ((find_iff hnd).1 h1).1
      rw [if_neg (by omega), if_pos hk, rem_less hnd hpl (by omega)]
      by_cases e0 : nth e 0 = id
      · rw [if_pos e0, if_pos e0]
        have : remP p id = o.left := by unfold remP; rw [← e0, h1]; rfl
        omega
      · rw [if_neg e0, if_neg e0]
    · rw [h6] at hM2 ⊢
      have hM3 : MayV (lessP p (nth e 0) (nth e 3)) t := may_less hM (by omega)
      rw [if_neg (by omega), if_neg (by omega), if_pos hk, rem_less hM3.2.2.2.2.1 (pos_left hM3) (by omega), rem_less hnd hpl (by omega)]
      by_cases e0 : nth e 0 = id
      · have e1 : ¬ nth e 1 = id := by omega
        have : remP p id = a.left := by unfold remP; rw [← e0, h1]; rfl
        rw [if_pos (Or.inl e0), if_neg e1, if_pos e0]; omega
      · by_cases e1 : nth e 1 = id
        · have : remP p id = b.left := by unfold remP; rw [← e1, h2]; rfl
          rw [if_pos (Or.inr e1), if_pos e1, if_neg e0]; omega
        · rw [if_neg (by omega), if_neg e1, if_neg e0]
    · rw [h5, if_neg (by omega), if_neg (by omega), if_neg (by omega)]
    · rw [h1, if_neg (by omega), if_neg (by omega), if_neg (by omega)]
    · rw [h1, if_neg (by omega), if_neg (by omega), if_neg (by omega)]
  · rw [thereB_snoc, hG.there]
    rw [hd] at h hM2 ⊢
    unfold thereS
    rcases done_cases hM hv hE h with ⟨hk, o, h1, h2, h3, h4, h5, h6⟩ | ⟨hk, o, h1, h2⟩ | ⟨hk, hq, a, b, h1, h2, h3, h4, h5, h6⟩ | ⟨hk, o, h1, h2, h3, h4, h5⟩ | ⟨hk, h1⟩ | ⟨hk, h1⟩
    · rw [h6, if_neg (by omega), if_neg (by omega)]
    · rw [h2, if_neg (by omega), if_neg (by omega)]
    · rw [h6, if_neg (by omega), if_neg (by omega)]
    · rw [h5] at hM2 ⊢
      rw [if_pos hk, there_ins hM.2.2.1 hM2.2.2.1, h2]
    · rw [h1, if_neg (by omega), if_pos hk, there_gone]
    · rw [h1, if_neg (by omega), if_neg (by omega)]
theorem good_find {es : List Evt} {p : List Opn} {t : List Lt} (hG : GoodS es p t) (id : Int) : (findP p id).isSome = decide (0 < leftN es id) ∧ ∀ o, findP p id = some o → o.left = leftN es id := by
  rw [hG.left]
  unfold remP
  cases h : findP p id with
  | none => simp
  | some o =>
    have := pos_left hG.may o ((find_iff hG.may.2.2.2.2.1).1 h).1
    simp [this]
/-! ### each account's own -/
theorem filter_two {α : Type} {A B : α → Bool} : ∀ {l : List α}, l.Pairwise (fun x y => ¬ (B x = true ∧ A y = true)) → (∀ x ∈ l, ¬ (A x = true ∧ B x = true)) → l.filter (fun x => A x || B x) = l.filter A ++ l.filter B
  | [], _, _ => rfl
  | x :: r, hp, hd => by
    obtain ⟨h1, h2⟩ := List.pairwise_cons.1 hp
    have ih := filter_two h2 fun y hy => hd y (List.mem_cons_of_mem _ hy)
    cases hA : A x with
    | true =>
      have hB : ¬ B x = true := fun hb => hd x (by simp) ⟨hA, hb⟩
      rw [List.filter_cons_of_pos (by simp [hA]), List.filter_cons_of_pos hA, List.filter_cons_of_neg hB, ih]; rfl
    | false =>
      cases hB : B x with
      | false => rw [List.filter_cons_of_neg (by simp [hA, hB]), List.filter_cons_of_neg (by simp [hA]), List.filter_cons_of_neg (by simp [hB]), ih]
      | true =>
        have hn : r.filter A = [] := List.filter_eq_nil_iff.2 fun y hy ha => h1 y hy ⟨hB, ha⟩
        rw [List.filter_cons_of_pos (by simp [hB]), List.filter_cons_of_neg (by simp [hA]), List.filter_cons_of_pos hB, ih, hn]; rfl
def partsP (p : List Opn) (k : Nat) : List Opn := p.filter fun o => decide (1 ≤ o.acct ∧ o.acct ≤ (k : Int))
theorem parts_succ {p : List Opn} (hp : p.Pairwise keyO) (k : Nat) : partsP p (k + 1) = partsP p k ++ ofP p ((k : Int) + 1) := by
  unfold partsP ofP
  rw [← filter_two]
  · refine List.filter_congr fun x _ => ?_
    rw [Bool.eq_iff_iff]
    simp only [decide_eq_true_eq, Bool.or_eq_true, beq_iff_eq]
    omega
  · refine hp.imp fun {a b} h => ?_
    unfold keyO at h
    simp only [beq_iff_eq, decide_eq_true_eq]
    omega
  · intro x _
    simp only [beq_iff_eq, decide_eq_true_eq]
    omega
theorem parts_all {p : List Opn} (h : ∀ o ∈ p, MayO o) : partsP p 64 = p := List.filter_eq_self.2 fun x hx => by
  have := h x hx
  unfold MayO at this
  simp only [decide_eq_true_eq]
  omega
theorem parts_zero (p : List Opn) : partsP p 0 = [] := List.filter_eq_nil_iff.2 fun x _ => by
  simp only [decide_eq_true_eq]
  omega
theorem parts_len (p : List Opn) (k : Nat) : (partsP p k).length ≤ p.length := List.length_filter_le _ _
/-! ### put and taken back -/
theorem fits_of {v c n lo hi : Int} (hb : boundR v c = some (lo, hi)) (h : lo ≤ n ∧ n ≤ hi) : fitsR v c n = true := by
  unfold fitsR bLo bHi bIs
  rw [hb]
  simpa using h
theorem all_mk {v c n : Int} {cs ns : List Int} (h1 : fitsR v c n = true) (h2 : allR v cs ns = true) : allR v (c :: cs) (n :: ns) = true := by
  unfold allR at h2 ⊢
  simp only [Bool.and_eq_true, decide_eq_true_eq] at h2
  simp only [List.zip_cons_cons, List.all_cons, Bool.and_eq_true, decide_eq_true_eq, List.length_cons]
  exact ⟨by omega, h1, h2.2⟩
theorem all_mk0 (v : Int) : allR v [] [] = true := rfl
theorem mayE_of {k : Int} {ns : List Int} {s : ByteArray} (hf : fieldsR 3 k = some (s, false)) (h : allR 3 (bytesI s) ns = true) : mayE ⟨3, k, ns, []⟩ = true := by
  rw [may_some (e := ⟨3, k, ns, []⟩) hf, h]; rfl
theorem may12 {n : Int} (h : 1 ≤ n ∧ n ≤ 1099511627776) : mayE ⟨3, 12, [n], []⟩ = true := mayE_of fld12 (all_mk (fits_of bnd_o h) (all_mk0 _))
theorem may19 {n : Int} (h : 1 ≤ n ∧ n ≤ 1099511627776) : mayE ⟨3, 19, [n], []⟩ = true := mayE_of fld19 (all_mk (fits_of bnd_c h) (all_mk0 _))
theorem may13 {a b c d e : Int} (ha : 1 ≤ a ∧ a ≤ 1099511627776) (hb : 1 ≤ b ∧ b ≤ 1099511627776) (hc : 1 ≤ c ∧ c ≤ 1073741824) (hd : 1 ≤ d ∧ d ≤ 1048576) (he : 0 ≤ e ∧ e ≤ 1125899906842624) : mayE ⟨3, 13, [a, b, c, d, e], []⟩ = true :=
  mayE_of fld13 (all_mk (fits_of bnd_o ha) (all_mk (fits_of bnd_o hb) (all_mk (fits_of bnd_p hc) (all_mk (fits_of bnd_q hd) (all_mk (fits_of bnd_z he) (all_mk0 _))))))
theorem less_perm {p q : List Opn} (h : p.Perm q) (i a : Int) : (lessP p i a).Perm (lessP q i a) := (h.map _).filter _
theorem less_ins {p : List Opn} {t : List Lt} {o : Opn} (hM : MayV p t) (hM2 : MayV (insP p o) t) (hf : findP p o.id = none) : lessP (insP p o) o.id o.left = p := by
  have ho : 0 < o.left := pos_left hM2 o ((insP_perm o p).mem_iff.2 (by simp))
  refine sortP_eq ((less_perm (insP_perm o p) _ _).trans ?_) (may_less hM2 (by omega)).2.1 hM.2.1
  have : lessP (p ++ [o]) o.id o.left = p := by
    unfold lessP
    rw [List.map_append, List.filter_append, map_other (findP_none hf), keep_pos (pos_left hM)]
    rw [List.map_cons, List.filter_cons_of_neg (by simp [cutP])]
    simp
  rw [this]
theorem gone_ins {p : List Opn} {t : List Lt} {o : Lt} (hM : MayV p t) (hM2 : MayV p (insT t o)) (hf : findT t o.id = none) : gone (insT t o) o.id = t := by
  refine sortT_eq (((insT_perm o t).filter _).trans ?_) (may_gone hM2).2.2.1 hM.2.2.1
  have : (t ++ [o]).filter (fun l => !(l.id == o.id)) = t := by
    rw [List.filter_append, List.filter_eq_self.2 fun x hx => by simpa using findT_none hf x hx, List.filter_cons_of_neg (by simp)]
    simp
  rw [this]
theorem back11 {p : List Opn} {t : List Lt} {e : Evt} (h : (eventR p t e).2.2 = 0) (hk : e.kind = 11) : eventR (eventR p t e).1 (eventR p t e).2.1 ⟨3, 12, [nth e 0], []⟩ = (p, t, 0) := by
  have hM2 := event_may h
  obtain ⟨⟨hM, hv, hE⟩, hd⟩ := event_ok h
  rw [hd] at h hM2 ⊢
  rcases done_cases hM hv hE h with ⟨_, o, h1, h2, h3, h4, h5, h6⟩ | ⟨k, _⟩ | ⟨k, _⟩ | ⟨k, _⟩ | ⟨k, _⟩ | ⟨k, _⟩ <;> try omega
  rw [h6] at hM2 ⊢
  dsimp only at hM2 ⊢
  have hf : findP (insP p o) (nth e 0) = some o := (find_iff hM2.2.2.2.2.1).2 ⟨(insP_perm o p).mem_iff.2 (by simp), h2⟩
  have hb : 1 ≤ nth e 0 ∧ nth e 0 ≤ 1099511627776 := by have := h1.2.1; omega
  rw [event_yes ⟨mayV_iff.2 hM2, rfl, may12 hb⟩]
  show cancelR (insP p o) t ⟨3, 12, [nth e 0], []⟩ = _
  unfold cancelR
  show (match findP (insP p o) (nth e 0) with | none => _ | some o => _) = _
  rw [hf]
  show (lessP (insP p o) (nth e 0) o.left, t, 0) = _
  rw [← h2, less_ins hM hM2 h4]
theorem back14 {p : List Opn} {t : List Lt} {e : Evt} (h : (eventR p t e).2.2 = 0) (hk : e.kind = 14 ∨ e.kind = 16) : eventR (eventR p t e).1 (eventR p t e).2.1 ⟨3, 19, [nth e 0], []⟩ = (p, t, 0) := by
  have hM2 := event_may h
  obtain ⟨⟨hM, hv, hE⟩, hd⟩ := event_ok h
  rw [hd] at h hM2 ⊢
  rcases done_cases hM hv hE h with ⟨k, _⟩ | ⟨k, _⟩ | ⟨k, _⟩ | ⟨_, o, h1, h2, h3, h4, h5⟩ | ⟨k, _⟩ | ⟨k, _⟩ <;> try omega
  rw [h5] at hM2 ⊢
  dsimp only at hM2 ⊢
  have hf : findT (insT t o) (nth e 0) = some o := (findT_iff hM2.2.2.1).2 ⟨(insT_perm o t).mem_iff.2 (by simp), h2⟩
  have hb : 1 ≤ nth e 0 ∧ nth e 0 ≤ 1099511627776 := by have := h1.1; omega
  rw [event_yes ⟨mayV_iff.2 hM2, rfl, may19 hb⟩]
  show goneR p (insT t o) ⟨3, 19, [nth e 0], []⟩ = _
  unfold goneR
  show (if (findT (insT t o) (nth e 0)).isSome = true then _ else _) = _
  rw [hf, if_pos (show (some o).isSome = true from rfl)]
  show (p, gone (insT t o) (nth e 0), 0) = _
  rw [← h2, gone_ins hM hM2 h3]
theorem find_less {p : List Opn} {t : List Lt} {i q : Int} (hM : MayV p t) (hq : 0 ≤ q) {id : Int} {o : Opn} (h : findP p id = some o) (hl : i ≠ id ∨ q < o.left) : findP (lessP p i q) id = some (cutP i q o) := by
  have hM2 := may_less (i := i) hM hq
  obtain ⟨h1, h2⟩ := (find_iff hM.2.2.2.2.1).1 h
  refine (find_iff hM2.2.2.2.2.1).2 ⟨mem_less.2 ⟨⟨o, h1, rfl⟩, ?_⟩, by rw [cut_id]; exact h2⟩
  have := pos_left hM o h1
  unfold cutP
  split
  · show 0 < o.left - q; omega
  · exact this
theorem parted13 {p : List Opn} {t : List Lt} {e : Evt} (h : (eventR p t e).2.2 = 0) (hk : e.kind = 13) {x q : Int} (hx : 1 ≤ x ∧ x < nth e 3) (hq : 1 ≤ q) :
    (eventR p t ⟨3, 13, [nth e 0, nth e 1, 1, x, 0], []⟩).2.2 = 0 ∧ (q ≤ 1073741824 → eventR (eventR p t ⟨3, 13, [nth e 0, nth e 1, 1, x, 0], []⟩).1 (eventR p t ⟨3, 13, [nth e 0, nth e 1, 1, x, 0], []⟩).2.1 ⟨3, 13, [nth e 0, nth e 1, q, nth e 3 - x, 0], []⟩ = eventR p t e) := by
  obtain ⟨⟨hM, hv, hE⟩, hd⟩ := event_ok h
  rw [hd] at h
  rcases done_cases hM hv hE h with ⟨k, _⟩ | ⟨k, _⟩ | ⟨_, hq3, a, b, h1, h2, h3, h4, h5, h6⟩ | ⟨k, _⟩ | ⟨k, _⟩ | ⟨k, _⟩ <;> try omega
  rw [hd, h6]
  obtain ⟨n0, n1, n2, n3, n4, hn, g0, g1, g2, g3, g4⟩ := nums13 hE hv hk
  have e0 : nth e 0 = n0 := by simp [nth, hn]
  have e1 : nth e 1 = n1 := by simp [nth, hn]
  have e3 : nth e 3 = n3 := by simp [nth, hn]
  rw [e0] at h1 h3
  rw [e1] at h2 h3
  rw [e3] at h4 h5 hx hq3
  rw [e0, e1, e3]
  have s1 : eventR p t ⟨3, 13, [n0, n1, 1, x, 0], []⟩ = (lessP (lessP p n0 x) n1 x, t, 0) := by
    rw [event_yes ⟨mayV_iff.2 hM, rfl, may13 g0 g1 (by omega) (by omega) (by omega)⟩]
    show tradedR p t ⟨3, 13, [n0, n1, 1, x, 0], []⟩ = _
    unfold tradedR
    show (match findP p n0, findP p n1 with | some a, some b => if n0 = n1 ∨ a.left < x ∨ b.left < x then _ else _ | _, _ => _) = _
    rw [h1, h2]
    dsimp only
    rw [if_neg (by omega)]
    rfl
  rw [s1]
  refine ⟨rfl, fun hq2 => ?_⟩
  dsimp only
  have hM2 : MayV (lessP p n0 x) t := may_less hM (by omega)
  have hM3 : MayV (lessP (lessP p n0 x) n1 x) t := may_less hM2 (by omega)
  have ia : a.id = n0 := ((find_iff hM.2.2.2.2.1).1 h1).2
  have ib : b.id = n1 := ((find_iff hM.2.2.2.2.1).1 h2).2
  have f1 : findP (lessP p n0 x) n0 = some (cutP n0 x a) := find_less hM (by omega) h1 (Or.inr (by omega))
  have f2 : findP (lessP p n0 x) n1 = some (cutP n0 x b) := find_less hM (by omega) h2 (Or.inl h3)
  have cb : cutP n0 x b = b := by unfold cutP; rw [if_neg (by omega)]
  rw [cb] at f2
  have f3 : findP (lessP (lessP p n0 x) n1 x) n0 = some (cutP n1 x (cutP n0 x a)) := find_less hM2 (by omega) f1 (Or.inl (by omega))
  have f4 : findP (lessP (lessP p n0 x) n1 x) n1 = some (cutP n1 x b) := find_less hM2 (by omega) f2 (Or.inr (by omega))
  have l3 : (cutP n1 x (cutP n0 x a)).left = a.left - x := by
    unfold cutP; rw [if_pos ia, if_neg (by show ¬ a.id = n1; omega)]
  have l4 : (cutP n1 x b).left = b.left - x := by unfold cutP; rw [if_pos ib]
  rw [event_yes ⟨mayV_iff.2 hM3, rfl, may13 g0 g1 (by omega) (by omega) (by omega)⟩]
  show tradedR (lessP (lessP p n0 x) n1 x) t ⟨3, 13, [n0, n1, q, n3 - x, 0], []⟩ = _
  unfold tradedR
  show (match findP (lessP (lessP p n0 x) n1 x) n0, findP (lessP (lessP p n0 x) n1 x) n1 with | some a, some b => if n0 = n1 ∨ a.left < n3 - x ∨ b.left < n3 - x then _ else _ | _, _ => _) = _
  rw [f3, f4]
  dsimp only
  rw [l3, l4, if_neg (by omega)]
  show (lessP (lessP (lessP (lessP p n0 x) n1 x) n0 (n3 - x)) n1 (n3 - x), t, 0) = _
  congr 1
  have key : ∀ (l : List Opn) (i a j b k c : Int), 0 ≤ b → 0 ≤ c → lessP (lessP (lessP l i a) j b) k c = (((l.map (cutP i a)).map (cutP j b)).map (cutP k c)).filter fun o => decide (0 < o.left) := by
    intro l i a j b k c hb hc
    rw [less_less (p := l) hb]
    unfold lessP
    refine filter_map_filter _ _ _ fun x _ hx => ?_
    simp only [decide_eq_false_iff_not] at hx ⊢
    unfold cutP
    split
    · show ¬ 0 < x.left - c; omega
    · exact hx
  rw [less_less (p := p) (by omega : (0 : Int) ≤ n3)]
  rw [less_less (p := lessP (lessP p n0 x) n1 x) (by omega)]
  have step : lessP (lessP (lessP (lessP p n0 x) n1 x) n0 (n3 - x)) n1 (n3 - x) = ((((p.map (cutP n0 x)).map (cutP n1 x)).map (cutP n0 (n3 - x))).map (cutP n1 (n3 - x))).filter fun o => decide (0 < o.left) := by
    rw [key p _ _ _ _ _ _ (by omega) (by omega)]
    unfold lessP
    refine filter_map_filter _ _ _ fun x _ hx => ?_
    simp only [decide_eq_false_iff_not] at hx ⊢
    unfold cutP
    split
    · show ¬ 0 < x.left - _; omega
    · exact hx
  rw [← less_less (p := lessP (lessP p n0 x) n1 x) (by omega), step]
  congr 1
  simp only [List.map_map]
  refine List.map_congr_left fun y _ => ?_
  simp only [Function.comp]
  unfold cutP
  by_cases y0 : y.id = n0
  · have y1 : ¬ y.id = n1 := by omega
    simp only [y0, if_true, if_neg h3]
    congr 1; omega
  · by_cases y1 : y.id = n1
    · simp only [y1, if_true, if_neg (Ne.symm h3)]
      congr 1; omega
    · simp only [if_neg y0, if_neg y1]
end Go.Proofs.YtemngicaoacfaaaGreatDoor
