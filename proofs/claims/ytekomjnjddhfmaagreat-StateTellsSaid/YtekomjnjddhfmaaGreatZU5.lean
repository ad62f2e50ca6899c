/-
  StateTells: its row: whatever the input: true; the input reads as it did. Conditions: none.
-/
import Derived.Test.YtekomjnjddhfmaaGreatZU4
namespace Go.Proofs.YtekomjnjddhfmaaGreat
open Go.RowKit Go.PlainAid

set_option maxRecDepth 20000 in
theorem rbtw18_c (n lo hi : Int) (w : World) : Calls Tryz.prog 54 #[.int .i64 n, .int .i64 lo, .int .i64 hi] w fun e w' => e = .returned (.bool (decide (lo ≤ n ∧ n ≤ hi))) ∧ Below w.heap.size w w' := by
  have hw := Below.refl w.heap.size w
  refine fn_enter 15 Tryz.func54 rfl rfl rfl ?_
  repeat' (first | (refine lw_pure rfl (pv_move rfl) ?_) | (refine lw_pure rfl (pv_assign rfl) ?_) | (refine is_cw ?_; first | (refine cw_seq ?_) | (refine cw_region ?_) | (refine cw_ret ?_)) | (refine is_qw ?_; first | (with_reducible refine qw_then ?_)) | (refine lw_nil ?_) | (refine is_guarded ?_; first | (refine lw_on rfl rfl (by first | assumption | exact decide_eq_true (by omega) | exact decide_eq_false (by omega) | exact dec_notT (by omega) | exact dec_notF (by omega)) ?_) | (refine lw_not rfl rfl rfl (by first | assumption | exact decide_eq_true (by omega) | exact decide_eq_false (by omega) | exact dec_notT (by omega) | exact dec_notF (by omega)) ?_) | (refine lw_gs_t rfl rfl rfl (fun hc => ?_) (fun hc => ?_) <;> (first | replace hc := of_decide_eq_true hc | replace hc := of_decide_eq_false hc | replace hc := dec_nT hc | replace hc := dec_nF hc | skip) <;> (try (exfalso; omega)))) | ((refine is_bin ?_; first | (refine lw_pure rfl (pv_leq rfl rfl) ?_) | (refine lw_pure rfl (pv_geq rfl rfl) ?_))) | (refine is_pk ?_; refine lw_pure rfl (pv_pick_t rfl (by first | assumption | exact decide_eq_true (by omega) | exact dec_notT (by omega)) rfl) ?_) | (refine is_pk ?_; refine lw_pure rfl (pv_pick_f rfl (by first | assumption | exact decide_eq_false (by omega) | exact dec_notF (by omega)) rfl) ?_))
  all_goals (refine qw_ret1 rfl rfl ⟨ret_bool ?_, hw⟩; first | rfl | (rw [decide_eq_decide]; omega) | (symm; rw [decide_eq_true_eq]; omega) | (symm; rw [decide_eq_false_iff_not]; omega))
theorem rname_e {s : ByteArray} {b : Bool} (h : nameR s = b) (hs : s.size ≤ 9223372036854775806) (w : World) : Calls Tryz.prog 81 #[.string s] w fun e w' => e = .returned (.bool b) ∧ Below w.heap.size w w' := by subst h; exact rname_c s hs w
set_option maxRecDepth 20000 in
set_option maxHeartbeats 4000000 in
theorem raccounts_c {s : SttC} {t : Stt} {w : World} (hS0 : StR w s t) (hn : ∀ x ∈ t.accs, x.name.size ≤ 140737488355328) : Calls Tryz.prog 55 #[(.agg (encS s).toArray)] w fun e w' => e = .returned (.bool (accsB t.accs)) ∧ Below w.heap.size w w' := by
  have hE := Ext.refl w
  have hw := Below.refl w.heap.size w
  have hSt := hS0
  obtain ⟨c1, c2, c3, c4, pa, ma, ca, pi, mi, ci, pr, mr, cr, po, mo, co, px, mx, cx⟩ := s; obtain ⟨⟨e1, e2, e3, e4⟩, hma, hmi, hmr, hmo, hmx, HA, HI, HR, HO, HXs⟩ := hS0; simp only at e1 e2 e3 e4 hma hmi hmr hmo hmx HA HI HR HO HXs; subst e1 e2 e3 e4 hma hmi hmr hmo hmx
  have hal := HA.le
  have ham := HA.max
  refine fn_enter 36 Tryz.func55 rfl rfl rfl ?_
  repeat' (first | (refine is_cw ?_; first | (refine cw_seq ?_) | (refine cw_region ?_)))
  refine lw_boxN rfl rfl (cs := [.int .i64 t.clock, .int .i64 t.fee, .int .i64 t.nord, .int .i64 t.nauc, .slice pa t.accs.length ca, .slice pi t.inss.length ci, .slice pr t.rows.length cr, .slice po t.ords.length co, .slice px t.aucs.length cx]) rfl ?_; intro N1 wn hN1 HX hb; replace hN1 := Nat.le_trans hw.size hN1; replace hw := grow_trans hw hb; clear hb
  replace hE := hE.mono hw; replace HA := HA.mono hw; replace hSt := hSt.mono hw; clear hw; have hw := Below.refl wn.heap.size wn
  repeat' (first | (refine lw_pure rfl (pv_assign rfl) ?_) | (refine is_cw ?_; first | (refine cw_seq ?_) | (refine cw_region ?_) | (refine cw_block ?_)) | (refine is_qw ?_; first | (with_reducible refine qw_then ?_)) | (refine lw_nil ?_))
  refine cw_loop (σ := Nat) (fun k => [(1, .pointer (some ⟨N1, 0, none⟩)), (3, .int .i64 (k : Nat))]) (fun k wr => k ≤ t.accs.length ∧ Below wn.heap.size wn wr ∧ ∀ (i : Nat) x, i < k → t.accs[i]? = some x → i < 64 ∧ nameR x.name = true ∧ namedOf t.accs x.name = (i : Nat) + 1) (fun k => t.accs.length - k) 0 (by repeat' (first | exact trivial | refine ⟨rfl, ?_⟩)) ⟨Nat.zero_le _, hw, fun i x hi => by omega⟩ ?_
  clear hw
  rintro k wr ⟨hk, hw, hn2⟩
  by_cases hlt : k < t.accs.length
  rotate_left
  · have hok : accsB t.accs = true := accs_iff.2 fun i x hx => hn2 i x (by have := (List.getElem?_eq_some_iff.1 hx).1; omega) hx
    repeat' (first | (refine lw_pure rfl (pv_move rfl) ?_) | (refine lw_pure rfl (pv_assign rfl) ?_) | (refine is_cw ?_; first | (refine cw_seq ?_) | (refine cw_region ?_) | (refine is_cd ?_; refine cw_false rfl (by first | assumption | exact decide_eq_false (by omega) | exact dec_notF (by omega)) ?_) | (refine cw_exit ?_) | (refine cw_ret ?_)) | (refine is_qw ?_; first | (with_reducible refine qw_then ?_) | (with_reducible refine qw_in_hit ?_) | (with_reducible refine qw_then_exit ?_)) | (refine lw_nil ?_) | ((refine is_bin ?_; first | (refine lw_pure rfl (pv_lss rfl rfl) ?_))) | ((refine is_load ?_; first | (refine lw_pure rfl (pv_load (t1 rfl) rfl (by first | exact PT.ld0 (HX.mono hw) rfl | exact PT.ld (HX.mono hw) rfl)) ?_))) | ((refine is_fa ?_; first | (refine lw_pure rfl (pv_fa (tF rfl) rfl) ?_))) | ((refine is_bi ?_; first | (refine lw_pure rfl (pv_lenl (tS rfl) rfl) ?_))))
    exact qw_ret1 rfl rfl ⟨ret_bool hok.symm, (hE.mono hw).b⟩
  have hxk : t.accs[k]? = some (t.accs[k]'(by omega)) := List.getElem?_eq_getElem _
  generalize t.accs[k]'(by omega) = x at hxk
  have hsz := hn x (List.mem_of_getElem? hxk)
  obtain ⟨ab, ao, rfl, -, -⟩ := HA.at (by intro h; rw [h] at hlt; simp at hlt)
  have hG := Ext.mk hw
  have HX2 := HX.mono hw
  have HA2 := HA.mono hw
  have hS2 := hSt.mono hw
  clear hw
  have hw := Below.refl wr.heap.size wr
  have hno : ¬ (k < 64 ∧ nameR x.name = true ∧ namedOf t.accs x.name = (k : Nat) + 1) → accsB t.accs = false := fun h => by
    cases hq : accsB t.accs with
    | false => rfl
    | true => exact absurd (accs_iff.1 hq k x hxk) h
  have c1 := fun (w' : World) (hb : Below wr.heap.size wr w') => rnamed_c (n := x.name) (hS2.mono hb)
  dsimp only [encS] at c1
  repeat' (first | (refine lw_pure rfl (pv_move rfl) ?_) | (refine is_cw ?_; first | (refine cw_seq ?_) | (refine cw_region ?_) | (refine is_cd ?_; refine cw_true rfl (by first | assumption | exact decide_eq_true (by omega) | exact dec_notT (by omega)) ?_) | (refine cw_skip ?_) | (refine cw_block ?_)) | (refine is_qw ?_; first | (with_reducible refine qw_then ?_)) | (refine lw_nil ?_) | ((refine is_bin ?_; first | (refine lw_pure rfl (pv_lss rfl rfl) ?_))) | ((refine is_load ?_; first | (refine lw_pure rfl (pv_load (t1 rfl) rfl (by first | exact PT.ld0 (HX2.mono hw) rfl | exact PT.ld (HX2.mono hw) rfl)) ?_))) | ((refine is_fa ?_; first | (refine lw_pure rfl (pv_fa (tF rfl) rfl) ?_))) | ((refine is_bi ?_; first | (refine lw_pure rfl (pv_lenl (tS rfl) rfl) ?_))))
  by_cases h64 : 64 ≤ k
  · have hno := hno (by omega)
    refine cw_drawn (fun w' => Below wr.heap.size wr w') (by kernel_rfl) (by repeat (first | exact NoPanic.body | with_reducible refine NoPanic.then ?_ | with_reducible refine NoPanic.inBlock ?_)) (fun hNP => ?_)
    have hS := hw.drew
    all_goals (refine at0 0 rfl (fun w' hq => pv_move rfl) ?_)
    all_goals (refine at0 1 rfl (fun w' hq => pv_geq rfl rfl) ?_)
    all_goals (refine at0 2 rfl (fun w' hq => pv_move rfl) ?_)
    all_goals (refine an2 3 rfl rfl rfl ?_)
    all_goals (refine an2 4 rfl rfl rfl ?_)
    all_goals (refine an2 5 rfl rfl rfl ?_)
    all_goals (refine an2 6 rfl rfl rfl ?_)
    all_goals (refine an2 7 rfl rfl rfl ?_)
    all_goals (refine an2 8 rfl rfl rfl ?_)
    all_goals (refine an2 9 rfl rfl rfl ?_)
    all_goals (refine an2 10 rfl rfl rfl ?_)
    all_goals (refine at0 11 rfl (fun w' hq => pv_pick_t rfl (by first | assumption | exact decide_eq_true (by omega) | exact dec_notT (by omega)) rfl) ?_)
    all_goals (refine at0 12 rfl (fun w' hq => pv_move rfl) ?_)
    all_goals (refine an1 13 rfl rfl rfl rfl ?_)
    all_goals (refine an1 14 rfl rfl rfl rfl ?_)
    all_goals (refine an1 15 rfl rfl rfl rfl ?_)
    all_goals (refine an1 16 rfl rfl rfl rfl ?_)
    all_goals (refine an1 17 rfl rfl rfl rfl ?_)
    all_goals (refine an1 18 rfl rfl rfl rfl ?_)
    all_goals (refine an1 19 rfl rfl rfl rfl ?_)
    all_goals (refine an1 20 rfl rfl rfl rfl ?_)
    all_goals (refine an1 21 rfl rfl rfl rfl ?_)
    all_goals (refine an1 22 rfl rfl rfl rfl ?_)
    all_goals (refine an1 23 rfl rfl rfl rfl ?_)
    all_goals (refine at0 24 rfl (fun w' hq => pv_pick_t rfl rfl rfl) ?_)
    all_goals (refine aw_done (by kernel_rfl) ?_; replace hw := hS; clear hS hNP)
    repeat' (first | (refine lw_pure rfl (pv_assign rfl) ?_) | (refine is_cw ?_; first | (refine cw_seq ?_) | (refine cw_region ?_) | (refine cw_true rfl rfl ?_) | (refine cw_ret ?_)) | (refine is_qw ?_; first | (with_reducible refine qw_then ?_) | (with_reducible refine qw_then_ret ?_) | (with_reducible refine qw_in_ret ?_)) | (refine lw_nil ?_))
    exact qw_ret1 rfl rfl ⟨ret_bool hno.symm, (hE.mono (hG.mono hw).b).b⟩
  cases hm : nameR x.name with
  | false =>
    have hno := hno (fun h => by rw [hm] at h; exact absurd h.2.1 (by simp))
    refine cw_drawn (fun w' => Below wr.heap.size wr w') (by kernel_rfl) (by repeat (first | exact NoPanic.body | with_reducible refine NoPanic.then ?_ | with_reducible refine NoPanic.inBlock ?_)) (fun hNP => ?_)
    have hS := hw.drew
    all_goals (refine at0 0 rfl (fun w' hq => pv_move rfl) ?_)
    all_goals (refine at0 1 rfl (fun w' hq => pv_geq rfl rfl) ?_)
    all_goals (refine at0 2 rfl (fun w' hq => pv_move rfl) ?_)
    all_goals (refine at2 3 rfl rfl rfl (fun w' hq => pv_fa (tF rfl) rfl) ?_)
    all_goals (refine at2 4 rfl rfl rfl (fun w' hq => pv_load (t1 rfl) rfl (by first | exact PT.ld0 (HX2.mono hq) rfl | exact PT.ld (HX2.mono hq) rfl | exact SlR.ld (HA2.mono hq) hxk rfl | exact SlR.ld1 (HA2.mono hq) hxk rfl)) ?_)
    all_goals (refine at2 5 rfl rfl rfl (fun w' hq => pv_move rfl) ?_)
    all_goals (refine at2 6 rfl rfl rfl (fun w' hq => pv_ian (tS rfl) rfl rfl (by omega)) ?_)
    all_goals (refine at2 7 rfl rfl rfl (fun w' hq => pv_fa (tF rfl) rfl) ?_)
    all_goals (refine at2 8 rfl rfl rfl (fun w' hq => pv_load (t1 rfl) rfl (by first | exact PT.ld0 (HX2.mono hq) rfl | exact PT.ld (HX2.mono hq) rfl | exact SlR.ld (HA2.mono hq) hxk rfl | exact SlR.ld1 (HA2.mono hq) hxk rfl)) ?_)
    all_goals first | (refine an3 9 rfl rfl rfl ?_) | (refine an0 9 rfl rfl rfl ?_) | (refine aw_act_g 9 (by kernel_rfl) rfl rfl rfl (by first | rfl | assumption | exact decide_eq_true (by omega) | exact decide_eq_false (by omega) | exact dec_notT (by omega) | exact dec_notF (by omega)) rfl ?_; refine act_call (f := 81) (by kernel_rfl) rfl (rname_e hm (by omega) _) ?_; rintro e w1 ⟨rfl, hb⟩; refine ⟨_, rfl, grow_trans hS hb, fun hS => ?_⟩)
    all_goals (refine at2 10 rfl rfl rfl (fun w' hq => pv_not rfl) ?_)
    all_goals (refine at0 11 rfl (fun w' hq => pv_pick_f rfl (by first | assumption | exact decide_eq_false (by omega) | exact dec_notF (by omega)) rfl) ?_)
    all_goals (refine at0 12 rfl (fun w' hq => pv_move rfl) ?_)
    all_goals (refine an1 13 rfl rfl rfl rfl ?_)
    all_goals (refine an1 14 rfl rfl rfl rfl ?_)
    all_goals (refine an1 15 rfl rfl rfl rfl ?_)
    all_goals (refine an1 16 rfl rfl rfl rfl ?_)
    all_goals (refine an1 17 rfl rfl rfl rfl ?_)
    all_goals (refine an1 18 rfl rfl rfl rfl ?_)
    all_goals (refine an1 19 rfl rfl rfl rfl ?_)
    all_goals (refine an1 20 rfl rfl rfl rfl ?_)
    all_goals (refine an1 21 rfl rfl rfl rfl ?_)
    all_goals (refine an1 22 rfl rfl rfl rfl ?_)
    all_goals (refine an1 23 rfl rfl rfl rfl ?_)
    all_goals (refine at0 24 rfl (fun w' hq => pv_pick_t rfl rfl rfl) ?_)
    all_goals (refine aw_done (by kernel_rfl) ?_; replace hw := hS; clear hS hNP)
    repeat' (first | (refine lw_pure rfl (pv_assign rfl) ?_) | (refine is_cw ?_; first | (refine cw_seq ?_) | (refine cw_region ?_) | (refine cw_true rfl rfl ?_) | (refine cw_ret ?_)) | (refine is_qw ?_; first | (with_reducible refine qw_then ?_) | (with_reducible refine qw_then_ret ?_) | (with_reducible refine qw_in_ret ?_)) | (refine lw_nil ?_))
    exact qw_ret1 rfl rfl ⟨ret_bool hno.symm, (hE.mono (hG.mono hw).b).b⟩
  | true =>
    by_cases hq : namedOf t.accs x.name = (k : Nat) + 1
    · rw [hq] at c1
      refine cw_drawn (fun w' => Below wr.heap.size wr w') (by kernel_rfl) (by repeat (first | exact NoPanic.body | with_reducible refine NoPanic.then ?_ | with_reducible refine NoPanic.inBlock ?_)) (fun hNP => ?_)
      have hS := hw.drew
      all_goals (refine at0 0 rfl (fun w' hq => pv_move rfl) ?_)
      all_goals (refine at0 1 rfl (fun w' hq => pv_geq rfl rfl) ?_)
      all_goals (refine at0 2 rfl (fun w' hq => pv_move rfl) ?_)
      all_goals (refine at2 3 rfl rfl rfl (fun w' hq => pv_fa (tF rfl) rfl) ?_)
      all_goals (refine at2 4 rfl rfl rfl (fun w' hq => pv_load (t1 rfl) rfl (by first | exact PT.ld0 (HX2.mono hq) rfl | exact PT.ld (HX2.mono hq) rfl | exact SlR.ld (HA2.mono hq) hxk rfl | exact SlR.ld1 (HA2.mono hq) hxk rfl)) ?_)
      all_goals (refine at2 5 rfl rfl rfl (fun w' hq => pv_move rfl) ?_)
      all_goals (refine at2 6 rfl rfl rfl (fun w' hq => pv_ian (tS rfl) rfl rfl (by omega)) ?_)
      all_goals (refine at2 7 rfl rfl rfl (fun w' hq => pv_fa (tF rfl) rfl) ?_)
      all_goals (refine at2 8 rfl rfl rfl (fun w' hq => pv_load (t1 rfl) rfl (by first | exact PT.ld0 (HX2.mono hq) rfl | exact PT.ld (HX2.mono hq) rfl | exact SlR.ld (HA2.mono hq) hxk rfl | exact SlR.ld1 (HA2.mono hq) hxk rfl)) ?_)
      all_goals first | (refine an3 9 rfl rfl rfl ?_) | (refine an0 9 rfl rfl rfl ?_) | (refine aw_act_g 9 (by kernel_rfl) rfl rfl rfl (by first | rfl | assumption | exact decide_eq_true (by omega) | exact decide_eq_false (by omega) | exact dec_notT (by omega) | exact dec_notF (by omega)) rfl ?_; refine act_call (f := 81) (by kernel_rfl) rfl (rname_e hm (by omega) _) ?_; rintro e w1 ⟨rfl, hb⟩; refine ⟨_, rfl, grow_trans hS hb, fun hS => ?_⟩)
      all_goals (refine at2 10 rfl rfl rfl (fun w' hq => pv_not rfl) ?_)
      all_goals (refine at0 11 rfl (fun w' hq => pv_pick_f rfl (by first | assumption | exact decide_eq_false (by omega) | exact dec_notF (by omega)) rfl) ?_)
      all_goals (refine at0 12 rfl (fun w' hq => pv_move rfl) ?_)
      all_goals (refine at1 13 rfl rfl rfl rfl (fun w' hq => pv_loada (tA rfl) rfl (by first | exact PT.lda (HX2.mono hq) | exact SlR.lda (HA2.mono hq) hxk) (by rfl)) ?_)
      all_goals (refine at1 14 rfl rfl rfl rfl (fun w' hq => pv_fa (tF rfl) rfl) ?_)
      all_goals (refine at1 15 rfl rfl rfl rfl (fun w' hq => pv_load (t1 rfl) rfl (by first | exact PT.ld0 (HX2.mono hq) rfl | exact PT.ld (HX2.mono hq) rfl | exact SlR.ld (HA2.mono hq) hxk rfl | exact SlR.ld1 (HA2.mono hq) hxk rfl)) ?_)
      all_goals (refine at1 16 rfl rfl rfl rfl (fun w' hq => pv_move rfl) ?_)
      all_goals (refine at1 17 rfl rfl rfl rfl (fun w' hq => pv_ian (tS rfl) rfl rfl (by omega)) ?_)
      all_goals (refine at1 18 rfl rfl rfl rfl (fun w' hq => pv_fa (tF rfl) rfl) ?_)
      all_goals (refine at1 19 rfl rfl rfl rfl (fun w' hq => pv_load (t1 rfl) rfl (by first | exact PT.ld0 (HX2.mono hq) rfl | exact PT.ld (HX2.mono hq) rfl | exact SlR.ld (HA2.mono hq) hxk rfl | exact SlR.ld1 (HA2.mono hq) hxk rfl)) ?_)
      all_goals (refine at1 21 rfl rfl rfl rfl (fun w' hq => pv_move rfl) ?_)
      all_goals (refine at1 22 rfl rfl rfl rfl (fun w' hq => pv_inc rfl rfl (by omega)) ?_)
      all_goals first | (refine an3 20 rfl rfl rfl ?_) | (refine an0 20 rfl rfl rfl ?_) | (refine aw_act_g 20 (by kernel_rfl) rfl rfl rfl (by first | rfl | assumption | exact decide_eq_true (by omega) | exact decide_eq_false (by omega) | exact dec_notT (by omega) | exact dec_notF (by omega)) rfl ?_; refine act_call (f := 26) (by kernel_rfl) rfl (c1 _ hS) ?_; rintro e w1 ⟨rfl, hb⟩; refine ⟨_, rfl, grow_trans hS hb, fun hS => ?_⟩)
      all_goals (refine at1 23 rfl rfl rfl rfl (fun w' hq => pv_neq rfl rfl) ?_)
      all_goals (refine at0 24 rfl (fun w' hq => pv_pick_f rfl rfl rfl) ?_)
      all_goals (refine aw_done (by kernel_rfl) ?_; replace hw := hS; clear hS hNP)
      repeat' (first | (refine lw_pure rfl (pv_move rfl) ?_) | (refine lw_pure rfl (pv_assign rfl) ?_) | (refine is_cw ?_; first | (refine cw_region ?_) | (refine is_cd ?_; refine cw_false rfl (by first | assumption | exact decide_eq_false (by omega) | exact dec_notF (by omega)) ?_) | (refine cw_skip ?_)) | (refine is_qw ?_; first | (with_reducible refine qw_then ?_) | (with_reducible refine qw_in ?_)) | (refine lw_nil ?_) | ((refine is_bin ?_; first | (refine lw_pure rfl (pv_inc rfl rfl (by omega)) ?_))))
      refine qw_round (k + 1) (by repeat' (first | exact trivial | refine ⟨rfl, ?_⟩)) ⟨by omega, (hG.mono hw).b, fun i y hi hy => ?_⟩ (by omega)
      by_cases hik : i = k
      · subst hik
        rw [hxk] at hy; injection hy with hy; subst hy
        exact ⟨by omega, hm, hq⟩
      · exact hn2 i y (by omega) hy
    · have hno := hno (fun h => hq h.2.2)
      refine cw_drawn (fun w' => Below wr.heap.size wr w') (by kernel_rfl) (by repeat (first | exact NoPanic.body | with_reducible refine NoPanic.then ?_ | with_reducible refine NoPanic.inBlock ?_)) (fun hNP => ?_)
      have hS := hw.drew
      all_goals (refine at0 0 rfl (fun w' hq => pv_move rfl) ?_)
      all_goals (refine at0 1 rfl (fun w' hq => pv_geq rfl rfl) ?_)
      all_goals (refine at0 2 rfl (fun w' hq => pv_move rfl) ?_)
      all_goals (refine at2 3 rfl rfl rfl (fun w' hq => pv_fa (tF rfl) rfl) ?_)
      all_goals (refine at2 4 rfl rfl rfl (fun w' hq => pv_load (t1 rfl) rfl (by first | exact PT.ld0 (HX2.mono hq) rfl | exact PT.ld (HX2.mono hq) rfl | exact SlR.ld (HA2.mono hq) hxk rfl | exact SlR.ld1 (HA2.mono hq) hxk rfl)) ?_)
      all_goals (refine at2 5 rfl rfl rfl (fun w' hq => pv_move rfl) ?_)
      all_goals (refine at2 6 rfl rfl rfl (fun w' hq => pv_ian (tS rfl) rfl rfl (by omega)) ?_)
      all_goals (refine at2 7 rfl rfl rfl (fun w' hq => pv_fa (tF rfl) rfl) ?_)
      all_goals (refine at2 8 rfl rfl rfl (fun w' hq => pv_load (t1 rfl) rfl (by first | exact PT.ld0 (HX2.mono hq) rfl | exact PT.ld (HX2.mono hq) rfl | exact SlR.ld (HA2.mono hq) hxk rfl | exact SlR.ld1 (HA2.mono hq) hxk rfl)) ?_)
      all_goals first | (refine an3 9 rfl rfl rfl ?_) | (refine an0 9 rfl rfl rfl ?_) | (refine aw_act_g 9 (by kernel_rfl) rfl rfl rfl (by first | rfl | assumption | exact decide_eq_true (by omega) | exact decide_eq_false (by omega) | exact dec_notT (by omega) | exact dec_notF (by omega)) rfl ?_; refine act_call (f := 81) (by kernel_rfl) rfl (rname_e hm (by omega) _) ?_; rintro e w1 ⟨rfl, hb⟩; refine ⟨_, rfl, grow_trans hS hb, fun hS => ?_⟩)
      all_goals (refine at2 10 rfl rfl rfl (fun w' hq => pv_not rfl) ?_)
      all_goals (refine at0 11 rfl (fun w' hq => pv_pick_f rfl (by first | assumption | exact decide_eq_false (by omega) | exact dec_notF (by omega)) rfl) ?_)
      all_goals (refine at0 12 rfl (fun w' hq => pv_move rfl) ?_)
      all_goals (refine at1 13 rfl rfl rfl rfl (fun w' hq => pv_loada (tA rfl) rfl (by first | exact PT.lda (HX2.mono hq) | exact SlR.lda (HA2.mono hq) hxk) (by rfl)) ?_)
      all_goals (refine at1 14 rfl rfl rfl rfl (fun w' hq => pv_fa (tF rfl) rfl) ?_)
      all_goals (refine at1 15 rfl rfl rfl rfl (fun w' hq => pv_load (t1 rfl) rfl (by first | exact PT.ld0 (HX2.mono hq) rfl | exact PT.ld (HX2.mono hq) rfl | exact SlR.ld (HA2.mono hq) hxk rfl | exact SlR.ld1 (HA2.mono hq) hxk rfl)) ?_)
      all_goals (refine at1 16 rfl rfl rfl rfl (fun w' hq => pv_move rfl) ?_)
      all_goals (refine at1 17 rfl rfl rfl rfl (fun w' hq => pv_ian (tS rfl) rfl rfl (by omega)) ?_)
      all_goals (refine at1 18 rfl rfl rfl rfl (fun w' hq => pv_fa (tF rfl) rfl) ?_)
      all_goals (refine at1 19 rfl rfl rfl rfl (fun w' hq => pv_load (t1 rfl) rfl (by first | exact PT.ld0 (HX2.mono hq) rfl | exact PT.ld (HX2.mono hq) rfl | exact SlR.ld (HA2.mono hq) hxk rfl | exact SlR.ld1 (HA2.mono hq) hxk rfl)) ?_)
      all_goals (refine at1 21 rfl rfl rfl rfl (fun w' hq => pv_move rfl) ?_)
      all_goals (refine at1 22 rfl rfl rfl rfl (fun w' hq => pv_inc rfl rfl (by omega)) ?_)
      all_goals first | (refine an3 20 rfl rfl rfl ?_) | (refine an0 20 rfl rfl rfl ?_) | (refine aw_act_g 20 (by kernel_rfl) rfl rfl rfl (by first | rfl | assumption | exact decide_eq_true (by omega) | exact decide_eq_false (by omega) | exact dec_notT (by omega) | exact dec_notF (by omega)) rfl ?_; refine act_call (f := 26) (by kernel_rfl) rfl (c1 _ hS) ?_; rintro e w1 ⟨rfl, hb⟩; refine ⟨_, rfl, grow_trans hS hb, fun hS => ?_⟩)
      all_goals (refine at1 23 rfl rfl rfl rfl (fun w' hq => pv_neq rfl rfl) ?_)
      all_goals (refine at0 24 rfl (fun w' hq => pv_pick_f rfl rfl rfl) ?_)
      all_goals (refine aw_done (by kernel_rfl) ?_; replace hw := hS; clear hS hNP)
      repeat' (first | (refine lw_pure rfl (pv_assign rfl) ?_) | (refine is_cw ?_; first | (refine cw_seq ?_) | (refine cw_region ?_) | (refine is_cd ?_; refine cw_true rfl (by first | assumption | exact decide_eq_true (by omega) | exact dec_notT (by omega)) ?_) | (refine cw_ret ?_)) | (refine is_qw ?_; first | (with_reducible refine qw_then ?_) | (with_reducible refine qw_then_ret ?_) | (with_reducible refine qw_in_ret ?_)) | (refine lw_nil ?_))
      exact qw_ret1 rfl rfl ⟨ret_bool hno.symm, (hE.mono (hG.mono hw).b).b⟩
set_option maxRecDepth 20000 in
set_option maxHeartbeats 4000000 in
theorem rinsts_c {s : SttC} {t : Stt} {w : World} (hS0 : StR w s t) (hn : ∀ x ∈ t.inss, x.name.size ≤ 140737488355328) : Calls Tryz.prog 56 #[(.agg (encS s).toArray)] w fun e w' => e = .returned (.bool (inssB t.inss)) ∧ Below w.heap.size w w' := by
  have hE := Ext.refl w
  have hw := Below.refl w.heap.size w
  obtain ⟨c1, c2, c3, c4, pa, ma, ca, pi, mi, ci, pr, mr, cr, po, mo, co, px, mx, cx⟩ := s; obtain ⟨⟨e1, e2, e3, e4⟩, hma, hmi, hmr, hmo, hmx, HA, HI, HR, HO, HXs⟩ := hS0; simp only at e1 e2 e3 e4 hma hmi hmr hmo hmx HA HI HR HO HXs; subst e1 e2 e3 e4 hma hmi hmr hmo hmx
  have hal := HI.le
  have ham := HI.max
  refine fn_enter 46 Tryz.func56 rfl rfl rfl ?_
  repeat' (first | (refine is_cw ?_; first | (refine cw_seq ?_) | (refine cw_region ?_)))
  refine lw_boxN rfl rfl (cs := [.int .i64 t.clock, .int .i64 t.fee, .int .i64 t.nord, .int .i64 t.nauc, .slice pa t.accs.length ca, .slice pi t.inss.length ci, .slice pr t.rows.length cr, .slice po t.ords.length co, .slice px t.aucs.length cx]) rfl ?_; intro N1 wn hN1 HX hb; replace hN1 := Nat.le_trans hw.size hN1; replace hw := grow_trans hw hb; clear hb
  replace hE := hE.mono hw; replace HI := HI.mono hw; clear hw; have hw := Below.refl wn.heap.size wn
  repeat' (first | (refine lw_pure rfl (pv_assign rfl) ?_) | (refine is_cw ?_; first | (refine cw_seq ?_) | (refine cw_region ?_) | (refine cw_block ?_)) | (refine is_qw ?_; first | (with_reducible refine qw_then ?_)) | (refine lw_nil ?_))
  refine cw_loop (σ := Nat) (fun k => [(1, .pointer (some ⟨N1, 0, none⟩)), (3, .int .i64 (k : Nat))]) (fun k wr => k ≤ t.inss.length ∧ Below wn.heap.size wn wr ∧ ∀ (i : Nat) x, i < k → t.inss[i]? = some x → i < 16 ∧ nameR x.name = true ∧ tickB x = true ∧ ∀ (j : Nat) y, j < i → t.inss[j]? = some y → y.name ≠ x.name) (fun k => t.inss.length - k) 0 (by repeat' (first | exact trivial | refine ⟨rfl, ?_⟩)) ⟨Nat.zero_le _, hw, fun i x hi => by omega⟩ ?_
  clear hw
  rintro k wr ⟨hk, hw, hn2⟩
  by_cases hlt : k < t.inss.length
  rotate_left
  · have hok : inssB t.inss = true := inss_iff.2 fun i x hx => hn2 i x (by have := (List.getElem?_eq_some_iff.1 hx).1; omega) hx
    repeat' (first | (refine lw_pure rfl (pv_move rfl) ?_) | (refine lw_pure rfl (pv_assign rfl) ?_) | (refine is_cw ?_; first | (refine cw_seq ?_) | (refine cw_region ?_) | (refine is_cd ?_; refine cw_false rfl (by first | assumption | exact decide_eq_false (by omega) | exact dec_notF (by omega)) ?_) | (refine cw_exit ?_) | (refine cw_ret ?_)) | (refine is_qw ?_; first | (with_reducible refine qw_then ?_) | (with_reducible refine qw_in_hit ?_) | (with_reducible refine qw_then_exit ?_)) | (refine lw_nil ?_) | ((refine is_bin ?_; first | (refine lw_pure rfl (pv_lss rfl rfl) ?_))) | ((refine is_load ?_; first | (refine lw_pure rfl (pv_load (t1 rfl) rfl (by first | exact PT.ld0 (HX.mono hw) rfl | exact PT.ld (HX.mono hw) rfl)) ?_))) | ((refine is_fa ?_; first | (refine lw_pure rfl (pv_fa (tF rfl) rfl) ?_))) | ((refine is_bi ?_; first | (refine lw_pure rfl (pv_lenl (tS rfl) rfl) ?_))))
    exact qw_ret1 rfl rfl ⟨ret_bool hok.symm, (hE.mono hw).b⟩
  have hxk : t.inss[k]? = some (t.inss[k]'(by omega)) := List.getElem?_eq_getElem _
  generalize t.inss[k]'(by omega) = x at hxk
  have hsz := hn x (List.mem_of_getElem? hxk)
  obtain ⟨ab, ao, rfl, -, -⟩ := HI.at (by intro h; rw [h] at hlt; simp at hlt)
  have hno : ¬ (k < 16 ∧ nameR x.name = true ∧ tickB x = true ∧ ∀ (j : Nat) y, j < k → t.inss[j]? = some y → y.name ≠ x.name) → inssB t.inss = false := fun h => by
    cases hq : inssB t.inss with
    | false => rfl
    | true => exact absurd (inss_iff.1 hq k x hxk) h
  have hG := Ext.mk hw
  have HX2 := HX.mono hw
  have HI2 := HI.mono hw
  clear hw
  have hw := Below.refl wr.heap.size wr
  repeat' (first | (refine lw_pure rfl (pv_move rfl) ?_) | (refine is_cw ?_; first | (refine cw_seq ?_) | (refine cw_region ?_) | (refine is_cd ?_; refine cw_true rfl (by first | assumption | exact decide_eq_true (by omega) | exact dec_notT (by omega)) ?_) | (refine cw_skip ?_) | (refine cw_block ?_)) | (refine is_qw ?_; first | (with_reducible refine qw_then ?_)) | (refine lw_nil ?_) | ((refine is_bin ?_; first | (refine lw_pure rfl (pv_lss rfl rfl) ?_))) | ((refine is_load ?_; first | (refine lw_pure rfl (pv_load (t1 rfl) rfl (by first | exact PT.ld0 (HX2.mono hw) rfl | exact PT.ld (HX2.mono hw) rfl | exact SlR.ld (HI2.mono hw) hxk rfl | exact SlR.ld1 (HI2.mono hw) hxk rfl)) ?_) | (refine lw_pure rfl (pv_loada (tA rfl) rfl (by first | exact PT.lda (HX2.mono hw) | exact SlR.lda (HI2.mono hw) hxk) (by rfl)) ?_))) | ((refine is_fa ?_; first | (refine lw_pure rfl (pv_fa (tF rfl) rfl) ?_))) | ((refine is_ia ?_; first | (refine lw_pure rfl (pv_ian (tS rfl) rfl rfl (by omega)) ?_))) | ((refine is_bi ?_; first | (refine lw_pure rfl (pv_lenl (tS rfl) rfl) ?_))))
  refine lw_varN rfl (by first | exact tyv_29 | exact tyv_30 | exact tyv_33 | exact tyv_34 | exact tyv_36 | exact tyv_37 | exact tyv_38 | exact tyv_39 | exact tyv_40 | exact tyv_41 | exact tyv_43 | exact tyv_44 | exact tyv_45 | exact tyv_46 | exact tyv_73 | exact tyv_74 | exact tyv_80 | exact tyv_81 | exact tyv_107 | exact tyv_108 | exact tyv_123 | exact tyv_146 | exact tyv_147 | exact tyv_148 | exact tyv_149) rfl (tZ rfl) (fun _ => rfl) rfl rfl ?_; intro N4 w4 hN4 HV hb
  replace HV : PT w4 N4 37 (encN x) := HV
  replace hw := grow_trans hw hb
  have HX4 := HX2.mono hw
  have HI4 := HI2.mono hw
  replace hG := hG.mono hw
  clear hw hb HX2 HI2
  have hw := Below.refl w4.heap.size w4
  by_cases h16 : 16 ≤ k
  · have hno := hno (by omega)
    repeat' (first | (refine lw_pure rfl (pv_move rfl) ?_) | (refine lw_pure rfl (pv_assign rfl) ?_) | (refine is_cw ?_; first | (refine cw_seq ?_) | (refine cw_region ?_) | (refine cw_true rfl rfl ?_) | (refine cw_ret ?_)) | (refine is_qw ?_; first | (with_reducible refine qw_then ?_) | (with_reducible refine qw_then_ret ?_) | (with_reducible refine qw_in_ret ?_)) | (refine lw_nil ?_) | (refine is_guarded ?_; first | (refine lw_not rfl rfl rfl rfl ?_) | (refine lw_not rfl rfl rfl (by first | assumption | exact decide_eq_true (by omega) | exact decide_eq_false (by omega) | exact dec_notT (by omega) | exact dec_notF (by omega)) ?_)) | ((refine is_bin ?_; first | (refine lw_pure rfl (pv_geq rfl rfl) ?_))) | (refine is_pk ?_; refine lw_pure rfl (pv_pick_t rfl rfl rfl) ?_) | (refine is_pk ?_; refine lw_pure rfl (pv_pick_t rfl (by first | assumption | exact decide_eq_true (by omega) | exact dec_notT (by omega)) rfl) ?_))
    exact qw_ret1 rfl rfl ⟨ret_bool hno.symm, (hE.mono (hG.mono hw).b).b⟩
  cases hm : nameR x.name with
  | false =>
    have hno := hno (fun h => by rw [hm] at h; exact absurd h.2.1 (by simp))
    repeat' (first | (refine lw_pure rfl (pv_move rfl) ?_) | (refine lw_pure rfl (pv_assign rfl) ?_) | (refine lw_call (f := 81) (by kernel_rfl) rfl rfl (rname_e hm (by omega) _) ?_; rintro e w1 ⟨rfl, hb⟩; refine ⟨_, rfl, ?_⟩; replace hw := grow_trans hw hb; clear hb) | (refine is_cw ?_; first | (refine cw_seq ?_) | (refine cw_region ?_) | (refine cw_true rfl rfl ?_) | (refine cw_ret ?_)) | (refine is_qw ?_; first | (with_reducible refine qw_then ?_) | (with_reducible refine qw_then_ret ?_) | (with_reducible refine qw_in_ret ?_)) | (refine lw_nil ?_) | (refine is_guarded ?_; first | (refine lw_not rfl rfl rfl rfl ?_) | (refine lw_on rfl rfl (by first | assumption | exact decide_eq_true (by omega) | exact decide_eq_false (by omega) | exact dec_notT (by omega) | exact dec_notF (by omega)) ?_)) | ((refine is_bin ?_; first | (refine lw_pure rfl (pv_geq rfl rfl) ?_))) | ((refine is_load ?_; first | (refine lw_pure rfl (pv_load (t1 rfl) rfl (by first | exact PT.ld0 (HV.mono hw) rfl | exact PT.ld (HV.mono hw) rfl)) ?_))) | ((refine is_fa ?_; first | (refine lw_pure rfl (pv_fa (tF rfl) rfl) ?_))) | ((refine is_un ?_; first | (refine lw_pure rfl (pv_not rfl) ?_))) | (refine is_pk ?_; refine lw_pure rfl (pv_pick_t rfl rfl rfl) ?_) | (refine is_pk ?_; refine lw_pure rfl (pv_pick_f rfl (by first | assumption | exact decide_eq_false (by omega) | exact dec_notF (by omega)) rfl) ?_))
    exact qw_ret1 rfl rfl ⟨ret_bool hno.symm, (hE.mono (hG.mono hw).b).b⟩
  | true =>
    by_cases htk : 1 ≤ x.tick ∧ x.tick ≤ 1073741824
    rotate_left
    · have hno := hno (fun h => htk (by simpa [tickB] using h.2.2.1))
      repeat' (first | (refine lw_pure rfl (pv_move rfl) ?_) | (refine lw_pure rfl (pv_assign rfl) ?_) | (refine lw_call (f := 81) (by kernel_rfl) rfl rfl (rname_e hm (by omega) _) ?_; rintro e w1 ⟨rfl, hb⟩; refine ⟨_, rfl, ?_⟩; replace hw := grow_trans hw hb; clear hb) | (refine lw_call (f := 54) (by kernel_rfl) rfl rfl (rbtw18_c _ _ _ _) ?_; rintro e w1 ⟨rfl, hb⟩; refine ⟨_, rfl, ?_⟩; replace hw := grow_trans hw hb; clear hb) | (refine is_cw ?_; first | (refine cw_seq ?_) | (refine cw_region ?_) | (refine is_cd ?_; refine cw_true rfl (by first | assumption | exact decide_eq_true (by omega) | exact dec_notT (by omega)) ?_) | (refine cw_ret ?_)) | (refine is_qw ?_; first | (with_reducible refine qw_then ?_) | (with_reducible refine qw_then_ret ?_) | (with_reducible refine qw_in_ret ?_)) | (refine lw_nil ?_) | (refine is_guarded ?_; first | (refine lw_on rfl rfl rfl ?_) | (refine lw_on rfl rfl (by first | assumption | exact decide_eq_true (by omega) | exact decide_eq_false (by omega) | exact dec_notT (by omega) | exact dec_notF (by omega)) ?_)) | ((refine is_bin ?_; first | (refine lw_pure rfl (pv_geq rfl rfl) ?_))) | ((refine is_load ?_; first | (refine lw_pure rfl (pv_load (t1 rfl) rfl (by first | exact PT.ld0 (HV.mono hw) rfl | exact PT.ld (HV.mono hw) rfl)) ?_))) | ((refine is_fa ?_; first | (refine lw_pure rfl (pv_fa (tF rfl) rfl) ?_))) | ((refine is_un ?_; first | (refine lw_pure rfl (pv_not rfl) ?_))) | (refine is_pk ?_; refine lw_pure rfl (pv_pick_f rfl rfl rfl) ?_) | (refine is_pk ?_; refine lw_pure rfl (pv_pick_f rfl (by first | assumption | exact decide_eq_false (by omega) | exact dec_notF (by omega)) rfl) ?_))
      exact qw_ret1 rfl rfl ⟨ret_bool hno.symm, (hE.mono (hG.mono hw).b).b⟩
    repeat' (first | (refine lw_pure rfl (pv_move rfl) ?_) | (refine lw_pure rfl (pv_assign rfl) ?_) | (refine lw_call (f := 81) (by kernel_rfl) rfl rfl (rname_e hm (by omega) _) ?_; rintro e w1 ⟨rfl, hb⟩; refine ⟨_, rfl, ?_⟩; replace hw := grow_trans hw hb; clear hb) | (refine lw_call (f := 54) (by kernel_rfl) rfl rfl (rbtw18_c _ _ _ _) ?_; rintro e w1 ⟨rfl, hb⟩; refine ⟨_, rfl, ?_⟩; replace hw := grow_trans hw hb; clear hb) | (refine is_cw ?_; first | (refine cw_seq ?_) | (refine cw_region ?_) | (refine is_cd ?_; refine cw_false rfl (by first | assumption | exact decide_eq_false (by omega) | exact dec_notF (by omega)) ?_) | (refine cw_skip ?_) | (refine cw_block ?_)) | (refine is_qw ?_; first | (with_reducible refine qw_then ?_)) | (refine lw_nil ?_) | (refine is_guarded ?_; first | (refine lw_on rfl rfl rfl ?_) | (refine lw_on rfl rfl (by first | assumption | exact decide_eq_true (by omega) | exact decide_eq_false (by omega) | exact dec_notT (by omega) | exact dec_notF (by omega)) ?_)) | ((refine is_bin ?_; first | (refine lw_pure rfl (pv_geq rfl rfl) ?_))) | ((refine is_load ?_; first | (refine lw_pure rfl (pv_load (t1 rfl) rfl (by first | exact PT.ld0 (HV.mono hw) rfl | exact PT.ld (HV.mono hw) rfl)) ?_))) | ((refine is_fa ?_; first | (refine lw_pure rfl (pv_fa (tF rfl) rfl) ?_))) | ((refine is_un ?_; first | (refine lw_pure rfl (pv_not rfl) ?_))) | (refine is_pk ?_; refine lw_pure rfl (pv_pick_f rfl rfl rfl) ?_) | (refine is_pk ?_; refine lw_pure rfl (pv_pick_f rfl (by first | assumption | exact decide_eq_false (by omega) | exact dec_notF (by omega)) rfl) ?_))
    refine cw_loop (σ := Nat) (fun j => [(1, .pointer (some ⟨N1, 0, none⟩)), (3, .int .i64 (k : Nat)), (4, .pointer (some ⟨N4, 0, none⟩)), (5, .int .i64 (j : Nat))]) (fun j wq => j ≤ k ∧ Below w4.heap.size w4 wq ∧ ∀ (i : Nat) y, i < j → t.inss[i]? = some y → y.name ≠ x.name) (fun j => k - j) 0 (by repeat' (first | exact trivial | refine ⟨rfl, ?_⟩)) ⟨Nat.zero_le _, hw, fun i y hi => by omega⟩ ?_
    clear hw
    rintro j wq ⟨hj, hw, hd⟩
    by_cases hlj : j < k
    rotate_left
    · repeat' (first | (refine lw_pure rfl (pv_move rfl) ?_) | (refine lw_pure rfl (pv_assign rfl) ?_) | (refine is_cw ?_; first | (refine cw_seq ?_) | (refine cw_region ?_) | (refine is_cd ?_; refine cw_false rfl (by first | assumption | exact decide_eq_false (by omega) | exact dec_notF (by omega)) ?_) | (refine cw_exit ?_)) | (refine is_qw ?_; first | (with_reducible refine qw_then ?_) | (with_reducible refine qw_in ?_) | (with_reducible refine qw_in_hit ?_) | (with_reducible refine qw_then_exit ?_)) | (refine lw_nil ?_) | ((refine is_bin ?_; first | (refine lw_pure rfl (pv_lss rfl rfl) ?_) | (refine lw_pure rfl (pv_inc rfl rfl (by omega)) ?_))))
      refine qw_round (k + 1) (by repeat' (first | exact trivial | refine ⟨rfl, ?_⟩)) ⟨by omega, (hG.mono hw).b, fun i y hi hy => ?_⟩ (by omega)
      by_cases hik : i = k
      · subst hik
        rw [hxk] at hy; injection hy with hy; subst hy
        exact ⟨by omega, hm, by simpa [tickB] using htk, fun j' y' hj' hy' => hd j' y' (by omega) hy'⟩
      · exact hn2 i y (by omega) hy
    have hyk : t.inss[j]? = some (t.inss[j]'(by omega)) := List.getElem?_eq_getElem _
    generalize t.inss[j]'(by omega) = y at hyk
    repeat' (first | (refine lw_pure rfl (pv_move rfl) ?_) | (refine is_cw ?_; first | (refine cw_seq ?_) | (refine cw_region ?_) | (refine is_cd ?_; refine cw_true rfl (by first | assumption | exact decide_eq_true (by omega) | exact dec_notT (by omega)) ?_) | (refine cw_skip ?_) | (refine cw_block ?_)) | (refine is_qw ?_; first | (with_reducible refine qw_then ?_)) | (refine lw_nil ?_) | ((refine is_bin ?_; first | (refine lw_pure rfl (pv_lss rfl rfl) ?_))))
    refine cw_drawn (fun w' => Below w4.heap.size w4 w') (by kernel_rfl) (by repeat (first | exact NoPanic.body | with_reducible refine NoPanic.then ?_ | with_reducible refine NoPanic.inBlock ?_)) (fun hNP => ?_)
    have hS := hw.drew
    (refine at0 0 rfl (fun w' hq => pv_fa (tF rfl) rfl) ?_)
    (refine at0 1 rfl (fun w' hq => pv_load (t1 rfl) rfl (by first | exact PT.ld0 (HX4.mono hq) rfl | exact PT.ld (HX4.mono hq) rfl | exact PT.ld0 (HV.mono hq) rfl | exact PT.ld (HV.mono hq) rfl | exact SlR.ld (HI4.mono hq) hyk rfl | exact SlR.ld1 (HI4.mono hq) hyk rfl)) ?_)
    (refine at0 2 rfl (fun w' hq => pv_move rfl) ?_)
    (refine at0 3 rfl (fun w' hq => pv_ian (tS rfl) rfl rfl (by omega)) ?_)
    (refine at0 4 rfl (fun w' hq => pv_fa (tF rfl) rfl) ?_)
    (refine at0 5 rfl (fun w' hq => pv_load (t1 rfl) rfl (by first | exact PT.ld0 (HX4.mono hq) rfl | exact PT.ld (HX4.mono hq) rfl | exact PT.ld0 (HV.mono hq) rfl | exact PT.ld (HV.mono hq) rfl | exact SlR.ld (HI4.mono hq) hyk rfl | exact SlR.ld1 (HI4.mono hq) hyk rfl)) ?_)
    (refine at0 6 rfl (fun w' hq => pv_fa (tF rfl) rfl) ?_)
    (refine at0 7 rfl (fun w' hq => pv_load (t1 rfl) rfl (by first | exact PT.ld0 (HX4.mono hq) rfl | exact PT.ld (HX4.mono hq) rfl | exact PT.ld0 (HV.mono hq) rfl | exact PT.ld (HV.mono hq) rfl | exact SlR.ld (HI4.mono hq) hyk rfl | exact SlR.ld1 (HI4.mono hq) hyk rfl)) ?_)
    (refine at0 8 rfl (fun w' hq => pv_seqlD rfl rfl) ?_)
    refine aw_done (by kernel_rfl) ?_
    replace hw := hS; clear hS hNP
    by_cases hxy : y.name = x.name
    · have hno := hno (fun h => h.2.2.2 j y hlj hyk hxy)
      repeat' (first | (refine lw_pure rfl (pv_assign rfl) ?_) | (refine is_cw ?_; first | (refine cw_seq ?_) | (refine cw_region ?_) | (refine is_cd ?_; refine cw_true rfl (by first | assumption | exact decide_eq_true (by omega) | exact dec_notT (by omega)) ?_) | (refine cw_ret ?_)) | (refine is_qw ?_; first | (with_reducible refine qw_then ?_) | (with_reducible refine qw_then_ret ?_) | (with_reducible refine qw_in_ret ?_)) | (refine lw_nil ?_))
      exact qw_ret1 rfl rfl ⟨ret_bool hno.symm, (hE.mono (hG.mono hw).b).b⟩
    · repeat' (first | (refine lw_pure rfl (pv_move rfl) ?_) | (refine lw_pure rfl (pv_assign rfl) ?_) | (refine is_cw ?_; first | (refine cw_region ?_) | (refine is_cd ?_; refine cw_false rfl (by first | assumption | exact decide_eq_false (by omega) | exact dec_notF (by omega)) ?_) | (refine cw_skip ?_)) | (refine is_qw ?_; first | (with_reducible refine qw_then ?_) | (with_reducible refine qw_in ?_)) | (refine lw_nil ?_) | ((refine is_bin ?_; first | (refine lw_pure rfl (pv_inc rfl rfl (by omega)) ?_))))
      refine qw_round (j + 1) (by repeat' (first | exact trivial | refine ⟨rfl, ?_⟩)) ⟨by omega, hw, fun i y' hi hy' => ?_⟩ (by omega)
      by_cases hij : i = j
      · subst hij
        rw [hyk] at hy'; injection hy' with hy'; subst hy'; exact hxy
      · exact hd i y' (by omega) hy'
set_option maxRecDepth 20000 in
set_option maxHeartbeats 4000000 in
theorem rrows_c {s : SttC} {t : Stt} {w : World} (hS0 : StR w s t) : Calls Tryz.prog 57 #[(.agg (encS s).toArray)] w fun e w' => e = .returned (.bool (rowsB t)) ∧ Below w.heap.size w w' := by
  have hE := Ext.refl w
  have hw := Below.refl w.heap.size w
  have hSt := hS0
  obtain ⟨c1, c2, c3, c4, pa, ma, ca, pi, mi, ci, pr, mr, cr, po, mo, co, px, mx, cx⟩ := s; obtain ⟨⟨e1, e2, e3, e4⟩, hma, hmi, hmr, hmo, hmx, HA, HI, HR, HO, HXs⟩ := hS0; simp only at e1 e2 e3 e4 hma hmi hmr hmo hmx HA HI HR HO HXs; subst e1 e2 e3 e4 hma hmi hmr hmo hmx
  have hal := HR.le
  have ham := HR.max
  have hil := HI.le
  have him := HI.max
  unfold rowsB
  refine fn_enter 51 Tryz.func57 rfl rfl rfl ?_
  repeat' (first | (refine is_cw ?_; first | (refine cw_seq ?_) | (refine cw_region ?_)))
  refine lw_boxN rfl rfl (cs := [.int .i64 t.clock, .int .i64 t.fee, .int .i64 t.nord, .int .i64 t.nauc, .slice pa t.accs.length ca, .slice pi t.inss.length ci, .slice pr t.rows.length cr, .slice po t.ords.length co, .slice px t.aucs.length cx]) rfl ?_; intro N1 wn hN1 HX hb; replace hN1 := Nat.le_trans hw.size hN1; replace hw := grow_trans hw hb; clear hb
  replace hE := hE.mono hw; replace HR := HR.mono hw; replace hSt := hSt.mono hw; clear hw; have hw := Below.refl wn.heap.size wn
  have hc := rmay_c (w := wn) rfl HR
  cases hM : mayR t.rows with
  | false =>
    rw [hM] at hc
    repeat' (first | (refine lw_pure rfl (pv_assign rfl) ?_) | (refine lw_call (f := 82) (by kernel_rfl) rfl rfl (hc) ?_; rintro e w1 ⟨rfl, hb⟩; refine ⟨_, rfl, ?_⟩; replace hw := grow_trans hw hb; clear hb) | (refine is_cw ?_; first | (refine cw_seq ?_) | (refine cw_region ?_) | (refine cw_true rfl rfl ?_) | (refine cw_ret ?_)) | (refine is_qw ?_; first | (with_reducible refine qw_then ?_) | (with_reducible refine qw_then_ret ?_)) | (refine lw_nil ?_) | ((refine is_load ?_; first | (refine lw_pure rfl (pv_load (t1 rfl) rfl (by first | exact PT.ld0 (HX.mono hw) rfl | exact PT.ld (HX.mono hw) rfl)) ?_))) | ((refine is_fa ?_; first | (refine lw_pure rfl (pv_fa (tF rfl) rfl) ?_))) | ((refine is_un ?_; first | (refine lw_pure rfl (pv_not rfl) ?_))))
    exact qw_ret1 rfl rfl ⟨rfl, (hE.mono hw).b⟩
  | true =>
    rw [hM] at hc
    repeat' (first | (refine lw_pure rfl (pv_assign rfl) ?_) | (refine lw_call (f := 82) (by kernel_rfl) rfl rfl (hc) ?_; rintro e w1 ⟨rfl, hb⟩; refine ⟨_, rfl, ?_⟩; replace hw := grow_trans hw hb; clear hb) | (refine is_cw ?_; first | (refine cw_seq ?_) | (refine cw_region ?_) | (refine cw_false rfl rfl ?_) | (refine cw_skip ?_) | (refine cw_block ?_)) | (refine is_qw ?_; first | (with_reducible refine qw_then ?_)) | (refine lw_nil ?_) | ((refine is_load ?_; first | (refine lw_pure rfl (pv_load (t1 rfl) rfl (by first | exact PT.ld0 (HX.mono hw) rfl | exact PT.ld (HX.mono hw) rfl)) ?_))) | ((refine is_fa ?_; first | (refine lw_pure rfl (pv_fa (tF rfl) rfl) ?_))) | ((refine is_un ?_; first | (refine lw_pure rfl (pv_not rfl) ?_))))
    refine cw_loop (σ := Nat) (fun k => [(1, .pointer (some ⟨N1, 0, none⟩)), (3, .int .i64 (k : Nat))]) (fun k wr => k ≤ t.rows.length ∧ Below wn.heap.size wn wr ∧ ∀ (i : Nat) x, i < k → t.rows[i]? = some x → rowW t x = false) (fun k => t.rows.length - k) 0 (by repeat' (first | exact trivial | refine ⟨rfl, ?_⟩)) ⟨Nat.zero_le _, hw, fun i x hi => by omega⟩ ?_
    clear hw hc
    rintro k wr ⟨hk, hw, hn2⟩
    by_cases hlt : k < t.rows.length
    rotate_left
    · have hok : t.rows.any (rowW t) = false := List.any_eq_false.2 (all_get fun i x hx => by rw [hn2 i x (by have := (List.getElem?_eq_some_iff.1 hx).1; omega) hx]; simp)
      repeat' (first | (refine lw_pure rfl (pv_move rfl) ?_) | (refine lw_pure rfl (pv_assign rfl) ?_) | (refine is_cw ?_; first | (refine cw_seq ?_) | (refine cw_region ?_) | (refine is_cd ?_; refine cw_false rfl (by first | assumption | exact decide_eq_false (by omega) | exact dec_notF (by omega)) ?_) | (refine cw_exit ?_) | (refine cw_ret ?_)) | (refine is_qw ?_; first | (with_reducible refine qw_then ?_) | (with_reducible refine qw_in_hit ?_) | (with_reducible refine qw_then_exit ?_)) | (refine lw_nil ?_) | ((refine is_bin ?_; first | (refine lw_pure rfl (pv_lss rfl rfl) ?_))) | ((refine is_load ?_; first | (refine lw_pure rfl (pv_load (t1 rfl) rfl (by first | exact PT.ld0 (HX.mono hw) rfl | exact PT.ld (HX.mono hw) rfl)) ?_))) | ((refine is_fa ?_; first | (refine lw_pure rfl (pv_fa (tF rfl) rfl) ?_))) | ((refine is_bi ?_; first | (refine lw_pure rfl (pv_lenl (tS rfl) rfl) ?_))))
      exact qw_ret1 rfl rfl ⟨ret_bool (by rw [hok]; rfl), (hE.mono hw).b⟩
    have hxk : t.rows[k]? = some (t.rows[k]'(by omega)) := List.getElem?_eq_getElem _
    generalize t.rows[k]'(by omega) = x at hxk
    have ha0 : 0 ≤ x.acct := (there_iff.1 ((mayR_iff.1 hM).1 x (List.mem_of_getElem? hxk)).1).1
    have hW : rowW t x = ((decide (0 < x.acct) && !openB t.accs x.acct) || decide ((t.inss.length : Nat) < x.asset)) := by
      unfold rowW
      rw [show decide (x.acct ≠ 0) = decide (0 < x.acct) from by rw [decide_eq_decide]; omega]
    have hno : rowW t x = true → t.rows.any (rowW t) = true := fun h => List.any_eq_true.2 ⟨x, List.mem_of_getElem? hxk, h⟩
    have hst : rowW t x = false → ∀ (i : Nat) y, i < k + 1 → t.rows[i]? = some y → rowW t y = false := fun h i y hi hy => by
      by_cases hik : i = k
      · subst hik
        rw [hxk] at hy; injection hy with hy; subst hy; exact h
      · exact hn2 i y (by omega) hy
    obtain ⟨ab, ao, rfl, -, -⟩ := HR.at (by intro h; rw [h] at hlt; simp at hlt)
    have hG := Ext.mk hw
    have HX2 := HX.mono hw
    have HR2 := HR.mono hw
    have hS2 := hSt.mono hw
    clear hw
    have hw := Below.refl wr.heap.size wr
    have c1 := fun (w' : World) (hb : Below wr.heap.size wr w') => racct_c (a := x.acct) (hS2.mono hb)
    dsimp only [encS] at c1
    repeat' (first | (refine lw_pure rfl (pv_move rfl) ?_) | (refine is_cw ?_; first | (refine cw_seq ?_) | (refine cw_region ?_) | (refine is_cd ?_; refine cw_true rfl (by first | assumption | exact decide_eq_true (by omega) | exact dec_notT (by omega)) ?_) | (refine cw_skip ?_) | (refine cw_block ?_)) | (refine is_qw ?_; first | (with_reducible refine qw_then ?_)) | (refine lw_nil ?_) | ((refine is_bin ?_; first | (refine lw_pure rfl (pv_lss rfl rfl) ?_))) | ((refine is_load ?_; first | (refine lw_pure rfl (pv_load (t1 rfl) rfl (by first | exact PT.ld0 (HX2.mono hw) rfl | exact PT.ld (HX2.mono hw) rfl)) ?_))) | ((refine is_fa ?_; first | (refine lw_pure rfl (pv_fa (tF rfl) rfl) ?_))) | ((refine is_bi ?_; first | (refine lw_pure rfl (pv_lenl (tS rfl) rfl) ?_))))
    refine cw_cutq (σ := Unit) (fun _ => [(1, .pointer (some ⟨N1, 0, none⟩)), (3, .int .i64 (k : Nat)), (5, .bool (openB t.accs x.acct))]) (fun _ w' => Below wr.heap.size wr w' ∧ (True)) ?_ ?_
    · skip
      refine cw_drawn (fun w' => Below wr.heap.size wr w') (by kernel_rfl) (by repeat (first | exact NoPanic.body | with_reducible refine NoPanic.then ?_ | with_reducible refine NoPanic.inBlock ?_)) (fun hNP => ?_)
      have hS := hw.drew
      (refine at0 0 rfl (fun w' hq => pv_loada (tA rfl) rfl (by first | exact PT.lda (HX2.mono hq) | exact SlR.lda (HR2.mono hq) hxk) (by rfl)) ?_)
      (refine at0 1 rfl (fun w' hq => pv_fa (tF rfl) rfl) ?_)
      (refine at0 2 rfl (fun w' hq => pv_load (t1 rfl) rfl (by first | exact PT.ld0 (HX2.mono hq) rfl | exact PT.ld (HX2.mono hq) rfl | exact SlR.ld (HR2.mono hq) hxk rfl | exact SlR.ld1 (HR2.mono hq) hxk rfl)) ?_)
      (refine at0 3 rfl (fun w' hq => pv_move rfl) ?_)
      (refine at0 4 rfl (fun w' hq => pv_ian (tS rfl) rfl rfl (by omega)) ?_)
      (refine at0 5 rfl (fun w' hq => pv_fa (tF rfl) rfl) ?_)
      (refine at0 6 rfl (fun w' hq => pv_load (t1 rfl) rfl (by first | exact PT.ld0 (HX2.mono hq) rfl | exact PT.ld (HX2.mono hq) rfl | exact SlR.ld (HR2.mono hq) hxk rfl | exact SlR.ld1 (HR2.mono hq) hxk rfl)) ?_)
      refine aw_act2 7 11 (by kernel_rfl) rfl rfl rfl rfl rfl rfl ?_ ?_
      · refine act_call (f := 24) (by kernel_rfl) rfl (c1 _ hS) ?_; rintro e w1 ⟨rfl, hb⟩; refine ⟨_, rfl, grow_trans hS hb, fun hS => ?_⟩; (try replace HA5 := HA5.mono hb); clear hb
        (refine at0 8 rfl (fun w' hq => pv_move rfl) ?_)
        (refine at0 9 rfl (fun w' hq => pv_extract rfl rfl) ?_)
        (refine at0 10 rfl (fun w' hq => pv_extract rfl rfl) ?_)
        refine aw_act 11 (by kernel_rfl) rfl rfl rfl ?_
        refine act_alloc (cs := [.string ByteArray.empty, .bool false]) (by first | exact tyv_29 | exact tyv_30 | exact tyv_33 | exact tyv_34 | exact tyv_36 | exact tyv_37 | exact tyv_38 | exact tyv_39 | exact tyv_40 | exact tyv_41 | exact tyv_43 | exact tyv_44 | exact tyv_45 | exact tyv_46 | exact tyv_73 | exact tyv_74 | exact tyv_80 | exact tyv_81 | exact tyv_107 | exact tyv_108 | exact tyv_123 | exact tyv_146 | exact tyv_147 | exact tyv_148 | exact tyv_149) rfl ?_; intro N5 w5 hN5 HA5 hb; replace hN5 := Nat.le_trans hS.size hN5; refine ⟨grow_trans hS hb, fun hS => ?_⟩; clear hb
        refine aw_act 12 (by kernel_rfl) rfl rfl rfl ?_
        refine act_storea HA5 (tZ rfl) rfl rfl rfl rfl (by simp [Value.oneCell', encA]) ?_; intro ws HA5 hg hz; refine ⟨st_hw hS hg hN5, fun hS => ?_⟩
        (refine at0 13 rfl (fun w' hq => pv_assign rfl) ?_)
        refine aw_done (by kernel_rfl) ?_
        replace hw := hS; clear hS hNP
        exact qw_join () (by repeat' (first | exact trivial | refine ⟨rfl, ?_⟩)) ⟨hw, trivial⟩
      · refine act_alloc (cs := [.string ByteArray.empty, .bool false]) (by first | exact tyv_29 | exact tyv_30 | exact tyv_33 | exact tyv_34 | exact tyv_36 | exact tyv_37 | exact tyv_38 | exact tyv_39 | exact tyv_40 | exact tyv_41 | exact tyv_43 | exact tyv_44 | exact tyv_45 | exact tyv_46 | exact tyv_73 | exact tyv_74 | exact tyv_80 | exact tyv_81 | exact tyv_107 | exact tyv_108 | exact tyv_123 | exact tyv_146 | exact tyv_147 | exact tyv_148 | exact tyv_149) rfl ?_; intro N5 w5 hN5 HA5 hb; replace hN5 := Nat.le_trans hS.size hN5; refine ⟨grow_trans hS hb, fun hS => ?_⟩; clear hb
        refine aw_act 7 (by kernel_rfl) rfl rfl rfl ?_
        refine act_call (f := 24) (by kernel_rfl) rfl (c1 _ hS) ?_; rintro e w1 ⟨rfl, hb⟩; refine ⟨_, rfl, grow_trans hS hb, fun hS => ?_⟩; (try replace HA5 := HA5.mono hb); clear hb
        (refine at0 8 rfl (fun w' hq => pv_move rfl) ?_)
        (refine at0 9 rfl (fun w' hq => pv_extract rfl rfl) ?_)
        (refine at0 10 rfl (fun w' hq => pv_extract rfl rfl) ?_)
        refine aw_act 12 (by kernel_rfl) rfl rfl rfl ?_
        refine act_storea HA5 (tZ rfl) rfl rfl rfl rfl (by simp [Value.oneCell', encA]) ?_; intro ws HA5 hg hz; refine ⟨st_hw hS hg hN5, fun hS => ?_⟩
        (refine at0 13 rfl (fun w' hq => pv_assign rfl) ?_)
        refine aw_done (by kernel_rfl) ?_
        replace hw := hS; clear hS hNP
        exact qw_join () (by repeat' (first | exact trivial | refine ⟨rfl, ?_⟩)) ⟨hw, trivial⟩
    clear hw
    rintro ⟨⟩ wa ⟨hw, -⟩
    clear c1
    repeat' (first | (refine is_cw ?_; first | (refine cw_seq ?_)))
    refine cw_drawn (fun w' => Below wr.heap.size wr w') (by kernel_rfl) (by repeat (first | exact NoPanic.body | with_reducible refine NoPanic.then ?_ | with_reducible refine NoPanic.inBlock ?_)) (fun hNP => ?_)
    have hS := hw.drew
    cases hO : openB t.accs x.acct <;> by_cases h0 : 0 < x.acct <;> by_cases hL : (t.inss.length : Int) < x.asset
    all_goals (refine at0 0 rfl (fun w' hq => pv_fa (tF rfl) rfl) ?_)
    all_goals (refine at0 1 rfl (fun w' hq => pv_load (t1 rfl) rfl (by first | exact PT.ld0 (HX2.mono hq) rfl | exact PT.ld (HX2.mono hq) rfl | exact SlR.ld (HR2.mono hq) hxk rfl | exact SlR.ld1 (HR2.mono hq) hxk rfl)) ?_)
    all_goals (refine at0 2 rfl (fun w' hq => pv_move rfl) ?_)
    all_goals (refine at0 3 rfl (fun w' hq => pv_ian (tS rfl) rfl rfl (by omega)) ?_)
    all_goals (refine at0 4 rfl (fun w' hq => pv_fa (tF rfl) rfl) ?_)
    all_goals (refine at0 5 rfl (fun w' hq => pv_load (t1 rfl) rfl (by first | exact PT.ld0 (HX2.mono hq) rfl | exact PT.ld (HX2.mono hq) rfl | exact SlR.ld (HR2.mono hq) hxk rfl | exact SlR.ld1 (HR2.mono hq) hxk rfl)) ?_)
    all_goals (refine at0 6 rfl (fun w' hq => pv_gtr rfl rfl) ?_)
    all_goals (refine at0 7 rfl (fun w' hq => pv_move rfl) ?_)
    all_goals first | (refine an2 8 rfl rfl rfl ?_) | (refine at2 8 rfl rfl rfl (fun w' hq => pv_move rfl) ?_)
    all_goals first | (refine an2 9 rfl rfl rfl ?_) | (refine at2 9 rfl rfl rfl (fun w' hq => pv_not rfl) ?_)
    all_goals first | (refine at0 10 rfl (fun w' hq => pv_pick_t rfl (by first | assumption | exact decide_eq_true (by omega) | exact dec_notT (by omega)) rfl) ?_) | (refine at0 10 rfl (fun w' hq => pv_pick_f rfl (by first | assumption | exact decide_eq_false (by omega) | exact dec_notF (by omega)) rfl) ?_)
    all_goals (refine at0 11 rfl (fun w' hq => pv_move rfl) ?_)
    all_goals first | (refine an1 12 rfl rfl rfl rfl ?_) | (refine at1 12 rfl rfl rfl rfl (fun w' hq => pv_fa (tF rfl) rfl) ?_)
    all_goals first | (refine an1 13 rfl rfl rfl rfl ?_) | (refine at1 13 rfl rfl rfl rfl (fun w' hq => pv_load (t1 rfl) rfl (by first | exact PT.ld0 (HX2.mono hq) rfl | exact PT.ld (HX2.mono hq) rfl | exact SlR.ld (HR2.mono hq) hxk rfl | exact SlR.ld1 (HR2.mono hq) hxk rfl)) ?_)
    all_goals first | (refine an1 14 rfl rfl rfl rfl ?_) | (refine at1 14 rfl rfl rfl rfl (fun w' hq => pv_move rfl) ?_)
    all_goals first | (refine an1 15 rfl rfl rfl rfl ?_) | (refine at1 15 rfl rfl rfl rfl (fun w' hq => pv_ian (tS rfl) rfl rfl (by omega)) ?_)
    all_goals first | (refine an1 16 rfl rfl rfl rfl ?_) | (refine at1 16 rfl rfl rfl rfl (fun w' hq => pv_fa (tF rfl) rfl) ?_)
    all_goals first | (refine an1 17 rfl rfl rfl rfl ?_) | (refine at1 17 rfl rfl rfl rfl (fun w' hq => pv_load (t1 rfl) rfl (by first | exact PT.ld0 (HX2.mono hq) rfl | exact PT.ld (HX2.mono hq) rfl | exact SlR.ld (HR2.mono hq) hxk rfl | exact SlR.ld1 (HR2.mono hq) hxk rfl)) ?_)
    all_goals first | (refine an1 18 rfl rfl rfl rfl ?_) | (refine at1 18 rfl rfl rfl rfl (fun w' hq => pv_fa (tF rfl) rfl) ?_)
    all_goals first | (refine an1 19 rfl rfl rfl rfl ?_) | (refine at1 19 rfl rfl rfl rfl (fun w' hq => pv_load (t1 rfl) rfl (by first | exact PT.ld0 (HX2.mono hq) rfl | exact PT.ld (HX2.mono hq) rfl | exact SlR.ld (HR2.mono hq) hxk rfl | exact SlR.ld1 (HR2.mono hq) hxk rfl)) ?_)
    all_goals first | (refine an1 20 rfl rfl rfl rfl ?_) | (refine at1 20 rfl rfl rfl rfl (fun w' hq => pv_lenl (tS rfl) rfl) ?_)
    all_goals first | (refine an1 21 rfl rfl rfl rfl ?_) | (refine at1 21 rfl rfl rfl rfl (fun w' hq => pv_gtr rfl rfl) ?_)
    all_goals first | (refine at0 22 rfl (fun w' hq => pv_pick_t rfl rfl rfl) ?_) | (refine at0 22 rfl (fun w' hq => pv_pick_f rfl rfl rfl) ?_)
    all_goals (refine aw_done (by kernel_rfl) ?_; replace hw := hS; clear hS hNP)
    repeat' (first | (refine lw_pure rfl (pv_move rfl) ?_) | (refine lw_pure rfl (pv_assign rfl) ?_) | (refine is_cw ?_; first | (refine cw_seq ?_) | (refine cw_region ?_) | (refine cw_true rfl rfl ?_) | (refine is_cd ?_; refine cw_true rfl (by first | assumption | exact decide_eq_true (by omega) | exact dec_notT (by omega)) ?_) | (refine is_cd ?_; refine cw_false rfl (by first | assumption | exact decide_eq_false (by omega) | exact dec_notF (by omega)) ?_) | (refine cw_skip ?_) | (refine cw_ret ?_)) | (refine is_qw ?_; first | (with_reducible refine qw_then ?_) | (with_reducible refine qw_in ?_) | (with_reducible refine qw_then_ret ?_) | (with_reducible refine qw_in_ret ?_)) | (refine lw_nil ?_) | ((refine is_bin ?_; first | (refine lw_pure rfl (pv_inc rfl rfl (by omega)) ?_))))
    all_goals first | (refine qw_round (k + 1) (by repeat' (first | exact trivial | refine ⟨rfl, ?_⟩)) ⟨by omega, (hG.mono hw).b, hst ?_⟩ (by omega); rw [hW, hO]; simp [h0, hL]; done) | (refine qw_ret1 rfl rfl ⟨ret_bool ?_, (hE.mono (hG.mono hw).b).b⟩; rw [hno (by rw [hW, hO]; simp [h0, hL])]; rfl)

theorem racct_e {s : SttC} {t : Stt} {a : Int} {x : Acc} {b : Bool} {w : World} (h : accOf t.accs a = (x, b)) (hS : StR w s t) : Calls Tryz.prog 24 #[(.agg (encS s).toArray), .int .i64 a] w fun e w' => e = .returned (.tuple #[.agg (encA x).toArray, .bool b]) ∧ Below w.heap.size w w' := by
  have := racct_c (a := a) hS; rw [h] at this; exact this
theorem rinst_e {s : SttC} {t : Stt} {a : Int} {x : Ins} {b : Bool} {w : World} (h : insOf t.inss a = (x, b)) (hS : StR w s t) : Calls Tryz.prog 25 #[(.agg (encS s).toArray), .int .i64 a] w fun e w' => e = .returned (.tuple #[.agg (encN x).toArray, .bool b]) ∧ Below w.heap.size w w' := by
  have := rinst_c (a := a) hS; rw [h] at this; exact this
set_option maxRecDepth 20000 in
set_option maxHeartbeats 4000000 in
theorem rorders_c {s : SttC} {t : Stt} {w : World} (hS0 : StR w s t) (hi : inssB t.inss = true) : Calls Tryz.prog 58 #[(.agg (encS s).toArray)] w fun e w' => e = .returned (.bool (ordsB t)) ∧ Below w.heap.size w w' := by
  have hE := Ext.refl w
  have hw := Below.refl w.heap.size w
  have hSt := hS0
  obtain ⟨c1, c2, c3, c4, pa, ma, ca, pi, mi, ci, pr, mr, cr, po, mo, co, px, mx, cx⟩ := s; obtain ⟨⟨e1, e2, e3, e4⟩, hma, hmi, hmr, hmo, hmx, HA, HI, HR, HO, HXs⟩ := hS0; simp only at e1 e2 e3 e4 hma hmi hmr hmo hmx HA HI HR HO HXs; subst e1 e2 e3 e4 hma hmi hmr hmo hmx
  have hal := HO.le
  have ham := HO.max
  unfold ordsB
  refine fn_enter 60 Tryz.func58 rfl rfl rfl ?_
  repeat' (first | (refine is_cw ?_; first | (refine cw_seq ?_) | (refine cw_region ?_)))
  refine lw_boxN rfl rfl (cs := [.int .i64 t.clock, .int .i64 t.fee, .int .i64 t.nord, .int .i64 t.nauc, .slice pa t.accs.length ca, .slice pi t.inss.length ci, .slice pr t.rows.length cr, .slice po t.ords.length co, .slice px t.aucs.length cx]) rfl ?_; intro N1 wn hN1 HX hb; replace hN1 := Nat.le_trans hw.size hN1; replace hw := grow_trans hw hb; clear hb
  replace hE := hE.mono hw; replace HO := HO.mono hw; replace hSt := hSt.mono hw; clear hw; have hw := Below.refl wn.heap.size wn
  have hc := rmay_O (w := wn) rfl HO
  cases hM : mayO t.ords with
  | false =>
    rw [hM] at hc
    repeat' (first | (refine lw_pure rfl (pv_assign rfl) ?_) | (refine lw_call (f := 83) (by kernel_rfl) rfl rfl (hc) ?_; rintro e w1 ⟨rfl, hb⟩; refine ⟨_, rfl, ?_⟩; replace hw := grow_trans hw hb; clear hb) | (refine is_cw ?_; first | (refine cw_seq ?_) | (refine cw_region ?_) | (refine cw_true rfl rfl ?_) | (refine cw_ret ?_)) | (refine is_qw ?_; first | (with_reducible refine qw_then ?_) | (with_reducible refine qw_then_ret ?_)) | (refine lw_nil ?_) | ((refine is_load ?_; first | (refine lw_pure rfl (pv_load (t1 rfl) rfl (by first | exact PT.ld0 (HX.mono hw) rfl | exact PT.ld (HX.mono hw) rfl)) ?_))) | ((refine is_fa ?_; first | (refine lw_pure rfl (pv_fa (tF rfl) rfl) ?_))) | ((refine is_un ?_; first | (refine lw_pure rfl (pv_not rfl) ?_))))
    exact qw_ret1 rfl rfl ⟨rfl, (hE.mono hw).b⟩
  | true =>
    rw [hM] at hc
    repeat' (first | (refine lw_pure rfl (pv_assign rfl) ?_) | (refine lw_call (f := 83) (by kernel_rfl) rfl rfl (hc) ?_; rintro e w1 ⟨rfl, hb⟩; refine ⟨_, rfl, ?_⟩; replace hw := grow_trans hw hb; clear hb) | (refine is_cw ?_; first | (refine cw_seq ?_) | (refine cw_region ?_) | (refine cw_false rfl rfl ?_) | (refine cw_skip ?_) | (refine cw_block ?_)) | (refine is_qw ?_; first | (with_reducible refine qw_then ?_)) | (refine lw_nil ?_) | ((refine is_load ?_; first | (refine lw_pure rfl (pv_load (t1 rfl) rfl (by first | exact PT.ld0 (HX.mono hw) rfl | exact PT.ld (HX.mono hw) rfl)) ?_))) | ((refine is_fa ?_; first | (refine lw_pure rfl (pv_fa (tF rfl) rfl) ?_))) | ((refine is_un ?_; first | (refine lw_pure rfl (pv_not rfl) ?_))))
    refine cw_loop (σ := Nat) (fun k => [(1, .pointer (some ⟨N1, 0, none⟩)), (3, .int .i64 (k : Nat))]) (fun k wr => k ≤ t.ords.length ∧ Below wn.heap.size wn wr ∧ ∀ (i : Nat) x, i < k → t.ords[i]? = some x → ordW t x = false) (fun k => t.ords.length - k) 0 (by repeat' (first | exact trivial | refine ⟨rfl, ?_⟩)) ⟨Nat.zero_le _, hw, fun i x hi => by omega⟩ ?_
    clear hw hc
    rintro k wr ⟨hk, hw, hn2⟩
    by_cases hlt : k < t.ords.length
    rotate_left
    · have hok : t.ords.any (ordW t) = false := List.any_eq_false.2 (all_get fun i x hx => by rw [hn2 i x (by have := (List.getElem?_eq_some_iff.1 hx).1; omega) hx]; simp)
      repeat' (first | (refine lw_pure rfl (pv_move rfl) ?_) | (refine lw_pure rfl (pv_assign rfl) ?_) | (refine is_cw ?_; first | (refine cw_seq ?_) | (refine cw_region ?_) | (refine is_cd ?_; refine cw_false rfl (by first | assumption | exact decide_eq_false (by omega) | exact dec_notF (by omega)) ?_) | (refine cw_exit ?_) | (refine cw_ret ?_)) | (refine is_qw ?_; first | (with_reducible refine qw_then ?_) | (with_reducible refine qw_in_hit ?_) | (with_reducible refine qw_then_exit ?_)) | (refine lw_nil ?_) | ((refine is_bin ?_; first | (refine lw_pure rfl (pv_lss rfl rfl) ?_))) | ((refine is_load ?_; first | (refine lw_pure rfl (pv_load (t1 rfl) rfl (by first | exact PT.ld0 (HX.mono hw) rfl | exact PT.ld (HX.mono hw) rfl)) ?_))) | ((refine is_fa ?_; first | (refine lw_pure rfl (pv_fa (tF rfl) rfl) ?_))) | ((refine is_bi ?_; first | (refine lw_pure rfl (pv_lenl (tS rfl) rfl) ?_))))
      exact qw_ret1 rfl rfl ⟨ret_bool (by rw [hok]; rfl), (hE.mono hw).b⟩
    have hxk : t.ords[k]? = some (t.ords[k]'(by omega)) := List.getElem?_eq_getElem _
    generalize t.ords[k]'(by omega) = o at hxk
    have hm := (mayO_iff.1 hM).2.1 o (List.mem_of_getElem? hxk)
    have g := mayOne_iff.1 hm
    generalize hI : insOf t.inss o.inst = xb
    obtain ⟨x, b⟩ := xb
    generalize hA : accOf t.accs o.acct = ab
    obtain ⟨y, c⟩ := ab
    have hW : ordW t o = (decide (t.nord ≤ o.id) || (!c || (!b || decide (o.price % x.tick ≠ 0)))) := by
      unfold ordW isB openB; rw [hI, hA]
    have hno : ordW t o = true → t.ords.any (ordW t) = true := fun h => List.any_eq_true.2 ⟨o, List.mem_of_getElem? hxk, h⟩
    have hst : ordW t o = false → ∀ (i : Nat) y, i < k + 1 → t.ords[i]? = some y → ordW t y = false := fun h i y hi hy => by
      by_cases hik : i = k
      · subst hik
        rw [hxk] at hy; injection hy with hy; subst hy; exact h
      · exact hn2 i y (by omega) hy
    obtain ⟨ab, ao, rfl, -, -⟩ := HO.at (by intro h; rw [h] at hlt; simp at hlt)
    have hG := Ext.mk hw
    have HX2 := HX.mono hw
    have HO2 := HO.mono hw
    have hS2 := hSt.mono hw
    clear hw
    have hw := Below.refl wr.heap.size wr
    repeat' (first | (refine lw_pure rfl (pv_move rfl) ?_) | (refine is_cw ?_; first | (refine cw_seq ?_) | (refine cw_region ?_) | (refine is_cd ?_; refine cw_true rfl (by first | assumption | exact decide_eq_true (by omega) | exact dec_notT (by omega)) ?_) | (refine cw_skip ?_) | (refine cw_block ?_)) | (refine is_qw ?_; first | (with_reducible refine qw_then ?_)) | (refine lw_nil ?_) | ((refine is_bin ?_; first | (refine lw_pure rfl (pv_lss rfl rfl) ?_))) | ((refine is_load ?_; first | (refine lw_pure rfl (pv_load (t1 rfl) rfl (by first | exact PT.ld0 (HX2.mono hw) rfl | exact PT.ld (HX2.mono hw) rfl | exact SlR.ld (HO2.mono hw) hxk rfl | exact SlR.ld1 (HO2.mono hw) hxk rfl)) ?_) | (refine lw_pure rfl (pv_loada (tA rfl) rfl (by first | exact PT.lda (HX2.mono hw) | exact SlR.lda (HO2.mono hw) hxk) (by rfl)) ?_))) | ((refine is_fa ?_; first | (refine lw_pure rfl (pv_fa (tF rfl) rfl) ?_))) | ((refine is_ia ?_; first | (refine lw_pure rfl (pv_ian (tS rfl) rfl rfl (by omega)) ?_))) | ((refine is_bi ?_; first | (refine lw_pure rfl (pv_lenl (tS rfl) rfl) ?_))))
    refine lw_varN rfl (by first | exact tyv_29 | exact tyv_30 | exact tyv_33 | exact tyv_34 | exact tyv_36 | exact tyv_37 | exact tyv_38 | exact tyv_39 | exact tyv_40 | exact tyv_41 | exact tyv_43 | exact tyv_44 | exact tyv_45 | exact tyv_46 | exact tyv_73 | exact tyv_74 | exact tyv_80 | exact tyv_81 | exact tyv_107 | exact tyv_108 | exact tyv_123 | exact tyv_146 | exact tyv_147 | exact tyv_148 | exact tyv_149) rfl (tZ rfl) (fun _ => rfl) rfl rfl ?_; intro N4 w4 hN4 H4 hb
    replace H4 : PT w4 N4 41 (encO o) := H4
    replace hw := grow_trans hw hb
    have HX4 := HX2.mono hw
    replace hS2 := hS2.mono hw
    replace hG := hG.mono hw
    clear hw hb HX2 HO2
    have hw := Below.refl w4.heap.size w4
    repeat' (first | (refine is_cw ?_; first | (refine cw_seq ?_) | (refine cw_region ?_)) | (refine is_qw ?_; first | (with_reducible refine qw_then ?_)) | (refine lw_nil ?_) | ((refine is_load ?_; first | (refine lw_pure rfl (pv_load (t1 rfl) rfl (by first | exact PT.ld0 (HX4.mono hw) rfl | exact PT.ld (HX4.mono hw) rfl | exact PT.ld0 (H4.mono hw) rfl | exact PT.ld (H4.mono hw) rfl)) ?_) | (refine lw_pure rfl (pv_loada (tA rfl) rfl (by first | exact PT.lda (HX4.mono hw) | exact PT.lda (H4.mono hw)) (by rfl)) ?_))) | ((refine is_fa ?_; first | (refine lw_pure rfl (pv_fa (tF rfl) rfl) ?_))))
    have hcp := racct_e hA (hS2.mono hw); dsimp only [encS] at hcp; refine lw_call (f := 24) (by kernel_rfl) rfl rfl hcp ?_; clear hcp; rintro e w1 ⟨rfl, hb⟩; refine ⟨_, rfl, ?_⟩; replace hw := grow_trans hw hb; clear hb
    repeat' (first | (refine lw_pure rfl (pv_move rfl) ?_) | (refine lw_pure rfl (pv_extract rfl rfl) ?_))
    refine lw_varN rfl (by first | exact tyv_29 | exact tyv_30 | exact tyv_33 | exact tyv_34 | exact tyv_36 | exact tyv_37 | exact tyv_38 | exact tyv_39 | exact tyv_40 | exact tyv_41 | exact tyv_43 | exact tyv_44 | exact tyv_45 | exact tyv_46 | exact tyv_73 | exact tyv_74 | exact tyv_80 | exact tyv_81 | exact tyv_107 | exact tyv_108 | exact tyv_123 | exact tyv_146 | exact tyv_147 | exact tyv_148 | exact tyv_149) rfl (tZ rfl) (fun _ => rfl) rfl rfl ?_; intro N5 w5 hN5 H5 hb
    replace hw := grow_trans hw hb
    clear hb H5
    repeat' (first | (refine lw_pure rfl (pv_assign rfl) ?_) | (refine is_cw ?_; first | (refine cw_seq ?_) | (refine cw_region ?_)) | (refine is_qw ?_; first | (with_reducible refine qw_then ?_)) | (refine lw_nil ?_) | ((refine is_load ?_; first | (refine lw_pure rfl (pv_load (t1 rfl) rfl (by first | exact PT.ld0 (HX4.mono hw) rfl | exact PT.ld (HX4.mono hw) rfl | exact PT.ld0 (H4.mono hw) rfl | exact PT.ld (H4.mono hw) rfl)) ?_) | (refine lw_pure rfl (pv_loada (tA rfl) rfl (by first | exact PT.lda (HX4.mono hw) | exact PT.lda (H4.mono hw)) (by rfl)) ?_))) | ((refine is_fa ?_; first | (refine lw_pure rfl (pv_fa (tF rfl) rfl) ?_))))
    have hcp := rinst_e hI (hS2.mono hw); dsimp only [encS] at hcp; refine lw_call (f := 25) (by kernel_rfl) rfl rfl hcp ?_; clear hcp; rintro e w1 ⟨rfl, hb⟩; refine ⟨_, rfl, ?_⟩; replace hw := grow_trans hw hb; clear hb
    repeat' (first | (refine lw_pure rfl (pv_move rfl) ?_) | (refine lw_pure rfl (pv_extract rfl rfl) ?_))
    refine lw_varN rfl (by first | exact tyv_29 | exact tyv_30 | exact tyv_33 | exact tyv_34 | exact tyv_36 | exact tyv_37 | exact tyv_38 | exact tyv_39 | exact tyv_40 | exact tyv_41 | exact tyv_43 | exact tyv_44 | exact tyv_45 | exact tyv_46 | exact tyv_73 | exact tyv_74 | exact tyv_80 | exact tyv_81 | exact tyv_107 | exact tyv_108 | exact tyv_123 | exact tyv_146 | exact tyv_147 | exact tyv_148 | exact tyv_149) rfl (tZ rfl) (fun _ => rfl) rfl rfl ?_; intro N7 w7 hN7 H7 hb
    replace H7 : PT w7 N7 37 (encN x) := H7
    replace hw := grow_trans hw hb
    replace HX4 := HX4.mono hw
    replace H4 := H4.mono hw
    replace hG := hG.mono hw
    clear hw hb
    have hw := Below.refl w7.heap.size w7
    repeat' (first | (refine lw_pure rfl (pv_assign rfl) ?_) | (refine is_cw ?_; first | (refine cw_seq ?_) | (refine cw_region ?_)) | (refine is_qw ?_; first | (with_reducible refine qw_then ?_)) | (refine lw_nil ?_) | ((refine is_fa ?_; first | (refine lw_pure rfl (pv_fa (tF rfl) rfl) ?_))))
    cases b with
    | true =>
      have htk := ins_tick hI hi
      cases c <;> by_cases hL : t.nord ≤ o.id <;> by_cases hR : o.price % x.tick = 0
      all_goals (repeat' (first | (refine lw_pure rfl (pv_move rfl) ?_) | (refine lw_pure rfl (pv_assign rfl) ?_) | (refine lw_pure rfl (pv_remI rfl rfl (by omega) (by omega)) ?_) | (refine is_cw ?_; first | (refine cw_seq ?_) | (refine cw_region ?_) | (refine cw_true rfl rfl ?_) | (refine is_cd ?_; refine cw_true rfl (by first | assumption | exact decide_eq_true (by omega) | exact dec_notT (by omega)) ?_) | (refine is_cd ?_; refine cw_false rfl (by first | assumption | exact decide_eq_false (by omega) | exact dec_notF (by omega)) ?_) | (refine cw_skip ?_) | (refine cw_ret ?_)) | (refine is_qw ?_; first | (with_reducible refine qw_then ?_) | (with_reducible refine qw_in ?_) | (with_reducible refine qw_then_ret ?_) | (with_reducible refine qw_in_ret ?_)) | (refine lw_nil ?_) | (refine is_guarded ?_; first | (refine lw_not rfl rfl rfl rfl ?_) | (refine lw_on rfl rfl rfl ?_) | (refine lw_on rfl rfl (by first | assumption | exact decide_eq_true (by omega) | exact decide_eq_false (by omega) | exact dec_notT (by omega) | exact dec_notF (by omega)) ?_) | (refine lw_not rfl rfl rfl (by first | assumption | exact decide_eq_true (by omega) | exact decide_eq_false (by omega) | exact dec_notT (by omega) | exact dec_notF (by omega)) ?_)) | ((refine is_bin ?_; first | (refine lw_pure rfl (pv_neq rfl rfl) ?_) | (refine lw_pure rfl (pv_geq rfl rfl) ?_) | (refine lw_pure rfl (pv_inc rfl rfl (by omega)) ?_))) | ((refine is_load ?_; first | (refine lw_pure rfl (pv_load (t1 rfl) rfl (by first | exact PT.ld0 (HX4.mono hw) rfl | exact PT.ld (HX4.mono hw) rfl | exact PT.ld0 (H4.mono hw) rfl | exact PT.ld (H4.mono hw) rfl | exact PT.ld0 (H7.mono hw) rfl | exact PT.ld (H7.mono hw) rfl)) ?_))) | ((refine is_fa ?_; first | (refine lw_pure rfl (pv_fa (tF rfl) rfl) ?_))) | ((refine is_un ?_; first | (refine lw_pure rfl (pv_not rfl) ?_))) | (refine is_pk ?_; refine lw_pure rfl (pv_pick_t rfl rfl rfl) ?_) | (refine is_pk ?_; refine lw_pure rfl (pv_pick_f rfl rfl rfl) ?_) | (refine is_pk ?_; refine lw_pure rfl (pv_pick_t rfl (by first | assumption | exact decide_eq_true (by omega) | exact dec_notT (by omega)) rfl) ?_) | (refine is_pk ?_; refine lw_pure rfl (pv_pick_f rfl (by first | assumption | exact decide_eq_false (by omega) | exact dec_notF (by omega)) rfl) ?_)))
      all_goals first | (refine qw_round (k + 1) (by repeat' (first | exact trivial | refine ⟨rfl, ?_⟩)) ⟨by omega, (hG.mono hw).b, hst ?_⟩ (by omega); rw [hW]; simp [hL, hR]; done) | (refine qw_ret1 rfl rfl ⟨ret_bool ?_, (hE.mono (hG.mono hw).b).b⟩; rw [hno (by rw [hW]; simp [hL, hR])]; rfl)
    | false =>
      cases c <;> by_cases hL : t.nord ≤ o.id
      all_goals (repeat' (first | (refine lw_pure rfl (pv_move rfl) ?_) | (refine lw_pure rfl (pv_assign rfl) ?_) | (refine is_cw ?_; first | (refine cw_seq ?_) | (refine cw_region ?_) | (refine cw_true rfl rfl ?_) | (refine cw_ret ?_)) | (refine is_qw ?_; first | (with_reducible refine qw_then ?_) | (with_reducible refine qw_then_ret ?_) | (with_reducible refine qw_in_ret ?_)) | (refine lw_nil ?_) | (refine is_guarded ?_; first | (refine lw_not rfl rfl rfl rfl ?_) | (refine lw_on rfl rfl rfl ?_) | (refine lw_on rfl rfl (by first | assumption | exact decide_eq_true (by omega) | exact decide_eq_false (by omega) | exact dec_notT (by omega) | exact dec_notF (by omega)) ?_) | (refine lw_not rfl rfl rfl (by first | assumption | exact decide_eq_true (by omega) | exact decide_eq_false (by omega) | exact dec_notT (by omega) | exact dec_notF (by omega)) ?_)) | ((refine is_bin ?_; first | (refine lw_pure rfl (pv_geq rfl rfl) ?_))) | ((refine is_load ?_; first | (refine lw_pure rfl (pv_load (t1 rfl) rfl (by first | exact PT.ld0 (HX4.mono hw) rfl | exact PT.ld (HX4.mono hw) rfl | exact PT.ld0 (H4.mono hw) rfl | exact PT.ld (H4.mono hw) rfl | exact PT.ld0 (H7.mono hw) rfl | exact PT.ld (H7.mono hw) rfl)) ?_))) | ((refine is_fa ?_; first | (refine lw_pure rfl (pv_fa (tF rfl) rfl) ?_))) | ((refine is_un ?_; first | (refine lw_pure rfl (pv_not rfl) ?_))) | (refine is_pk ?_; refine lw_pure rfl (pv_pick_t rfl rfl rfl) ?_) | (refine is_pk ?_; refine lw_pure rfl (pv_pick_f rfl rfl rfl) ?_) | (refine is_pk ?_; refine lw_pure rfl (pv_pick_t rfl (by first | assumption | exact decide_eq_true (by omega) | exact dec_notT (by omega)) rfl) ?_) | (refine is_pk ?_; refine lw_pure rfl (pv_pick_f rfl (by first | assumption | exact decide_eq_false (by omega) | exact dec_notF (by omega)) rfl) ?_)))
      all_goals (refine qw_ret1 rfl rfl ⟨ret_bool ?_, (hE.mono (hG.mono hw).b).b⟩; rw [hno (by rw [hW]; simp [hL])]; rfl)
set_option maxRecDepth 20000 in
set_option maxHeartbeats 4000000 in
theorem rauctions_c {s : SttC} {t : Stt} {w : World} (hS0 : StR w s t) : Calls Tryz.prog 59 #[(.agg (encS s).toArray)] w fun e w' => e = .returned (.bool (aucsB t)) ∧ Below w.heap.size w w' := by
  have hE := Ext.refl w
  have hw := Below.refl w.heap.size w
  have hSt := hS0
  obtain ⟨c1, c2, c3, c4, pa, ma, ca, pi, mi, ci, pr, mr, cr, po, mo, co, px, mx, cx⟩ := s; obtain ⟨⟨e1, e2, e3, e4⟩, hma, hmi, hmr, hmo, hmx, HA, HI, HR, HO, HXs⟩ := hS0; simp only at e1 e2 e3 e4 hma hmi hmr hmo hmx HA HI HR HO HXs; subst e1 e2 e3 e4 hma hmi hmr hmo hmx
  obtain ⟨xs, HX9, HAs⟩ := HXs
  have hal := HX9.le
  have ham := HX9.max
  have hxn := HAs.1
  unfold aucsB
  refine fn_enter 75 Tryz.func59 rfl rfl rfl ?_
  repeat' (first | (refine is_cw ?_; first | (refine cw_seq ?_) | (refine cw_region ?_)))
  refine lw_boxN rfl rfl (cs := [.int .i64 t.clock, .int .i64 t.fee, .int .i64 t.nord, .int .i64 t.nauc, .slice pa t.accs.length ca, .slice pi t.inss.length ci, .slice pr t.rows.length cr, .slice po t.ords.length co, .slice px t.aucs.length cx]) rfl ?_; intro N1 wn hN1 HX hb; replace hN1 := Nat.le_trans hw.size hN1; replace hw := grow_trans hw hb; clear hb
  replace hE := hE.mono hw; replace HX9 := HX9.mono hw; replace HAs := HAs.mono hw; replace hSt := hSt.mono hw; clear hw; have hw := Below.refl wn.heap.size wn
  have hc := ramayAll_c (w := wn) rfl HX9 HAs
  cases hM : mayAus t.aucs with
  | false =>
    rw [hM] at hc
    repeat' (first | (refine lw_pure rfl (pv_assign rfl) ?_) | (refine lw_call (f := 84) (by kernel_rfl) rfl rfl (hc) ?_; rintro e w1 ⟨rfl, hb⟩; refine ⟨_, rfl, ?_⟩; replace hw := grow_trans hw hb; clear hb) | (refine is_cw ?_; first | (refine cw_seq ?_) | (refine cw_region ?_) | (refine cw_true rfl rfl ?_) | (refine cw_ret ?_)) | (refine is_qw ?_; first | (with_reducible refine qw_then ?_) | (with_reducible refine qw_then_ret ?_)) | (refine lw_nil ?_) | ((refine is_load ?_; first | (refine lw_pure rfl (pv_load (t1 rfl) rfl (by first | exact PT.ld0 (HX.mono hw) rfl | exact PT.ld (HX.mono hw) rfl)) ?_))) | ((refine is_fa ?_; first | (refine lw_pure rfl (pv_fa (tF rfl) rfl) ?_))) | ((refine is_un ?_; first | (refine lw_pure rfl (pv_not rfl) ?_))))
    exact qw_ret1 rfl rfl ⟨rfl, (hE.mono hw).b⟩
  | true =>
    rw [hM] at hc
    repeat' (first | (refine lw_pure rfl (pv_assign rfl) ?_) | (refine lw_call (f := 84) (by kernel_rfl) rfl rfl (hc) ?_; rintro e w1 ⟨rfl, hb⟩; refine ⟨_, rfl, ?_⟩; replace hw := grow_trans hw hb; clear hb) | (refine is_cw ?_; first | (refine cw_seq ?_) | (refine cw_region ?_) | (refine cw_false rfl rfl ?_) | (refine cw_skip ?_) | (refine cw_block ?_)) | (refine is_qw ?_; first | (with_reducible refine qw_then ?_)) | (refine lw_nil ?_) | ((refine is_load ?_; first | (refine lw_pure rfl (pv_load (t1 rfl) rfl (by first | exact PT.ld0 (HX.mono hw) rfl | exact PT.ld (HX.mono hw) rfl)) ?_))) | ((refine is_fa ?_; first | (refine lw_pure rfl (pv_fa (tF rfl) rfl) ?_))) | ((refine is_un ?_; first | (refine lw_pure rfl (pv_not rfl) ?_))))
    refine cw_loop (σ := Nat) (fun k => [(1, .pointer (some ⟨N1, 0, none⟩)), (3, .int .i64 (k : Nat))]) (fun k wr => k ≤ t.aucs.length ∧ Below wn.heap.size wn wr ∧ ∀ (i : Nat) x, i < k → t.aucs[i]? = some x → aucW t x = false) (fun k => t.aucs.length - k) 0 (by repeat' (first | exact trivial | refine ⟨rfl, ?_⟩)) ⟨Nat.zero_le _, hw, fun i x hi => by omega⟩ ?_
    clear hw hc
    rintro k wr ⟨hk, hw, hn2⟩
    by_cases hlt : k < t.aucs.length
    rotate_left
    · have hok : t.aucs.any (aucW t) = false := List.any_eq_false.2 (all_get fun i x hx => by rw [hn2 i x (by have := (List.getElem?_eq_some_iff.1 hx).1; omega) hx]; simp)
      repeat' (first | (refine lw_pure rfl (pv_move rfl) ?_) | (refine lw_pure rfl (pv_assign rfl) ?_) | (refine is_cw ?_; first | (refine cw_seq ?_) | (refine cw_region ?_) | (refine is_cd ?_; refine cw_false rfl (by first | assumption | exact decide_eq_false (by omega) | exact dec_notF (by omega)) ?_) | (refine cw_exit ?_) | (refine cw_ret ?_)) | (refine is_qw ?_; first | (with_reducible refine qw_then ?_) | (with_reducible refine qw_in_hit ?_) | (with_reducible refine qw_then_exit ?_)) | (refine lw_nil ?_) | ((refine is_bin ?_; first | (refine lw_pure rfl (pv_lss rfl rfl) ?_))) | ((refine is_load ?_; first | (refine lw_pure rfl (pv_load (t1 rfl) rfl (by first | exact PT.ld0 (HX.mono hw) rfl | exact PT.ld (HX.mono hw) rfl)) ?_))) | ((refine is_fa ?_; first | (refine lw_pure rfl (pv_fa (tF rfl) rfl) ?_))) | ((refine is_bi ?_; first | (refine lw_pure rfl (pv_lenl (tS rfl) rfl) ?_))))
      exact qw_ret1 rfl rfl ⟨ret_bool (by rw [hok]; rfl), (hE.mono hw).b⟩
    have hak : t.aucs[k]? = some (t.aucs[k]'(by omega)) := List.getElem?_eq_getElem _
    generalize t.aucs[k]'(by omega) = x at hak
    obtain ⟨x9, hxk, hR⟩ := HAs.at hak
    obtain ⟨xh, ba, bm, bc⟩ := x9
    obtain ⟨hh, hm, HB0⟩ := hR
    simp only at hh hm HB0
    subst hh hm
    have hbl := HB0.le
    have hbm := HB0.max
    generalize hI : insOf t.inss x.h.inst = xb
    obtain ⟨i, b⟩ := xb
    generalize hA : accOf t.accs x.h.seller = ab
    obtain ⟨y, c⟩ := ab
    have hW : aucW t x = (decide (t.nauc ≤ x.h.id) || (!c || (!b || x.bids.any fun b => !openB t.accs b.acct))) := by
      unfold aucW isB
      rw [show openB t.accs x.h.seller = c from by unfold openB; rw [hA], hI]
    have hno : aucW t x = true → t.aucs.any (aucW t) = true := fun h => List.any_eq_true.2 ⟨x, List.mem_of_getElem? hak, h⟩
    have hst : aucW t x = false → ∀ (i : Nat) y, i < k + 1 → t.aucs[i]? = some y → aucW t y = false := fun h i y hi hy => by
      by_cases hik : i = k
      · subst hik
        rw [hak] at hy; injection hy with hy; subst hy; exact h
      · exact hn2 i y (by omega) hy
    obtain ⟨ab, ao, rfl, -, -⟩ := HX9.at (by intro h; rw [h] at hxk; simp at hxk)
    have hG := Ext.mk hw
    have HX2 := HX.mono hw
    have HX92 := HX9.mono hw
    have HB2 := HB0.mono hw
    have hS2 := hSt.mono hw
    clear hw
    have hw := Below.refl wr.heap.size wr
    repeat' (first | (refine lw_pure rfl (pv_move rfl) ?_) | (refine is_cw ?_; first | (refine cw_seq ?_) | (refine cw_region ?_) | (refine is_cd ?_; refine cw_true rfl (by first | assumption | exact decide_eq_true (by omega) | exact dec_notT (by omega)) ?_) | (refine cw_skip ?_) | (refine cw_block ?_)) | (refine is_qw ?_; first | (with_reducible refine qw_then ?_)) | (refine lw_nil ?_) | ((refine is_bin ?_; first | (refine lw_pure rfl (pv_lss rfl rfl) ?_))) | ((refine is_load ?_; first | (refine lw_pure rfl (pv_load (t1 rfl) rfl (by first | exact PT.ld0 (HX2.mono hw) rfl | exact PT.ld (HX2.mono hw) rfl | exact SlR.ld (HX92.mono hw) hxk rfl | exact SlR.ld1 (HX92.mono hw) hxk rfl)) ?_) | (refine lw_pure rfl (pv_loada (tA rfl) rfl (by first | exact PT.lda (HX2.mono hw) | exact SlR.lda (HX92.mono hw) hxk) (by rfl)) ?_))) | ((refine is_fa ?_; first | (refine lw_pure rfl (pv_fa (tF rfl) rfl) ?_))) | ((refine is_ia ?_; first | (refine lw_pure rfl (pv_ian (tS rfl) rfl rfl (by omega)) ?_))) | ((refine is_bi ?_; first | (refine lw_pure rfl (pv_lenl (tS rfl) rfl) ?_))))
    refine lw_varN rfl (by first | exact tyv_29 | exact tyv_30 | exact tyv_33 | exact tyv_34 | exact tyv_36 | exact tyv_37 | exact tyv_38 | exact tyv_39 | exact tyv_40 | exact tyv_41 | exact tyv_43 | exact tyv_44 | exact tyv_45 | exact tyv_46 | exact tyv_73 | exact tyv_74 | exact tyv_80 | exact tyv_81 | exact tyv_107 | exact tyv_108 | exact tyv_123 | exact tyv_146 | exact tyv_147 | exact tyv_148 | exact tyv_149) rfl (tZ rfl) (fun _ => rfl) rfl rfl ?_; intro N4 w4 hN4 H4 hb
    replace H4 : PT w4 N4 44 [.int .i64 x.h.id, .int .i64 x.h.seller, .int .i64 x.h.inst, .bool x.h.shut, .int .i64 x.h.qty, .int .i64 x.h.reserve, .int .i64 x.h.step, .int .i64 x.h.fin, .slice ba x.bids.length bc] := H4
    replace hw := grow_trans hw hb
    have HX4 := HX2.mono hw
    have HB4 := HB2.mono hw
    replace hS2 := hS2.mono hw
    replace hG := hG.mono hw
    clear hw hb HX2 HX92 HB2
    have hw := Below.refl w4.heap.size w4
    repeat' (first | (refine is_cw ?_; first | (refine cw_seq ?_) | (refine cw_region ?_)) | (refine is_qw ?_; first | (with_reducible refine qw_then ?_)) | (refine lw_nil ?_) | ((refine is_load ?_; first | (refine lw_pure rfl (pv_load (t1 rfl) rfl (by first | exact PT.ld0 (HX4.mono hw) rfl | exact PT.ld (HX4.mono hw) rfl | exact PT.ld0 (H4.mono hw) rfl | exact PT.ld (H4.mono hw) rfl)) ?_) | (refine lw_pure rfl (pv_loada (tA rfl) rfl (by first | exact PT.lda (HX4.mono hw) | exact PT.lda (H4.mono hw)) (by rfl)) ?_))) | ((refine is_fa ?_; first | (refine lw_pure rfl (pv_fa (tF rfl) rfl) ?_))))
    have hcp := racct_e hA (hS2.mono hw); dsimp only [encS] at hcp; refine lw_call (f := 24) (by kernel_rfl) rfl rfl hcp ?_; clear hcp; rintro e w1 ⟨rfl, hb⟩; refine ⟨_, rfl, ?_⟩; replace hw := grow_trans hw hb; clear hb
    repeat' (first | (refine lw_pure rfl (pv_move rfl) ?_) | (refine lw_pure rfl (pv_extract rfl rfl) ?_))
    refine lw_varN rfl (by first | exact tyv_29 | exact tyv_30 | exact tyv_33 | exact tyv_34 | exact tyv_36 | exact tyv_37 | exact tyv_38 | exact tyv_39 | exact tyv_40 | exact tyv_41 | exact tyv_43 | exact tyv_44 | exact tyv_45 | exact tyv_46 | exact tyv_73 | exact tyv_74 | exact tyv_80 | exact tyv_81 | exact tyv_107 | exact tyv_108 | exact tyv_123 | exact tyv_146 | exact tyv_147 | exact tyv_148 | exact tyv_149) rfl (tZ rfl) (fun _ => rfl) rfl rfl ?_; intro N5 w5 hN5 H5 hb
    replace hw := grow_trans hw hb
    clear hb H5
    repeat' (first | (refine lw_pure rfl (pv_assign rfl) ?_) | (refine is_cw ?_; first | (refine cw_seq ?_) | (refine cw_region ?_)) | (refine is_qw ?_; first | (with_reducible refine qw_then ?_)) | (refine lw_nil ?_) | ((refine is_load ?_; first | (refine lw_pure rfl (pv_load (t1 rfl) rfl (by first | exact PT.ld0 (HX4.mono hw) rfl | exact PT.ld (HX4.mono hw) rfl | exact PT.ld0 (H4.mono hw) rfl | exact PT.ld (H4.mono hw) rfl)) ?_) | (refine lw_pure rfl (pv_loada (tA rfl) rfl (by first | exact PT.lda (HX4.mono hw) | exact PT.lda (H4.mono hw)) (by rfl)) ?_))) | ((refine is_fa ?_; first | (refine lw_pure rfl (pv_fa (tF rfl) rfl) ?_))))
    have hcp := rinst_e hI (hS2.mono hw); dsimp only [encS] at hcp; refine lw_call (f := 25) (by kernel_rfl) rfl rfl hcp ?_; clear hcp; rintro e w1 ⟨rfl, hb⟩; refine ⟨_, rfl, ?_⟩; replace hw := grow_trans hw hb; clear hb
    repeat' (first | (refine lw_pure rfl (pv_move rfl) ?_) | (refine lw_pure rfl (pv_extract rfl rfl) ?_))
    refine lw_varN rfl (by first | exact tyv_29 | exact tyv_30 | exact tyv_33 | exact tyv_34 | exact tyv_36 | exact tyv_37 | exact tyv_38 | exact tyv_39 | exact tyv_40 | exact tyv_41 | exact tyv_43 | exact tyv_44 | exact tyv_45 | exact tyv_46 | exact tyv_73 | exact tyv_74 | exact tyv_80 | exact tyv_81 | exact tyv_107 | exact tyv_108 | exact tyv_123 | exact tyv_146 | exact tyv_147 | exact tyv_148 | exact tyv_149) rfl (tZ rfl) (fun _ => rfl) rfl rfl ?_; intro N7 w7 hN7 H7 hb
    replace hw := grow_trans hw hb
    clear hb H7
    by_cases hg : ¬ t.nauc ≤ x.h.id ∧ c = true ∧ b = true
    rotate_left
    · have hno := hno (by
        rw [hW]
        by_cases hL : t.nauc ≤ x.h.id
        · simp [hL]
        · cases c
          · simp
          · cases b
            · simp
            · exact absurd ⟨hL, rfl, rfl⟩ hg)
      cases c <;> cases b <;> by_cases hL : t.nauc ≤ x.h.id
      all_goals (try (simp [hL] at hg; done))
      all_goals (repeat' (first | (refine lw_pure rfl (pv_move rfl) ?_) | (refine lw_pure rfl (pv_assign rfl) ?_) | (refine is_cw ?_; first | (refine cw_seq ?_) | (refine cw_region ?_) | (refine cw_true rfl rfl ?_) | (refine cw_ret ?_)) | (refine is_qw ?_; first | (with_reducible refine qw_then ?_) | (with_reducible refine qw_then_ret ?_) | (with_reducible refine qw_in_ret ?_)) | (refine lw_nil ?_) | (refine is_guarded ?_; first | (refine lw_not rfl rfl rfl rfl ?_) | (refine lw_on rfl rfl rfl ?_) | (refine lw_on rfl rfl (by first | assumption | exact decide_eq_true (by omega) | exact decide_eq_false (by omega) | exact dec_notT (by omega) | exact dec_notF (by omega)) ?_) | (refine lw_not rfl rfl rfl (by first | assumption | exact decide_eq_true (by omega) | exact decide_eq_false (by omega) | exact dec_notT (by omega) | exact dec_notF (by omega)) ?_)) | ((refine is_bin ?_; first | (refine lw_pure rfl (pv_geq rfl rfl) ?_))) | ((refine is_load ?_; first | (refine lw_pure rfl (pv_load (t1 rfl) rfl (by first | exact PT.ld0 (HX4.mono hw) rfl | exact PT.ld (HX4.mono hw) rfl | exact PT.ld0 (H4.mono hw) rfl | exact PT.ld (H4.mono hw) rfl)) ?_))) | ((refine is_fa ?_; first | (refine lw_pure rfl (pv_fa (tF rfl) rfl) ?_))) | ((refine is_un ?_; first | (refine lw_pure rfl (pv_not rfl) ?_))) | (refine is_pk ?_; refine lw_pure rfl (pv_pick_t rfl rfl rfl) ?_) | (refine is_pk ?_; refine lw_pure rfl (pv_pick_f rfl rfl rfl) ?_) | (refine is_pk ?_; refine lw_pure rfl (pv_pick_t rfl (by first | assumption | exact decide_eq_true (by omega) | exact dec_notT (by omega)) rfl) ?_) | (refine is_pk ?_; refine lw_pure rfl (pv_pick_f rfl (by first | assumption | exact decide_eq_false (by omega) | exact dec_notF (by omega)) rfl) ?_)))
      all_goals (refine qw_ret1 rfl rfl ⟨ret_bool ?_, (hE.mono (hG.mono hw).b).b⟩; rw [hno]; rfl)
    obtain ⟨hL, rfl, rfl⟩ := hg
    have hW2 : aucW t x = x.bids.any fun b => !openB t.accs b.acct := by rw [hW]; simp [hL]
    repeat' (first | (refine lw_pure rfl (pv_move rfl) ?_) | (refine lw_pure rfl (pv_assign rfl) ?_) | (refine is_cw ?_; first | (refine cw_seq ?_) | (refine cw_region ?_) | (refine cw_false rfl rfl ?_) | (refine cw_skip ?_) | (refine cw_block ?_)) | (refine is_qw ?_; first | (with_reducible refine qw_then ?_)) | (refine lw_nil ?_) | (refine is_guarded ?_; first | (refine lw_on rfl rfl rfl ?_) | (refine lw_on rfl rfl (by first | assumption | exact decide_eq_true (by omega) | exact decide_eq_false (by omega) | exact dec_notT (by omega) | exact dec_notF (by omega)) ?_)) | ((refine is_bin ?_; first | (refine lw_pure rfl (pv_geq rfl rfl) ?_))) | ((refine is_load ?_; first | (refine lw_pure rfl (pv_load (t1 rfl) rfl (by first | exact PT.ld0 (HX4.mono hw) rfl | exact PT.ld (HX4.mono hw) rfl | exact PT.ld0 (H4.mono hw) rfl | exact PT.ld (H4.mono hw) rfl)) ?_))) | ((refine is_fa ?_; first | (refine lw_pure rfl (pv_fa (tF rfl) rfl) ?_))) | ((refine is_un ?_; first | (refine lw_pure rfl (pv_not rfl) ?_))) | (refine is_pk ?_; refine lw_pure rfl (pv_pick_f rfl rfl rfl) ?_) | (refine is_pk ?_; refine lw_pure rfl (pv_pick_f rfl (by first | assumption | exact decide_eq_false (by omega) | exact dec_notF (by omega)) rfl) ?_))
    refine cw_loop (σ := Nat) (fun j => [(1, .pointer (some ⟨N1, 0, none⟩)), (3, .int .i64 (k : Nat)), (4, .pointer (some ⟨N4, 0, none⟩)), (9, .int .i64 (j : Nat))]) (fun j wq => j ≤ x.bids.length ∧ Below w4.heap.size w4 wq ∧ ∀ (i : Nat) y, i < j → x.bids[i]? = some y → openB t.accs y.acct = true) (fun j => x.bids.length - j) 0 (by repeat' (first | exact trivial | refine ⟨rfl, ?_⟩)) ⟨Nat.zero_le _, hw, fun i x hi => by omega⟩ ?_
    clear hw
    rintro j wq ⟨hj, hw, hn3⟩
    by_cases hlj : j < x.bids.length
    rotate_left
    · have hok : aucW t x = false := hW2.trans (List.any_eq_false.2 (all_get fun i y hy => by rw [hn3 i y (by have := (List.getElem?_eq_some_iff.1 hy).1; omega) hy]; simp))
      repeat' (first | (refine lw_pure rfl (pv_move rfl) ?_) | (refine lw_pure rfl (pv_assign rfl) ?_) | (refine is_cw ?_; first | (refine cw_seq ?_) | (refine cw_region ?_) | (refine is_cd ?_; refine cw_false rfl (by first | assumption | exact decide_eq_false (by omega) | exact dec_notF (by omega)) ?_) | (refine cw_exit ?_)) | (refine is_qw ?_; first | (with_reducible refine qw_then ?_) | (with_reducible refine qw_in ?_) | (with_reducible refine qw_in_hit ?_) | (with_reducible refine qw_then_exit ?_)) | (refine lw_nil ?_) | ((refine is_bin ?_; first | (refine lw_pure rfl (pv_lss rfl rfl) ?_) | (refine lw_pure rfl (pv_inc rfl rfl (by omega)) ?_))) | ((refine is_load ?_; first | (refine lw_pure rfl (pv_load (t1 rfl) rfl (by first | exact PT.ld0 (H4.mono hw) rfl | exact PT.ld (H4.mono hw) rfl)) ?_))) | ((refine is_fa ?_; first | (refine lw_pure rfl (pv_fa (tF rfl) rfl) ?_))) | ((refine is_bi ?_; first | (refine lw_pure rfl (pv_lenl (tS rfl) rfl) ?_))))
      exact qw_round (k + 1) (by repeat' (first | exact trivial | refine ⟨rfl, ?_⟩)) ⟨by omega, (hG.mono hw).b, hst hok⟩ (by omega)
    have hbk : x.bids[j]? = some (x.bids[j]'(by omega)) := List.getElem?_eq_getElem _
    generalize x.bids[j]'(by omega) = d at hbk
    obtain ⟨bb, bo, rfl, -, -⟩ := HB4.at (by intro h; rw [h] at hlj; simp at hlj)
    have hG2 := Ext.mk hw
    have HX6 := HX4.mono hw
    have H46 := H4.mono hw
    have HB6 := HB4.mono hw
    have hS6 := hS2.mono hw
    clear hw
    have hw := Below.refl wq.heap.size wq
    have c1 := fun (w' : World) (hb : Below wq.heap.size wq w') => racct_c (a := d.acct) (hS6.mono hb)
    dsimp only [encS] at c1
    repeat' (first | (refine lw_pure rfl (pv_move rfl) ?_) | (refine is_cw ?_; first | (refine cw_seq ?_) | (refine cw_region ?_) | (refine is_cd ?_; refine cw_true rfl (by first | assumption | exact decide_eq_true (by omega) | exact dec_notT (by omega)) ?_) | (refine cw_skip ?_) | (refine cw_block ?_)) | (refine is_qw ?_; first | (with_reducible refine qw_then ?_)) | (refine lw_nil ?_) | ((refine is_bin ?_; first | (refine lw_pure rfl (pv_lss rfl rfl) ?_))) | ((refine is_load ?_; first | (refine lw_pure rfl (pv_load (t1 rfl) rfl (by first | exact PT.ld0 (H46.mono hw) rfl | exact PT.ld (H46.mono hw) rfl)) ?_))) | ((refine is_fa ?_; first | (refine lw_pure rfl (pv_fa (tF rfl) rfl) ?_))) | ((refine is_bi ?_; first | (refine lw_pure rfl (pv_lenl (tS rfl) rfl) ?_))))
    refine cw_cutq (σ := Unit) (fun _ => [(1, .pointer (some ⟨N1, 0, none⟩)), (3, .int .i64 (k : Nat)), (4, .pointer (some ⟨N4, 0, none⟩)), (9, .int .i64 (j : Nat)), (11, .bool (openB t.accs d.acct))]) (fun _ w' => Below wq.heap.size wq w' ∧ (True)) ?_ ?_
    · skip
      refine cw_drawn (fun w' => Below wq.heap.size wq w') (by kernel_rfl) (by repeat (first | exact NoPanic.body | with_reducible refine NoPanic.then ?_ | with_reducible refine NoPanic.inBlock ?_)) (fun hNP => ?_)
      have hS := hw.drew
      (refine at0 0 rfl (fun w' hq => pv_loada (tA rfl) rfl (by first | exact PT.lda (HX6.mono hq) | exact PT.lda (H46.mono hq) | exact SlR.lda (HB6.mono hq) hbk) (by rfl)) ?_)
      (refine at0 1 rfl (fun w' hq => pv_fa (tF rfl) rfl) ?_)
      (refine at0 2 rfl (fun w' hq => pv_load (t1 rfl) rfl (by first | exact PT.ld0 (HX6.mono hq) rfl | exact PT.ld (HX6.mono hq) rfl | exact PT.ld0 (H46.mono hq) rfl | exact PT.ld (H46.mono hq) rfl | exact SlR.ld (HB6.mono hq) hbk rfl | exact SlR.ld1 (HB6.mono hq) hbk rfl)) ?_)
      (refine at0 3 rfl (fun w' hq => pv_move rfl) ?_)
      (refine at0 4 rfl (fun w' hq => pv_ian (tS rfl) rfl rfl (by omega)) ?_)
      (refine at0 5 rfl (fun w' hq => pv_fa (tF rfl) rfl) ?_)
      (refine at0 6 rfl (fun w' hq => pv_load (t1 rfl) rfl (by first | exact PT.ld0 (HX6.mono hq) rfl | exact PT.ld (HX6.mono hq) rfl | exact PT.ld0 (H46.mono hq) rfl | exact PT.ld (H46.mono hq) rfl | exact SlR.ld (HB6.mono hq) hbk rfl | exact SlR.ld1 (HB6.mono hq) hbk rfl)) ?_)
      refine aw_act2 7 11 (by kernel_rfl) rfl rfl rfl rfl rfl rfl ?_ ?_
      · refine act_call (f := 24) (by kernel_rfl) rfl (c1 _ hS) ?_; rintro e w1 ⟨rfl, hb⟩; refine ⟨_, rfl, grow_trans hS hb, fun hS => ?_⟩; (try replace HA5 := HA5.mono hb); clear hb
        (refine at0 8 rfl (fun w' hq => pv_move rfl) ?_)
        (refine at0 9 rfl (fun w' hq => pv_extract rfl rfl) ?_)
        (refine at0 10 rfl (fun w' hq => pv_extract rfl rfl) ?_)
        refine aw_act 11 (by kernel_rfl) rfl rfl rfl ?_
        refine act_alloc (cs := [.string ByteArray.empty, .bool false]) (by first | exact tyv_29 | exact tyv_30 | exact tyv_33 | exact tyv_34 | exact tyv_36 | exact tyv_37 | exact tyv_38 | exact tyv_39 | exact tyv_40 | exact tyv_41 | exact tyv_43 | exact tyv_44 | exact tyv_45 | exact tyv_46 | exact tyv_73 | exact tyv_74 | exact tyv_80 | exact tyv_81 | exact tyv_107 | exact tyv_108 | exact tyv_123 | exact tyv_146 | exact tyv_147 | exact tyv_148 | exact tyv_149) rfl ?_; intro N5 w5 hN5 HA5 hb; replace hN5 := Nat.le_trans hS.size hN5; refine ⟨grow_trans hS hb, fun hS => ?_⟩; clear hb
        refine aw_act 12 (by kernel_rfl) rfl rfl rfl ?_
        refine act_storea HA5 (tZ rfl) rfl rfl rfl rfl (by simp [Value.oneCell', encA]) ?_; intro ws HA5 hg hz; refine ⟨st_hw hS hg hN5, fun hS => ?_⟩
        (refine at0 13 rfl (fun w' hq => pv_assign rfl) ?_)
        refine aw_done (by kernel_rfl) ?_
        replace hw := hS; clear hS hNP
        exact qw_join () (by repeat' (first | exact trivial | refine ⟨rfl, ?_⟩)) ⟨hw, trivial⟩
      · refine act_alloc (cs := [.string ByteArray.empty, .bool false]) (by first | exact tyv_29 | exact tyv_30 | exact tyv_33 | exact tyv_34 | exact tyv_36 | exact tyv_37 | exact tyv_38 | exact tyv_39 | exact tyv_40 | exact tyv_41 | exact tyv_43 | exact tyv_44 | exact tyv_45 | exact tyv_46 | exact tyv_73 | exact tyv_74 | exact tyv_80 | exact tyv_81 | exact tyv_107 | exact tyv_108 | exact tyv_123 | exact tyv_146 | exact tyv_147 | exact tyv_148 | exact tyv_149) rfl ?_; intro N5 w5 hN5 HA5 hb; replace hN5 := Nat.le_trans hS.size hN5; refine ⟨grow_trans hS hb, fun hS => ?_⟩; clear hb
        refine aw_act 7 (by kernel_rfl) rfl rfl rfl ?_
        refine act_call (f := 24) (by kernel_rfl) rfl (c1 _ hS) ?_; rintro e w1 ⟨rfl, hb⟩; refine ⟨_, rfl, grow_trans hS hb, fun hS => ?_⟩; (try replace HA5 := HA5.mono hb); clear hb
        (refine at0 8 rfl (fun w' hq => pv_move rfl) ?_)
        (refine at0 9 rfl (fun w' hq => pv_extract rfl rfl) ?_)
        (refine at0 10 rfl (fun w' hq => pv_extract rfl rfl) ?_)
        refine aw_act 12 (by kernel_rfl) rfl rfl rfl ?_
        refine act_storea HA5 (tZ rfl) rfl rfl rfl rfl (by simp [Value.oneCell', encA]) ?_; intro ws HA5 hg hz; refine ⟨st_hw hS hg hN5, fun hS => ?_⟩
        (refine at0 13 rfl (fun w' hq => pv_assign rfl) ?_)
        refine aw_done (by kernel_rfl) ?_
        replace hw := hS; clear hS hNP
        exact qw_join () (by repeat' (first | exact trivial | refine ⟨rfl, ?_⟩)) ⟨hw, trivial⟩
    clear hw
    rintro ⟨⟩ wa ⟨hw, -⟩
    clear c1
    cases hO : openB t.accs d.acct with
    | true =>
      repeat' (first | (refine lw_pure rfl (pv_move rfl) ?_) | (refine lw_pure rfl (pv_assign rfl) ?_) | (refine is_cw ?_; first | (refine cw_seq ?_) | (refine cw_region ?_) | (refine cw_false rfl rfl ?_) | (refine cw_skip ?_)) | (refine is_qw ?_; first | (with_reducible refine qw_then ?_) | (with_reducible refine qw_in ?_)) | (refine lw_nil ?_) | ((refine is_bin ?_; first | (refine lw_pure rfl (pv_inc rfl rfl (by omega)) ?_))) | ((refine is_un ?_; first | (refine lw_pure rfl (pv_not rfl) ?_))))
      refine qw_round (j + 1) (by repeat' (first | exact trivial | refine ⟨rfl, ?_⟩)) ⟨by omega, (hG2.mono hw).b, fun i y hi hy => ?_⟩ (by omega)
      by_cases hij : i = j
      · subst hij
        rw [hbk] at hy; injection hy with hy; subst hy; exact hO
      · exact hn3 i y (by omega) hy
    | false =>
      have hno := hno (hW2.trans (List.any_eq_true.2 ⟨d, List.mem_of_getElem? hbk, by rw [hO]; rfl⟩))
      repeat' (first | (refine lw_pure rfl (pv_move rfl) ?_) | (refine lw_pure rfl (pv_assign rfl) ?_) | (refine is_cw ?_; first | (refine cw_seq ?_) | (refine cw_region ?_) | (refine cw_true rfl rfl ?_) | (refine cw_ret ?_)) | (refine is_qw ?_; first | (with_reducible refine qw_then ?_) | (with_reducible refine qw_then_ret ?_) | (with_reducible refine qw_in_ret ?_)) | (refine lw_nil ?_) | ((refine is_un ?_; first | (refine lw_pure rfl (pv_not rfl) ?_))))
      refine qw_ret1 rfl rfl ⟨ret_bool ?_, (hE.mono (hG.mono (hG2.mono hw).b).b).b⟩
      rw [hno]; rfl
set_option maxRecDepth 20000 in
set_option maxHeartbeats 4000000 in
theorem rheldR_c {s : SttC} {t : Stt} {w : World} (hS0 : StR w s t) (hr : MayR t.rows) (hl : t.rows.length ≤ 1048576) (hN : (partsP t.ords t.aucs).length ≤ 8000) : Calls Tryz.prog 60 #[(.agg (encS s).toArray)] w fun e w' => e = .returned (.bool (heldB t)) ∧ Below w.heap.size w w' := by
  have hE := Ext.refl w
  have hw := Below.refl w.heap.size w
  have hSt := hS0
  obtain ⟨c1, c2, c3, c4, pa, ma, ca, pi, mi, ci, pr, mr, cr, po, mo, co, px, mx, cx⟩ := s; obtain ⟨⟨e1, e2, e3, e4⟩, hma, hmi, hmr, hmo, hmx, HA, HI, HR, HO, HXs⟩ := hS0; simp only at e1 e2 e3 e4 hma hmi hmr hmo hmx HA HI HR HO HXs; subst e1 e2 e3 e4 hma hmi hmr hmo hmx
  have hno : ∀ a i : Int, there a i = true → (getR t.rows a i).held ≠ heldP t a i → heldB t = false := fun a i h1 h2 => by
    cases hq : heldB t with
    | false => rfl
    | true => exact absurd ((held_iff hr).2 hq a i h1) h2
  refine fn_enter 24 Tryz.func60 rfl rfl rfl ?_
  repeat' (first | (refine is_cw ?_; first | (refine cw_seq ?_) | (refine cw_region ?_)))
  refine lw_boxN rfl rfl (cs := [.int .i64 t.clock, .int .i64 t.fee, .int .i64 t.nord, .int .i64 t.nauc, .slice pa t.accs.length ca, .slice pi t.inss.length ci, .slice pr t.rows.length cr, .slice po t.ords.length co, .slice px t.aucs.length cx]) rfl ?_; intro N1 wn hN1 HX hb; replace hN1 := Nat.le_trans hw.size hN1; replace hw := grow_trans hw hb; clear hb
  replace hE := hE.mono hw; replace HR := HR.mono hw; replace hSt := hSt.mono hw; clear hw; have hw := Below.refl wn.heap.size wn
  repeat' (first | (refine lw_pure rfl (pv_assign rfl) ?_) | (refine is_cw ?_; first | (refine cw_seq ?_) | (refine cw_region ?_) | (refine cw_block ?_)) | (refine is_qw ?_; first | (with_reducible refine qw_then ?_)) | (refine lw_nil ?_))
  refine cw_loop (σ := Nat) (fun k => [(1, .pointer (some ⟨N1, 0, none⟩)), (3, .int .i64 (k : Nat))]) (fun k wr => k ≤ 65 ∧ Below wn.heap.size wn wr ∧ ∀ (a i : Nat), a < k → i ≤ 16 → (getR t.rows (a : Int) (i : Int)).held = heldP t (a : Int) (i : Int)) (fun k => 65 - k) 0 (by repeat' (first | exact trivial | refine ⟨rfl, ?_⟩)) ⟨Nat.zero_le _, hw, fun a i hi => by omega⟩ ?_
  clear hw
  rintro k wr ⟨hk, hw, hn2⟩
  by_cases hlt : k ≤ 64
  rotate_left
  · have hok : heldB t = true := (held_iff hr).1 fun a i ht => by
      have h := there_iff.1 ht
      have := hn2 a.toNat i.toNat (by omega) (by omega)
      rwa [show ((a.toNat : Nat) : Int) = a by omega, show ((i.toNat : Nat) : Int) = i by omega] at this
    repeat' (first | (refine lw_pure rfl (pv_move rfl) ?_) | (refine lw_pure rfl (pv_assign rfl) ?_) | (refine is_cw ?_; first | (refine cw_seq ?_) | (refine cw_region ?_) | (refine is_cd ?_; refine cw_false rfl (by first | assumption | exact decide_eq_false (by omega) | exact dec_notF (by omega)) ?_) | (refine cw_exit ?_) | (refine cw_ret ?_)) | (refine is_qw ?_; first | (with_reducible refine qw_then ?_) | (with_reducible refine qw_in_hit ?_) | (with_reducible refine qw_then_exit ?_)) | (refine lw_nil ?_) | ((refine is_bin ?_; first | (refine lw_pure rfl (pv_leq rfl rfl) ?_))))
    exact qw_ret1 rfl rfl ⟨ret_bool hok.symm, (hE.mono hw).b⟩
  repeat' (first | (refine lw_pure rfl (pv_move rfl) ?_) | (refine lw_pure rfl (pv_assign rfl) ?_) | (refine is_cw ?_; first | (refine cw_seq ?_) | (refine cw_region ?_) | (refine is_cd ?_; refine cw_true rfl (by first | assumption | exact decide_eq_true (by omega) | exact dec_notT (by omega)) ?_) | (refine cw_skip ?_) | (refine cw_block ?_)) | (refine is_qw ?_; first | (with_reducible refine qw_then ?_)) | (refine lw_nil ?_) | ((refine is_bin ?_; first | (refine lw_pure rfl (pv_leq rfl rfl) ?_))))
  refine cw_loop (σ := Nat) (fun j => [(1, .pointer (some ⟨N1, 0, none⟩)), (3, .int .i64 (k : Nat)), (4, .int .i64 (j : Nat))]) (fun j wq => j ≤ 17 ∧ Below wn.heap.size wn wq ∧ ∀ (i : Nat), i < j → (getR t.rows (k : Int) (i : Int)).held = heldP t (k : Int) (i : Int)) (fun j => 17 - j) 0 (by repeat' (first | exact trivial | refine ⟨rfl, ?_⟩)) ⟨Nat.zero_le _, hw, fun i hi => by omega⟩ ?_
  clear hw
  rintro j wq ⟨hj, hw, hn3⟩
  by_cases hlj : j ≤ 16
  rotate_left
  · repeat' (first | (refine lw_pure rfl (pv_move rfl) ?_) | (refine lw_pure rfl (pv_assign rfl) ?_) | (refine is_cw ?_; first | (refine cw_seq ?_) | (refine cw_region ?_) | (refine is_cd ?_; refine cw_false rfl (by first | assumption | exact decide_eq_false (by omega) | exact dec_notF (by omega)) ?_) | (refine cw_exit ?_)) | (refine is_qw ?_; first | (with_reducible refine qw_then ?_) | (with_reducible refine qw_in ?_) | (with_reducible refine qw_in_hit ?_) | (with_reducible refine qw_then_exit ?_)) | (refine lw_nil ?_) | ((refine is_bin ?_; first | (refine lw_pure rfl (pv_leq rfl rfl) ?_) | (refine lw_pure rfl (pv_inc rfl rfl (by omega)) ?_))))
    refine qw_round (k + 1) (by repeat' (first | exact trivial | refine ⟨rfl, ?_⟩)) ⟨by omega, hw, fun a i ha hi => ?_⟩ (by omega)
    by_cases hak : a = k
    · subst hak; exact hn3 i (by omega)
    · exact hn2 a i (by omega) hi
  have hth : there (k : Int) (j : Int) = true := there_iff.2 ⟨by omega, by omega, by omega, by omega⟩
  have hG := Ext.mk hw
  have HX2 := HX.mono hw
  have HR2 := HR.mono hw
  have hS2 := hSt.mono hw
  clear hw
  have hw := Below.refl wq.heap.size wq
  have c1 := fun (w' : World) (hb : Below wq.heap.size wq w') => rget_c (k : Int) (j : Int) rfl (HR2.mono hb) hl
  have c2 := fun (w' : World) (hb : Below wq.heap.size wq w') => rheld_c (a := (k : Int)) (i := (j : Int)) (hS2.mono hb) hN
  dsimp only [encS] at c2
  have hno := hno k j hth
  have hup : (getR t.rows (k : Int) (j : Int)).held = heldP t (k : Int) (j : Int) → ∀ (i : Nat), i < j + 1 → (getR t.rows (k : Int) (i : Int)).held = heldP t (k : Int) (i : Int) := fun h i hi => by
    by_cases hij : i = j
    · subst hij; exact h
    · exact hn3 i (by omega)
  generalize getR t.rows (k : Int) (j : Int) = r at c1 hno hup
  generalize heldP t (k : Int) (j : Int) = v at c2 hno hup
  repeat' (first | (refine lw_pure rfl (pv_move rfl) ?_) | (refine is_cw ?_; first | (refine cw_seq ?_) | (refine cw_region ?_) | (refine is_cd ?_; refine cw_true rfl (by first | assumption | exact decide_eq_true (by omega) | exact dec_notT (by omega)) ?_) | (refine cw_skip ?_) | (refine cw_block ?_)) | (refine is_qw ?_; first | (with_reducible refine qw_then ?_)) | (refine lw_nil ?_) | ((refine is_bin ?_; first | (refine lw_pure rfl (pv_leq rfl rfl) ?_))))
  refine cw_drawn (fun w' => Below wq.heap.size wq w') (by kernel_rfl) (by repeat (first | exact NoPanic.body | with_reducible refine NoPanic.then ?_ | with_reducible refine NoPanic.inBlock ?_)) (fun hNP => ?_)
  have hS := hw.drew
  (refine at0 0 rfl (fun w' hq => pv_fa (tF rfl) rfl) ?_)
  (refine at0 1 rfl (fun w' hq => pv_load (t1 rfl) rfl (by first | exact PT.ld0 (HX2.mono hq) rfl | exact PT.ld (HX2.mono hq) rfl)) ?_)
  (refine at0 2 rfl (fun w' hq => pv_move rfl) ?_)
  (refine at0 3 rfl (fun w' hq => pv_move rfl) ?_)
  (refine at0 6 rfl (fun w' hq => pv_loada (tA rfl) rfl (by first | exact PT.lda (HX2.mono hq)) (by rfl)) ?_)
  (refine at0 7 rfl (fun w' hq => pv_move rfl) ?_)
  (refine at0 8 rfl (fun w' hq => pv_move rfl) ?_)
  refine aw_act 4 (by kernel_rfl) rfl rfl rfl ?_
  refine act_call (f := 85) (by kernel_rfl) rfl (c1 _ hS) ?_; rintro e w1 ⟨rfl, hb⟩; refine ⟨_, rfl, grow_trans hS hb, fun hS => ?_⟩
  (refine at0 5 rfl (fun w' hq => pv_field (tD rfl) rfl rfl) ?_)
  refine aw_act 9 (by kernel_rfl) rfl rfl rfl ?_
  refine act_call (f := 27) (by kernel_rfl) rfl (c2 _ hS) ?_; rintro e w1 ⟨rfl, hb⟩; refine ⟨_, rfl, grow_trans hS hb, fun hS => ?_⟩
  (refine at0 10 rfl (fun w' hq => pv_neq rfl rfl) ?_)
  refine aw_done (by kernel_rfl) ?_
  replace hw := hS; clear hS hNP
  by_cases hrv : r.held = v
  · repeat' (first | (refine lw_pure rfl (pv_move rfl) ?_) | (refine lw_pure rfl (pv_assign rfl) ?_) | (refine is_cw ?_; first | (refine cw_region ?_) | (refine is_cd ?_; refine cw_false rfl (by first | assumption | exact decide_eq_false (by omega) | exact dec_notF (by omega)) ?_) | (refine cw_skip ?_)) | (refine is_qw ?_; first | (with_reducible refine qw_then ?_) | (with_reducible refine qw_in ?_)) | (refine lw_nil ?_) | ((refine is_bin ?_; first | (refine lw_pure rfl (pv_inc rfl rfl (by omega)) ?_))))
    exact qw_round (j + 1) (by repeat' (first | exact trivial | refine ⟨rfl, ?_⟩)) ⟨by omega, (hG.mono hw).b, hup hrv⟩ (by omega)
  · repeat' (first | (refine lw_pure rfl (pv_assign rfl) ?_) | (refine is_cw ?_; first | (refine cw_seq ?_) | (refine cw_region ?_) | (refine is_cd ?_; refine cw_true rfl (by first | assumption | exact decide_eq_true (by omega) | exact dec_notT (by omega)) ?_) | (refine cw_ret ?_)) | (refine is_qw ?_; first | (with_reducible refine qw_then ?_) | (with_reducible refine qw_then_ret ?_) | (with_reducible refine qw_in_ret ?_)) | (refine lw_nil ?_))
    exact qw_ret1 rfl rfl ⟨ret_bool (hno hrv).symm, (hE.mono (hG.mono hw).b).b⟩
set_option maxRecDepth 20000 in
set_option maxHeartbeats 4000000 in
theorem rcheck_c {s : SttC} {t : Stt} {w : World} (hS0 : StR w s t) (hok : StOk t) (hl : t.rows.length ≤ 1048576) : Calls Tryz.prog 23 #[(.agg (encS s).toArray)] w fun e w' => e = .returned (.string (checkF t)) ∧ Below w.heap.size w w' := by
  have hE := Ext.refl w
  have hw := Below.refl w.heap.size w
  have hSt := hS0
  obtain ⟨c1, c2, c3, c4, pa, ma, ca, pi, mi, ci, pr, mr, cr, po, mo, co, px, mx, cx⟩ := s; obtain ⟨⟨e1, e2, e3, e4⟩, hma, hmi, hmr, hmo, hmx, HA, HI, HR, HO, HXs⟩ := hS0; simp only at e1 e2 e3 e4 hma hmi hmr hmo hmx HA HI HR HO HXs; subst e1 e2 e3 e4 hma hmi hmr hmo hmx
  refine fn_enter 43 Tryz.func23 rfl rfl rfl ?_
  repeat' (first | (refine is_cw ?_; first | (refine cw_seq ?_) | (refine cw_region ?_)))
  refine lw_boxN rfl rfl (cs := [.int .i64 t.clock, .int .i64 t.fee, .int .i64 t.nord, .int .i64 t.nauc, .slice pa t.accs.length ca, .slice pi t.inss.length ci, .slice pr t.rows.length cr, .slice po t.ords.length co, .slice px t.aucs.length cx]) rfl ?_; intro N1 wn hN1 HX hb; replace hN1 := Nat.le_trans hw.size hN1; replace hw := grow_trans hw hb; clear hb
  replace hE := hE.mono hw; replace hSt := hSt.mono hw; clear hw; have hw := Below.refl wn.heap.size wn
  cases hN : numsB t with
  | false =>
    have hn2 := hN
    unfold numsB at hn2
    rw [decide_eq_false_iff_not] at hn2
    repeat' (first | (refine lw_pure rfl (pv_move rfl) ?_) | (refine lw_pure rfl (pv_assign rfl) ?_) | (refine lw_call (f := 54) (by kernel_rfl) rfl rfl (rbtw18_c _ _ _ _) ?_; rintro e w1 ⟨rfl, hb⟩; refine ⟨_, rfl, ?_⟩; replace hw := grow_trans hw hb; clear hb) | (refine is_cw ?_; first | (refine cw_seq ?_) | (refine cw_region ?_) | (refine cw_true rfl rfl ?_) | (refine is_cd ?_; refine cw_true rfl (by first | assumption | exact decide_eq_true (by omega) | exact dec_notT (by omega)) ?_) | (refine cw_ret ?_)) | (refine is_qw ?_; first | (with_reducible refine qw_then ?_) | (with_reducible refine qw_then_ret ?_)) | (refine lw_nil ?_) | (refine is_guarded ?_; first | (refine lw_not rfl rfl rfl rfl ?_) | (refine lw_on rfl rfl (by first | assumption | exact decide_eq_true (by omega) | exact decide_eq_false (by omega) | exact dec_notT (by omega) | exact dec_notF (by omega)) ?_) | (refine lw_not rfl rfl rfl (by first | assumption | exact decide_eq_true (by omega) | exact decide_eq_false (by omega) | exact dec_notT (by omega) | exact dec_notF (by omega)) ?_) | (refine lw_gs_f rfl rfl rfl (fun hc => ?_) (fun hc => ?_) <;> (first | replace hc := of_decide_eq_true hc | replace hc := of_decide_eq_false hc | replace hc := dec_nT hc | replace hc := dec_nF hc | skip) <;> (try (exfalso; omega)))) | ((refine is_load ?_; first | (refine lw_pure rfl (pv_load (t1 rfl) rfl (by first | exact PT.ld0 (HX.mono hw) rfl | exact PT.ld (HX.mono hw) rfl)) ?_))) | ((refine is_fa ?_; first | (refine lw_pure rfl (pv_fa (tF rfl) rfl) ?_))) | ((refine is_un ?_; first | (refine lw_pure rfl (pv_not rfl) ?_))) | (refine is_pk ?_; refine lw_pure rfl (pv_pick_t rfl rfl rfl) ?_) | (refine is_pk ?_; refine lw_pure rfl (pv_pick_t rfl (by first | assumption | exact decide_eq_true (by omega) | exact dec_notT (by omega)) rfl) ?_) | (refine is_pk ?_; refine lw_pure rfl (pv_pick_f rfl (by first | assumption | exact decide_eq_false (by omega) | exact dec_notF (by omega)) rfl) ?_))
    all_goals first | (exfalso; omega) | (refine qw_ret1 rfl rfl ⟨?_, (hE.mono hw).b⟩; rw [show checkF t = wNums by simp [checkF, hN]]; rfl)
  | true =>
    have hn2 := hN
    unfold numsB at hn2
    rw [decide_eq_true_eq] at hn2
    obtain ⟨h1, h2, h3, h4⟩ := hn2
    repeat' (first | (refine lw_pure rfl (pv_move rfl) ?_) | (refine lw_pure rfl (pv_assign rfl) ?_) | (refine lw_call (f := 54) (by kernel_rfl) rfl rfl (rbtw18_c _ _ _ _) ?_; rintro e w1 ⟨rfl, hb⟩; refine ⟨_, rfl, ?_⟩; replace hw := grow_trans hw hb; clear hb) | (refine is_cw ?_; first | (refine cw_seq ?_) | (refine cw_region ?_) | (refine is_cd ?_; refine cw_false rfl (by first | assumption | exact decide_eq_false (by omega) | exact dec_notF (by omega)) ?_) | (refine cw_skip ?_)) | (refine is_qw ?_; first | (with_reducible refine qw_then ?_)) | (refine lw_nil ?_) | (refine is_guarded ?_; first | (refine lw_on rfl rfl (by first | assumption | exact decide_eq_true (by omega) | exact decide_eq_false (by omega) | exact dec_notT (by omega) | exact dec_notF (by omega)) ?_)) | ((refine is_load ?_; first | (refine lw_pure rfl (pv_load (t1 rfl) rfl (by first | exact PT.ld0 (HX.mono hw) rfl | exact PT.ld (HX.mono hw) rfl)) ?_) | (refine lw_pure rfl (pv_loada (tA rfl) rfl (by first | exact PT.lda (HX.mono hw)) (by rfl)) ?_))) | ((refine is_fa ?_; first | (refine lw_pure rfl (pv_fa (tF rfl) rfl) ?_))) | ((refine is_un ?_; first | (refine lw_pure rfl (pv_not rfl) ?_))) | (refine is_pk ?_; refine lw_pure rfl (pv_pick_f rfl (by first | assumption | exact decide_eq_false (by omega) | exact dec_notF (by omega)) rfl) ?_))
    have hcp := raccounts_c (hSt.mono hw) hok.a; dsimp only [encS] at hcp; refine lw_call (f := 55) (by kernel_rfl) rfl rfl hcp ?_; clear hcp; rintro e w1 ⟨rfl, hb⟩; refine ⟨_, rfl, ?_⟩; replace hw := grow_trans hw hb; clear hb
    clear h1 h2 h3 h4
    cases hA : accsB t.accs
    · skip
      have hv : checkF t = wAccs := by simp [checkF, *]
      repeat' (first | (refine lw_pure rfl (pv_assign rfl) ?_) | (refine is_cw ?_; first | (refine cw_seq ?_) | (refine cw_region ?_) | (refine cw_true rfl rfl ?_) | (refine cw_ret ?_)) | (refine is_qw ?_; first | (with_reducible refine qw_then ?_) | (with_reducible refine qw_then_ret ?_)) | (refine lw_nil ?_) | ((refine is_un ?_; first | (refine lw_pure rfl (pv_not rfl) ?_))))
      refine qw_ret1 rfl rfl ⟨?_, (hE.mono hw).b⟩
      rw [hv]; rfl
    repeat' (first | (refine is_cw ?_; first | (refine cw_seq ?_) | (refine cw_region ?_) | (refine cw_false rfl rfl ?_) | (refine cw_skip ?_)) | (refine is_qw ?_; first | (with_reducible refine qw_then ?_)) | (refine lw_nil ?_) | ((refine is_load ?_; first | (refine lw_pure rfl (pv_loada (tA rfl) rfl (by first | exact PT.lda (HX.mono hw)) (by rfl)) ?_))) | ((refine is_un ?_; first | (refine lw_pure rfl (pv_not rfl) ?_))))
    have hcp := rinsts_c (hSt.mono hw) hok.i; dsimp only [encS] at hcp; refine lw_call (f := 56) (by kernel_rfl) rfl rfl hcp ?_; clear hcp; rintro e w1 ⟨rfl, hb⟩; refine ⟨_, rfl, ?_⟩; replace hw := grow_trans hw hb; clear hb
    cases hI : inssB t.inss
    · skip
      have hv : checkF t = wInss := by simp [checkF, *]
      repeat' (first | (refine lw_pure rfl (pv_assign rfl) ?_) | (refine is_cw ?_; first | (refine cw_seq ?_) | (refine cw_region ?_) | (refine cw_true rfl rfl ?_) | (refine cw_ret ?_)) | (refine is_qw ?_; first | (with_reducible refine qw_then ?_) | (with_reducible refine qw_then_ret ?_)) | (refine lw_nil ?_) | ((refine is_un ?_; first | (refine lw_pure rfl (pv_not rfl) ?_))))
      refine qw_ret1 rfl rfl ⟨?_, (hE.mono hw).b⟩
      rw [hv]; rfl
    repeat' (first | (refine is_cw ?_; first | (refine cw_seq ?_) | (refine cw_region ?_) | (refine cw_false rfl rfl ?_) | (refine cw_skip ?_)) | (refine is_qw ?_; first | (with_reducible refine qw_then ?_)) | (refine lw_nil ?_) | ((refine is_load ?_; first | (refine lw_pure rfl (pv_loada (tA rfl) rfl (by first | exact PT.lda (HX.mono hw)) (by rfl)) ?_))) | ((refine is_un ?_; first | (refine lw_pure rfl (pv_not rfl) ?_))))
    have hcp := rrows_c (hSt.mono hw); dsimp only [encS] at hcp; refine lw_call (f := 57) (by kernel_rfl) rfl rfl hcp ?_; clear hcp; rintro e w1 ⟨rfl, hb⟩; refine ⟨_, rfl, ?_⟩; replace hw := grow_trans hw hb; clear hb
    cases hR : rowsB t
    · skip
      have hv : checkF t = wRows := by simp [checkF, *]
      repeat' (first | (refine lw_pure rfl (pv_assign rfl) ?_) | (refine is_cw ?_; first | (refine cw_seq ?_) | (refine cw_region ?_) | (refine cw_true rfl rfl ?_) | (refine cw_ret ?_)) | (refine is_qw ?_; first | (with_reducible refine qw_then ?_) | (with_reducible refine qw_then_ret ?_)) | (refine lw_nil ?_) | ((refine is_un ?_; first | (refine lw_pure rfl (pv_not rfl) ?_))))
      refine qw_ret1 rfl rfl ⟨?_, (hE.mono hw).b⟩
      rw [hv]; rfl
    repeat' (first | (refine is_cw ?_; first | (refine cw_seq ?_) | (refine cw_region ?_) | (refine cw_false rfl rfl ?_) | (refine cw_skip ?_)) | (refine is_qw ?_; first | (with_reducible refine qw_then ?_)) | (refine lw_nil ?_) | ((refine is_load ?_; first | (refine lw_pure rfl (pv_loada (tA rfl) rfl (by first | exact PT.lda (HX.mono hw)) (by rfl)) ?_))) | ((refine is_un ?_; first | (refine lw_pure rfl (pv_not rfl) ?_))))
    have hcp := rorders_c (hSt.mono hw) hI; dsimp only [encS] at hcp; refine lw_call (f := 58) (by kernel_rfl) rfl rfl hcp ?_; clear hcp; rintro e w1 ⟨rfl, hb⟩; refine ⟨_, rfl, ?_⟩; replace hw := grow_trans hw hb; clear hb
    cases hO : ordsB t
    · skip
      have hv : checkF t = wOrds := by simp [checkF, *]
      repeat' (first | (refine lw_pure rfl (pv_assign rfl) ?_) | (refine is_cw ?_; first | (refine cw_seq ?_) | (refine cw_region ?_) | (refine cw_true rfl rfl ?_) | (refine cw_ret ?_)) | (refine is_qw ?_; first | (with_reducible refine qw_then ?_) | (with_reducible refine qw_then_ret ?_)) | (refine lw_nil ?_) | ((refine is_un ?_; first | (refine lw_pure rfl (pv_not rfl) ?_))))
      refine qw_ret1 rfl rfl ⟨?_, (hE.mono hw).b⟩
      rw [hv]; rfl
    repeat' (first | (refine is_cw ?_; first | (refine cw_seq ?_) | (refine cw_region ?_) | (refine cw_false rfl rfl ?_) | (refine cw_skip ?_)) | (refine is_qw ?_; first | (with_reducible refine qw_then ?_)) | (refine lw_nil ?_) | ((refine is_load ?_; first | (refine lw_pure rfl (pv_loada (tA rfl) rfl (by first | exact PT.lda (HX.mono hw)) (by rfl)) ?_))) | ((refine is_un ?_; first | (refine lw_pure rfl (pv_not rfl) ?_))))
    have hcp := rauctions_c (hSt.mono hw); dsimp only [encS] at hcp; refine lw_call (f := 59) (by kernel_rfl) rfl rfl hcp ?_; clear hcp; rintro e w1 ⟨rfl, hb⟩; refine ⟨_, rfl, ?_⟩; replace hw := grow_trans hw hb; clear hb
    cases hU : aucsB t
    · skip
      have hv : checkF t = wAucs := by simp [checkF, *]
      repeat' (first | (refine lw_pure rfl (pv_assign rfl) ?_) | (refine is_cw ?_; first | (refine cw_seq ?_) | (refine cw_region ?_) | (refine cw_true rfl rfl ?_) | (refine cw_ret ?_)) | (refine is_qw ?_; first | (with_reducible refine qw_then ?_) | (with_reducible refine qw_then_ret ?_)) | (refine lw_nil ?_) | ((refine is_un ?_; first | (refine lw_pure rfl (pv_not rfl) ?_))))
      refine qw_ret1 rfl rfl ⟨?_, (hE.mono hw).b⟩
      rw [hv]; rfl
    have g3 : mayR t.rows = true := by unfold rowsB at hR; rw [Bool.and_eq_true] at hR; exact hR.1
    have g4 : mayO t.ords = true := by unfold ordsB at hO; rw [Bool.and_eq_true] at hO; exact hO.1
    have g5 : mayAus t.aucs = true := by unfold aucsB at hU; rw [Bool.and_eq_true] at hU; exact hU.1
    repeat' (first | (refine is_cw ?_; first | (refine cw_seq ?_) | (refine cw_region ?_) | (refine cw_false rfl rfl ?_) | (refine cw_skip ?_)) | (refine is_qw ?_; first | (with_reducible refine qw_then ?_)) | (refine lw_nil ?_) | ((refine is_load ?_; first | (refine lw_pure rfl (pv_loada (tA rfl) rfl (by first | exact PT.lda (HX.mono hw)) (by rfl)) ?_))) | ((refine is_un ?_; first | (refine lw_pure rfl (pv_not rfl) ?_))))
    have hcp := rheldR_c (hSt.mono hw) (mayR_iff.1 g3) hl (parts_few g4 g5); dsimp only [encS] at hcp; refine lw_call (f := 60) (by kernel_rfl) rfl rfl hcp ?_; clear hcp; rintro e w1 ⟨rfl, hb⟩; refine ⟨_, rfl, ?_⟩; replace hw := grow_trans hw hb; clear hb
    cases hH : heldB t
    · skip
      have hv : checkF t = wHeld := by simp [checkF, *]
      repeat' (first | (refine lw_pure rfl (pv_assign rfl) ?_) | (refine is_cw ?_; first | (refine cw_seq ?_) | (refine cw_region ?_) | (refine cw_true rfl rfl ?_) | (refine cw_ret ?_)) | (refine is_qw ?_; first | (with_reducible refine qw_then ?_) | (with_reducible refine qw_then_ret ?_)) | (refine lw_nil ?_) | ((refine is_un ?_; first | (refine lw_pure rfl (pv_not rfl) ?_))))
      refine qw_ret1 rfl rfl ⟨?_, (hE.mono hw).b⟩
      rw [hv]; rfl
    have hv : checkF t = ByteArray.empty := by simp [checkF, *]
    repeat' (first | (refine lw_pure rfl (pv_assign rfl) ?_) | (refine is_cw ?_; first | (refine cw_seq ?_) | (refine cw_region ?_) | (refine cw_false rfl rfl ?_) | (refine cw_skip ?_) | (refine cw_ret ?_)) | (refine is_qw ?_; first | (with_reducible refine qw_then ?_)) | (refine lw_nil ?_) | ((refine is_un ?_; first | (refine lw_pure rfl (pv_not rfl) ?_))))
    refine qw_ret1 rfl rfl ⟨?_, (hE.mono hw).b⟩
    rw [hv]; rfl

theorem StSm.okT {t : Stt} (h : StSm t) (hr : In64R t.rows) : StOk t := ⟨fun x hx => Nat.le_trans (Nat.le_of_lt (h.an x hx)) (by omega), fun x hx => Nat.le_trans (Nat.le_of_lt (h.im x hx)) (by omega), by have := h.al; omega, by have := h.il; omega, hr⟩
theorem partA_len2 (a : Auc) : (partA a).length ≤ 1 + a.bids.length := by
  unfold partA
  split
  · simp; omega
  · simp
theorem parts_sumX : ∀ l : List Auc, (l.flatMap partA).length ≤ sumX l
  | [] => by simp
  | a :: l => by
    have h1 := partA_len2 a
    have h2 := parts_sumX l
    unfold sumX at *
    rw [List.flatMap_cons, List.length_append, List.map_cons, List.sum_cons]; omega
theorem StSm.few {t : Stt} (h : StSm t) : (partsP t.ords t.aucs).length ≤ 8000 := by
  have a1 := flat_few (f := partO) (c := 1) t.ords (fun x _ => partO_len x)
  have a2 := parts_sumX t.aucs
  have b1 := h.ro
  have b2 := h.xs
  unfold partsP
  rw [List.length_append]; omega
theorem own_e {s : SttC} {t : Stt} {w : World} (hS : StR w s t) (hM : StSm t) : Calls Tryz.prog 18 #[(.agg (encS s).toArray)] w fun e w' => (∃ s9 : SttC, e = .returned ((.agg (encS s9).toArray)) ∧ StR w' s9 t) ∧ Below w.heap.size w w' :=
  (own_c hS hM).mono fun e w' h => by
    obtain ⟨⟨qa, da, qi, di, qr, dr, qo, d, qx, dx, xs, he, hO⟩, hb⟩ := h
    exact ⟨⟨_, he, hO.stR⟩, hb⟩
section
variable {P : Program} {n : Nat} {l : Fr} {w : World} {d : Option Nat} {t t' ty : TypeId} {x y : Operand} {pos : String} {af : Array Edge} {g : Option (Nat × Bool)} {c : Bool} {s : ByteArray}
theorem pv_neqBs (ht : isT P t (fun x => x matches .bool) = true) (hx : ev l x = some (.bool c)) (hy : ev l y = some (.bool c)) : Pv P n l ⟨d, .binOp .neq t x y t', ty, pos, af, g⟩ (.bool false) w := by
  have := pv_bneq (n := n) (w := w) (d := d) (t' := t') (ty := ty) (pos := pos) (af := af) (g := g) ht hx hy
  simpa using this
theorem pv_eqlBs (ht : isT P t (fun x => x matches .bool) = true) (hx : ev l x = some (.bool c)) (hy : ev l y = some (.bool c)) : Pv P n l ⟨d, .binOp .eql t x y t', ty, pos, af, g⟩ (.bool true) w := by
  have := pv_beql (n := n) (w := w) (d := d) (t' := t') (ty := ty) (pos := pos) (af := af) (g := g) ht hx hy
  simpa using this
theorem pv_neqSs (hx : ev l x = some (.string s)) (hy : ev l y = some (.string s)) : Pv P n l ⟨d, .binOp .neq t x y t', ty, pos, af, g⟩ (.bool false) w := by
  have := pv_sneqD (P := P) (n := n) (w := w) (d := d) (t := t) (t' := t') (ty := ty) (pos := pos) (af := af) (g := g) hx hy
  simpa using this
end
theorem pv_eqlAcs {n : Nat} {l : Fr} {w : World} {d : Option Nat} {t' ty : TypeId} {x y : Operand} {pos : String} {af : Array Edge} {g : Option (Nat × Bool)} (a : Acc) (hx : ev l x = some (.agg (encA a).toArray)) (hy : ev l y = some (.agg (encA a).toArray)) : Pv Tryz.prog n l ⟨d, .binOp .eql 34 x y t', ty, pos, af, g⟩ (.bool true) w := by
  have := pv_eqlAc (n := n) (w := w) (d := d) (t' := t') (ty := ty) (pos := pos) (af := af) (g := g) a a hx hy
  simpa using this
theorem pv_eqlNs {n : Nat} {l : Fr} {w : World} {d : Option Nat} {t' ty : TypeId} {x y : Operand} {pos : String} {af : Array Edge} {g : Option (Nat × Bool)} (a : Ins) (hx : ev l x = some (.agg (encN a).toArray)) (hy : ev l y = some (.agg (encN a).toArray)) : Pv Tryz.prog n l ⟨d, .binOp .eql 37 x y t', ty, pos, af, g⟩ (.bool true) w := by
  have := pv_eqlN (n := n) (w := w) (d := d) (t' := t') (ty := ty) (pos := pos) (af := af) (g := g) a a hx hy
  simpa using this
theorem same_t {s s' : SttC} {t : Stt} {w : World} (hS : StR w s t) (hT : StR w s' t) : Calls Tryz.prog 20 #[(.agg (encS s).toArray), (.agg (encS s').toArray)] w fun e w' => e = .returned (.bool true) ∧ Below w.heap.size w w' := by
  have := same_S hS hT; rw [decide_eq_true rfl] at this; exact this
theorem rsame_t {s s' : SttC} {t : Stt} {w : World} (hS : StR w s t) (hT : StR w s' t) : Calls Tryz.prog 21 #[(.agg (encS s).toArray), (.agg (encS s').toArray)] w fun e w' => e = .returned (.bool true) ∧ Below w.heap.size w w' := by
  have := rsame_S hS hT; rw [decide_eq_true rfl] at this; exact this
set_option maxRecDepth 20000 in
set_option maxHeartbeats 16000000 in
theorem tellslaw_c {s s' : SttC} {t u : Stt} {a i : Int} {nm : ByteArray} {w : World} (hSt : StR w s t) (hT : StR w s' u) (hB : StBg t) (hB2 : StBg u) : Calls Tryz.prog 6 #[(.agg (encS s).toArray), (.agg (encS s').toArray), .int .i64 a, .int .i64 i, .string nm] w fun e w' => e = .returned (.bool true) ∧ Below w.heap.size w w' := by
  have hE := Ext.refl w
  have hw := Below.refl w.heap.size w
  refine fn_enter 144 Tryz.func6 rfl rfl rfl ?_
  repeat' (first | (refine is_cw ?_; first | (refine cw_seq ?_) | (refine cw_region ?_)))
  refine lw_boxN rfl rfl (cs := encS s) rfl ?_; intro N5 wn hN5 HX hb; replace hN5 := Nat.le_trans hw.size hN5; replace hw := grow_trans hw hb; clear hb
  replace hE := hE.mono hw; replace hSt := hSt.mono hw; replace hT := hT.mono hw; clear hw; have hw := Below.refl wn.heap.size wn
  skip
  refine lw_boxN rfl rfl (cs := encS s') rfl ?_; intro N6 wn hN6 HY hb; replace hN6 := Nat.le_trans hw.size hN6; replace hw := grow_trans hw hb; clear hb
  replace hE := hE.mono hw; replace hSt := hSt.mono hw; replace hT := hT.mono hw; replace HX := HX.mono hw; clear hw; have hw := Below.refl wn.heap.size wn
  repeat' (first | (refine lw_pure rfl (pv_assign rfl) ?_) | (refine is_cw ?_; first | (refine cw_seq ?_) | (refine cw_region ?_)) | (refine is_qw ?_; first | (with_reducible refine qw_then ?_)) | (refine lw_nil ?_) | ((refine is_load ?_; first | (refine lw_pure rfl (pv_loada (tA rfl) rfl (by first | exact PT.lda (HX.mono hw)) (by rfl)) ?_))))
  refine lw_call (f := 16) (by kernel_rfl) rfl rfl (weigh_c (hSt.mono hw) hB) ?_; rintro e w1 ⟨⟨q, rfl, hQ⟩, hb⟩; refine ⟨_, rfl, ?_⟩; replace hw := grow_trans hw hb; clear hb
  by_cases hq : 1500 ≤ q
  · repeat' (first | (refine lw_pure rfl (pv_move rfl) ?_) | (refine is_cw ?_; first | (refine cw_seq ?_) | (refine cw_region ?_) | (refine cw_true rfl rfl ?_)) | (refine is_qw ?_; first | (with_reducible refine qw_then ?_)) | (refine lw_nil ?_) | (refine is_guarded ?_; first | (refine lw_not rfl rfl rfl rfl ?_) | (refine lw_not rfl rfl rfl (by first | assumption | exact decide_eq_true (by omega) | exact decide_eq_false (by omega) | exact dec_notT (by omega) | exact dec_notF (by omega)) ?_)) | ((refine is_bin ?_; first | (refine lw_pure rfl (pv_geq rfl rfl) ?_))) | (refine is_pk ?_; refine lw_pure rfl (pv_pick_t rfl rfl rfl) ?_) | (refine is_pk ?_; refine lw_pure rfl (pv_pick_t rfl (by first | assumption | exact decide_eq_true (by omega) | exact dec_notT (by omega)) rfl) ?_))
    refine lw_call (f := 8) (by kernel_rfl) rfl rfl (works_c _) ?_; rintro e w1 ⟨rfl, hb⟩; refine ⟨_, rfl, ?_⟩; replace hw := grow_trans hw hb; clear hb
    repeat' (first | (refine lw_pure rfl (pv_assign rfl) ?_) | (refine is_cw ?_; first | (refine cw_ret ?_)) | (refine is_qw ?_; first | (with_reducible refine qw_then ?_) | (with_reducible refine qw_then_ret ?_)) | (refine lw_nil ?_))
    exact qw_ret1 rfl rfl ⟨rfl, (hE.mono hw).b⟩
  repeat' (first | (refine lw_pure rfl (pv_move rfl) ?_) | (refine is_guarded ?_; first | (refine lw_on rfl rfl (by first | assumption | exact decide_eq_true (by omega) | exact decide_eq_false (by omega) | exact dec_notT (by omega) | exact dec_notF (by omega)) ?_)) | ((refine is_bin ?_; first | (refine lw_pure rfl (pv_geq rfl rfl) ?_))) | ((refine is_load ?_; first | (refine lw_pure rfl (pv_loada (tA rfl) rfl (by first | exact PT.lda (HX.mono hw) | exact PT.lda (HY.mono hw)) (by rfl)) ?_))))
  refine lw_call (f := 16) (by kernel_rfl) rfl rfl (weigh_c (hT.mono hw) hB2) ?_; rintro e w1 ⟨⟨q2, rfl, hQ2⟩, hb⟩; refine ⟨_, rfl, ?_⟩; replace hw := grow_trans hw hb; clear hb
  by_cases hq2 : 1500 ≤ q2
  · repeat' (first | (refine lw_pure rfl (pv_move rfl) ?_) | (refine is_cw ?_; first | (refine cw_seq ?_) | (refine cw_region ?_) | (refine cw_true rfl rfl ?_)) | (refine is_qw ?_; first | (with_reducible refine qw_then ?_)) | (refine lw_nil ?_) | (refine is_guarded ?_; first | (refine lw_on rfl rfl (by first | assumption | exact decide_eq_true (by omega) | exact decide_eq_false (by omega) | exact dec_notT (by omega) | exact dec_notF (by omega)) ?_) | (refine lw_not rfl rfl rfl (by first | assumption | exact decide_eq_true (by omega) | exact decide_eq_false (by omega) | exact dec_notT (by omega) | exact dec_notF (by omega)) ?_)) | ((refine is_bin ?_; first | (refine lw_pure rfl (pv_geq rfl rfl) ?_))) | (refine is_pk ?_; refine lw_pure rfl (pv_pick_t rfl (by first | assumption | exact decide_eq_true (by omega) | exact dec_notT (by omega)) rfl) ?_) | (refine is_pk ?_; refine lw_pure rfl (pv_pick_f rfl (by first | assumption | exact decide_eq_false (by omega) | exact dec_notF (by omega)) rfl) ?_))
    refine lw_call (f := 8) (by kernel_rfl) rfl rfl (works_c _) ?_; rintro e w1 ⟨rfl, hb⟩; refine ⟨_, rfl, ?_⟩; replace hw := grow_trans hw hb; clear hb
    repeat' (first | (refine lw_pure rfl (pv_assign rfl) ?_) | (refine is_cw ?_; first | (refine cw_ret ?_)) | (refine is_qw ?_; first | (with_reducible refine qw_then ?_) | (with_reducible refine qw_then_ret ?_)) | (refine lw_nil ?_))
    exact qw_ret1 rfl rfl ⟨rfl, (hE.mono hw).b⟩
  by_cases hl : 2000 < nm.size
  · repeat' (first | (refine lw_pure rfl (pv_move rfl) ?_) | (refine is_cw ?_; first | (refine cw_seq ?_) | (refine cw_region ?_) | (refine is_cd ?_; refine cw_true rfl (by first | assumption | exact decide_eq_true (by omega) | exact dec_notT (by omega)) ?_)) | (refine is_qw ?_; first | (with_reducible refine qw_then ?_)) | (refine lw_nil ?_) | (refine is_guarded ?_; first | (refine lw_on rfl rfl (by first | assumption | exact decide_eq_true (by omega) | exact decide_eq_false (by omega) | exact dec_notT (by omega) | exact dec_notF (by omega)) ?_)) | ((refine is_bin ?_; first | (refine lw_pure rfl (pv_gtr rfl rfl) ?_) | (refine lw_pure rfl (pv_geq rfl rfl) ?_))) | ((refine is_bi ?_; first | (refine lw_pure rfl (pv_lens (tStr rfl) rfl) ?_))) | (refine is_pk ?_; refine lw_pure rfl (pv_pick_f rfl (by first | assumption | exact decide_eq_false (by omega) | exact dec_notF (by omega)) rfl) ?_))
    refine lw_call (f := 8) (by kernel_rfl) rfl rfl (works_c _) ?_; rintro e w1 ⟨rfl, hb⟩; refine ⟨_, rfl, ?_⟩; replace hw := grow_trans hw hb; clear hb
    repeat' (first | (refine lw_pure rfl (pv_assign rfl) ?_) | (refine is_cw ?_; first | (refine cw_ret ?_)) | (refine is_qw ?_; first | (with_reducible refine qw_then ?_) | (with_reducible refine qw_then_ret ?_)) | (refine lw_nil ?_))
    exact qw_ret1 rfl rfl ⟨rfl, (hE.mono hw).b⟩
  have hM := hQ (by omega)
  have hok := hM.okT hB.r
  have hrl : t.rows.length ≤ 1048576 := by have := hM.ro; omega
  have hfew := hM.few
  clear hQ hQ2
  repeat' (first | (refine lw_pure rfl (pv_move rfl) ?_) | (refine is_cw ?_; first | (refine cw_seq ?_) | (refine cw_region ?_) | (refine is_cd ?_; refine cw_false rfl (by first | assumption | exact decide_eq_false (by omega) | exact dec_notF (by omega)) ?_) | (refine cw_skip ?_)) | (refine is_qw ?_; first | (with_reducible refine qw_then ?_)) | (refine lw_nil ?_) | (refine is_guarded ?_; first | (refine lw_on rfl rfl (by first | assumption | exact decide_eq_true (by omega) | exact decide_eq_false (by omega) | exact dec_notT (by omega) | exact dec_notF (by omega)) ?_)) | ((refine is_bin ?_; first | (refine lw_pure rfl (pv_gtr rfl rfl) ?_) | (refine lw_pure rfl (pv_geq rfl rfl) ?_))) | ((refine is_load ?_; first | (refine lw_pure rfl (pv_loada (tA rfl) rfl (by first | exact PT.lda (HX.mono hw) | exact PT.lda (HY.mono hw)) (by rfl)) ?_))) | ((refine is_bi ?_; first | (refine lw_pure rfl (pv_lens (tStr rfl) rfl) ?_))) | (refine is_pk ?_; refine lw_pure rfl (pv_pick_f rfl (by first | assumption | exact decide_eq_false (by omega) | exact dec_notF (by omega)) rfl) ?_))
  refine lw_call (f := 18) (by kernel_rfl) rfl rfl (own_e (hSt.mono hw) hM) ?_; rintro e wo ⟨⟨s9, rfl, hR⟩, hb⟩; refine ⟨_, rfl, ?_⟩; replace hw := grow_trans hw hb; clear hb
  skip
  refine lw_varN rfl (by first | exact tyv_29 | exact tyv_30 | exact tyv_33 | exact tyv_34 | exact tyv_36 | exact tyv_37 | exact tyv_38 | exact tyv_39 | exact tyv_40 | exact tyv_41 | exact tyv_43 | exact tyv_44 | exact tyv_45 | exact tyv_46 | exact tyv_73 | exact tyv_74 | exact tyv_80 | exact tyv_81 | exact tyv_107 | exact tyv_108 | exact tyv_123 | exact tyv_146 | exact tyv_147 | exact tyv_148 | exact tyv_149) rfl (tZ rfl) (fun _ => rfl) rfl rfl ?_; intro NO w4 hNO HO hb
  replace HO : PT w4 NO 30 (encS s9) := HO
  replace hw := grow_trans hw hb
  replace hR := hR.mono hb
  clear hb
  replace hE := hE.mono hw; replace hSt := hSt.mono hw; replace hT := hT.mono hw; replace HX := HX.mono hw; replace HY := HY.mono hw; clear hw; have hw := Below.refl w4.heap.size w4
  repeat' (first | (refine is_cw ?_; first | (refine cw_seq ?_) | (refine cw_region ?_)) | (refine is_qw ?_; first | (with_reducible refine qw_then ?_)) | (refine lw_nil ?_) | ((refine is_load ?_; first | (refine lw_pure rfl (pv_loada (tA rfl) rfl (by first | exact PT.lda (HX.mono hw)) (by rfl)) ?_))))
  refine lw_call (f := 23) (by kernel_rfl) rfl rfl (rcheck_c (hSt.mono hw) hok hrl) ?_; rintro e w1 ⟨rfl, hb⟩; refine ⟨_, rfl, ?_⟩; replace hw := grow_trans hw hb; clear hb
  repeat' (first | (refine lw_pure rfl (pv_assign rfl) ?_) | (refine is_cw ?_; first | (refine cw_seq ?_)) | (refine is_qw ?_; first | (with_reducible refine qw_then ?_)) | (refine lw_nil ?_))
  refine cw_drawn (fun w' => Below w4.heap.size w4 w') (by kernel_rfl) (by repeat (first | exact NoPanic.body | with_reducible refine NoPanic.then ?_ | with_reducible refine NoPanic.inBlock ?_)) (fun hNP => ?_)
  have hS := hw.drew
  all_goals (refine at0 0 rfl (fun w' hq => pv_loada (tA rfl) rfl (by first | exact PT.lda (HX.mono hq) | exact PT.lda (HY.mono hq) | exact PT.lda (HO.mono hq)) (by rfl)) ?_)
  all_goals (refine at0 2 rfl (fun w' hq => pv_move rfl) ?_)
  all_goals (refine aw_act 1 (by kernel_rfl) rfl rfl rfl ?_; refine act_call (f := 9) (by kernel_rfl) rfl (check_c (hR.mono hS) hok) ?_; rintro e w1 ⟨rfl, hb⟩; refine ⟨_, rfl, grow_trans hS hb, fun hS => ?_⟩)
  all_goals (refine at0 3 rfl (fun w' hq => pv_neqSs rfl rfl) ?_)
  all_goals (refine at0 4 rfl (fun w' hq => pv_move rfl) ?_)
  all_goals (refine at1 5 rfl rfl rfl rfl (fun w' hq => pv_loada (tA rfl) rfl (by first | exact PT.lda (HX.mono hq) | exact PT.lda (HY.mono hq) | exact PT.lda (HO.mono hq)) (by rfl)) ?_)
  all_goals (refine at1 7 rfl rfl rfl rfl (fun w' hq => pv_move rfl) ?_)
  all_goals (refine at1 8 rfl rfl rfl rfl (fun w' hq => pv_seqlD rfl rfl) ?_)
  all_goals first | (refine an3 6 rfl rfl rfl ?_) | (refine an0 6 rfl rfl rfl ?_) | (refine aw_act_g 6 (by kernel_rfl) rfl rfl rfl (by first | rfl | assumption | exact decide_eq_true (by omega) | exact decide_eq_false (by omega) | exact dec_notT (by omega) | exact dec_notF (by omega)) rfl ?_; refine act_call (f := 11) (by kernel_rfl) rfl (may_S (hR.mono hS) hok) ?_; rintro e w1 ⟨rfl, hb⟩; refine ⟨_, rfl, grow_trans hS hb, fun hS => ?_⟩)
  all_goals (refine at1 9 rfl rfl rfl rfl (fun w' hq => pv_neqBs (tBo rfl) rfl rfl) ?_)
  all_goals (refine at0 10 rfl (fun w' hq => pv_pick_f rfl rfl rfl) ?_)
  all_goals (refine at0 11 rfl (fun w' hq => pv_move rfl) ?_)
  all_goals (refine at1 12 rfl rfl rfl rfl (fun w' hq => pv_loada (tA rfl) rfl (by first | exact PT.lda (HX.mono hq) | exact PT.lda (HY.mono hq) | exact PT.lda (HO.mono hq)) (by rfl)) ?_)
  all_goals (refine at1 13 rfl rfl rfl rfl (fun w' hq => pv_loada (tA rfl) rfl (by first | exact PT.lda (HX.mono hq) | exact PT.lda (HY.mono hq) | exact PT.lda (HO.mono hq)) (by rfl)) ?_)
  all_goals (refine at1 15 rfl rfl rfl rfl (fun w' hq => pv_loada (tA rfl) rfl (by first | exact PT.lda (HX.mono hq) | exact PT.lda (HY.mono hq) | exact PT.lda (HO.mono hq)) (by rfl)) ?_)
  all_goals (refine at1 16 rfl rfl rfl rfl (fun w' hq => pv_loada (tA rfl) rfl (by first | exact PT.lda (HX.mono hq) | exact PT.lda (HY.mono hq) | exact PT.lda (HO.mono hq)) (by rfl)) ?_)
  all_goals first | (refine an3 14 rfl rfl rfl ?_) | (refine an0 14 rfl rfl rfl ?_) | (refine aw_act_g 14 (by kernel_rfl) rfl rfl rfl (by first | rfl | assumption | exact decide_eq_true (by omega) | exact decide_eq_false (by omega) | exact dec_notT (by omega) | exact dec_notF (by omega)) rfl ?_; refine act_call (f := 20) (by kernel_rfl) rfl (same_S (hR.mono hS) (hT.mono hS)) ?_; rintro e w1 ⟨rfl, hb⟩; refine ⟨_, rfl, grow_trans hS hb, fun hS => ?_⟩)
  all_goals first | (refine an3 17 rfl rfl rfl ?_) | (refine an0 17 rfl rfl rfl ?_) | (refine aw_act_g 17 (by kernel_rfl) rfl rfl rfl (by first | rfl | assumption | exact decide_eq_true (by omega) | exact decide_eq_false (by omega) | exact dec_notT (by omega) | exact dec_notF (by omega)) rfl ?_; refine act_call (f := 21) (by kernel_rfl) rfl (rsame_S (hSt.mono hS) (hT.mono hS)) ?_; rintro e w1 ⟨rfl, hb⟩; refine ⟨_, rfl, grow_trans hS hb, fun hS => ?_⟩)
  all_goals (refine at1 18 rfl rfl rfl rfl (fun w' hq => pv_neqBs (tBo rfl) rfl rfl) ?_)
  all_goals (refine at0 19 rfl (fun w' hq => pv_pick_f rfl rfl rfl) ?_)
  all_goals (refine at0 20 rfl (fun w' hq => pv_move rfl) ?_)
  all_goals (refine at1 21 rfl rfl rfl rfl (fun w' hq => pv_loada (tA rfl) rfl (by first | exact PT.lda (HX.mono hq) | exact PT.lda (HY.mono hq) | exact PT.lda (HO.mono hq)) (by rfl)) ?_)
  all_goals (refine at1 22 rfl rfl rfl rfl (fun w' hq => pv_loada (tA rfl) rfl (by first | exact PT.lda (HX.mono hq) | exact PT.lda (HY.mono hq) | exact PT.lda (HO.mono hq)) (by rfl)) ?_)
  all_goals first | (refine an3 23 rfl rfl rfl ?_) | (refine an0 23 rfl rfl rfl ?_) | (refine aw_act_g 23 (by kernel_rfl) rfl rfl rfl (by first | rfl | assumption | exact decide_eq_true (by omega) | exact decide_eq_false (by omega) | exact dec_notT (by omega) | exact dec_notF (by omega)) rfl ?_; refine act_call (f := 20) (by kernel_rfl) rfl (same_t (hR.mono hS) (hSt.mono hS)) ?_; rintro e w1 ⟨rfl, hb⟩; refine ⟨_, rfl, grow_trans hS hb, fun hS => ?_⟩)
  all_goals (refine at1 24 rfl rfl rfl rfl (fun w' hq => pv_not rfl) ?_)
  all_goals (refine at0 25 rfl (fun w' hq => pv_pick_f rfl rfl rfl) ?_)
  all_goals (refine aw_done (by kernel_rfl) ?_; replace hw := hS; clear hS hNP)
  repeat' (first | (refine lw_pure rfl (pv_move rfl) ?_) | (refine is_cw ?_; first | (refine cw_seq ?_) | (refine cw_region ?_) | (refine cw_false rfl rfl ?_) | (refine cw_skip ?_)) | (refine is_qw ?_; first | (with_reducible refine qw_then ?_)) | ((refine is_load ?_; first | (refine lw_pure rfl (pv_loada (tA rfl) rfl (by first | exact PT.lda (HO.mono hw)) (by rfl)) ?_))))
  refine lw_call (f := 12) (by kernel_rfl) rfl rfl (acct_c (hR.mono hw)) ?_; rintro e w1 ⟨rfl, hb⟩; refine ⟨_, rfl, ?_⟩; replace hw := grow_trans hw hb; clear hb
  repeat' (first | (refine lw_pure rfl (pv_move rfl) ?_) | (refine lw_pure rfl (pv_extract rfl rfl) ?_))
  refine lw_varN rfl (by first | exact tyv_29 | exact tyv_30 | exact tyv_33 | exact tyv_34 | exact tyv_36 | exact tyv_37 | exact tyv_38 | exact tyv_39 | exact tyv_40 | exact tyv_41 | exact tyv_43 | exact tyv_44 | exact tyv_45 | exact tyv_46 | exact tyv_73 | exact tyv_74 | exact tyv_80 | exact tyv_81 | exact tyv_107 | exact tyv_108 | exact tyv_123 | exact tyv_146 | exact tyv_147 | exact tyv_148 | exact tyv_149) rfl (tZ rfl) (fun _ => rfl) rfl rfl ?_; intro NA w5 hNA HA hb
  replace HA : PT w5 NA 34 (encA (accOf t.accs a).1) := HA
  replace hw := grow_trans hw hb
  clear hb
  replace hE := hE.mono hw; replace hSt := hSt.mono hw; replace hT := hT.mono hw; replace hR := hR.mono hw; replace HX := HX.mono hw; replace HO := HO.mono hw; clear hw; have hw := Below.refl w5.heap.size w5
  repeat' (first | (refine lw_pure rfl (pv_move rfl) ?_) | (refine lw_pure rfl (pv_assign rfl) ?_) | (refine is_cw ?_; first | (refine cw_seq ?_) | (refine cw_region ?_)) | (refine is_qw ?_; first | (with_reducible refine qw_then ?_)) | (refine lw_nil ?_) | ((refine is_load ?_; first | (refine lw_pure rfl (pv_loada (tA rfl) rfl (by first | exact PT.lda (HX.mono hw)) (by rfl)) ?_))))
  refine lw_call (f := 24) (by kernel_rfl) rfl rfl (racct_c (hSt.mono hw)) ?_; rintro e w1 ⟨rfl, hb⟩; refine ⟨_, rfl, ?_⟩; replace hw := grow_trans hw hb; clear hb
  repeat' (first | (refine lw_pure rfl (pv_move rfl) ?_) | (refine lw_pure rfl (pv_extract rfl rfl) ?_))
  refine lw_varN rfl (by first | exact tyv_29 | exact tyv_30 | exact tyv_33 | exact tyv_34 | exact tyv_36 | exact tyv_37 | exact tyv_38 | exact tyv_39 | exact tyv_40 | exact tyv_41 | exact tyv_43 | exact tyv_44 | exact tyv_45 | exact tyv_46 | exact tyv_73 | exact tyv_74 | exact tyv_80 | exact tyv_81 | exact tyv_107 | exact tyv_108 | exact tyv_123 | exact tyv_146 | exact tyv_147 | exact tyv_148 | exact tyv_149) rfl (tZ rfl) (fun _ => rfl) rfl rfl ?_; intro NB w6 hNB HB hb
  replace HB : PT w6 NB 34 (encA (accOf t.accs a).1) := HB
  replace hw := grow_trans hw hb
  clear hb
  replace hE := hE.mono hw; replace hSt := hSt.mono hw; replace hT := hT.mono hw; replace hR := hR.mono hw; replace HX := HX.mono hw; replace HO := HO.mono hw; replace HA := HA.mono hw; clear hw; have hw := Below.refl w6.heap.size w6
  repeat' (first | (refine lw_pure rfl (pv_move rfl) ?_) | (refine lw_pure rfl (pv_assign rfl) ?_) | (refine is_cw ?_; first | (refine cw_seq ?_) | (refine cw_region ?_)) | (refine is_qw ?_; first | (with_reducible refine qw_then ?_)) | (refine lw_nil ?_) | ((refine is_load ?_; first | (refine lw_pure rfl (pv_loada (tA rfl) rfl (by first | exact PT.lda (HO.mono hw)) (by rfl)) ?_))))
  refine lw_call (f := 13) (by kernel_rfl) rfl rfl (inst_c (hR.mono hw)) ?_; rintro e w1 ⟨rfl, hb⟩; refine ⟨_, rfl, ?_⟩; replace hw := grow_trans hw hb; clear hb
  repeat' (first | (refine lw_pure rfl (pv_move rfl) ?_) | (refine lw_pure rfl (pv_extract rfl rfl) ?_))
  refine lw_varN rfl (by first | exact tyv_29 | exact tyv_30 | exact tyv_33 | exact tyv_34 | exact tyv_36 | exact tyv_37 | exact tyv_38 | exact tyv_39 | exact tyv_40 | exact tyv_41 | exact tyv_43 | exact tyv_44 | exact tyv_45 | exact tyv_46 | exact tyv_73 | exact tyv_74 | exact tyv_80 | exact tyv_81 | exact tyv_107 | exact tyv_108 | exact tyv_123 | exact tyv_146 | exact tyv_147 | exact tyv_148 | exact tyv_149) rfl (tZ rfl) (fun _ => rfl) rfl rfl ?_; intro NI w7 hNI HI hb
  replace HI : PT w7 NI 37 (encN (insOf t.inss i).1) := HI
  replace hw := grow_trans hw hb
  clear hb
  replace hE := hE.mono hw; replace hSt := hSt.mono hw; replace hT := hT.mono hw; replace hR := hR.mono hw; replace HX := HX.mono hw; replace HO := HO.mono hw; replace HA := HA.mono hw; replace HB := HB.mono hw; clear hw; have hw := Below.refl w7.heap.size w7
  repeat' (first | (refine lw_pure rfl (pv_move rfl) ?_) | (refine lw_pure rfl (pv_assign rfl) ?_) | (refine is_cw ?_; first | (refine cw_seq ?_) | (refine cw_region ?_)) | (refine is_qw ?_; first | (with_reducible refine qw_then ?_)) | (refine lw_nil ?_) | ((refine is_load ?_; first | (refine lw_pure rfl (pv_loada (tA rfl) rfl (by first | exact PT.lda (HX.mono hw)) (by rfl)) ?_))))
  refine lw_call (f := 25) (by kernel_rfl) rfl rfl (rinst_c (hSt.mono hw)) ?_; rintro e w1 ⟨rfl, hb⟩; refine ⟨_, rfl, ?_⟩; replace hw := grow_trans hw hb; clear hb
  repeat' (first | (refine lw_pure rfl (pv_move rfl) ?_) | (refine lw_pure rfl (pv_extract rfl rfl) ?_))
  refine lw_varN rfl (by first | exact tyv_29 | exact tyv_30 | exact tyv_33 | exact tyv_34 | exact tyv_36 | exact tyv_37 | exact tyv_38 | exact tyv_39 | exact tyv_40 | exact tyv_41 | exact tyv_43 | exact tyv_44 | exact tyv_45 | exact tyv_46 | exact tyv_73 | exact tyv_74 | exact tyv_80 | exact tyv_81 | exact tyv_107 | exact tyv_108 | exact tyv_123 | exact tyv_146 | exact tyv_147 | exact tyv_148 | exact tyv_149) rfl (tZ rfl) (fun _ => rfl) rfl rfl ?_; intro NJ w8 hNJ HJ hb
  replace HJ : PT w8 NJ 37 (encN (insOf t.inss i).1) := HJ
  replace hw := grow_trans hw hb
  clear hb
  replace hE := hE.mono hw; replace hSt := hSt.mono hw; replace hT := hT.mono hw; replace hR := hR.mono hw; replace HX := HX.mono hw; replace HO := HO.mono hw; replace HA := HA.mono hw; replace HB := HB.mono hw; replace HI := HI.mono hw; clear hw; have hw := Below.refl w8.heap.size w8
  repeat' (first | (refine lw_pure rfl (pv_assign rfl) ?_) | (refine is_cw ?_; first | (refine cw_seq ?_)) | (refine is_qw ?_; first | (with_reducible refine qw_then ?_)) | (refine lw_nil ?_))
  refine cw_drawn (fun w' => Below w8.heap.size w8 w') (by kernel_rfl) (by repeat (first | exact NoPanic.body | with_reducible refine NoPanic.then ?_ | with_reducible refine NoPanic.inBlock ?_)) (fun hNP => ?_)
  have hS := hw.drew
  all_goals (refine at0 0 rfl (fun w' hq => pv_loada (tA rfl) rfl (by first | exact PT.lda (HX.mono hq) | exact PT.lda (HO.mono hq) | exact PT.lda (HA.mono hq) | exact PT.lda (HB.mono hq) | exact PT.lda (HI.mono hq) | exact PT.lda (HJ.mono hq)) (by rfl)) ?_)
  all_goals (refine at0 1 rfl (fun w' hq => pv_loada (tA rfl) rfl (by first | exact PT.lda (HX.mono hq) | exact PT.lda (HO.mono hq) | exact PT.lda (HA.mono hq) | exact PT.lda (HB.mono hq) | exact PT.lda (HI.mono hq) | exact PT.lda (HJ.mono hq)) (by rfl)) ?_)
  all_goals (refine at0 2 rfl (fun w' hq => pv_eqlAcs _ rfl rfl) ?_)
  all_goals (refine at0 3 rfl (fun w' hq => pv_move rfl) ?_)
  all_goals (refine at1 4 rfl rfl rfl rfl (fun w' hq => pv_move rfl) ?_)
  all_goals (refine at1 5 rfl rfl rfl rfl (fun w' hq => pv_move rfl) ?_)
  all_goals (refine at1 6 rfl rfl rfl rfl (fun w' hq => pv_eqlBs (tBo rfl) rfl rfl) ?_)
  all_goals (refine at0 7 rfl (fun w' hq => pv_pick_t rfl rfl rfl) ?_)
  all_goals (refine at0 8 rfl (fun w' hq => pv_move rfl) ?_)
  all_goals (refine at1 9 rfl rfl rfl rfl (fun w' hq => pv_loada (tA rfl) rfl (by first | exact PT.lda (HX.mono hq) | exact PT.lda (HO.mono hq) | exact PT.lda (HA.mono hq) | exact PT.lda (HB.mono hq) | exact PT.lda (HI.mono hq) | exact PT.lda (HJ.mono hq)) (by rfl)) ?_)
  all_goals (refine at1 10 rfl rfl rfl rfl (fun w' hq => pv_loada (tA rfl) rfl (by first | exact PT.lda (HX.mono hq) | exact PT.lda (HO.mono hq) | exact PT.lda (HA.mono hq) | exact PT.lda (HB.mono hq) | exact PT.lda (HI.mono hq) | exact PT.lda (HJ.mono hq)) (by rfl)) ?_)
  all_goals (refine at1 11 rfl rfl rfl rfl (fun w' hq => pv_eqlNs _ rfl rfl) ?_)
  all_goals (refine at0 12 rfl (fun w' hq => pv_pick_t rfl rfl rfl) ?_)
  all_goals (refine at0 13 rfl (fun w' hq => pv_move rfl) ?_)
  all_goals (refine at1 14 rfl rfl rfl rfl (fun w' hq => pv_move rfl) ?_)
  all_goals (refine at1 15 rfl rfl rfl rfl (fun w' hq => pv_move rfl) ?_)
  all_goals (refine at1 16 rfl rfl rfl rfl (fun w' hq => pv_eqlBs (tBo rfl) rfl rfl) ?_)
  all_goals (refine at0 17 rfl (fun w' hq => pv_pick_t rfl rfl rfl) ?_)
  all_goals (refine at0 18 rfl (fun w' hq => pv_move rfl) ?_)
  all_goals (refine at1 19 rfl rfl rfl rfl (fun w' hq => pv_loada (tA rfl) rfl (by first | exact PT.lda (HX.mono hq) | exact PT.lda (HO.mono hq) | exact PT.lda (HA.mono hq) | exact PT.lda (HB.mono hq) | exact PT.lda (HI.mono hq) | exact PT.lda (HJ.mono hq)) (by rfl)) ?_)
  all_goals (refine at1 20 rfl rfl rfl rfl (fun w' hq => pv_move rfl) ?_)
  all_goals (refine at1 22 rfl rfl rfl rfl (fun w' hq => pv_loada (tA rfl) rfl (by first | exact PT.lda (HX.mono hq) | exact PT.lda (HO.mono hq) | exact PT.lda (HA.mono hq) | exact PT.lda (HB.mono hq) | exact PT.lda (HI.mono hq) | exact PT.lda (HJ.mono hq)) (by rfl)) ?_)
  all_goals (refine at1 23 rfl rfl rfl rfl (fun w' hq => pv_move rfl) ?_)
  all_goals first | (refine an3 21 rfl rfl rfl ?_) | (refine an0 21 rfl rfl rfl ?_) | (refine aw_act_g 21 (by kernel_rfl) rfl rfl rfl (by first | rfl | assumption | exact decide_eq_true (by omega) | exact decide_eq_false (by omega) | exact dec_notT (by omega) | exact dec_notF (by omega)) rfl ?_; refine act_call (f := 14) (by kernel_rfl) rfl (named_c (hR.mono hS)) ?_; rintro e w1 ⟨rfl, hb⟩; refine ⟨_, rfl, grow_trans hS hb, fun hS => ?_⟩)
  all_goals first | (refine an3 24 rfl rfl rfl ?_) | (refine an0 24 rfl rfl rfl ?_) | (refine aw_act_g 24 (by kernel_rfl) rfl rfl rfl (by first | rfl | assumption | exact decide_eq_true (by omega) | exact decide_eq_false (by omega) | exact dec_notT (by omega) | exact dec_notF (by omega)) rfl ?_; refine act_call (f := 26) (by kernel_rfl) rfl (rnamed_c (hSt.mono hS)) ?_; rintro e w1 ⟨rfl, hb⟩; refine ⟨_, rfl, grow_trans hS hb, fun hS => ?_⟩)
  all_goals (refine at1 25 rfl rfl rfl rfl (fun w' hq => pv_eqls rfl rfl) ?_)
  all_goals (refine at0 26 rfl (fun w' hq => pv_pick_t rfl rfl rfl) ?_)
  all_goals (refine at0 27 rfl (fun w' hq => pv_move rfl) ?_)
  all_goals (refine at1 28 rfl rfl rfl rfl (fun w' hq => pv_loada (tA rfl) rfl (by first | exact PT.lda (HX.mono hq) | exact PT.lda (HO.mono hq) | exact PT.lda (HA.mono hq) | exact PT.lda (HB.mono hq) | exact PT.lda (HI.mono hq) | exact PT.lda (HJ.mono hq)) (by rfl)) ?_)
  all_goals (refine at1 29 rfl rfl rfl rfl (fun w' hq => pv_move rfl) ?_)
  all_goals (refine at1 30 rfl rfl rfl rfl (fun w' hq => pv_move rfl) ?_)
  all_goals (refine at1 32 rfl rfl rfl rfl (fun w' hq => pv_loada (tA rfl) rfl (by first | exact PT.lda (HX.mono hq) | exact PT.lda (HO.mono hq) | exact PT.lda (HA.mono hq) | exact PT.lda (HB.mono hq) | exact PT.lda (HI.mono hq) | exact PT.lda (HJ.mono hq)) (by rfl)) ?_)
  all_goals (refine at1 33 rfl rfl rfl rfl (fun w' hq => pv_move rfl) ?_)
  all_goals (refine at1 34 rfl rfl rfl rfl (fun w' hq => pv_move rfl) ?_)
  all_goals first | (refine an3 31 rfl rfl rfl ?_) | (refine an0 31 rfl rfl rfl ?_) | (refine aw_act_g 31 (by kernel_rfl) rfl rfl rfl (by first | rfl | assumption | exact decide_eq_true (by omega) | exact decide_eq_false (by omega) | exact dec_notT (by omega) | exact dec_notF (by omega)) rfl ?_; refine act_call (f := 15) (by kernel_rfl) rfl (R.held_c (hR.mono hS) hfew) ?_; rintro e w1 ⟨rfl, hb⟩; refine ⟨_, rfl, grow_trans hS hb, fun hS => ?_⟩)
  all_goals first | (refine an3 35 rfl rfl rfl ?_) | (refine an0 35 rfl rfl rfl ?_) | (refine aw_act_g 35 (by kernel_rfl) rfl rfl rfl (by first | rfl | assumption | exact decide_eq_true (by omega) | exact decide_eq_false (by omega) | exact dec_notT (by omega) | exact dec_notF (by omega)) rfl ?_; refine act_call (f := 27) (by kernel_rfl) rfl (rheld_c (hSt.mono hS) hfew) ?_; rintro e w1 ⟨rfl, hb⟩; refine ⟨_, rfl, grow_trans hS hb, fun hS => ?_⟩)
  all_goals (refine at1 36 rfl rfl rfl rfl (fun w' hq => pv_eqls rfl rfl) ?_)
  all_goals (refine at0 37 rfl (fun w' hq => pv_pick_t rfl rfl rfl) ?_)
  all_goals (refine at0 38 rfl (fun w' hq => pv_move rfl) ?_)
  all_goals (refine at1 39 rfl rfl rfl rfl (fun w' hq => pv_loada (tA rfl) rfl (by first | exact PT.lda (HX.mono hq) | exact PT.lda (HO.mono hq) | exact PT.lda (HA.mono hq) | exact PT.lda (HB.mono hq) | exact PT.lda (HI.mono hq) | exact PT.lda (HJ.mono hq)) (by rfl)) ?_)
  all_goals (refine at1 40 rfl rfl rfl rfl (fun w' hq => pv_move rfl) ?_)
  all_goals (refine at1 42 rfl rfl rfl rfl (fun w' hq => pv_loada (tA rfl) rfl (by first | exact PT.lda (HX.mono hq) | exact PT.lda (HO.mono hq) | exact PT.lda (HA.mono hq) | exact PT.lda (HB.mono hq) | exact PT.lda (HI.mono hq) | exact PT.lda (HJ.mono hq)) (by rfl)) ?_)
  all_goals (refine at1 43 rfl rfl rfl rfl (fun w' hq => pv_move rfl) ?_)
  all_goals first | (refine an3 41 rfl rfl rfl ?_) | (refine an0 41 rfl rfl rfl ?_) | (refine aw_act_g 41 (by kernel_rfl) rfl rfl rfl (by first | rfl | assumption | exact decide_eq_true (by omega) | exact decide_eq_false (by omega) | exact dec_notT (by omega) | exact dec_notF (by omega)) rfl ?_; refine act_call (f := 15) (by kernel_rfl) rfl (R.held_c (hR.mono hS) hfew) ?_; rintro e w1 ⟨rfl, hb⟩; refine ⟨_, rfl, grow_trans hS hb, fun hS => ?_⟩)
  all_goals first | (refine an3 44 rfl rfl rfl ?_) | (refine an0 44 rfl rfl rfl ?_) | (refine aw_act_g 44 (by kernel_rfl) rfl rfl rfl (by first | rfl | assumption | exact decide_eq_true (by omega) | exact decide_eq_false (by omega) | exact dec_notT (by omega) | exact dec_notF (by omega)) rfl ?_; refine act_call (f := 27) (by kernel_rfl) rfl (rheld_c (hSt.mono hS) hfew) ?_; rintro e w1 ⟨rfl, hb⟩; refine ⟨_, rfl, grow_trans hS hb, fun hS => ?_⟩)
  all_goals (refine at1 45 rfl rfl rfl rfl (fun w' hq => pv_eqls rfl rfl) ?_)
  all_goals (refine at0 46 rfl (fun w' hq => pv_pick_t rfl rfl rfl) ?_)
  all_goals (refine at0 47 rfl (fun w' hq => pv_move rfl) ?_)
  all_goals (refine at1 48 rfl rfl rfl rfl (fun w' hq => pv_loada (tA rfl) rfl (by first | exact PT.lda (HX.mono hq) | exact PT.lda (HO.mono hq) | exact PT.lda (HA.mono hq) | exact PT.lda (HB.mono hq) | exact PT.lda (HI.mono hq) | exact PT.lda (HJ.mono hq)) (by rfl)) ?_)
  all_goals (refine at1 49 rfl rfl rfl rfl (fun w' hq => pv_loada (tA rfl) rfl (by first | exact PT.lda (HX.mono hq) | exact PT.lda (HO.mono hq) | exact PT.lda (HA.mono hq) | exact PT.lda (HB.mono hq) | exact PT.lda (HI.mono hq) | exact PT.lda (HJ.mono hq)) (by rfl)) ?_)
  all_goals first | (refine an3 50 rfl rfl rfl ?_) | (refine an0 50 rfl rfl rfl ?_) | (refine aw_act_g 50 (by kernel_rfl) rfl rfl rfl (by first | rfl | assumption | exact decide_eq_true (by omega) | exact decide_eq_false (by omega) | exact dec_notT (by omega) | exact dec_notF (by omega)) rfl ?_; refine act_call (f := 21) (by kernel_rfl) rfl (rsame_t (hR.mono hS) (hSt.mono hS)) ?_; rintro e w1 ⟨rfl, hb⟩; refine ⟨_, rfl, grow_trans hS hb, fun hS => ?_⟩)
  all_goals (refine at0 51 rfl (fun w' hq => pv_pick_t rfl rfl rfl) ?_)
  all_goals (refine at0 52 rfl (fun w' hq => pv_move rfl) ?_)
  all_goals first | (refine an3 53 rfl rfl rfl ?_) | (refine an0 53 rfl rfl rfl ?_) | (refine aw_act_g 53 (by kernel_rfl) rfl rfl rfl (by first | rfl | assumption | exact decide_eq_true (by omega) | exact decide_eq_false (by omega) | exact dec_notT (by omega) | exact dec_notF (by omega)) rfl ?_; refine act_call (f := 8) (by kernel_rfl) rfl (works_c _) ?_; rintro e w1 ⟨rfl, hb⟩; refine ⟨_, rfl, grow_trans hS hb, fun hS => ?_⟩)
  all_goals (refine at0 54 rfl (fun w' hq => pv_pick_t rfl rfl rfl) ?_)
  all_goals (refine at0 55 rfl (fun w' hq => pv_assign rfl) ?_)
  all_goals (refine aw_done (by kernel_rfl) ?_; replace hw := hS; clear hS hNP)
  repeat' (first | (refine is_cw ?_; first | (refine cw_ret ?_)) | (refine is_qw ?_; first | (with_reducible refine qw_then ?_)))
  exact qw_ret1 rfl rfl ⟨rfl, (hE.mono hw).b⟩
end Go.Proofs.YtekomjnjddhfmaaGreat
namespace Go.Proofs.YtekomjnjddhfmaaGreat
open Go.ChangeShapes Go.WideShapes Go.ChangeAt Go.RowKit

set_option maxRecDepth 100000 in
theorem stateTells_lifted (os : Os) (started : os.Started) (H : Type) (enc : TypeId × Value → H) :
    ReturnsInHanded {} Tryz.checked os 6 .any (Rows.stateTellsSpec.pre6 enc Tryz.prog Tryz.f6 Rows.stateTellsRow.domain false) (Rows.stateTellsSpec.post enc Tryz.prog Tryz.f6 false true false false) := by
  refine returnsInHanded_of_change_sized (C := Tryz.checked) seatOwn started (by kernel_rfl) Tryz.func6
    (ChangeSpec.witness6 (enc := enc) (C := Tryz.checked) false ⟨#[], #[.agg #[.int .i64 0, .int .i64 0, .int .i64 0, .int .i64 0, .slice none 0 0, .slice none 0 0, .slice none 0 0, .slice none 0 0, .slice none 0 0], .agg #[.int .i64 0, .int .i64 0, .int .i64 0, .int .i64 0, .slice none 0 0, .slice none 0 0, .slice none 0 0, .slice none 0 0, .slice none 0 0], .int .i64 0, .int .i64 0, .string ⟨#[]⟩], []⟩ 8 (by kernel_rfl) (by kernel_rfl) (by kernel_rfl) (by kernel_rfl)) ?_
  intro W base args ds gs before hval0 hW _ hZ _
  have hval : ∀ (j : Nat) t v, Tryz.f6.params[j]? = some t → args[j]? = some v → Value.okWide Tryz.prog W .any base t v := hval0
  have hW' := hW
  obtain ⟨p, q, hA0, hV, hpq, hfz, hnd⟩ := hW
  have hA : DataW.TrodAll enc Tryz.prog W 0 (fun _ => true) true Tryz.f6.params.toList args.toList ds p := hA0
  rw [Tryz.params6] at hA hval
  obtain ⟨args⟩ := args
  have hA1 : DataW.TrodAll enc Tryz.prog W 0 (fun _ => true) true _ args ds p := hA
  clear hA
  obtain ⟨v0, vs0, d0, ds0, p0, q0, hv0, hd0, hp0, h0, hr0⟩ := trodAll_cons hA1
  obtain ⟨v1, vs1, d1, ds1, p1, q1, hv1, hd1, hp1, h1, hr1⟩ := trodAll_cons hr0
  obtain ⟨v2, vs2, d2, ds2, p2, q2, hv2, hd2, hp2, h2, hr2⟩ := trodAll_cons hr1
  obtain ⟨v3, vs3, d3, ds3, p3, q3, hv3, hd3, hp3, h3, hr3⟩ := trodAll_cons hr2
  obtain ⟨v4, vs4, d4, ds4, p4, q4, hv4, hd4, hp4, h4, hr4⟩ := trodAll_cons hr3
  obtain ⟨hvn, hdn, hpn⟩ := trodAll_nil hr4
  subst hvn hdn hpn
  subst hv4 hd4 hp4
  subst hv3 hd3 hp3
  subst hv2 hd2 hp2
  subst hv1 hd1 hp1
  subst hv0 hd0 hp0
  obtain ⟨rfl, rfl⟩ := trodVars_none hV
  obtain ⟨xs, xt, rfl, xr, xb, xi⟩ := state_open (hval 0 _ v0 rfl rfl) h0 (wt_of hZ (j := 0) (by kernel_rfl) rfl)
  obtain ⟨ys, yt, rfl, yr, yb, yi⟩ := state_open (hval 1 _ v1 rfl rfl) h1 (wt_of hZ (j := 1) (by kernel_rfl) rfl)
  obtain ⟨a, rfl, al, au⟩ := i64_open Tryz.underlying3 (hval 2 _ v2 rfl rfl) h2
  obtain ⟨i, rfl, il, iu⟩ := i64_open Tryz.underlying3 (hval 3 _ v3 rfl rfl) h3
  obtain ⟨n, rfl⟩ := okWide_string Tryz.underlying9 (hval 4 _ v4 rfl rfl)
  subst hpq
  refine (tellslaw_c xr yr xb yb).mono fun e W' ⟨he, hw⟩ => ?_
  subst he
  have hB := below_trodAll hw (by decide +kernel) hA1
  rw [← Tryz.params6] at hB
  exact ⟨_, rfl, _, _, _, [], _, [], hW', trodAll_mk1 (shut_bool Tryz.underlying4 true), hB, rfl, hw.frame _, fun h => by cases h⟩
theorem stateTells_holds : Rows.StateTellsSaid :=
  OpenClaim.holds_of_wide 6 Tryz.f6 rfl rfl rfl rfl rfl rfl rfl ⟨rfl, rfl, rfl, rfl, rfl⟩ rfl rfl rfl rfl rfl (by kernel_rfl) Tryz.func6 (by kernel_rfl)
    (of_decide_eq_true (by kernel_rfl)) (by unfold Func.isWrapper; first | (rw [if_pos (by decide +kernel)]; kernel_rfl) | (rw [if_neg (by decide +kernel)]; exact ⟨rfl, rfl⟩))
    (fun os started H enc _ => stateTells_lifted os started H enc)
#print axioms stateTells_holds
end Go.Proofs.YtekomjnjddhfmaaGreat
