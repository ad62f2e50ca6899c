/-
  Part 3 of the texts of: OrdersNames: its row and its card: whatever the input: true; the input reads as it did. Conditions: what the row prints (the table of functions reads as the program's text lays it).
-/
import Derived.Test.YtkehmbgcglbffaaDoorZR2
namespace Go.Proofs.YtkehmbgcglbffaaDoor
open Go.RowKit Go.PlainAid

theorem ev_cT {P' : List Opn} {T' : List Lt} {k : Int} {p : List Opn} {t : List Lt} {e : Evt} {mp mt mn mx : Nat} {ap at_ an ax : Option Addr} {cp ct cn cx : Nat} {w : World} (h : eventR p t e = (P', T', k)) (h8 : 0 ≤ e.kind ∧ e.kind ≤ 255) (hmp : p.length = mp) (hmt : t.length = mt) (hmn : e.nums.length = mn) (hmx : e.texts.length = mx) (HP : SlR encP 6 w ap cp p) (HL : SlR encL 4 w at_ ct t) (HN : SlR encI 1 w an cn e.nums) (HX : SlR encT 1 w ax cx e.texts) (hT : TxtIn e.texts) (hK : KnW w) :
    Calls Tryd.prog 8 #[.slice ap mp cp, .slice at_ mt ct, .agg #[.int .u8 e.v, .int .u8 e.kind, .slice an mn cn, .slice ax mx cx]] w fun e1 w' => (∃ vo vt, e1 = .returned (.tuple #[vo, vt, .int .i64 k]) ∧ Own encP 6 34 w.heap.size w' vo P' ∧ Own encL 4 36 w.heap.size w' vt T') ∧ Below w.heap.size w w' := by
  have h1 := ev_c h8 hmp hmt hmn hmx HP HL HN HX hT hK
  rw [h] at h1; exact h1
theorem no13 {p : List Opn} {t : List Lt} {a b c d f : Int} (h : 1073741824 < c) : eventR p t ⟨3, 13, [a, b, c, d, f], []⟩ = ([], [], 4) := by
  refine event_no fun hg => ?_
  obtain ⟨n0, n1, n2, n3, n4, hn, _, _, h2, _⟩ := nums13 (e := ⟨3, 13, [a, b, c, d, f], []⟩) hg.2.2 rfl rfl
  simp at hn
  omega
theorem nth_at {e : Evt} {i : Nat} (h : i < e.nums.length) : e.nums[i]? = some (nth e i) := by
  unfold nth; rw [List.getD_eq_getElem?_getD, List.getElem?_eq_getElem h]; rfl
set_option maxRecDepth 20000 in
set_option maxHeartbeats 8000000 in
theorem back_c {p : List Opn} {t : List Lt} {x : EvC} {e : Evt} {a b : Option Addr} {m n ca cb : Nat} {y q : Int} {w : World} (hm : p.length = m) (hn : t.length = n) (HP : SlR encP 6 w a ca p) (HL : SlR encL 4 w b cb t) (HR : EvR w x e) (hK : KnW w) : Calls Tryd.prog 4 #[.slice a m ca, .slice b n cb, .agg (encV x).toArray, .int .i64 y, .int .i64 q] w fun e1 w' => e1 = .returned (.bool true) ∧ Below w.heap.size w w' := by
  subst hm hn
  have hcp := HP.le
  have hcpm := HP.max
  have hct := HL.le
  have hctm := HL.max
  have hw := Below.refl w.heap.size w
  have hW := hw
  refine fn_enter 187 Tryd.func4 rfl rfl rfl ?_
  repeat' (first | (refine lw_pure rfl (pv_move rfl) ?_) | (refine lw_pure rfl (pv_assign rfl) ?_) | (refine is_cw ?_; first | (refine cw_seq ?_) | (refine cw_region ?_) | (refine cw_true rfl rfl ?_) | (refine cw_false rfl rfl ?_) | (refine is_cd ?_; refine cw_true rfl (by first | assumption | exact decide_eq_true (by omega) | exact dec_notT (by omega)) ?_) | (refine is_cd ?_; refine cw_false rfl (by first | assumption | exact decide_eq_false (by omega) | exact dec_notF (by omega)) ?_) | (refine cw_skip ?_) | (refine cw_block ?_) | (refine cw_ret ?_)) | (refine is_qw ?_; first | (with_reducible refine qw_then ?_) | (with_reducible refine qw_in ?_) | (with_reducible refine qw_in_hit ?_) | (refine qw_in_miss rfl ?_) | (with_reducible refine qw_then_exit ?_) | (with_reducible refine qw_then_ret ?_) | (with_reducible refine qw_in_ret ?_)) | (refine lw_nil ?_) | (refine is_guarded ?_; first | (refine lw_not rfl rfl rfl rfl ?_) | (refine lw_not_u rfl rfl rfl ?_) | (refine lw_on rfl rfl rfl ?_)) | ((refine is_bin ?_; first | (refine lw_pure rfl (pv_lss rfl rfl) ?_) | (refine lw_pure rfl (pv_eql rfl rfl) ?_) | (refine lw_pure rfl (pv_neq rfl rfl) ?_) | (refine lw_pure rfl (pv_gtr rfl rfl) ?_) | (refine lw_pure rfl (pv_geq rfl rfl) ?_) | (refine lw_pure rfl (pv_sub rfl rfl (by omega)) ?_))) | ((refine is_load ?_; first | (refine lw_pure rfl (pv_load (t1 rfl) rfl (by first | fail)) ?_) | (refine lw_pure rfl (pv_loada (tA rfl) rfl (by first | fail) (by rfl)) ?_))) | ((refine is_fa ?_; first | (refine lw_pure rfl (pv_fa (tF rfl) rfl) ?_))) | ((refine is_ia ?_; first | (refine lw_pure rfl (pv_ian (tS rfl) rfl rfl (by omega)) ?_) | (refine lw_pure rfl (pv_ia (tS rfl) rfl rfl (by omega)) ?_))) | ((refine is_un ?_; first | (refine lw_pure rfl (pv_not rfl) ?_))) | ((refine is_bi ?_; first | (refine lw_pure rfl (pv_lenl (tS rfl) rfl) ?_) | (refine lw_pure rfl (pv_lens (tStr rfl) rfl) ?_))) | (refine is_pk ?_; refine lw_pure rfl (pv_pick_t rfl rfl rfl) ?_) | (refine is_pk ?_; refine lw_pure rfl (pv_pick_f rfl rfl rfl) ?_) | (refine is_pk ?_; refine lw_pure rfl (pv_pick_t rfl (by first | assumption | exact decide_eq_true (by omega) | exact dec_notT (by omega)) rfl) ?_) | (refine is_pk ?_; refine lw_pure rfl (pv_pick_f rfl (by first | assumption | exact decide_eq_false (by omega) | exact dec_notF (by omega)) rfl) ?_) | (refine is_pk ?_; refine lw_pure rfl (pv_pick rfl rfl rfl) ?_) | (refine lw_pure rfl (pv_extract rfl rfl) ?_))
  refine lw_boxN rfl rfl (cs := encV x) rfl ?_; intro NE w1 hNE H hb
  have hs := grow_trans hw hb; replace hW := grow_trans hW hs; replace HP := HP.mono hs; replace HL := HL.mono hs; replace HR := HR.mono hs; replace hK := hK.mono hs; clear hw hb hs; have hw := Below.refl w1.heap.size w1
  repeat' (first | (refine lw_pure rfl (pv_move rfl) ?_) | (refine lw_pure rfl (pv_assign rfl) ?_) | (refine is_cw ?_; first | (refine cw_seq ?_) | (refine cw_region ?_) | (refine cw_true rfl rfl ?_) | (refine cw_false rfl rfl ?_) | (refine is_cd ?_; refine cw_true rfl (by first | assumption | exact decide_eq_true (by omega) | exact dec_notT (by omega)) ?_) | (refine is_cd ?_; refine cw_false rfl (by first | assumption | exact decide_eq_false (by omega) | exact dec_notF (by omega)) ?_) | (refine cw_skip ?_) | (refine cw_block ?_) | (refine cw_ret ?_)) | (refine is_qw ?_; first | (with_reducible refine qw_then ?_) | (with_reducible refine qw_in ?_) | (with_reducible refine qw_in_hit ?_) | (refine qw_in_miss rfl ?_) | (with_reducible refine qw_then_exit ?_) | (with_reducible refine qw_then_ret ?_) | (with_reducible refine qw_in_ret ?_)) | (refine lw_nil ?_) | (refine is_guarded ?_; first | (refine lw_not rfl rfl rfl rfl ?_) | (refine lw_not_u rfl rfl rfl ?_) | (refine lw_on rfl rfl rfl ?_)) | ((refine is_bin ?_; first | (refine lw_pure rfl (pv_lss rfl rfl) ?_) | (refine lw_pure rfl (pv_eql rfl rfl) ?_) | (refine lw_pure rfl (pv_neq rfl rfl) ?_) | (refine lw_pure rfl (pv_gtr rfl rfl) ?_) | (refine lw_pure rfl (pv_geq rfl rfl) ?_) | (refine lw_pure rfl (pv_sub rfl rfl (by omega)) ?_))) | ((refine is_load ?_; first | (refine lw_pure rfl (pv_load (t1 rfl) rfl (by first | exact PT.ld0 (H.mono hw) rfl | exact PT.ld (H.mono hw) rfl)) ?_) | (refine lw_pure rfl (pv_loada (tA rfl) rfl (by first | exact PT.lda (H.mono hw)) (by rfl)) ?_))) | ((refine is_fa ?_; first | (refine lw_pure rfl (pv_fa (tF rfl) rfl) ?_))) | ((refine is_ia ?_; first | (refine lw_pure rfl (pv_ian (tS rfl) rfl rfl (by omega)) ?_) | (refine lw_pure rfl (pv_ia (tS rfl) rfl rfl (by omega)) ?_))) | ((refine is_un ?_; first | (refine lw_pure rfl (pv_not rfl) ?_))) | ((refine is_bi ?_; first | (refine lw_pure rfl (pv_lenl (tS rfl) rfl) ?_) | (refine lw_pure rfl (pv_lens (tStr rfl) rfl) ?_))) | (refine is_pk ?_; refine lw_pure rfl (pv_pick_t rfl rfl rfl) ?_) | (refine is_pk ?_; refine lw_pure rfl (pv_pick_f rfl rfl rfl) ?_) | (refine is_pk ?_; refine lw_pure rfl (pv_pick_t rfl (by first | assumption | exact decide_eq_true (by omega) | exact dec_notT (by omega)) rfl) ?_) | (refine is_pk ?_; refine lw_pure rfl (pv_pick_f rfl (by first | assumption | exact decide_eq_false (by omega) | exact dec_notF (by omega)) rfl) ?_) | (refine is_pk ?_; refine lw_pure rfl (pv_pick rfl rfl rfl) ?_) | (refine lw_pure rfl (pv_extract rfl rfl) ?_))
  refine lw_call (f := 5) (by kernel_rfl) rfl rfl (works_c (hK.mono hw)) ?_; rintro e1 w2 ⟨rfl, hb⟩; refine ⟨_, rfl, ?_⟩
  have hs := grow_trans hw hb; replace hW := grow_trans hW hs; replace HP := HP.mono hs; replace HL := HL.mono hs; replace HR := HR.mono hs; replace hK := hK.mono hs; replace H := H.mono hs; clear hw hb hs; have hw := Below.refl w2.heap.size w2
  repeat' (first | (refine lw_pure rfl (pv_move rfl) ?_) | (refine lw_pure rfl (pv_assign rfl) ?_) | (refine is_cw ?_; first | (refine cw_seq ?_) | (refine cw_region ?_) | (refine cw_true rfl rfl ?_) | (refine cw_false rfl rfl ?_) | (refine is_cd ?_; refine cw_true rfl (by first | assumption | exact decide_eq_true (by omega) | exact dec_notT (by omega)) ?_) | (refine is_cd ?_; refine cw_false rfl (by first | assumption | exact decide_eq_false (by omega) | exact dec_notF (by omega)) ?_) | (refine cw_skip ?_) | (refine cw_block ?_) | (refine cw_ret ?_)) | (refine is_qw ?_; first | (with_reducible refine qw_then ?_) | (with_reducible refine qw_in ?_) | (with_reducible refine qw_in_hit ?_) | (refine qw_in_miss rfl ?_) | (with_reducible refine qw_then_exit ?_) | (with_reducible refine qw_then_ret ?_) | (with_reducible refine qw_in_ret ?_)) | (refine lw_nil ?_) | (refine is_guarded ?_; first | (refine lw_not rfl rfl rfl rfl ?_) | (refine lw_not_u rfl rfl rfl ?_) | (refine lw_on rfl rfl rfl ?_)) | ((refine is_bin ?_; first | (refine lw_pure rfl (pv_lss rfl rfl) ?_) | (refine lw_pure rfl (pv_eql rfl rfl) ?_) | (refine lw_pure rfl (pv_neq rfl rfl) ?_) | (refine lw_pure rfl (pv_gtr rfl rfl) ?_) | (refine lw_pure rfl (pv_geq rfl rfl) ?_) | (refine lw_pure rfl (pv_sub rfl rfl (by omega)) ?_))) | ((refine is_load ?_; first | (refine lw_pure rfl (pv_load (t1 rfl) rfl (by first | exact PT.ld0 (H.mono hw) rfl | exact PT.ld (H.mono hw) rfl)) ?_) | (refine lw_pure rfl (pv_loada (tA rfl) rfl (by first | exact PT.lda (H.mono hw)) (by rfl)) ?_))) | ((refine is_fa ?_; first | (refine lw_pure rfl (pv_fa (tF rfl) rfl) ?_))) | ((refine is_ia ?_; first | (refine lw_pure rfl (pv_ian (tS rfl) rfl rfl (by omega)) ?_) | (refine lw_pure rfl (pv_ia (tS rfl) rfl rfl (by omega)) ?_))) | ((refine is_un ?_; first | (refine lw_pure rfl (pv_not rfl) ?_))) | ((refine is_bi ?_; first | (refine lw_pure rfl (pv_lenl (tS rfl) rfl) ?_) | (refine lw_pure rfl (pv_lens (tStr rfl) rfl) ?_))) | (refine is_pk ?_; refine lw_pure rfl (pv_pick_t rfl rfl rfl) ?_) | (refine is_pk ?_; refine lw_pure rfl (pv_pick_f rfl rfl rfl) ?_) | (refine is_pk ?_; refine lw_pure rfl (pv_pick_t rfl (by first | assumption | exact decide_eq_true (by omega) | exact dec_notT (by omega)) rfl) ?_) | (refine is_pk ?_; refine lw_pure rfl (pv_pick_f rfl (by first | assumption | exact decide_eq_false (by omega) | exact dec_notF (by omega)) rfl) ?_) | (refine is_pk ?_; refine lw_pure rfl (pv_pick rfl rfl rfl) ?_) | (refine lw_pure rfl (pv_extract rfl rfl) ?_))
  refine lw_bsN (vs := [.agg (encV x).toArray]) (cs := encV x) elemV rfl rfl rfl (by omega) (by omega) rfl (by simp [Value.cells]) ?_; intro B4 w3 _ HX hb
  have hs := grow_trans hw hb; replace hW := grow_trans hW hs; replace HP := HP.mono hs; replace HL := HL.mono hs; replace HR := HR.mono hs; replace hK := hK.mono hs; replace H := H.mono hs; clear hw hb hs; have hw := Below.refl w3.heap.size w3
  repeat' (first | (refine lw_pure rfl (pv_move rfl) ?_) | (refine lw_pure rfl (pv_assign rfl) ?_) | (refine is_cw ?_; first | (refine cw_seq ?_) | (refine cw_region ?_) | (refine cw_true rfl rfl ?_) | (refine cw_false rfl rfl ?_) | (refine is_cd ?_; refine cw_true rfl (by first | assumption | exact decide_eq_true (by omega) | exact dec_notT (by omega)) ?_) | (refine is_cd ?_; refine cw_false rfl (by first | assumption | exact decide_eq_false (by omega) | exact dec_notF (by omega)) ?_) | (refine cw_skip ?_) | (refine cw_block ?_) | (refine cw_ret ?_)) | (refine is_qw ?_; first | (with_reducible refine qw_then ?_) | (with_reducible refine qw_in ?_) | (with_reducible refine qw_in_hit ?_) | (refine qw_in_miss rfl ?_) | (with_reducible refine qw_then_exit ?_) | (with_reducible refine qw_then_ret ?_) | (with_reducible refine qw_in_ret ?_)) | (refine lw_nil ?_) | (refine is_guarded ?_; first | (refine lw_not rfl rfl rfl rfl ?_) | (refine lw_not_u rfl rfl rfl ?_) | (refine lw_on rfl rfl rfl ?_)) | ((refine is_bin ?_; first | (refine lw_pure rfl (pv_lss rfl rfl) ?_) | (refine lw_pure rfl (pv_eql rfl rfl) ?_) | (refine lw_pure rfl (pv_neq rfl rfl) ?_) | (refine lw_pure rfl (pv_gtr rfl rfl) ?_) | (refine lw_pure rfl (pv_geq rfl rfl) ?_) | (refine lw_pure rfl (pv_sub rfl rfl (by omega)) ?_))) | ((refine is_load ?_; first | (refine lw_pure rfl (pv_load (t1 rfl) rfl (by first | fail)) ?_) | (refine lw_pure rfl (pv_loada (tA rfl) rfl (by first | fail) (by rfl)) ?_))) | ((refine is_fa ?_; first | (refine lw_pure rfl (pv_fa (tF rfl) rfl) ?_))) | ((refine is_ia ?_; first | (refine lw_pure rfl (pv_ian (tS rfl) rfl rfl (by omega)) ?_) | (refine lw_pure rfl (pv_ia (tS rfl) rfl rfl (by omega)) ?_))) | ((refine is_un ?_; first | (refine lw_pure rfl (pv_not rfl) ?_))) | ((refine is_bi ?_; first | (refine lw_pure rfl (pv_lenl (tS rfl) rfl) ?_) | (refine lw_pure rfl (pv_lens (tStr rfl) rfl) ?_))) | (refine is_pk ?_; refine lw_pure rfl (pv_pick_t rfl rfl rfl) ?_) | (refine is_pk ?_; refine lw_pure rfl (pv_pick_f rfl rfl rfl) ?_) | (refine is_pk ?_; refine lw_pure rfl (pv_pick_t rfl (by first | assumption | exact decide_eq_true (by omega) | exact dec_notT (by omega)) rfl) ?_) | (refine is_pk ?_; refine lw_pure rfl (pv_pick_f rfl (by first | assumption | exact decide_eq_false (by omega) | exact dec_notF (by omega)) rfl) ?_) | (refine is_pk ?_; refine lw_pure rfl (pv_pick rfl rfl rfl) ?_) | (refine lw_pure rfl (pv_extract rfl rfl) ?_))
  refine lw_call (f := 12) (by kernel_rfl) rfl rfl (heavy_c (by omega) (by omega) rfl ((HX.slR (xs := [x]) encV_len rfl (by simp)).mono hw)) ?_; rintro e1 w4 ⟨⟨r, rfl, hr⟩, hb⟩; refine ⟨_, rfl, ?_⟩
  have hs := grow_trans hw hb; replace hW := grow_trans hW hs; replace HP := HP.mono hs; replace HL := HL.mono hs; replace HR := HR.mono hs; replace hK := hK.mono hs; replace H := H.mono hs; clear hw hb hs; have hw := Below.refl w4.heap.size w4
  clear HX
  cases r with
  | true =>
    repeat' (first | (refine lw_pure rfl (pv_move rfl) ?_) | (refine lw_pure rfl (pv_assign rfl) ?_) | (refine is_cw ?_; first | (refine cw_seq ?_) | (refine cw_region ?_) | (refine cw_true rfl rfl ?_) | (refine cw_false rfl rfl ?_) | (refine is_cd ?_; refine cw_true rfl (by first | assumption | exact decide_eq_true (by omega) | exact dec_notT (by omega)) ?_) | (refine is_cd ?_; refine cw_false rfl (by first | assumption | exact decide_eq_false (by omega) | exact dec_notF (by omega)) ?_) | (refine cw_skip ?_) | (refine cw_block ?_) | (refine cw_ret ?_)) | (refine is_qw ?_; first | (with_reducible refine qw_then ?_) | (with_reducible refine qw_in ?_) | (with_reducible refine qw_in_hit ?_) | (refine qw_in_miss rfl ?_) | (with_reducible refine qw_then_exit ?_) | (with_reducible refine qw_then_ret ?_) | (with_reducible refine qw_in_ret ?_)) | (refine lw_nil ?_) | (refine is_guarded ?_; first | (refine lw_not rfl rfl rfl rfl ?_) | (refine lw_not_u rfl rfl rfl ?_) | (refine lw_on rfl rfl rfl ?_)) | ((refine is_bin ?_; first | (refine lw_pure rfl (pv_lss rfl rfl) ?_) | (refine lw_pure rfl (pv_eql rfl rfl) ?_) | (refine lw_pure rfl (pv_neq rfl rfl) ?_) | (refine lw_pure rfl (pv_gtr rfl rfl) ?_) | (refine lw_pure rfl (pv_geq rfl rfl) ?_) | (refine lw_pure rfl (pv_sub rfl rfl (by omega)) ?_))) | ((refine is_load ?_; first | (refine lw_pure rfl (pv_load (t1 rfl) rfl (by first | fail)) ?_) | (refine lw_pure rfl (pv_loada (tA rfl) rfl (by first | fail) (by rfl)) ?_))) | ((refine is_fa ?_; first | (refine lw_pure rfl (pv_fa (tF rfl) rfl) ?_))) | ((refine is_ia ?_; first | (refine lw_pure rfl (pv_ian (tS rfl) rfl rfl (by omega)) ?_) | (refine lw_pure rfl (pv_ia (tS rfl) rfl rfl (by omega)) ?_))) | ((refine is_un ?_; first | (refine lw_pure rfl (pv_not rfl) ?_))) | ((refine is_bi ?_; first | (refine lw_pure rfl (pv_lenl (tS rfl) rfl) ?_) | (refine lw_pure rfl (pv_lens (tStr rfl) rfl) ?_))) | (refine is_pk ?_; refine lw_pure rfl (pv_pick_t rfl rfl rfl) ?_) | (refine is_pk ?_; refine lw_pure rfl (pv_pick_f rfl rfl rfl) ?_) | (refine is_pk ?_; refine lw_pure rfl (pv_pick_t rfl (by first | assumption | exact decide_eq_true (by omega) | exact dec_notT (by omega)) rfl) ?_) | (refine is_pk ?_; refine lw_pure rfl (pv_pick_f rfl (by first | assumption | exact decide_eq_false (by omega) | exact dec_notF (by omega)) rfl) ?_) | (refine is_pk ?_; refine lw_pure rfl (pv_pick rfl rfl rfl) ?_) | (refine lw_pure rfl (pv_extract rfl rfl) ?_))
    refine lw_call (f := 5) (by kernel_rfl) rfl rfl (works_c (hK.mono hw)) ?_; rintro e1 w5 ⟨rfl, hb⟩; refine ⟨_, rfl, ?_⟩
    repeat' (first | (refine lw_pure rfl (pv_move rfl) ?_) | (refine lw_pure rfl (pv_assign rfl) ?_) | (refine is_cw ?_; first | (refine cw_seq ?_) | (refine cw_region ?_) | (refine cw_true rfl rfl ?_) | (refine cw_false rfl rfl ?_) | (refine is_cd ?_; refine cw_true rfl (by first | assumption | exact decide_eq_true (by omega) | exact dec_notT (by omega)) ?_) | (refine is_cd ?_; refine cw_false rfl (by first | assumption | exact decide_eq_false (by omega) | exact dec_notF (by omega)) ?_) | (refine cw_skip ?_) | (refine cw_block ?_) | (refine cw_ret ?_)) | (refine is_qw ?_; first | (with_reducible refine qw_then ?_) | (with_reducible refine qw_in ?_) | (with_reducible refine qw_in_hit ?_) | (refine qw_in_miss rfl ?_) | (with_reducible refine qw_then_exit ?_) | (with_reducible refine qw_then_ret ?_) | (with_reducible refine qw_in_ret ?_)) | (refine lw_nil ?_) | (refine is_guarded ?_; first | (refine lw_not rfl rfl rfl rfl ?_) | (refine lw_not_u rfl rfl rfl ?_) | (refine lw_on rfl rfl rfl ?_)) | ((refine is_bin ?_; first | (refine lw_pure rfl (pv_lss rfl rfl) ?_) | (refine lw_pure rfl (pv_eql rfl rfl) ?_) | (refine lw_pure rfl (pv_neq rfl rfl) ?_) | (refine lw_pure rfl (pv_gtr rfl rfl) ?_) | (refine lw_pure rfl (pv_geq rfl rfl) ?_) | (refine lw_pure rfl (pv_sub rfl rfl (by omega)) ?_))) | ((refine is_load ?_; first | (refine lw_pure rfl (pv_load (t1 rfl) rfl (by first | fail)) ?_) | (refine lw_pure rfl (pv_loada (tA rfl) rfl (by first | fail) (by rfl)) ?_))) | ((refine is_fa ?_; first | (refine lw_pure rfl (pv_fa (tF rfl) rfl) ?_))) | ((refine is_ia ?_; first | (refine lw_pure rfl (pv_ian (tS rfl) rfl rfl (by omega)) ?_) | (refine lw_pure rfl (pv_ia (tS rfl) rfl rfl (by omega)) ?_))) | ((refine is_un ?_; first | (refine lw_pure rfl (pv_not rfl) ?_))) | ((refine is_bi ?_; first | (refine lw_pure rfl (pv_lenl (tS rfl) rfl) ?_) | (refine lw_pure rfl (pv_lens (tStr rfl) rfl) ?_))) | (refine is_pk ?_; refine lw_pure rfl (pv_pick_t rfl rfl rfl) ?_) | (refine is_pk ?_; refine lw_pure rfl (pv_pick_f rfl rfl rfl) ?_) | (refine is_pk ?_; refine lw_pure rfl (pv_pick_t rfl (by first | assumption | exact decide_eq_true (by omega) | exact dec_notT (by omega)) rfl) ?_) | (refine is_pk ?_; refine lw_pure rfl (pv_pick_f rfl (by first | assumption | exact decide_eq_false (by omega) | exact dec_notF (by omega)) rfl) ?_) | (refine is_pk ?_; refine lw_pure rfl (pv_pick rfl rfl rfl) ?_) | (refine lw_pure rfl (pv_extract rfl rfl) ?_))
    exact qw_ret1 rfl rfl ⟨rfl, grow_trans hW (grow_trans hw hb)⟩
  | false =>
    obtain ⟨hp150, ht50, -, -⟩ := hr rfl
    clear hr
    obtain ⟨xv, xk, xan, xmn, xcn, xax, xmx, xcx⟩ := x
    obtain ⟨r1, r2, r3, r4, HN, r6, r7, r8⟩ := HR
    simp only at r1 r2 r3 r4 HN r6
    subst r1 r2 r3 r4
    replace H : PT w4 NE 26 [.int .u8 e.v, .int .u8 e.kind, .slice xan e.nums.length xcn, .slice xax e.texts.length xcx] := H
    have hnle := HN.le
    have hnmx := HN.max
    obtain ⟨R, hR⟩ : ∃ R, eventR p t e = R := ⟨_, rfl⟩
    have hok := event_ok (p := p) (t := t) (e := e)
    have hb11 := back11 (p := p) (t := t) (e := e)
    have hb14 := back14 (p := p) (t := t) (e := e)
    have hb13 := parted13 (p := p) (t := t) (e := e)
    rw [hR] at hok hb11 hb14 hb13
    repeat' (first | (refine lw_pure rfl (pv_move rfl) ?_) | (refine lw_pure rfl (pv_assign rfl) ?_) | (refine is_cw ?_; first | (refine cw_seq ?_) | (refine cw_region ?_) | (refine cw_true rfl rfl ?_) | (refine cw_false rfl rfl ?_) | (refine is_cd ?_; refine cw_true rfl (by first | assumption | exact decide_eq_true (by omega) | exact dec_notT (by omega)) ?_) | (refine is_cd ?_; refine cw_false rfl (by first | assumption | exact decide_eq_false (by omega) | exact dec_notF (by omega)) ?_) | (refine cw_skip ?_) | (refine cw_block ?_) | (refine cw_ret ?_)) | (refine is_qw ?_; first | (with_reducible refine qw_then ?_) | (with_reducible refine qw_in ?_) | (with_reducible refine qw_in_hit ?_) | (refine qw_in_miss rfl ?_) | (with_reducible refine qw_then_exit ?_) | (with_reducible refine qw_then_ret ?_) | (with_reducible refine qw_in_ret ?_)) | (refine lw_nil ?_) | (refine is_guarded ?_; first | (refine lw_not rfl rfl rfl rfl ?_) | (refine lw_not_u rfl rfl rfl ?_) | (refine lw_on rfl rfl rfl ?_)) | ((refine is_bin ?_; first | (refine lw_pure rfl (pv_lss rfl rfl) ?_) | (refine lw_pure rfl (pv_eql rfl rfl) ?_) | (refine lw_pure rfl (pv_neq rfl rfl) ?_) | (refine lw_pure rfl (pv_gtr rfl rfl) ?_) | (refine lw_pure rfl (pv_geq rfl rfl) ?_) | (refine lw_pure rfl (pv_sub rfl rfl (by omega)) ?_))) | ((refine is_load ?_; first | (refine lw_pure rfl (pv_load (t1 rfl) rfl (by first | exact PT.ld0 (H.mono hw) rfl | exact PT.ld (H.mono hw) rfl)) ?_) | (refine lw_pure rfl (pv_loada (tA rfl) rfl (by first | exact PT.lda (H.mono hw)) (by rfl)) ?_))) | ((refine is_fa ?_; first | (refine lw_pure rfl (pv_fa (tF rfl) rfl) ?_))) | ((refine is_ia ?_; first | (refine lw_pure rfl (pv_ian (tS rfl) rfl rfl (by omega)) ?_) | (refine lw_pure rfl (pv_ia (tS rfl) rfl rfl (by omega)) ?_))) | ((refine is_un ?_; first | (refine lw_pure rfl (pv_not rfl) ?_))) | ((refine is_bi ?_; first | (refine lw_pure rfl (pv_lenl (tS rfl) rfl) ?_) | (refine lw_pure rfl (pv_lens (tStr rfl) rfl) ?_))) | (refine is_pk ?_; refine lw_pure rfl (pv_pick_t rfl rfl rfl) ?_) | (refine is_pk ?_; refine lw_pure rfl (pv_pick_f rfl rfl rfl) ?_) | (refine is_pk ?_; refine lw_pure rfl (pv_pick_t rfl (by first | assumption | exact decide_eq_true (by omega) | exact dec_notT (by omega)) rfl) ?_) | (refine is_pk ?_; refine lw_pure rfl (pv_pick_f rfl (by first | assumption | exact decide_eq_false (by omega) | exact dec_notF (by omega)) rfl) ?_) | (refine is_pk ?_; refine lw_pure rfl (pv_pick rfl rfl rfl) ?_) | (refine lw_pure rfl (pv_extract rfl rfl) ?_))
    refine lw_call (f := 8) (by kernel_rfl) rfl rfl (ev_c r7 rfl rfl rfl rfl (HP.mono hw) (HL.mono hw) (HN.mono hw) (r6.mono hw) r8 (hK.mono hw)) ?_; rintro e1 w6 ⟨⟨vo, vt, rfl, HO, HT⟩, hb⟩; refine ⟨_, rfl, ?_⟩
    rw [hR] at HO HT ⊢
    have hs := grow_trans hw hb; replace hW := grow_trans hW hs; replace HP := HP.mono hs; replace HL := HL.mono hs; replace HN := HN.mono hs; replace hK := hK.mono hs; replace H := H.mono hs; clear hw hb hs; have hw := Below.refl w6.heap.size w6
    obtain ⟨oa, oc, rfl, HO, -⟩ := Own.slR encP_len HO
    obtain ⟨ta, tc, rfl, HT, -⟩ := Own.slR encL_len HT
    by_cases h0 : R.2.2 = 0
    · obtain ⟨⟨hM, hv, hE⟩, -⟩ := hok h0
      by_cases hnl : e.nums.length = 0
      · repeat' (first | (refine lw_pure rfl (pv_move rfl) ?_) | (refine lw_pure rfl (pv_assign rfl) ?_) | (refine is_cw ?_; first | (refine cw_seq ?_) | (refine cw_region ?_) | (refine cw_true rfl rfl ?_) | (refine cw_false rfl rfl ?_) | (refine is_cd ?_; refine cw_true rfl (by first | assumption | exact decide_eq_true (by omega) | exact dec_notT (by omega)) ?_) | (refine is_cd ?_; refine cw_false rfl (by first | assumption | exact decide_eq_false (by omega) | exact dec_notF (by omega)) ?_) | (refine cw_skip ?_) | (refine cw_block ?_) | (refine cw_ret ?_)) | (refine is_qw ?_; first | (with_reducible refine qw_then ?_) | (with_reducible refine qw_in ?_) | (with_reducible refine qw_in_hit ?_) | (refine qw_in_miss rfl ?_) | (with_reducible refine qw_then_exit ?_) | (with_reducible refine qw_then_ret ?_) | (with_reducible refine qw_in_ret ?_)) | (refine lw_nil ?_) | (refine is_guarded ?_; first | (refine lw_not rfl rfl rfl rfl ?_) | (refine lw_not_u rfl rfl rfl ?_) | (refine lw_on rfl rfl rfl ?_) | (refine lw_on rfl rfl (by first | assumption | exact decide_eq_true (by omega) | exact decide_eq_false (by omega) | exact dec_notT (by omega) | exact dec_notF (by omega)) ?_) | (refine lw_not rfl rfl rfl (by first | assumption | exact decide_eq_true (by omega) | exact decide_eq_false (by omega) | exact dec_notT (by omega) | exact dec_notF (by omega)) ?_) | (refine lw_gs_t rfl rfl rfl (fun hc => ?_) (fun hc => ?_) <;> (first | replace hc := of_decide_eq_true hc | replace hc := of_decide_eq_false hc | replace hc := dec_nT hc | replace hc := dec_nF hc | skip) <;> (try (exfalso; omega))) | (refine lw_gs_f rfl rfl rfl (fun hc => ?_) (fun hc => ?_) <;> (first | replace hc := of_decide_eq_true hc | replace hc := of_decide_eq_false hc | replace hc := dec_nT hc | replace hc := dec_nF hc | skip) <;> (try (exfalso; omega)))) | ((refine is_bin ?_; first | (refine lw_pure rfl (pv_lss rfl rfl) ?_) | (refine lw_pure rfl (pv_eql rfl rfl) ?_) | (refine lw_pure rfl (pv_neq rfl rfl) ?_) | (refine lw_pure rfl (pv_gtr rfl rfl) ?_) | (refine lw_pure rfl (pv_geq rfl rfl) ?_) | (refine lw_pure rfl (pv_sub rfl rfl (by omega)) ?_))) | ((refine is_load ?_; first | (refine lw_pure rfl (pv_load (t1 rfl) rfl (by first | exact PT.ld0 (H.mono hw) rfl | exact PT.ld (H.mono hw) rfl)) ?_) | (refine lw_pure rfl (pv_loada (tA rfl) rfl (by first | exact PT.lda (H.mono hw)) (by rfl)) ?_))) | ((refine is_fa ?_; first | (refine lw_pure rfl (pv_fa (tF rfl) rfl) ?_))) | ((refine is_ia ?_; first | (refine lw_pure rfl (pv_ian (tS rfl) rfl rfl (by omega)) ?_) | (refine lw_pure rfl (pv_ia (tS rfl) rfl rfl (by omega)) ?_))) | ((refine is_un ?_; first | (refine lw_pure rfl (pv_not rfl) ?_))) | ((refine is_bi ?_; first | (refine lw_pure rfl (pv_lenl (tS rfl) rfl) ?_) | (refine lw_pure rfl (pv_lens (tStr rfl) rfl) ?_))) | (refine is_pk ?_; refine lw_pure rfl (pv_pick_t rfl rfl rfl) ?_) | (refine is_pk ?_; refine lw_pure rfl (pv_pick_f rfl rfl rfl) ?_) | (refine is_pk ?_; refine lw_pure rfl (pv_pick_t rfl (by first | assumption | exact decide_eq_true (by omega) | exact dec_notT (by omega)) rfl) ?_) | (refine is_pk ?_; refine lw_pure rfl (pv_pick_f rfl (by first | assumption | exact decide_eq_false (by omega) | exact dec_notF (by omega)) rfl) ?_) | (refine is_pk ?_; refine lw_pure rfl (pv_pick rfl rfl rfl) ?_) | (refine lw_pure rfl (pv_extract rfl rfl) ?_) | (refine is_cw ?_; refine cw_split rfl (fun hc => ?_) (fun hc => ?_) <;> (first | replace hc := of_decide_eq_true hc | replace hc := of_decide_eq_false hc | replace hc := dec_nT hc | replace hc := dec_nF hc | skip) <;> (try (exfalso; omega))))
        all_goals exact qw_ret1 rfl rfl ⟨rfl, grow_trans hW hw⟩
      · have hl : 1 ≤ e.nums.length := by omega
        have h00 := nth_at (e := e) (i := 0) (by omega)
        by_cases k1 : e.kind = 11
        · skip
          obtain ⟨nb, no, rfl, -, -⟩ := HN.at (by intro h; rw [h] at hl; simp at hl)
          repeat' (first | (refine lw_pure rfl (pv_move rfl) ?_) | (refine lw_pure rfl (pv_assign rfl) ?_) | (refine is_cw ?_; first | (refine cw_seq ?_) | (refine cw_region ?_) | (refine cw_true rfl rfl ?_) | (refine cw_false rfl rfl ?_) | (refine is_cd ?_; refine cw_true rfl (by first | assumption | exact decide_eq_true (by omega) | exact dec_notT (by omega)) ?_) | (refine is_cd ?_; refine cw_false rfl (by first | assumption | exact decide_eq_false (by omega) | exact dec_notF (by omega)) ?_) | (refine cw_skip ?_) | (refine cw_block ?_) | (refine cw_ret ?_)) | (refine is_qw ?_; first | (with_reducible refine qw_then ?_) | (with_reducible refine qw_in ?_) | (with_reducible refine qw_in_hit ?_) | (refine qw_in_miss rfl ?_) | (with_reducible refine qw_then_exit ?_) | (with_reducible refine qw_then_ret ?_) | (with_reducible refine qw_in_ret ?_)) | (refine lw_nil ?_) | (refine is_guarded ?_; first | (refine lw_not rfl rfl rfl rfl ?_) | (refine lw_not_u rfl rfl rfl ?_) | (refine lw_on rfl rfl rfl ?_) | (refine lw_on rfl rfl (by first | assumption | exact decide_eq_true (by omega) | exact decide_eq_false (by omega) | exact dec_notT (by omega) | exact dec_notF (by omega)) ?_) | (refine lw_not rfl rfl rfl (by first | assumption | exact decide_eq_true (by omega) | exact decide_eq_false (by omega) | exact dec_notT (by omega) | exact dec_notF (by omega)) ?_) | (refine lw_gs_t rfl rfl rfl (fun hc => ?_) (fun hc => ?_) <;> (first | replace hc := of_decide_eq_true hc | replace hc := of_decide_eq_false hc | replace hc := dec_nT hc | replace hc := dec_nF hc | skip) <;> (try (exfalso; omega))) | (refine lw_gs_f rfl rfl rfl (fun hc => ?_) (fun hc => ?_) <;> (first | replace hc := of_decide_eq_true hc | replace hc := of_decide_eq_false hc | replace hc := dec_nT hc | replace hc := dec_nF hc | skip) <;> (try (exfalso; omega)))) | ((refine is_bin ?_; first | (refine lw_pure rfl (pv_lss rfl rfl) ?_) | (refine lw_pure rfl (pv_eql rfl rfl) ?_) | (refine lw_pure rfl (pv_neq rfl rfl) ?_) | (refine lw_pure rfl (pv_gtr rfl rfl) ?_) | (refine lw_pure rfl (pv_geq rfl rfl) ?_) | (refine lw_pure rfl (pv_sub rfl rfl (by omega)) ?_))) | ((refine is_load ?_; first | (refine lw_pure rfl (pv_load (t1 rfl) rfl (by first | exact PT.ld0 (H.mono hw) rfl | exact PT.ld (H.mono hw) rfl | exact SlR.ld (HN.mono hw) h00 rfl | exact SlR.ld1 (HN.mono hw) h00 rfl)) ?_) | (refine lw_pure rfl (pv_loada (tA rfl) rfl (by first | exact PT.lda (H.mono hw) | exact SlR.lda (HN.mono hw) h00) (by rfl)) ?_))) | ((refine is_fa ?_; first | (refine lw_pure rfl (pv_fa (tF rfl) rfl) ?_))) | ((refine is_ia ?_; first | (refine lw_pure rfl (pv_ian (tS rfl) rfl rfl (by omega)) ?_) | (refine lw_pure rfl (pv_ia (tS rfl) rfl rfl (by omega)) ?_))) | ((refine is_un ?_; first | (refine lw_pure rfl (pv_not rfl) ?_))) | ((refine is_bi ?_; first | (refine lw_pure rfl (pv_lenl (tS rfl) rfl) ?_) | (refine lw_pure rfl (pv_lens (tStr rfl) rfl) ?_))) | (refine is_pk ?_; refine lw_pure rfl (pv_pick_t rfl rfl rfl) ?_) | (refine is_pk ?_; refine lw_pure rfl (pv_pick_f rfl rfl rfl) ?_) | (refine is_pk ?_; refine lw_pure rfl (pv_pick_t rfl (by first | assumption | exact decide_eq_true (by omega) | exact dec_notT (by omega)) rfl) ?_) | (refine is_pk ?_; refine lw_pure rfl (pv_pick_f rfl (by first | assumption | exact decide_eq_false (by omega) | exact dec_notF (by omega)) rfl) ?_) | (refine is_pk ?_; refine lw_pure rfl (pv_pick rfl rfl rfl) ?_) | (refine lw_pure rfl (pv_extract rfl rfl) ?_) | (refine is_cw ?_; refine cw_split rfl (fun hc => ?_) (fun hc => ?_) <;> (first | replace hc := of_decide_eq_true hc | replace hc := of_decide_eq_false hc | replace hc := dec_nT hc | replace hc := dec_nF hc | skip) <;> (try (exfalso; omega))))
          refine lw_bsN (vs := [.int .i64 (nth e 0)]) (cs := [.int .i64 (nth e 0)]) elemI rfl rfl rfl (by omega) (by omega) rfl (by simp [Value.cells]) ?_; intro B7 w7 _ HX hb
          have hs := grow_trans hw hb; replace hW := grow_trans hW hs; replace HP := HP.mono hs; replace HL := HL.mono hs; replace HN := HN.mono hs; replace hK := hK.mono hs; replace H := H.mono hs; replace HO := HO.mono hs; replace HT := HT.mono hs; clear hw hb hs; have hw := Below.refl w7.heap.size w7
          have HX2 : SlR encI 1 w7 (some ⟨B7, 0, none⟩) 1 [nth e 0] := HX.slR (xs := [nth e 0]) encI_len rfl (by simp)
          clear HX
          repeat' (first | (refine lw_pure rfl (pv_move rfl) ?_) | (refine lw_pure rfl (pv_assign rfl) ?_) | (refine lw_call (f := 6) (by kernel_rfl) rfl rfl (evnew_c 12 _ 1 1 _) ?_; rintro e w1 ⟨rfl, hb⟩; refine ⟨_, rfl, ?_⟩; replace hw := grow_trans hw hb; clear hb) | (refine is_cw ?_; first | (refine cw_seq ?_) | (refine cw_region ?_) | (refine cw_true rfl rfl ?_) | (refine cw_false rfl rfl ?_) | (refine is_cd ?_; refine cw_true rfl (by first | assumption | exact decide_eq_true (by omega) | exact dec_notT (by omega)) ?_) | (refine is_cd ?_; refine cw_false rfl (by first | assumption | exact decide_eq_false (by omega) | exact dec_notF (by omega)) ?_) | (refine cw_skip ?_) | (refine cw_block ?_) | (refine cw_ret ?_)) | (refine is_qw ?_; first | (with_reducible refine qw_then ?_) | (with_reducible refine qw_in ?_) | (with_reducible refine qw_in_hit ?_) | (refine qw_in_miss rfl ?_) | (with_reducible refine qw_then_exit ?_) | (with_reducible refine qw_then_ret ?_) | (with_reducible refine qw_in_ret ?_)) | (refine lw_nil ?_) | (refine is_guarded ?_; first | (refine lw_not rfl rfl rfl rfl ?_) | (refine lw_not_u rfl rfl rfl ?_) | (refine lw_on rfl rfl rfl ?_)) | ((refine is_bin ?_; first | (refine lw_pure rfl (pv_lss rfl rfl) ?_) | (refine lw_pure rfl (pv_eql rfl rfl) ?_) | (refine lw_pure rfl (pv_neq rfl rfl) ?_) | (refine lw_pure rfl (pv_gtr rfl rfl) ?_) | (refine lw_pure rfl (pv_geq rfl rfl) ?_) | (refine lw_pure rfl (pv_sub rfl rfl (by omega)) ?_))) | ((refine is_load ?_; first | (refine lw_pure rfl (pv_load (t1 rfl) rfl (by first | fail)) ?_) | (refine lw_pure rfl (pv_loada (tA rfl) rfl (by first | fail) (by rfl)) ?_))) | ((refine is_fa ?_; first | (refine lw_pure rfl (pv_fa (tF rfl) rfl) ?_))) | ((refine is_ia ?_; first | (refine lw_pure rfl (pv_ian (tS rfl) rfl rfl (by omega)) ?_) | (refine lw_pure rfl (pv_ia (tS rfl) rfl rfl (by omega)) ?_))) | ((refine is_un ?_; first | (refine lw_pure rfl (pv_not rfl) ?_))) | ((refine is_bi ?_; first | (refine lw_pure rfl (pv_lenl (tS rfl) rfl) ?_) | (refine lw_pure rfl (pv_lens (tStr rfl) rfl) ?_))) | (refine is_pk ?_; refine lw_pure rfl (pv_pick_t rfl rfl rfl) ?_) | (refine is_pk ?_; refine lw_pure rfl (pv_pick_f rfl rfl rfl) ?_) | (refine is_pk ?_; refine lw_pure rfl (pv_pick_t rfl (by first | assumption | exact decide_eq_true (by omega) | exact dec_notT (by omega)) rfl) ?_) | (refine is_pk ?_; refine lw_pure rfl (pv_pick_f rfl (by first | assumption | exact decide_eq_false (by omega) | exact dec_notF (by omega)) rfl) ?_) | (refine is_pk ?_; refine lw_pure rfl (pv_pick rfl rfl rfl) ?_) | (refine lw_pure rfl (pv_extract rfl rfl) ?_))
          refine lw_call (f := 8) (by kernel_rfl) rfl rfl (ev_cT (e := ⟨3, 12, [nth e 0], []⟩) (hb11 h0 k1) (show (0 : Int) ≤ 12 ∧ (12 : Int) ≤ 255 by decide) rfl rfl rfl rfl (HO.mono hw) (HT.mono hw) (HX2.mono hw) (SlR.nil _) tx_nil (hK.mono hw)) ?_; rintro e1 w8 ⟨⟨vo2, vt2, rfl, HO2, HT2⟩, hb⟩; refine ⟨_, rfl, ?_⟩
          clear HX2
          have hs := grow_trans hw hb; replace hW := grow_trans hW hs; replace HP := HP.mono hs; replace HL := HL.mono hs; replace HN := HN.mono hs; replace hK := hK.mono hs; replace H := H.mono hs; replace HO := HO.mono hs; replace HT := HT.mono hs; clear hw hb hs; have hw := Below.refl w8.heap.size w8
          obtain ⟨pa, pc, rfl, HO2, -⟩ := Own.slR encP_len HO2
          obtain ⟨la, lc, rfl, HT2, -⟩ := Own.slR encL_len HT2
          repeat' (first | (refine lw_pure rfl (pv_move rfl) ?_) | (refine lw_pure rfl (pv_assign rfl) ?_) | (refine lw_call (f := 9) (by kernel_rfl) rfl rfl (rsP_t rfl rfl (HO2.mono hw) (HP.mono hw)) ?_; rintro e w1 ⟨rfl, hb⟩; refine ⟨_, rfl, ?_⟩; replace hw := grow_trans hw hb; clear hb) | (refine lw_call (f := 10) (by kernel_rfl) rfl rfl (rsT_t rfl rfl (HT2.mono hw) (HL.mono hw)) ?_; rintro e w1 ⟨rfl, hb⟩; refine ⟨_, rfl, ?_⟩; replace hw := grow_trans hw hb; clear hb) | (refine is_cw ?_; first | (refine cw_seq ?_) | (refine cw_region ?_) | (refine cw_true rfl rfl ?_) | (refine cw_false rfl rfl ?_) | (refine is_cd ?_; refine cw_true rfl (by first | assumption | exact decide_eq_true (by omega) | exact dec_notT (by omega)) ?_) | (refine is_cd ?_; refine cw_false rfl (by first | assumption | exact decide_eq_false (by omega) | exact dec_notF (by omega)) ?_) | (refine cw_skip ?_) | (refine cw_block ?_) | (refine cw_ret ?_)) | (refine is_qw ?_; first | (with_reducible refine qw_then ?_) | (with_reducible refine qw_in ?_) | (with_reducible refine qw_in_hit ?_) | (refine qw_in_miss rfl ?_) | (with_reducible refine qw_then_exit ?_) | (with_reducible refine qw_then_ret ?_) | (with_reducible refine qw_in_ret ?_)) | (refine lw_nil ?_) | (refine is_guarded ?_; first | (refine lw_not rfl rfl rfl rfl ?_) | (refine lw_not_u rfl rfl rfl ?_) | (refine lw_on rfl rfl rfl ?_)) | ((refine is_bin ?_; first | (refine lw_pure rfl (pv_lss rfl rfl) ?_) | (refine lw_pure rfl (pv_eql rfl rfl) ?_) | (refine lw_pure rfl (pv_neq rfl rfl) ?_) | (refine lw_pure rfl (pv_gtr rfl rfl) ?_) | (refine lw_pure rfl (pv_geq rfl rfl) ?_) | (refine lw_pure rfl (pv_sub rfl rfl (by omega)) ?_))) | ((refine is_load ?_; first | (refine lw_pure rfl (pv_load (t1 rfl) rfl (by first | fail)) ?_) | (refine lw_pure rfl (pv_loada (tA rfl) rfl (by first | fail) (by rfl)) ?_))) | ((refine is_fa ?_; first | (refine lw_pure rfl (pv_fa (tF rfl) rfl) ?_))) | ((refine is_ia ?_; first | (refine lw_pure rfl (pv_ian (tS rfl) rfl rfl (by omega)) ?_) | (refine lw_pure rfl (pv_ia (tS rfl) rfl rfl (by omega)) ?_))) | ((refine is_un ?_; first | (refine lw_pure rfl (pv_not rfl) ?_))) | ((refine is_bi ?_; first | (refine lw_pure rfl (pv_lenl (tS rfl) rfl) ?_) | (refine lw_pure rfl (pv_lens (tStr rfl) rfl) ?_))) | (refine is_pk ?_; refine lw_pure rfl (pv_pick_t rfl rfl rfl) ?_) | (refine is_pk ?_; refine lw_pure rfl (pv_pick_f rfl rfl rfl) ?_) | (refine is_pk ?_; refine lw_pure rfl (pv_pick_t rfl (by first | assumption | exact decide_eq_true (by omega) | exact dec_notT (by omega)) rfl) ?_) | (refine is_pk ?_; refine lw_pure rfl (pv_pick_f rfl (by first | assumption | exact decide_eq_false (by omega) | exact dec_notF (by omega)) rfl) ?_) | (refine is_pk ?_; refine lw_pure rfl (pv_pick rfl rfl rfl) ?_) | (refine lw_pure rfl (pv_extract rfl rfl) ?_))
          exact qw_ret1 rfl rfl ⟨rfl, grow_trans hW hw⟩
        · by_cases k4 : e.kind = 14
          · skip
            obtain ⟨nb, no, rfl, -, -⟩ := HN.at (by intro h; rw [h] at hl; simp at hl)
            repeat' (first | (refine lw_pure rfl (pv_move rfl) ?_) | (refine lw_pure rfl (pv_assign rfl) ?_) | (refine is_cw ?_; first | (refine cw_seq ?_) | (refine cw_region ?_) | (refine cw_true rfl rfl ?_) | (refine cw_false rfl rfl ?_) | (refine is_cd ?_; refine cw_true rfl (by first | assumption | exact decide_eq_true (by omega) | exact dec_notT (by omega)) ?_) | (refine is_cd ?_; refine cw_false rfl (by first | assumption | exact decide_eq_false (by omega) | exact dec_notF (by omega)) ?_) | (refine cw_skip ?_) | (refine cw_block ?_) | (refine cw_ret ?_)) | (refine is_qw ?_; first | (with_reducible refine qw_then ?_) | (with_reducible refine qw_in ?_) | (with_reducible refine qw_in_hit ?_) | (refine qw_in_miss rfl ?_) | (with_reducible refine qw_then_exit ?_) | (with_reducible refine qw_then_ret ?_) | (with_reducible refine qw_in_ret ?_)) | (refine lw_nil ?_) | (refine is_guarded ?_; first | (refine lw_not rfl rfl rfl rfl ?_) | (refine lw_not_u rfl rfl rfl ?_) | (refine lw_on rfl rfl rfl ?_) | (refine lw_on rfl rfl (by first | assumption | exact decide_eq_true (by omega) | exact decide_eq_false (by omega) | exact dec_notT (by omega) | exact dec_notF (by omega)) ?_) | (refine lw_not rfl rfl rfl (by first | assumption | exact decide_eq_true (by omega) | exact decide_eq_false (by omega) | exact dec_notT (by omega) | exact dec_notF (by omega)) ?_) | (refine lw_gs_t rfl rfl rfl (fun hc => ?_) (fun hc => ?_) <;> (first | replace hc := of_decide_eq_true hc | replace hc := of_decide_eq_false hc | replace hc := dec_nT hc | replace hc := dec_nF hc | skip) <;> (try (exfalso; omega))) | (refine lw_gs_f rfl rfl rfl (fun hc => ?_) (fun hc => ?_) <;> (first | replace hc := of_decide_eq_true hc | replace hc := of_decide_eq_false hc | replace hc := dec_nT hc | replace hc := dec_nF hc | skip) <;> (try (exfalso; omega)))) | ((refine is_bin ?_; first | (refine lw_pure rfl (pv_lss rfl rfl) ?_) | (refine lw_pure rfl (pv_eql rfl rfl) ?_) | (refine lw_pure rfl (pv_neq rfl rfl) ?_) | (refine lw_pure rfl (pv_gtr rfl rfl) ?_) | (refine lw_pure rfl (pv_geq rfl rfl) ?_) | (refine lw_pure rfl (pv_sub rfl rfl (by omega)) ?_))) | ((refine is_load ?_; first | (refine lw_pure rfl (pv_load (t1 rfl) rfl (by first | exact PT.ld0 (H.mono hw) rfl | exact PT.ld (H.mono hw) rfl | exact SlR.ld (HN.mono hw) h00 rfl | exact SlR.ld1 (HN.mono hw) h00 rfl)) ?_) | (refine lw_pure rfl (pv_loada (tA rfl) rfl (by first | exact PT.lda (H.mono hw) | exact SlR.lda (HN.mono hw) h00) (by rfl)) ?_))) | ((refine is_fa ?_; first | (refine lw_pure rfl (pv_fa (tF rfl) rfl) ?_))) | ((refine is_ia ?_; first | (refine lw_pure rfl (pv_ian (tS rfl) rfl rfl (by omega)) ?_) | (refine lw_pure rfl (pv_ia (tS rfl) rfl rfl (by omega)) ?_))) | ((refine is_un ?_; first | (refine lw_pure rfl (pv_not rfl) ?_))) | ((refine is_bi ?_; first | (refine lw_pure rfl (pv_lenl (tS rfl) rfl) ?_) | (refine lw_pure rfl (pv_lens (tStr rfl) rfl) ?_))) | (refine is_pk ?_; refine lw_pure rfl (pv_pick_t rfl rfl rfl) ?_) | (refine is_pk ?_; refine lw_pure rfl (pv_pick_f rfl rfl rfl) ?_) | (refine is_pk ?_; refine lw_pure rfl (pv_pick_t rfl (by first | assumption | exact decide_eq_true (by omega) | exact dec_notT (by omega)) rfl) ?_) | (refine is_pk ?_; refine lw_pure rfl (pv_pick_f rfl (by first | assumption | exact decide_eq_false (by omega) | exact dec_notF (by omega)) rfl) ?_) | (refine is_pk ?_; refine lw_pure rfl (pv_pick rfl rfl rfl) ?_) | (refine lw_pure rfl (pv_extract rfl rfl) ?_) | (refine is_cw ?_; refine cw_split rfl (fun hc => ?_) (fun hc => ?_) <;> (first | replace hc := of_decide_eq_true hc | replace hc := of_decide_eq_false hc | replace hc := dec_nT hc | replace hc := dec_nF hc | skip) <;> (try (exfalso; omega))))
            refine lw_bsN (vs := [.int .i64 (nth e 0)]) (cs := [.int .i64 (nth e 0)]) elemI rfl rfl rfl (by omega) (by omega) rfl (by simp [Value.cells]) ?_; intro B7 w7 _ HX hb
            have hs := grow_trans hw hb; replace hW := grow_trans hW hs; replace HP := HP.mono hs; replace HL := HL.mono hs; replace HN := HN.mono hs; replace hK := hK.mono hs; replace H := H.mono hs; replace HO := HO.mono hs; replace HT := HT.mono hs; clear hw hb hs; have hw := Below.refl w7.heap.size w7
            have HX2 : SlR encI 1 w7 (some ⟨B7, 0, none⟩) 1 [nth e 0] := HX.slR (xs := [nth e 0]) encI_len rfl (by simp)
            clear HX
            repeat' (first | (refine lw_pure rfl (pv_move rfl) ?_) | (refine lw_pure rfl (pv_assign rfl) ?_) | (refine lw_call (f := 6) (by kernel_rfl) rfl rfl (evnew_c 19 _ 1 1 _) ?_; rintro e w1 ⟨rfl, hb⟩; refine ⟨_, rfl, ?_⟩; replace hw := grow_trans hw hb; clear hb) | (refine is_cw ?_; first | (refine cw_seq ?_) | (refine cw_region ?_) | (refine cw_true rfl rfl ?_) | (refine cw_false rfl rfl ?_) | (refine is_cd ?_; refine cw_true rfl (by first | assumption | exact decide_eq_true (by omega) | exact dec_notT (by omega)) ?_) | (refine is_cd ?_; refine cw_false rfl (by first | assumption | exact decide_eq_false (by omega) | exact dec_notF (by omega)) ?_) | (refine cw_skip ?_) | (refine cw_block ?_) | (refine cw_ret ?_)) | (refine is_qw ?_; first | (with_reducible refine qw_then ?_) | (with_reducible refine qw_in ?_) | (with_reducible refine qw_in_hit ?_) | (refine qw_in_miss rfl ?_) | (with_reducible refine qw_then_exit ?_) | (with_reducible refine qw_then_ret ?_) | (with_reducible refine qw_in_ret ?_)) | (refine lw_nil ?_) | (refine is_guarded ?_; first | (refine lw_not rfl rfl rfl rfl ?_) | (refine lw_not_u rfl rfl rfl ?_) | (refine lw_on rfl rfl rfl ?_)) | ((refine is_bin ?_; first | (refine lw_pure rfl (pv_lss rfl rfl) ?_) | (refine lw_pure rfl (pv_eql rfl rfl) ?_) | (refine lw_pure rfl (pv_neq rfl rfl) ?_) | (refine lw_pure rfl (pv_gtr rfl rfl) ?_) | (refine lw_pure rfl (pv_geq rfl rfl) ?_) | (refine lw_pure rfl (pv_sub rfl rfl (by omega)) ?_))) | ((refine is_load ?_; first | (refine lw_pure rfl (pv_load (t1 rfl) rfl (by first | fail)) ?_) | (refine lw_pure rfl (pv_loada (tA rfl) rfl (by first | fail) (by rfl)) ?_))) | ((refine is_fa ?_; first | (refine lw_pure rfl (pv_fa (tF rfl) rfl) ?_))) | ((refine is_ia ?_; first | (refine lw_pure rfl (pv_ian (tS rfl) rfl rfl (by omega)) ?_) | (refine lw_pure rfl (pv_ia (tS rfl) rfl rfl (by omega)) ?_))) | ((refine is_un ?_; first | (refine lw_pure rfl (pv_not rfl) ?_))) | ((refine is_bi ?_; first | (refine lw_pure rfl (pv_lenl (tS rfl) rfl) ?_) | (refine lw_pure rfl (pv_lens (tStr rfl) rfl) ?_))) | (refine is_pk ?_; refine lw_pure rfl (pv_pick_t rfl rfl rfl) ?_) | (refine is_pk ?_; refine lw_pure rfl (pv_pick_f rfl rfl rfl) ?_) | (refine is_pk ?_; refine lw_pure rfl (pv_pick_t rfl (by first | assumption | exact decide_eq_true (by omega) | exact dec_notT (by omega)) rfl) ?_) | (refine is_pk ?_; refine lw_pure rfl (pv_pick_f rfl (by first | assumption | exact decide_eq_false (by omega) | exact dec_notF (by omega)) rfl) ?_) | (refine is_pk ?_; refine lw_pure rfl (pv_pick rfl rfl rfl) ?_) | (refine lw_pure rfl (pv_extract rfl rfl) ?_))
            refine lw_call (f := 8) (by kernel_rfl) rfl rfl (ev_cT (e := ⟨3, 19, [nth e 0], []⟩) (hb14 h0 (Or.inl k4)) (show (0 : Int) ≤ 19 ∧ (19 : Int) ≤ 255 by decide) rfl rfl rfl rfl (HO.mono hw) (HT.mono hw) (HX2.mono hw) (SlR.nil _) tx_nil (hK.mono hw)) ?_; rintro e1 w8 ⟨⟨vo2, vt2, rfl, HO2, HT2⟩, hb⟩; refine ⟨_, rfl, ?_⟩
            clear HX2
            have hs := grow_trans hw hb; replace hW := grow_trans hW hs; replace HP := HP.mono hs; replace HL := HL.mono hs; replace HN := HN.mono hs; replace hK := hK.mono hs; replace H := H.mono hs; replace HO := HO.mono hs; replace HT := HT.mono hs; clear hw hb hs; have hw := Below.refl w8.heap.size w8
            obtain ⟨pa, pc, rfl, HO2, -⟩ := Own.slR encP_len HO2
            obtain ⟨la, lc, rfl, HT2, -⟩ := Own.slR encL_len HT2
            repeat' (first | (refine lw_pure rfl (pv_move rfl) ?_) | (refine lw_pure rfl (pv_assign rfl) ?_) | (refine lw_call (f := 9) (by kernel_rfl) rfl rfl (rsP_t rfl rfl (HO2.mono hw) (HP.mono hw)) ?_; rintro e w1 ⟨rfl, hb⟩; refine ⟨_, rfl, ?_⟩; replace hw := grow_trans hw hb; clear hb) | (refine lw_call (f := 10) (by kernel_rfl) rfl rfl (rsT_t rfl rfl (HT2.mono hw) (HL.mono hw)) ?_; rintro e w1 ⟨rfl, hb⟩; refine ⟨_, rfl, ?_⟩; replace hw := grow_trans hw hb; clear hb) | (refine is_cw ?_; first | (refine cw_seq ?_) | (refine cw_region ?_) | (refine cw_true rfl rfl ?_) | (refine cw_false rfl rfl ?_) | (refine is_cd ?_; refine cw_true rfl (by first | assumption | exact decide_eq_true (by omega) | exact dec_notT (by omega)) ?_) | (refine is_cd ?_; refine cw_false rfl (by first | assumption | exact decide_eq_false (by omega) | exact dec_notF (by omega)) ?_) | (refine cw_skip ?_) | (refine cw_block ?_) | (refine cw_ret ?_)) | (refine is_qw ?_; first | (with_reducible refine qw_then ?_) | (with_reducible refine qw_in ?_) | (with_reducible refine qw_in_hit ?_) | (refine qw_in_miss rfl ?_) | (with_reducible refine qw_then_exit ?_) | (with_reducible refine qw_then_ret ?_) | (with_reducible refine qw_in_ret ?_)) | (refine lw_nil ?_) | (refine is_guarded ?_; first | (refine lw_not rfl rfl rfl rfl ?_) | (refine lw_not_u rfl rfl rfl ?_) | (refine lw_on rfl rfl rfl ?_)) | ((refine is_bin ?_; first | (refine lw_pure rfl (pv_lss rfl rfl) ?_) | (refine lw_pure rfl (pv_eql rfl rfl) ?_) | (refine lw_pure rfl (pv_neq rfl rfl) ?_) | (refine lw_pure rfl (pv_gtr rfl rfl) ?_) | (refine lw_pure rfl (pv_geq rfl rfl) ?_) | (refine lw_pure rfl (pv_sub rfl rfl (by omega)) ?_))) | ((refine is_load ?_; first | (refine lw_pure rfl (pv_load (t1 rfl) rfl (by first | fail)) ?_) | (refine lw_pure rfl (pv_loada (tA rfl) rfl (by first | fail) (by rfl)) ?_))) | ((refine is_fa ?_; first | (refine lw_pure rfl (pv_fa (tF rfl) rfl) ?_))) | ((refine is_ia ?_; first | (refine lw_pure rfl (pv_ian (tS rfl) rfl rfl (by omega)) ?_) | (refine lw_pure rfl (pv_ia (tS rfl) rfl rfl (by omega)) ?_))) | ((refine is_un ?_; first | (refine lw_pure rfl (pv_not rfl) ?_))) | ((refine is_bi ?_; first | (refine lw_pure rfl (pv_lenl (tS rfl) rfl) ?_) | (refine lw_pure rfl (pv_lens (tStr rfl) rfl) ?_))) | (refine is_pk ?_; refine lw_pure rfl (pv_pick_t rfl rfl rfl) ?_) | (refine is_pk ?_; refine lw_pure rfl (pv_pick_f rfl rfl rfl) ?_) | (refine is_pk ?_; refine lw_pure rfl (pv_pick_t rfl (by first | assumption | exact decide_eq_true (by omega) | exact dec_notT (by omega)) rfl) ?_) | (refine is_pk ?_; refine lw_pure rfl (pv_pick_f rfl (by first | assumption | exact decide_eq_false (by omega) | exact dec_notF (by omega)) rfl) ?_) | (refine is_pk ?_; refine lw_pure rfl (pv_pick rfl rfl rfl) ?_) | (refine lw_pure rfl (pv_extract rfl rfl) ?_))
            exact qw_ret1 rfl rfl ⟨rfl, grow_trans hW hw⟩
          · by_cases k5 : e.kind = 16
            · skip
              obtain ⟨nb, no, rfl, -, -⟩ := HN.at (by intro h; rw [h] at hl; simp at hl)
              repeat' (first | (refine lw_pure rfl (pv_move rfl) ?_) | (refine lw_pure rfl (pv_assign rfl) ?_) | (refine is_cw ?_; first | (refine cw_seq ?_) | (refine cw_region ?_) | (refine cw_true rfl rfl ?_) | (refine cw_false rfl rfl ?_) | (refine is_cd ?_; refine cw_true rfl (by first | assumption | exact decide_eq_true (by omega) | exact dec_notT (by omega)) ?_) | (refine is_cd ?_; refine cw_false rfl (by first | assumption | exact decide_eq_false (by omega) | exact dec_notF (by omega)) ?_) | (refine cw_skip ?_) | (refine cw_block ?_) | (refine cw_ret ?_)) | (refine is_qw ?_; first | (with_reducible refine qw_then ?_) | (with_reducible refine qw_in ?_) | (with_reducible refine qw_in_hit ?_) | (refine qw_in_miss rfl ?_) | (with_reducible refine qw_then_exit ?_) | (with_reducible refine qw_then_ret ?_) | (with_reducible refine qw_in_ret ?_)) | (refine lw_nil ?_) | (refine is_guarded ?_; first | (refine lw_not rfl rfl rfl rfl ?_) | (refine lw_not_u rfl rfl rfl ?_) | (refine lw_on rfl rfl rfl ?_) | (refine lw_on rfl rfl (by first | assumption | exact decide_eq_true (by omega) | exact decide_eq_false (by omega) | exact dec_notT (by omega) | exact dec_notF (by omega)) ?_) | (refine lw_not rfl rfl rfl (by first | assumption | exact decide_eq_true (by omega) | exact decide_eq_false (by omega) | exact dec_notT (by omega) | exact dec_notF (by omega)) ?_) | (refine lw_gs_t rfl rfl rfl (fun hc => ?_) (fun hc => ?_) <;> (first | replace hc := of_decide_eq_true hc | replace hc := of_decide_eq_false hc | replace hc := dec_nT hc | replace hc := dec_nF hc | skip) <;> (try (exfalso; omega))) | (refine lw_gs_f rfl rfl rfl (fun hc => ?_) (fun hc => ?_) <;> (first | replace hc := of_decide_eq_true hc | replace hc := of_decide_eq_false hc | replace hc := dec_nT hc | replace hc := dec_nF hc | skip) <;> (try (exfalso; omega)))) | ((refine is_bin ?_; first | (refine lw_pure rfl (pv_lss rfl rfl) ?_) | (refine lw_pure rfl (pv_eql rfl rfl) ?_) | (refine lw_pure rfl (pv_neq rfl rfl) ?_) | (refine lw_pure rfl (pv_gtr rfl rfl) ?_) | (refine lw_pure rfl (pv_geq rfl rfl) ?_) | (refine lw_pure rfl (pv_sub rfl rfl (by omega)) ?_))) | ((refine is_load ?_; first | (refine lw_pure rfl (pv_load (t1 rfl) rfl (by first | exact PT.ld0 (H.mono hw) rfl | exact PT.ld (H.mono hw) rfl | exact SlR.ld (HN.mono hw) h00 rfl | exact SlR.ld1 (HN.mono hw) h00 rfl)) ?_) | (refine lw_pure rfl (pv_loada (tA rfl) rfl (by first | exact PT.lda (H.mono hw) | exact SlR.lda (HN.mono hw) h00) (by rfl)) ?_))) | ((refine is_fa ?_; first | (refine lw_pure rfl (pv_fa (tF rfl) rfl) ?_))) | ((refine is_ia ?_; first | (refine lw_pure rfl (pv_ian (tS rfl) rfl rfl (by omega)) ?_) | (refine lw_pure rfl (pv_ia (tS rfl) rfl rfl (by omega)) ?_))) | ((refine is_un ?_; first | (refine lw_pure rfl (pv_not rfl) ?_))) | ((refine is_bi ?_; first | (refine lw_pure rfl (pv_lenl (tS rfl) rfl) ?_) | (refine lw_pure rfl (pv_lens (tStr rfl) rfl) ?_))) | (refine is_pk ?_; refine lw_pure rfl (pv_pick_t rfl rfl rfl) ?_) | (refine is_pk ?_; refine lw_pure rfl (pv_pick_f rfl rfl rfl) ?_) | (refine is_pk ?_; refine lw_pure rfl (pv_pick_t rfl (by first | assumption | exact decide_eq_true (by omega) | exact dec_notT (by omega)) rfl) ?_) | (refine is_pk ?_; refine lw_pure rfl (pv_pick_f rfl (by first | assumption | exact decide_eq_false (by omega) | exact dec_notF (by omega)) rfl) ?_) | (refine is_pk ?_; refine lw_pure rfl (pv_pick rfl rfl rfl) ?_) | (refine lw_pure rfl (pv_extract rfl rfl) ?_) | (refine is_cw ?_; refine cw_split rfl (fun hc => ?_) (fun hc => ?_) <;> (first | replace hc := of_decide_eq_true hc | replace hc := of_decide_eq_false hc | replace hc := dec_nT hc | replace hc := dec_nF hc | skip) <;> (try (exfalso; omega))))
              refine lw_bsN (vs := [.int .i64 (nth e 0)]) (cs := [.int .i64 (nth e 0)]) elemI rfl rfl rfl (by omega) (by omega) rfl (by simp [Value.cells]) ?_; intro B7 w7 _ HX hb
              have hs := grow_trans hw hb; replace hW := grow_trans hW hs; replace HP := HP.mono hs; replace HL := HL.mono hs; replace HN := HN.mono hs; replace hK := hK.mono hs; replace H := H.mono hs; replace HO := HO.mono hs; replace HT := HT.mono hs; clear hw hb hs; have hw := Below.refl w7.heap.size w7
              have HX2 : SlR encI 1 w7 (some ⟨B7, 0, none⟩) 1 [nth e 0] := HX.slR (xs := [nth e 0]) encI_len rfl (by simp)
              clear HX
              repeat' (first | (refine lw_pure rfl (pv_move rfl) ?_) | (refine lw_pure rfl (pv_assign rfl) ?_) | (refine lw_call (f := 6) (by kernel_rfl) rfl rfl (evnew_c 19 _ 1 1 _) ?_; rintro e w1 ⟨rfl, hb⟩; refine ⟨_, rfl, ?_⟩; replace hw := grow_trans hw hb; clear hb) | (refine is_cw ?_; first | (refine cw_seq ?_) | (refine cw_region ?_) | (refine cw_true rfl rfl ?_) | (refine cw_false rfl rfl ?_) | (refine is_cd ?_; refine cw_true rfl (by first | assumption | exact decide_eq_true (by omega) | exact dec_notT (by omega)) ?_) | (refine is_cd ?_; refine cw_false rfl (by first | assumption | exact decide_eq_false (by omega) | exact dec_notF (by omega)) ?_) | (refine cw_skip ?_) | (refine cw_block ?_) | (refine cw_ret ?_)) | (refine is_qw ?_; first | (with_reducible refine qw_then ?_) | (with_reducible refine qw_in ?_) | (with_reducible refine qw_in_hit ?_) | (refine qw_in_miss rfl ?_) | (with_reducible refine qw_then_exit ?_) | (with_reducible refine qw_then_ret ?_) | (with_reducible refine qw_in_ret ?_)) | (refine lw_nil ?_) | (refine is_guarded ?_; first | (refine lw_not rfl rfl rfl rfl ?_) | (refine lw_not_u rfl rfl rfl ?_) | (refine lw_on rfl rfl rfl ?_)) | ((refine is_bin ?_; first | (refine lw_pure rfl (pv_lss rfl rfl) ?_) | (refine lw_pure rfl (pv_eql rfl rfl) ?_) | (refine lw_pure rfl (pv_neq rfl rfl) ?_) | (refine lw_pure rfl (pv_gtr rfl rfl) ?_) | (refine lw_pure rfl (pv_geq rfl rfl) ?_) | (refine lw_pure rfl (pv_sub rfl rfl (by omega)) ?_))) | ((refine is_load ?_; first | (refine lw_pure rfl (pv_load (t1 rfl) rfl (by first | fail)) ?_) | (refine lw_pure rfl (pv_loada (tA rfl) rfl (by first | fail) (by rfl)) ?_))) | ((refine is_fa ?_; first | (refine lw_pure rfl (pv_fa (tF rfl) rfl) ?_))) | ((refine is_ia ?_; first | (refine lw_pure rfl (pv_ian (tS rfl) rfl rfl (by omega)) ?_) | (refine lw_pure rfl (pv_ia (tS rfl) rfl rfl (by omega)) ?_))) | ((refine is_un ?_; first | (refine lw_pure rfl (pv_not rfl) ?_))) | ((refine is_bi ?_; first | (refine lw_pure rfl (pv_lenl (tS rfl) rfl) ?_) | (refine lw_pure rfl (pv_lens (tStr rfl) rfl) ?_))) | (refine is_pk ?_; refine lw_pure rfl (pv_pick_t rfl rfl rfl) ?_) | (refine is_pk ?_; refine lw_pure rfl (pv_pick_f rfl rfl rfl) ?_) | (refine is_pk ?_; refine lw_pure rfl (pv_pick_t rfl (by first | assumption | exact decide_eq_true (by omega) | exact dec_notT (by omega)) rfl) ?_) | (refine is_pk ?_; refine lw_pure rfl (pv_pick_f rfl (by first | assumption | exact decide_eq_false (by omega) | exact dec_notF (by omega)) rfl) ?_) | (refine is_pk ?_; refine lw_pure rfl (pv_pick rfl rfl rfl) ?_) | (refine lw_pure rfl (pv_extract rfl rfl) ?_))
              refine lw_call (f := 8) (by kernel_rfl) rfl rfl (ev_cT (e := ⟨3, 19, [nth e 0], []⟩) (hb14 h0 (Or.inr k5)) (show (0 : Int) ≤ 19 ∧ (19 : Int) ≤ 255 by decide) rfl rfl rfl rfl (HO.mono hw) (HT.mono hw) (HX2.mono hw) (SlR.nil _) tx_nil (hK.mono hw)) ?_; rintro e1 w8 ⟨⟨vo2, vt2, rfl, HO2, HT2⟩, hb⟩; refine ⟨_, rfl, ?_⟩
              clear HX2
              have hs := grow_trans hw hb; replace hW := grow_trans hW hs; replace HP := HP.mono hs; replace HL := HL.mono hs; replace HN := HN.mono hs; replace hK := hK.mono hs; replace H := H.mono hs; replace HO := HO.mono hs; replace HT := HT.mono hs; clear hw hb hs; have hw := Below.refl w8.heap.size w8
              obtain ⟨pa, pc, rfl, HO2, -⟩ := Own.slR encP_len HO2
              obtain ⟨la, lc, rfl, HT2, -⟩ := Own.slR encL_len HT2
              repeat' (first | (refine lw_pure rfl (pv_move rfl) ?_) | (refine lw_pure rfl (pv_assign rfl) ?_) | (refine lw_call (f := 9) (by kernel_rfl) rfl rfl (rsP_t rfl rfl (HO2.mono hw) (HP.mono hw)) ?_; rintro e w1 ⟨rfl, hb⟩; refine ⟨_, rfl, ?_⟩; replace hw := grow_trans hw hb; clear hb) | (refine lw_call (f := 10) (by kernel_rfl) rfl rfl (rsT_t rfl rfl (HT2.mono hw) (HL.mono hw)) ?_; rintro e w1 ⟨rfl, hb⟩; refine ⟨_, rfl, ?_⟩; replace hw := grow_trans hw hb; clear hb) | (refine is_cw ?_; first | (refine cw_seq ?_) | (refine cw_region ?_) | (refine cw_true rfl rfl ?_) | (refine cw_false rfl rfl ?_) | (refine is_cd ?_; refine cw_true rfl (by first | assumption | exact decide_eq_true (by omega) | exact dec_notT (by omega)) ?_) | (refine is_cd ?_; refine cw_false rfl (by first | assumption | exact decide_eq_false (by omega) | exact dec_notF (by omega)) ?_) | (refine cw_skip ?_) | (refine cw_block ?_) | (refine cw_ret ?_)) | (refine is_qw ?_; first | (with_reducible refine qw_then ?_) | (with_reducible refine qw_in ?_) | (with_reducible refine qw_in_hit ?_) | (refine qw_in_miss rfl ?_) | (with_reducible refine qw_then_exit ?_) | (with_reducible refine qw_then_ret ?_) | (with_reducible refine qw_in_ret ?_)) | (refine lw_nil ?_) | (refine is_guarded ?_; first | (refine lw_not rfl rfl rfl rfl ?_) | (refine lw_not_u rfl rfl rfl ?_) | (refine lw_on rfl rfl rfl ?_)) | ((refine is_bin ?_; first | (refine lw_pure rfl (pv_lss rfl rfl) ?_) | (refine lw_pure rfl (pv_eql rfl rfl) ?_) | (refine lw_pure rfl (pv_neq rfl rfl) ?_) | (refine lw_pure rfl (pv_gtr rfl rfl) ?_) | (refine lw_pure rfl (pv_geq rfl rfl) ?_) | (refine lw_pure rfl (pv_sub rfl rfl (by omega)) ?_))) | ((refine is_load ?_; first | (refine lw_pure rfl (pv_load (t1 rfl) rfl (by first | fail)) ?_) | (refine lw_pure rfl (pv_loada (tA rfl) rfl (by first | fail) (by rfl)) ?_))) | ((refine is_fa ?_; first | (refine lw_pure rfl (pv_fa (tF rfl) rfl) ?_))) | ((refine is_ia ?_; first | (refine lw_pure rfl (pv_ian (tS rfl) rfl rfl (by omega)) ?_) | (refine lw_pure rfl (pv_ia (tS rfl) rfl rfl (by omega)) ?_))) | ((refine is_un ?_; first | (refine lw_pure rfl (pv_not rfl) ?_))) | ((refine is_bi ?_; first | (refine lw_pure rfl (pv_lenl (tS rfl) rfl) ?_) | (refine lw_pure rfl (pv_lens (tStr rfl) rfl) ?_))) | (refine is_pk ?_; refine lw_pure rfl (pv_pick_t rfl rfl rfl) ?_) | (refine is_pk ?_; refine lw_pure rfl (pv_pick_f rfl rfl rfl) ?_) | (refine is_pk ?_; refine lw_pure rfl (pv_pick_t rfl (by first | assumption | exact decide_eq_true (by omega) | exact dec_notT (by omega)) rfl) ?_) | (refine is_pk ?_; refine lw_pure rfl (pv_pick_f rfl (by first | assumption | exact decide_eq_false (by omega) | exact dec_notF (by omega)) rfl) ?_) | (refine is_pk ?_; refine lw_pure rfl (pv_pick rfl rfl rfl) ?_) | (refine lw_pure rfl (pv_extract rfl rfl) ?_))
              exact qw_ret1 rfl rfl ⟨rfl, grow_trans hW hw⟩
            · by_cases k3 : e.kind = 13
              · obtain ⟨n0, n1, n2, n3, n4, hns, -, -, -, g3, -⟩ := nums13 hE hv k3
                have hl5 : e.nums.length = 5 := by rw [hns]; rfl
                have h01 := nth_at (e := e) (i := 1) (by omega)
                have h03 := nth_at (e := e) (i := 3) (by omega)
                have hn3 : nth e 3 = n3 := by simp [nth, hns]
                rw [← hn3] at g3
                clear hns hn3
                obtain ⟨nb, no, rfl, -, -⟩ := HN.at (by intro h; rw [h] at hl; simp at hl)
                by_cases c1 : y < 1
                · repeat' (first | (refine lw_pure rfl (pv_move rfl) ?_) | (refine lw_pure rfl (pv_assign rfl) ?_) | (refine is_cw ?_; first | (refine cw_seq ?_) | (refine cw_region ?_) | (refine cw_true rfl rfl ?_) | (refine cw_false rfl rfl ?_) | (refine is_cd ?_; refine cw_true rfl (by first | assumption | exact decide_eq_true (by omega) | exact dec_notT (by omega)) ?_) | (refine is_cd ?_; refine cw_false rfl (by first | assumption | exact decide_eq_false (by omega) | exact dec_notF (by omega)) ?_) | (refine cw_skip ?_) | (refine cw_block ?_) | (refine cw_ret ?_)) | (refine is_qw ?_; first | (with_reducible refine qw_then ?_) | (with_reducible refine qw_in ?_) | (with_reducible refine qw_in_hit ?_) | (refine qw_in_miss rfl ?_) | (with_reducible refine qw_then_exit ?_) | (with_reducible refine qw_then_ret ?_) | (with_reducible refine qw_in_ret ?_)) | (refine lw_nil ?_) | (refine is_guarded ?_; first | (refine lw_not rfl rfl rfl rfl ?_) | (refine lw_not_u rfl rfl rfl ?_) | (refine lw_on rfl rfl rfl ?_) | (refine lw_on rfl rfl (by first | assumption | exact decide_eq_true (by omega) | exact decide_eq_false (by omega) | exact dec_notT (by omega) | exact dec_notF (by omega)) ?_) | (refine lw_not rfl rfl rfl (by first | assumption | exact decide_eq_true (by omega) | exact decide_eq_false (by omega) | exact dec_notT (by omega) | exact dec_notF (by omega)) ?_) | (refine lw_gs_t rfl rfl rfl (fun hc => ?_) (fun hc => ?_) <;> (first | replace hc := of_decide_eq_true hc | replace hc := of_decide_eq_false hc | replace hc := dec_nT hc | replace hc := dec_nF hc | skip) <;> (try (exfalso; omega))) | (refine lw_gs_f rfl rfl rfl (fun hc => ?_) (fun hc => ?_) <;> (first | replace hc := of_decide_eq_true hc | replace hc := of_decide_eq_false hc | replace hc := dec_nT hc | replace hc := dec_nF hc | skip) <;> (try (exfalso; omega)))) | ((refine is_bin ?_; first | (refine lw_pure rfl (pv_lss rfl rfl) ?_) | (refine lw_pure rfl (pv_eql rfl rfl) ?_) | (refine lw_pure rfl (pv_neq rfl rfl) ?_) | (refine lw_pure rfl (pv_gtr rfl rfl) ?_) | (refine lw_pure rfl (pv_geq rfl rfl) ?_) | (refine lw_pure rfl (pv_sub rfl rfl (by omega)) ?_))) | ((refine is_load ?_; first | (refine lw_pure rfl (pv_load (t1 rfl) rfl (by first | exact PT.ld0 (H.mono hw) rfl | exact PT.ld (H.mono hw) rfl | exact SlR.ld (HN.mono hw) h03 rfl | exact SlR.ld1 (HN.mono hw) h03 rfl)) ?_) | (refine lw_pure rfl (pv_loada (tA rfl) rfl (by first | exact PT.lda (H.mono hw) | exact SlR.lda (HN.mono hw) h03) (by rfl)) ?_))) | ((refine is_fa ?_; first | (refine lw_pure rfl (pv_fa (tF rfl) rfl) ?_))) | ((refine is_ia ?_; first | (refine lw_pure rfl (pv_ian (tS rfl) rfl rfl (by omega)) ?_) | (refine lw_pure rfl (pv_ia (tS rfl) rfl rfl (by omega)) ?_))) | ((refine is_un ?_; first | (refine lw_pure rfl (pv_not rfl) ?_))) | ((refine is_bi ?_; first | (refine lw_pure rfl (pv_lenl (tS rfl) rfl) ?_) | (refine lw_pure rfl (pv_lens (tStr rfl) rfl) ?_))) | (refine is_pk ?_; refine lw_pure rfl (pv_pick_t rfl rfl rfl) ?_) | (refine is_pk ?_; refine lw_pure rfl (pv_pick_f rfl rfl rfl) ?_) | (refine is_pk ?_; refine lw_pure rfl (pv_pick_t rfl (by first | assumption | exact decide_eq_true (by omega) | exact dec_notT (by omega)) rfl) ?_) | (refine is_pk ?_; refine lw_pure rfl (pv_pick_f rfl (by first | assumption | exact decide_eq_false (by omega) | exact dec_notF (by omega)) rfl) ?_) | (refine is_pk ?_; refine lw_pure rfl (pv_pick rfl rfl rfl) ?_) | (refine lw_pure rfl (pv_extract rfl rfl) ?_) | (refine is_cw ?_; refine cw_split rfl (fun hc => ?_) (fun hc => ?_) <;> (first | replace hc := of_decide_eq_true hc | replace hc := of_decide_eq_false hc | replace hc := dec_nT hc | replace hc := dec_nF hc | skip) <;> (try (exfalso; omega))))
                  all_goals exact qw_ret1 rfl rfl ⟨rfl, grow_trans hW hw⟩
                · by_cases c2 : q < 1
                  · repeat' (first | (refine lw_pure rfl (pv_move rfl) ?_) | (refine lw_pure rfl (pv_assign rfl) ?_) | (refine is_cw ?_; first | (refine cw_seq ?_) | (refine cw_region ?_) | (refine cw_true rfl rfl ?_) | (refine cw_false rfl rfl ?_) | (refine is_cd ?_; refine cw_true rfl (by first | assumption | exact decide_eq_true (by omega) | exact dec_notT (by omega)) ?_) | (refine is_cd ?_; refine cw_false rfl (by first | assumption | exact decide_eq_false (by omega) | exact dec_notF (by omega)) ?_) | (refine cw_skip ?_) | (refine cw_block ?_) | (refine cw_ret ?_)) | (refine is_qw ?_; first | (with_reducible refine qw_then ?_) | (with_reducible refine qw_in ?_) | (with_reducible refine qw_in_hit ?_) | (refine qw_in_miss rfl ?_) | (with_reducible refine qw_then_exit ?_) | (with_reducible refine qw_then_ret ?_) | (with_reducible refine qw_in_ret ?_)) | (refine lw_nil ?_) | (refine is_guarded ?_; first | (refine lw_not rfl rfl rfl rfl ?_) | (refine lw_not_u rfl rfl rfl ?_) | (refine lw_on rfl rfl rfl ?_) | (refine lw_on rfl rfl (by first | assumption | exact decide_eq_true (by omega) | exact decide_eq_false (by omega) | exact dec_notT (by omega) | exact dec_notF (by omega)) ?_) | (refine lw_not rfl rfl rfl (by first | assumption | exact decide_eq_true (by omega) | exact decide_eq_false (by omega) | exact dec_notT (by omega) | exact dec_notF (by omega)) ?_) | (refine lw_gs_t rfl rfl rfl (fun hc => ?_) (fun hc => ?_) <;> (first | replace hc := of_decide_eq_true hc | replace hc := of_decide_eq_false hc | replace hc := dec_nT hc | replace hc := dec_nF hc | skip) <;> (try (exfalso; omega))) | (refine lw_gs_f rfl rfl rfl (fun hc => ?_) (fun hc => ?_) <;> (first | replace hc := of_decide_eq_true hc | replace hc := of_decide_eq_false hc | replace hc := dec_nT hc | replace hc := dec_nF hc | skip) <;> (try (exfalso; omega)))) | ((refine is_bin ?_; first | (refine lw_pure rfl (pv_lss rfl rfl) ?_) | (refine lw_pure rfl (pv_eql rfl rfl) ?_) | (refine lw_pure rfl (pv_neq rfl rfl) ?_) | (refine lw_pure rfl (pv_gtr rfl rfl) ?_) | (refine lw_pure rfl (pv_geq rfl rfl) ?_) | (refine lw_pure rfl (pv_sub rfl rfl (by omega)) ?_))) | ((refine is_load ?_; first | (refine lw_pure rfl (pv_load (t1 rfl) rfl (by first | exact PT.ld0 (H.mono hw) rfl | exact PT.ld (H.mono hw) rfl | exact SlR.ld (HN.mono hw) h03 rfl | exact SlR.ld1 (HN.mono hw) h03 rfl)) ?_) | (refine lw_pure rfl (pv_loada (tA rfl) rfl (by first | exact PT.lda (H.mono hw) | exact SlR.lda (HN.mono hw) h03) (by rfl)) ?_))) | ((refine is_fa ?_; first | (refine lw_pure rfl (pv_fa (tF rfl) rfl) ?_))) | ((refine is_ia ?_; first | (refine lw_pure rfl (pv_ian (tS rfl) rfl rfl (by omega)) ?_) | (refine lw_pure rfl (pv_ia (tS rfl) rfl rfl (by omega)) ?_))) | ((refine is_un ?_; first | (refine lw_pure rfl (pv_not rfl) ?_))) | ((refine is_bi ?_; first | (refine lw_pure rfl (pv_lenl (tS rfl) rfl) ?_) | (refine lw_pure rfl (pv_lens (tStr rfl) rfl) ?_))) | (refine is_pk ?_; refine lw_pure rfl (pv_pick_t rfl rfl rfl) ?_) | (refine is_pk ?_; refine lw_pure rfl (pv_pick_f rfl rfl rfl) ?_) | (refine is_pk ?_; refine lw_pure rfl (pv_pick_t rfl (by first | assumption | exact decide_eq_true (by omega) | exact dec_notT (by omega)) rfl) ?_) | (refine is_pk ?_; refine lw_pure rfl (pv_pick_f rfl (by first | assumption | exact decide_eq_false (by omega) | exact dec_notF (by omega)) rfl) ?_) | (refine is_pk ?_; refine lw_pure rfl (pv_pick rfl rfl rfl) ?_) | (refine lw_pure rfl (pv_extract rfl rfl) ?_) | (refine is_cw ?_; refine cw_split rfl (fun hc => ?_) (fun hc => ?_) <;> (first | replace hc := of_decide_eq_true hc | replace hc := of_decide_eq_false hc | replace hc := dec_nT hc | replace hc := dec_nF hc | skip) <;> (try (exfalso; omega))))
                    all_goals exact qw_ret1 rfl rfl ⟨rfl, grow_trans hW hw⟩
                  · by_cases c3 : nth e 3 ≤ y
                    · repeat' (first | (refine lw_pure rfl (pv_move rfl) ?_) | (refine lw_pure rfl (pv_assign rfl) ?_) | (refine is_cw ?_; first | (refine cw_seq ?_) | (refine cw_region ?_) | (refine cw_true rfl rfl ?_) | (refine cw_false rfl rfl ?_) | (refine is_cd ?_; refine cw_true rfl (by first | assumption | exact decide_eq_true (by omega) | exact dec_notT (by omega)) ?_) | (refine is_cd ?_; refine cw_false rfl (by first | assumption | exact decide_eq_false (by omega) | exact dec_notF (by omega)) ?_) | (refine cw_skip ?_) | (refine cw_block ?_) | (refine cw_ret ?_)) | (refine is_qw ?_; first | (with_reducible refine qw_then ?_) | (with_reducible refine qw_in ?_) | (with_reducible refine qw_in_hit ?_) | (refine qw_in_miss rfl ?_) | (with_reducible refine qw_then_exit ?_) | (with_reducible refine qw_then_ret ?_) | (with_reducible refine qw_in_ret ?_)) | (refine lw_nil ?_) | (refine is_guarded ?_; first | (refine lw_not rfl rfl rfl rfl ?_) | (refine lw_not_u rfl rfl rfl ?_) | (refine lw_on rfl rfl rfl ?_) | (refine lw_on rfl rfl (by first | assumption | exact decide_eq_true (by omega) | exact decide_eq_false (by omega) | exact dec_notT (by omega) | exact dec_notF (by omega)) ?_) | (refine lw_not rfl rfl rfl (by first | assumption | exact decide_eq_true (by omega) | exact decide_eq_false (by omega) | exact dec_notT (by omega) | exact dec_notF (by omega)) ?_) | (refine lw_gs_t rfl rfl rfl (fun hc => ?_) (fun hc => ?_) <;> (first | replace hc := of_decide_eq_true hc | replace hc := of_decide_eq_false hc | replace hc := dec_nT hc | replace hc := dec_nF hc | skip) <;> (try (exfalso; omega))) | (refine lw_gs_f rfl rfl rfl (fun hc => ?_) (fun hc => ?_) <;> (first | replace hc := of_decide_eq_true hc | replace hc := of_decide_eq_false hc | replace hc := dec_nT hc | replace hc := dec_nF hc | skip) <;> (try (exfalso; omega)))) | ((refine is_bin ?_; first | (refine lw_pure rfl (pv_lss rfl rfl) ?_) | (refine lw_pure rfl (pv_eql rfl rfl) ?_) | (refine lw_pure rfl (pv_neq rfl rfl) ?_) | (refine lw_pure rfl (pv_gtr rfl rfl) ?_) | (refine lw_pure rfl (pv_geq rfl rfl) ?_) | (refine lw_pure rfl (pv_sub rfl rfl (by omega)) ?_))) | ((refine is_load ?_; first | (refine lw_pure rfl (pv_load (t1 rfl) rfl (by first | exact PT.ld0 (H.mono hw) rfl | exact PT.ld (H.mono hw) rfl | exact SlR.ld (HN.mono hw) h03 rfl | exact SlR.ld1 (HN.mono hw) h03 rfl)) ?_) | (refine lw_pure rfl (pv_loada (tA rfl) rfl (by first | exact PT.lda (H.mono hw) | exact SlR.lda (HN.mono hw) h03) (by rfl)) ?_))) | ((refine is_fa ?_; first | (refine lw_pure rfl (pv_fa (tF rfl) rfl) ?_))) | ((refine is_ia ?_; first | (refine lw_pure rfl (pv_ian (tS rfl) rfl rfl (by omega)) ?_) | (refine lw_pure rfl (pv_ia (tS rfl) rfl rfl (by omega)) ?_))) | ((refine is_un ?_; first | (refine lw_pure rfl (pv_not rfl) ?_))) | ((refine is_bi ?_; first | (refine lw_pure rfl (pv_lenl (tS rfl) rfl) ?_) | (refine lw_pure rfl (pv_lens (tStr rfl) rfl) ?_))) | (refine is_pk ?_; refine lw_pure rfl (pv_pick_t rfl rfl rfl) ?_) | (refine is_pk ?_; refine lw_pure rfl (pv_pick_f rfl rfl rfl) ?_) | (refine is_pk ?_; refine lw_pure rfl (pv_pick_t rfl (by first | assumption | exact decide_eq_true (by omega) | exact dec_notT (by omega)) rfl) ?_) | (refine is_pk ?_; refine lw_pure rfl (pv_pick_f rfl (by first | assumption | exact decide_eq_false (by omega) | exact dec_notF (by omega)) rfl) ?_) | (refine is_pk ?_; refine lw_pure rfl (pv_pick rfl rfl rfl) ?_) | (refine lw_pure rfl (pv_extract rfl rfl) ?_) | (refine is_cw ?_; refine cw_split rfl (fun hc => ?_) (fun hc => ?_) <;> (first | replace hc := of_decide_eq_true hc | replace hc := of_decide_eq_false hc | replace hc := dec_nT hc | replace hc := dec_nF hc | skip) <;> (try (exfalso; omega))))
                      all_goals exact qw_ret1 rfl rfl ⟨rfl, grow_trans hW hw⟩
                    · obtain ⟨R1, hR1⟩ : ∃ R1, eventR p t ⟨3, 13, [nth e 0, nth e 1, 1, y, 0], []⟩ = R1 := ⟨_, rfl⟩
                      have hpt := hb13 h0 k3 (x := y) (q := q) (by omega) (by omega)
                      rw [hR1] at hpt
                      obtain ⟨e10, hpt⟩ := hpt
                      obtain ⟨p1, tt1, z1⟩ := R1
                      dsimp only at e10 hpt
                      subst e10
                      have hR2 : ∃ P2 T2 k2, eventR p1 tt1 ⟨3, 13, [nth e 0, nth e 1, q, nth e 3 - y, 0], []⟩ = (P2, T2, k2) ∧ (q ≤ 1073741824 → P2 = R.1 ∧ T2 = R.2.1 ∧ k2 = 0) ∧ (1073741824 < q → k2 = 4) := by
                        by_cases hq : q ≤ 1073741824
                        · exact ⟨R.1, R.2.1, R.2.2, hpt hq, fun _ => ⟨rfl, rfl, h0⟩, fun h => by omega⟩
                        · exact ⟨[], [], 4, no13 (by omega), fun h => absurd h hq, fun _ => rfl⟩
                      obtain ⟨P2, T2, k2, hR2, hq1, hq2⟩ := hR2
                      clear hpt hb11 hb14 hb13 hok
                      repeat' (first | (refine lw_pure rfl (pv_move rfl) ?_) | (refine lw_pure rfl (pv_assign rfl) ?_) | (refine is_cw ?_; first | (refine cw_seq ?_) | (refine cw_region ?_) | (refine cw_true rfl rfl ?_) | (refine cw_false rfl rfl ?_) | (refine is_cd ?_; refine cw_true rfl (by first | assumption | exact decide_eq_true (by omega) | exact dec_notT (by omega)) ?_) | (refine is_cd ?_; refine cw_false rfl (by first | assumption | exact decide_eq_false (by omega) | exact dec_notF (by omega)) ?_) | (refine cw_skip ?_) | (refine cw_block ?_) | (refine cw_ret ?_)) | (refine is_qw ?_; first | (with_reducible refine qw_then ?_) | (with_reducible refine qw_in ?_) | (with_reducible refine qw_in_hit ?_) | (refine qw_in_miss rfl ?_) | (with_reducible refine qw_then_exit ?_) | (with_reducible refine qw_then_ret ?_) | (with_reducible refine qw_in_ret ?_)) | (refine lw_nil ?_) | (refine is_guarded ?_; first | (refine lw_not rfl rfl rfl rfl ?_) | (refine lw_not_u rfl rfl rfl ?_) | (refine lw_on rfl rfl rfl ?_) | (refine lw_on rfl rfl (by first | assumption | exact decide_eq_true (by omega) | exact decide_eq_false (by omega) | exact dec_notT (by omega) | exact dec_notF (by omega)) ?_) | (refine lw_not rfl rfl rfl (by first | assumption | exact decide_eq_true (by omega) | exact decide_eq_false (by omega) | exact dec_notT (by omega) | exact dec_notF (by omega)) ?_) | (refine lw_gs_t rfl rfl rfl (fun hc => ?_) (fun hc => ?_) <;> (first | replace hc := of_decide_eq_true hc | replace hc := of_decide_eq_false hc | replace hc := dec_nT hc | replace hc := dec_nF hc | skip) <;> (try (exfalso; omega))) | (refine lw_gs_f rfl rfl rfl (fun hc => ?_) (fun hc => ?_) <;> (first | replace hc := of_decide_eq_true hc | replace hc := of_decide_eq_false hc | replace hc := dec_nT hc | replace hc := dec_nF hc | skip) <;> (try (exfalso; omega)))) | ((refine is_bin ?_; first | (refine lw_pure rfl (pv_lss rfl rfl) ?_) | (refine lw_pure rfl (pv_eql rfl rfl) ?_) | (refine lw_pure rfl (pv_neq rfl rfl) ?_) | (refine lw_pure rfl (pv_gtr rfl rfl) ?_) | (refine lw_pure rfl (pv_geq rfl rfl) ?_) | (refine lw_pure rfl (pv_sub rfl rfl (by omega)) ?_))) | ((refine is_load ?_; first | (refine lw_pure rfl (pv_load (t1 rfl) rfl (by first | exact PT.ld0 (H.mono hw) rfl | exact PT.ld (H.mono hw) rfl | exact SlR.ld (HN.mono hw) h03 rfl | exact SlR.ld1 (HN.mono hw) h03 rfl)) ?_) | (refine lw_pure rfl (pv_loada (tA rfl) rfl (by first | exact PT.lda (H.mono hw) | exact SlR.lda (HN.mono hw) h03) (by rfl)) ?_))) | ((refine is_fa ?_; first | (refine lw_pure rfl (pv_fa (tF rfl) rfl) ?_))) | ((refine is_ia ?_; first | (refine lw_pure rfl (pv_ian (tS rfl) rfl rfl (by omega)) ?_) | (refine lw_pure rfl (pv_ia (tS rfl) rfl rfl (by omega)) ?_))) | ((refine is_un ?_; first | (refine lw_pure rfl (pv_not rfl) ?_))) | ((refine is_bi ?_; first | (refine lw_pure rfl (pv_lenl (tS rfl) rfl) ?_) | (refine lw_pure rfl (pv_lens (tStr rfl) rfl) ?_))) | (refine is_pk ?_; refine lw_pure rfl (pv_pick_t rfl rfl rfl) ?_) | (refine is_pk ?_; refine lw_pure rfl (pv_pick_f rfl rfl rfl) ?_) | (refine is_pk ?_; refine lw_pure rfl (pv_pick_t rfl (by first | assumption | exact decide_eq_true (by omega) | exact dec_notT (by omega)) rfl) ?_) | (refine is_pk ?_; refine lw_pure rfl (pv_pick_f rfl (by first | assumption | exact decide_eq_false (by omega) | exact dec_notF (by omega)) rfl) ?_) | (refine is_pk ?_; refine lw_pure rfl (pv_pick rfl rfl rfl) ?_) | (refine lw_pure rfl (pv_extract rfl rfl) ?_) | (refine is_cw ?_; refine cw_split rfl (fun hc => ?_) (fun hc => ?_) <;> (first | replace hc := of_decide_eq_true hc | replace hc := of_decide_eq_false hc | replace hc := dec_nT hc | replace hc := dec_nF hc | skip) <;> (try (exfalso; omega))))
                      refine cw_drawn (fun w' => Below w6.heap.size w6 w') (by kernel_rfl) (by repeat (first | exact NoPanic.body | with_reducible refine NoPanic.then ?_ | with_reducible refine NoPanic.inBlock ?_)) (fun hNP => ?_)
                      have hS := hw.drew
                      (refine at0 0 rfl (fun w' hq => pv_move rfl) ?_)
                      (refine at0 1 rfl (fun w' hq => pv_move rfl) ?_)
                      (refine at0 2 rfl (fun w' hq => pv_fa (tF rfl) rfl) ?_)
                      first | (refine at0 3 rfl (fun w' hq => pv_load (t1 rfl) rfl (by first | exact PT.ld0 (H.mono hq) rfl | exact PT.ld (H.mono hq) rfl | exact SlR.ld (HN.mono hq) h00 rfl | exact SlR.ld1 (HN.mono hq) h00 rfl | exact SlR.ld (HN.mono hq) h01 rfl | exact SlR.ld1 (HN.mono hq) h01 rfl)) ?_) | (refine at0 3 rfl (fun w' hq => pv_loada (tA rfl) rfl (by first | exact PT.lda (H.mono hq) | exact SlR.lda (HN.mono hq) h00 | exact SlR.lda (HN.mono hq) h01) (by rfl)) ?_)
                      first | (refine at0 4 rfl (fun w' hq => pv_ian (tS rfl) rfl rfl (by omega)) ?_) | (refine at0 4 rfl (fun w' hq => pv_ia (tS rfl) rfl rfl (by omega)) ?_)
                      first | (refine at0 5 rfl (fun w' hq => pv_load (t1 rfl) rfl (by first | exact PT.ld0 (H.mono hq) rfl | exact PT.ld (H.mono hq) rfl | exact SlR.ld (HN.mono hq) h00 rfl | exact SlR.ld1 (HN.mono hq) h00 rfl | exact SlR.ld (HN.mono hq) h01 rfl | exact SlR.ld1 (HN.mono hq) h01 rfl)) ?_) | (refine at0 5 rfl (fun w' hq => pv_loada (tA rfl) rfl (by first | exact PT.lda (H.mono hq) | exact SlR.lda (HN.mono hq) h00 | exact SlR.lda (HN.mono hq) h01) (by rfl)) ?_)
                      (refine at0 6 rfl (fun w' hq => pv_fa (tF rfl) rfl) ?_)
                      first | (refine at0 7 rfl (fun w' hq => pv_load (t1 rfl) rfl (by first | exact PT.ld0 (H.mono hq) rfl | exact PT.ld (H.mono hq) rfl | exact SlR.ld (HN.mono hq) h00 rfl | exact SlR.ld1 (HN.mono hq) h00 rfl | exact SlR.ld (HN.mono hq) h01 rfl | exact SlR.ld1 (HN.mono hq) h01 rfl)) ?_) | (refine at0 7 rfl (fun w' hq => pv_loada (tA rfl) rfl (by first | exact PT.lda (H.mono hq) | exact SlR.lda (HN.mono hq) h00 | exact SlR.lda (HN.mono hq) h01) (by rfl)) ?_)
                      first | (refine at0 8 rfl (fun w' hq => pv_ian (tS rfl) rfl rfl (by omega)) ?_) | (refine at0 8 rfl (fun w' hq => pv_ia (tS rfl) rfl rfl (by omega)) ?_)
                      first | (refine at0 9 rfl (fun w' hq => pv_load (t1 rfl) rfl (by first | exact PT.ld0 (H.mono hq) rfl | exact PT.ld (H.mono hq) rfl | exact SlR.ld (HN.mono hq) h00 rfl | exact SlR.ld1 (HN.mono hq) h00 rfl | exact SlR.ld (HN.mono hq) h01 rfl | exact SlR.ld1 (HN.mono hq) h01 rfl)) ?_) | (refine at0 9 rfl (fun w' hq => pv_loada (tA rfl) rfl (by first | exact PT.lda (H.mono hq) | exact SlR.lda (HN.mono hq) h00 | exact SlR.lda (HN.mono hq) h01) (by rfl)) ?_)
                      (refine at0 10 rfl (fun w' hq => pv_move rfl) ?_)
                      refine aw_act 11 (by kernel_rfl) rfl rfl rfl ?_
                      refine act_bs (vs := [.int .i64 (nth e 0), .int .i64 (nth e 1), .int .i64 1, .int .i64 y, .int .i64 0]) (cs := [.int .i64 (nth e 0), .int .i64 (nth e 1), .int .i64 1, .int .i64 y, .int .i64 0]) elemI rfl rfl (by omega) (by omega) rfl (by simp [Value.cells]) ?_; intro wb HX1 hb; refine ⟨grow_trans hS hb, fun hS => ?_⟩
                      refine aw_act 12 (by kernel_rfl) rfl rfl rfl ?_
                      refine act_call (f := 6) (by kernel_rfl) rfl (evnew_c 13 _ 5 5 _) ?_; rintro e1 wc ⟨rfl, hbc⟩; have HX2 := HX1.mono hbc; refine ⟨_, rfl, grow_trans hS hbc, fun hS => ?_⟩
                      refine aw_act 13 (by kernel_rfl) rfl rfl rfl ?_
                      refine act_call (f := 8) (by kernel_rfl) rfl (ev_cT (e := ⟨3, 13, [nth e 0, nth e 1, 1, y, 0], []⟩) hR1 (show (0 : Int) ≤ 13 ∧ (13 : Int) ≤ 255 by decide) rfl rfl rfl rfl (HP.mono hS) (HL.mono hS) (HX2.slR (xs := [nth e 0, nth e 1, 1, y, 0]) encI_len rfl (by simp)) (SlR.nil _) tx_nil (hK.mono hS)) ?_; rintro e1 wd ⟨⟨vo1, vt1, rfl, hO1, hT1⟩, hbd⟩; refine ⟨_, rfl, grow_trans hS hbd, fun hS => ?_⟩
                      (refine at0 14 rfl (fun w' hq => pv_move rfl) ?_)
                      (refine at0 15 rfl (fun w' hq => pv_extract rfl rfl) ?_)
                      (refine at0 16 rfl (fun w' hq => pv_extract rfl rfl) ?_)
                      (refine at0 17 rfl (fun w' hq => pv_extract rfl rfl) ?_)
                      (refine at0 18 rfl (fun w' hq => pv_assign rfl) ?_)
                      (refine at0 19 rfl (fun w' hq => pv_assign rfl) ?_)
                      (refine at0 20 rfl (fun w' hq => pv_assign rfl) ?_)
                      refine aw_done (by kernel_rfl) ?_
                      replace hw := hS; clear hS hNP
                      clear HX1 HX2
                      obtain ⟨pa, pc, rfl, hO1, -⟩ := Own.slR encP_len hO1
                      obtain ⟨la, lc, rfl, hT1, -⟩ := Own.slR encL_len hT1
                      replace hW := grow_trans hW hw; replace HN := HN.mono hw; replace hK := hK.mono hw; replace H := H.mono hw; replace HO := HO.mono hw; replace HT := HT.mono hw; clear hw HP HL; have hw := Below.refl wd.heap.size wd
                      repeat' (first | (refine lw_pure rfl (pv_move rfl) ?_) | (refine lw_pure rfl (pv_assign rfl) ?_) | (refine is_cw ?_; first | (refine cw_seq ?_) | (refine cw_region ?_) | (refine cw_true rfl rfl ?_) | (refine cw_false rfl rfl ?_) | (refine is_cd ?_; refine cw_true rfl (by first | assumption | exact decide_eq_true (by omega) | exact dec_notT (by omega)) ?_) | (refine is_cd ?_; refine cw_false rfl (by first | assumption | exact decide_eq_false (by omega) | exact dec_notF (by omega)) ?_) | (refine cw_skip ?_) | (refine cw_block ?_) | (refine cw_ret ?_)) | (refine is_qw ?_; first | (with_reducible refine qw_then ?_) | (with_reducible refine qw_in ?_) | (with_reducible refine qw_in_hit ?_) | (refine qw_in_miss rfl ?_) | (with_reducible refine qw_then_exit ?_) | (with_reducible refine qw_then_ret ?_) | (with_reducible refine qw_in_ret ?_)) | (refine lw_nil ?_) | (refine is_guarded ?_; first | (refine lw_not rfl rfl rfl rfl ?_) | (refine lw_not_u rfl rfl rfl ?_) | (refine lw_on rfl rfl rfl ?_)) | ((refine is_bin ?_; first | (refine lw_pure rfl (pv_lss rfl rfl) ?_) | (refine lw_pure rfl (pv_eql rfl rfl) ?_) | (refine lw_pure rfl (pv_neq rfl rfl) ?_) | (refine lw_pure rfl (pv_gtr rfl rfl) ?_) | (refine lw_pure rfl (pv_geq rfl rfl) ?_) | (refine lw_pure rfl (pv_sub rfl rfl (by omega)) ?_))) | ((refine is_load ?_; first | (refine lw_pure rfl (pv_load (t1 rfl) rfl (by first | fail)) ?_) | (refine lw_pure rfl (pv_loada (tA rfl) rfl (by first | fail) (by rfl)) ?_))) | ((refine is_fa ?_; first | (refine lw_pure rfl (pv_fa (tF rfl) rfl) ?_))) | ((refine is_ia ?_; first | (refine lw_pure rfl (pv_ian (tS rfl) rfl rfl (by omega)) ?_) | (refine lw_pure rfl (pv_ia (tS rfl) rfl rfl (by omega)) ?_))) | ((refine is_un ?_; first | (refine lw_pure rfl (pv_not rfl) ?_))) | ((refine is_bi ?_; first | (refine lw_pure rfl (pv_lenl (tS rfl) rfl) ?_) | (refine lw_pure rfl (pv_lens (tStr rfl) rfl) ?_))) | (refine is_pk ?_; refine lw_pure rfl (pv_pick_t rfl rfl rfl) ?_) | (refine is_pk ?_; refine lw_pure rfl (pv_pick_f rfl rfl rfl) ?_) | (refine is_pk ?_; refine lw_pure rfl (pv_pick_t rfl (by first | assumption | exact decide_eq_true (by omega) | exact dec_notT (by omega)) rfl) ?_) | (refine is_pk ?_; refine lw_pure rfl (pv_pick_f rfl (by first | assumption | exact decide_eq_false (by omega) | exact dec_notF (by omega)) rfl) ?_) | (refine is_pk ?_; refine lw_pure rfl (pv_pick rfl rfl rfl) ?_) | (refine lw_pure rfl (pv_extract rfl rfl) ?_))
                      refine cw_drawn (fun w' => Below wd.heap.size wd w') (by kernel_rfl) (by repeat (first | exact NoPanic.body | with_reducible refine NoPanic.then ?_ | with_reducible refine NoPanic.inBlock ?_)) (fun hNP => ?_)
                      have hS := hw.drew
                      (refine at0 0 rfl (fun w' hq => pv_move rfl) ?_)
                      (refine at0 1 rfl (fun w' hq => pv_move rfl) ?_)
                      (refine at0 2 rfl (fun w' hq => pv_fa (tF rfl) rfl) ?_)
                      first | (refine at0 3 rfl (fun w' hq => pv_load (t1 rfl) rfl (by first | exact PT.ld0 (H.mono hq) rfl | exact PT.ld (H.mono hq) rfl | exact SlR.ld (HN.mono hq) h00 rfl | exact SlR.ld1 (HN.mono hq) h00 rfl | exact SlR.ld (HN.mono hq) h01 rfl | exact SlR.ld1 (HN.mono hq) h01 rfl | exact SlR.ld (HN.mono hq) h03 rfl | exact SlR.ld1 (HN.mono hq) h03 rfl)) ?_) | (refine at0 3 rfl (fun w' hq => pv_loada (tA rfl) rfl (by first | exact PT.lda (H.mono hq) | exact SlR.lda (HN.mono hq) h00 | exact SlR.lda (HN.mono hq) h01 | exact SlR.lda (HN.mono hq) h03) (by rfl)) ?_)
                      first | (refine at0 4 rfl (fun w' hq => pv_ian (tS rfl) rfl rfl (by omega)) ?_) | (refine at0 4 rfl (fun w' hq => pv_ia (tS rfl) rfl rfl (by omega)) ?_)
                      first | (refine at0 5 rfl (fun w' hq => pv_load (t1 rfl) rfl (by first | exact PT.ld0 (H.mono hq) rfl | exact PT.ld (H.mono hq) rfl | exact SlR.ld (HN.mono hq) h00 rfl | exact SlR.ld1 (HN.mono hq) h00 rfl | exact SlR.ld (HN.mono hq) h01 rfl | exact SlR.ld1 (HN.mono hq) h01 rfl | exact SlR.ld (HN.mono hq) h03 rfl | exact SlR.ld1 (HN.mono hq) h03 rfl)) ?_) | (refine at0 5 rfl (fun w' hq => pv_loada (tA rfl) rfl (by first | exact PT.lda (H.mono hq) | exact SlR.lda (HN.mono hq) h00 | exact SlR.lda (HN.mono hq) h01 | exact SlR.lda (HN.mono hq) h03) (by rfl)) ?_)
                      (refine at0 6 rfl (fun w' hq => pv_fa (tF rfl) rfl) ?_)
                      first | (refine at0 7 rfl (fun w' hq => pv_load (t1 rfl) rfl (by first | exact PT.ld0 (H.mono hq) rfl | exact PT.ld (H.mono hq) rfl | exact SlR.ld (HN.mono hq) h00 rfl | exact SlR.ld1 (HN.mono hq) h00 rfl | exact SlR.ld (HN.mono hq) h01 rfl | exact SlR.ld1 (HN.mono hq) h01 rfl | exact SlR.ld (HN.mono hq) h03 rfl | exact SlR.ld1 (HN.mono hq) h03 rfl)) ?_) | (refine at0 7 rfl (fun w' hq => pv_loada (tA rfl) rfl (by first | exact PT.lda (H.mono hq) | exact SlR.lda (HN.mono hq) h00 | exact SlR.lda (HN.mono hq) h01 | exact SlR.lda (HN.mono hq) h03) (by rfl)) ?_)
                      first | (refine at0 8 rfl (fun w' hq => pv_ian (tS rfl) rfl rfl (by omega)) ?_) | (refine at0 8 rfl (fun w' hq => pv_ia (tS rfl) rfl rfl (by omega)) ?_)
                      first | (refine at0 9 rfl (fun w' hq => pv_load (t1 rfl) rfl (by first | exact PT.ld0 (H.mono hq) rfl | exact PT.ld (H.mono hq) rfl | exact SlR.ld (HN.mono hq) h00 rfl | exact SlR.ld1 (HN.mono hq) h00 rfl | exact SlR.ld (HN.mono hq) h01 rfl | exact SlR.ld1 (HN.mono hq) h01 rfl | exact SlR.ld (HN.mono hq) h03 rfl | exact SlR.ld1 (HN.mono hq) h03 rfl)) ?_) | (refine at0 9 rfl (fun w' hq => pv_loada (tA rfl) rfl (by first | exact PT.lda (H.mono hq) | exact SlR.lda (HN.mono hq) h00 | exact SlR.lda (HN.mono hq) h01 | exact SlR.lda (HN.mono hq) h03) (by rfl)) ?_)
                      (refine at0 10 rfl (fun w' hq => pv_move rfl) ?_)
                      (refine at0 11 rfl (fun w' hq => pv_fa (tF rfl) rfl) ?_)
                      first | (refine at0 12 rfl (fun w' hq => pv_load (t1 rfl) rfl (by first | exact PT.ld0 (H.mono hq) rfl | exact PT.ld (H.mono hq) rfl | exact SlR.ld (HN.mono hq) h00 rfl | exact SlR.ld1 (HN.mono hq) h00 rfl | exact SlR.ld (HN.mono hq) h01 rfl | exact SlR.ld1 (HN.mono hq) h01 rfl | exact SlR.ld (HN.mono hq) h03 rfl | exact SlR.ld1 (HN.mono hq) h03 rfl)) ?_) | (refine at0 12 rfl (fun w' hq => pv_loada (tA rfl) rfl (by first | exact PT.lda (H.mono hq) | exact SlR.lda (HN.mono hq) h00 | exact SlR.lda (HN.mono hq) h01 | exact SlR.lda (HN.mono hq) h03) (by rfl)) ?_)
                      first | (refine at0 13 rfl (fun w' hq => pv_ian (tS rfl) rfl rfl (by omega)) ?_) | (refine at0 13 rfl (fun w' hq => pv_ia (tS rfl) rfl rfl (by omega)) ?_)
                      first | (refine at0 14 rfl (fun w' hq => pv_load (t1 rfl) rfl (by first | exact PT.ld0 (H.mono hq) rfl | exact PT.ld (H.mono hq) rfl | exact SlR.ld (HN.mono hq) h00 rfl | exact SlR.ld1 (HN.mono hq) h00 rfl | exact SlR.ld (HN.mono hq) h01 rfl | exact SlR.ld1 (HN.mono hq) h01 rfl | exact SlR.ld (HN.mono hq) h03 rfl | exact SlR.ld1 (HN.mono hq) h03 rfl)) ?_) | (refine at0 14 rfl (fun w' hq => pv_loada (tA rfl) rfl (by first | exact PT.lda (H.mono hq) | exact SlR.lda (HN.mono hq) h00 | exact SlR.lda (HN.mono hq) h01 | exact SlR.lda (HN.mono hq) h03) (by rfl)) ?_)
                      (refine at0 15 rfl (fun w' hq => pv_move rfl) ?_)
                      first | (refine at0 16 rfl (fun w' hq => pv_lss rfl rfl) ?_) | (refine at0 16 rfl (fun w' hq => pv_eql rfl rfl) ?_) | (refine at0 16 rfl (fun w' hq => pv_neq rfl rfl) ?_) | (refine at0 16 rfl (fun w' hq => pv_gtr rfl rfl) ?_) | (refine at0 16 rfl (fun w' hq => pv_geq rfl rfl) ?_) | (refine at0 16 rfl (fun w' hq => pv_sub rfl rfl (by omega)) ?_)
                      refine aw_act 17 (by kernel_rfl) rfl rfl rfl ?_
                      refine act_bs (vs := [.int .i64 (nth e 0), .int .i64 (nth e 1), .int .i64 q, .int .i64 (nth e 3 - y), .int .i64 0]) (cs := [.int .i64 (nth e 0), .int .i64 (nth e 1), .int .i64 q, .int .i64 (nth e 3 - y), .int .i64 0]) elemI rfl rfl (by omega) (by omega) rfl (by simp [Value.cells]) ?_; intro wb2 HX1 hb; refine ⟨grow_trans hS hb, fun hS => ?_⟩
                      refine aw_act 18 (by kernel_rfl) rfl rfl rfl ?_
                      refine act_call (f := 6) (by kernel_rfl) rfl (evnew_c 13 _ 5 5 _) ?_; rintro e1 wc2 ⟨rfl, hbc⟩; have HX2 := HX1.mono hbc; refine ⟨_, rfl, grow_trans hS hbc, fun hS => ?_⟩
                      refine aw_act 19 (by kernel_rfl) rfl rfl rfl ?_
                      refine act_call (f := 8) (by kernel_rfl) rfl (ev_cT (e := ⟨3, 13, [nth e 0, nth e 1, q, nth e 3 - y, 0], []⟩) hR2 (show (0 : Int) ≤ 13 ∧ (13 : Int) ≤ 255 by decide) rfl rfl rfl rfl (hO1.mono hS) (hT1.mono hS) (HX2.slR (xs := [nth e 0, nth e 1, q, nth e 3 - y, 0]) encI_len rfl (by simp)) (SlR.nil _) tx_nil (hK.mono hS)) ?_; rintro e1 we ⟨⟨vo2, vt2, rfl, hO2, hT2⟩, hbd⟩; refine ⟨_, rfl, grow_trans hS hbd, fun hS => ?_⟩
                      (refine at0 20 rfl (fun w' hq => pv_move rfl) ?_)
                      (refine at0 21 rfl (fun w' hq => pv_extract rfl rfl) ?_)
                      (refine at0 22 rfl (fun w' hq => pv_extract rfl rfl) ?_)
                      (refine at0 23 rfl (fun w' hq => pv_extract rfl rfl) ?_)
                      (refine at0 24 rfl (fun w' hq => pv_assign rfl) ?_)
                      (refine at0 25 rfl (fun w' hq => pv_assign rfl) ?_)
                      (refine at0 26 rfl (fun w' hq => pv_assign rfl) ?_)
                      refine aw_done (by kernel_rfl) ?_
                      replace hw := hS; clear hS hNP
                      clear HX1 HX2
                      obtain ⟨pa2, pc2, rfl, hO2, -⟩ := Own.slR encP_len hO2
                      obtain ⟨la2, lc2, rfl, hT2, -⟩ := Own.slR encL_len hT2
                      replace hW := grow_trans hW hw; replace HO := HO.mono hw; replace HT := HT.mono hw; clear hw H HN hK hO1 hT1; have hw := Below.refl we.heap.size we
                      by_cases hq : q ≤ 1073741824
                      · obtain ⟨rfl, rfl, rfl⟩ := hq1 hq
                        repeat' (first | (refine lw_pure rfl (pv_move rfl) ?_) | (refine lw_pure rfl (pv_assign rfl) ?_) | (refine lw_call (f := 9) (by kernel_rfl) rfl rfl (rsP_t rfl rfl (hO2.mono hw) (HO.mono hw)) ?_; rintro e w1 ⟨rfl, hb⟩; refine ⟨_, rfl, ?_⟩; replace hw := grow_trans hw hb; clear hb) | (refine lw_call (f := 10) (by kernel_rfl) rfl rfl (rsT_t rfl rfl (hT2.mono hw) (HT.mono hw)) ?_; rintro e w1 ⟨rfl, hb⟩; refine ⟨_, rfl, ?_⟩; replace hw := grow_trans hw hb; clear hb) | (refine is_cw ?_; first | (refine cw_seq ?_) | (refine cw_region ?_) | (refine cw_true rfl rfl ?_) | (refine cw_false rfl rfl ?_) | (refine is_cd ?_; refine cw_true rfl (by first | assumption | exact decide_eq_true (by omega) | exact dec_notT (by omega)) ?_) | (refine is_cd ?_; refine cw_false rfl (by first | assumption | exact decide_eq_false (by omega) | exact dec_notF (by omega)) ?_) | (refine cw_skip ?_) | (refine cw_block ?_) | (refine cw_ret ?_)) | (refine is_qw ?_; first | (with_reducible refine qw_then ?_) | (with_reducible refine qw_in ?_) | (with_reducible refine qw_in_hit ?_) | (refine qw_in_miss rfl ?_) | (with_reducible refine qw_then_exit ?_) | (with_reducible refine qw_then_ret ?_) | (with_reducible refine qw_in_ret ?_)) | (refine lw_nil ?_) | (refine is_guarded ?_; first | (refine lw_not rfl rfl rfl rfl ?_) | (refine lw_not_u rfl rfl rfl ?_) | (refine lw_on rfl rfl rfl ?_)) | ((refine is_bin ?_; first | (refine lw_pure rfl (pv_lss rfl rfl) ?_) | (refine lw_pure rfl (pv_eql rfl rfl) ?_) | (refine lw_pure rfl (pv_neq rfl rfl) ?_) | (refine lw_pure rfl (pv_gtr rfl rfl) ?_) | (refine lw_pure rfl (pv_geq rfl rfl) ?_) | (refine lw_pure rfl (pv_sub rfl rfl (by omega)) ?_))) | ((refine is_load ?_; first | (refine lw_pure rfl (pv_load (t1 rfl) rfl (by first | fail)) ?_) | (refine lw_pure rfl (pv_loada (tA rfl) rfl (by first | fail) (by rfl)) ?_))) | ((refine is_fa ?_; first | (refine lw_pure rfl (pv_fa (tF rfl) rfl) ?_))) | ((refine is_ia ?_; first | (refine lw_pure rfl (pv_ian (tS rfl) rfl rfl (by omega)) ?_) | (refine lw_pure rfl (pv_ia (tS rfl) rfl rfl (by omega)) ?_))) | ((refine is_un ?_; first | (refine lw_pure rfl (pv_not rfl) ?_))) | ((refine is_bi ?_; first | (refine lw_pure rfl (pv_lenl (tS rfl) rfl) ?_) | (refine lw_pure rfl (pv_lens (tStr rfl) rfl) ?_))) | (refine is_pk ?_; refine lw_pure rfl (pv_pick_t rfl rfl rfl) ?_) | (refine is_pk ?_; refine lw_pure rfl (pv_pick_f rfl rfl rfl) ?_) | (refine is_pk ?_; refine lw_pure rfl (pv_pick_t rfl (by first | assumption | exact decide_eq_true (by omega) | exact dec_notT (by omega)) rfl) ?_) | (refine is_pk ?_; refine lw_pure rfl (pv_pick_f rfl (by first | assumption | exact decide_eq_false (by omega) | exact dec_notF (by omega)) rfl) ?_) | (refine is_pk ?_; refine lw_pure rfl (pv_pick rfl rfl rfl) ?_) | (refine lw_pure rfl (pv_extract rfl rfl) ?_))
                        exact qw_ret1 rfl rfl ⟨rfl, grow_trans hW hw⟩
                      · have hk2 := hq2 (by omega)
                        subst hk2
                        repeat' (first | (refine lw_pure rfl (pv_move rfl) ?_) | (refine lw_pure rfl (pv_assign rfl) ?_) | (refine is_cw ?_; first | (refine cw_seq ?_) | (refine cw_region ?_) | (refine cw_true rfl rfl ?_) | (refine cw_false rfl rfl ?_) | (refine is_cd ?_; refine cw_true rfl (by first | assumption | exact decide_eq_true (by omega) | exact dec_notT (by omega)) ?_) | (refine is_cd ?_; refine cw_false rfl (by first | assumption | exact decide_eq_false (by omega) | exact dec_notF (by omega)) ?_) | (refine cw_skip ?_) | (refine cw_block ?_) | (refine cw_ret ?_)) | (refine is_qw ?_; first | (with_reducible refine qw_then ?_) | (with_reducible refine qw_in ?_) | (with_reducible refine qw_in_hit ?_) | (refine qw_in_miss rfl ?_) | (with_reducible refine qw_then_exit ?_) | (with_reducible refine qw_then_ret ?_) | (with_reducible refine qw_in_ret ?_)) | (refine lw_nil ?_) | (refine is_guarded ?_; first | (refine lw_not rfl rfl rfl rfl ?_) | (refine lw_not_u rfl rfl rfl ?_) | (refine lw_on rfl rfl rfl ?_) | (refine lw_on rfl rfl (by first | assumption | exact decide_eq_true (by omega) | exact decide_eq_false (by omega) | exact dec_notT (by omega) | exact dec_notF (by omega)) ?_) | (refine lw_not rfl rfl rfl (by first | assumption | exact decide_eq_true (by omega) | exact decide_eq_false (by omega) | exact dec_notT (by omega) | exact dec_notF (by omega)) ?_) | (refine lw_gs_t rfl rfl rfl (fun hc => ?_) (fun hc => ?_) <;> (first | replace hc := of_decide_eq_true hc | replace hc := of_decide_eq_false hc | replace hc := dec_nT hc | replace hc := dec_nF hc | skip) <;> (try (exfalso; omega))) | (refine lw_gs_f rfl rfl rfl (fun hc => ?_) (fun hc => ?_) <;> (first | replace hc := of_decide_eq_true hc | replace hc := of_decide_eq_false hc | replace hc := dec_nT hc | replace hc := dec_nF hc | skip) <;> (try (exfalso; omega)))) | ((refine is_bin ?_; first | (refine lw_pure rfl (pv_lss rfl rfl) ?_) | (refine lw_pure rfl (pv_eql rfl rfl) ?_) | (refine lw_pure rfl (pv_neq rfl rfl) ?_) | (refine lw_pure rfl (pv_gtr rfl rfl) ?_) | (refine lw_pure rfl (pv_geq rfl rfl) ?_) | (refine lw_pure rfl (pv_sub rfl rfl (by omega)) ?_))) | ((refine is_load ?_; first | (refine lw_pure rfl (pv_load (t1 rfl) rfl (by first | fail)) ?_) | (refine lw_pure rfl (pv_loada (tA rfl) rfl (by first | fail) (by rfl)) ?_))) | ((refine is_fa ?_; first | (refine lw_pure rfl (pv_fa (tF rfl) rfl) ?_))) | ((refine is_ia ?_; first | (refine lw_pure rfl (pv_ian (tS rfl) rfl rfl (by omega)) ?_) | (refine lw_pure rfl (pv_ia (tS rfl) rfl rfl (by omega)) ?_))) | ((refine is_un ?_; first | (refine lw_pure rfl (pv_not rfl) ?_))) | ((refine is_bi ?_; first | (refine lw_pure rfl (pv_lenl (tS rfl) rfl) ?_) | (refine lw_pure rfl (pv_lens (tStr rfl) rfl) ?_))) | (refine is_pk ?_; refine lw_pure rfl (pv_pick_t rfl rfl rfl) ?_) | (refine is_pk ?_; refine lw_pure rfl (pv_pick_f rfl rfl rfl) ?_) | (refine is_pk ?_; refine lw_pure rfl (pv_pick_t rfl (by first | assumption | exact decide_eq_true (by omega) | exact dec_notT (by omega)) rfl) ?_) | (refine is_pk ?_; refine lw_pure rfl (pv_pick_f rfl (by first | assumption | exact decide_eq_false (by omega) | exact dec_notF (by omega)) rfl) ?_) | (refine is_pk ?_; refine lw_pure rfl (pv_pick rfl rfl rfl) ?_) | (refine lw_pure rfl (pv_extract rfl rfl) ?_) | (refine is_cw ?_; refine cw_split rfl (fun hc => ?_) (fun hc => ?_) <;> (first | replace hc := of_decide_eq_true hc | replace hc := of_decide_eq_false hc | replace hc := dec_nT hc | replace hc := dec_nF hc | skip) <;> (try (exfalso; omega))))
                        exact qw_ret1 rfl rfl ⟨by simp; omega, grow_trans hW hw⟩
              · repeat' (first | (refine lw_pure rfl (pv_move rfl) ?_) | (refine lw_pure rfl (pv_assign rfl) ?_) | (refine is_cw ?_; first | (refine cw_seq ?_) | (refine cw_region ?_) | (refine cw_true rfl rfl ?_) | (refine cw_false rfl rfl ?_) | (refine is_cd ?_; refine cw_true rfl (by first | assumption | exact decide_eq_true (by omega) | exact dec_notT (by omega)) ?_) | (refine is_cd ?_; refine cw_false rfl (by first | assumption | exact decide_eq_false (by omega) | exact dec_notF (by omega)) ?_) | (refine cw_skip ?_) | (refine cw_block ?_) | (refine cw_ret ?_)) | (refine is_qw ?_; first | (with_reducible refine qw_then ?_) | (with_reducible refine qw_in ?_) | (with_reducible refine qw_in_hit ?_) | (refine qw_in_miss rfl ?_) | (with_reducible refine qw_then_exit ?_) | (with_reducible refine qw_then_ret ?_) | (with_reducible refine qw_in_ret ?_)) | (refine lw_nil ?_) | (refine is_guarded ?_; first | (refine lw_not rfl rfl rfl rfl ?_) | (refine lw_not_u rfl rfl rfl ?_) | (refine lw_on rfl rfl rfl ?_) | (refine lw_on rfl rfl (by first | assumption | exact decide_eq_true (by omega) | exact decide_eq_false (by omega) | exact dec_notT (by omega) | exact dec_notF (by omega)) ?_) | (refine lw_not rfl rfl rfl (by first | assumption | exact decide_eq_true (by omega) | exact decide_eq_false (by omega) | exact dec_notT (by omega) | exact dec_notF (by omega)) ?_) | (refine lw_gs_t rfl rfl rfl (fun hc => ?_) (fun hc => ?_) <;> (first | replace hc := of_decide_eq_true hc | replace hc := of_decide_eq_false hc | replace hc := dec_nT hc | replace hc := dec_nF hc | skip) <;> (try (exfalso; omega))) | (refine lw_gs_f rfl rfl rfl (fun hc => ?_) (fun hc => ?_) <;> (first | replace hc := of_decide_eq_true hc | replace hc := of_decide_eq_false hc | replace hc := dec_nT hc | replace hc := dec_nF hc | skip) <;> (try (exfalso; omega)))) | ((refine is_bin ?_; first | (refine lw_pure rfl (pv_lss rfl rfl) ?_) | (refine lw_pure rfl (pv_eql rfl rfl) ?_) | (refine lw_pure rfl (pv_neq rfl rfl) ?_) | (refine lw_pure rfl (pv_gtr rfl rfl) ?_) | (refine lw_pure rfl (pv_geq rfl rfl) ?_) | (refine lw_pure rfl (pv_sub rfl rfl (by omega)) ?_))) | ((refine is_load ?_; first | (refine lw_pure rfl (pv_load (t1 rfl) rfl (by first | exact PT.ld0 (H.mono hw) rfl | exact PT.ld (H.mono hw) rfl)) ?_) | (refine lw_pure rfl (pv_loada (tA rfl) rfl (by first | exact PT.lda (H.mono hw)) (by rfl)) ?_))) | ((refine is_fa ?_; first | (refine lw_pure rfl (pv_fa (tF rfl) rfl) ?_))) | ((refine is_ia ?_; first | (refine lw_pure rfl (pv_ian (tS rfl) rfl rfl (by omega)) ?_) | (refine lw_pure rfl (pv_ia (tS rfl) rfl rfl (by omega)) ?_))) | ((refine is_un ?_; first | (refine lw_pure rfl (pv_not rfl) ?_))) | ((refine is_bi ?_; first | (refine lw_pure rfl (pv_lenl (tS rfl) rfl) ?_) | (refine lw_pure rfl (pv_lens (tStr rfl) rfl) ?_))) | (refine is_pk ?_; refine lw_pure rfl (pv_pick_t rfl rfl rfl) ?_) | (refine is_pk ?_; refine lw_pure rfl (pv_pick_f rfl rfl rfl) ?_) | (refine is_pk ?_; refine lw_pure rfl (pv_pick_t rfl (by first | assumption | exact decide_eq_true (by omega) | exact dec_notT (by omega)) rfl) ?_) | (refine is_pk ?_; refine lw_pure rfl (pv_pick_f rfl (by first | assumption | exact decide_eq_false (by omega) | exact dec_notF (by omega)) rfl) ?_) | (refine is_pk ?_; refine lw_pure rfl (pv_pick rfl rfl rfl) ?_) | (refine lw_pure rfl (pv_extract rfl rfl) ?_) | (refine is_cw ?_; refine cw_split rfl (fun hc => ?_) (fun hc => ?_) <;> (first | replace hc := of_decide_eq_true hc | replace hc := of_decide_eq_false hc | replace hc := dec_nT hc | replace hc := dec_nF hc | skip) <;> (try (exfalso; omega))))
                all_goals exact qw_ret1 rfl rfl ⟨rfl, grow_trans hW hw⟩
    · repeat' (first | (refine lw_pure rfl (pv_move rfl) ?_) | (refine lw_pure rfl (pv_assign rfl) ?_) | (refine is_cw ?_; first | (refine cw_seq ?_) | (refine cw_region ?_) | (refine cw_true rfl rfl ?_) | (refine cw_false rfl rfl ?_) | (refine is_cd ?_; refine cw_true rfl (by first | assumption | exact decide_eq_true (by omega) | exact dec_notT (by omega)) ?_) | (refine is_cd ?_; refine cw_false rfl (by first | assumption | exact decide_eq_false (by omega) | exact dec_notF (by omega)) ?_) | (refine cw_skip ?_) | (refine cw_block ?_) | (refine cw_ret ?_)) | (refine is_qw ?_; first | (with_reducible refine qw_then ?_) | (with_reducible refine qw_in ?_) | (with_reducible refine qw_in_hit ?_) | (refine qw_in_miss rfl ?_) | (with_reducible refine qw_then_exit ?_) | (with_reducible refine qw_then_ret ?_) | (with_reducible refine qw_in_ret ?_)) | (refine lw_nil ?_) | (refine is_guarded ?_; first | (refine lw_not rfl rfl rfl rfl ?_) | (refine lw_not_u rfl rfl rfl ?_) | (refine lw_on rfl rfl rfl ?_) | (refine lw_on rfl rfl (by first | assumption | exact decide_eq_true (by omega) | exact decide_eq_false (by omega) | exact dec_notT (by omega) | exact dec_notF (by omega)) ?_) | (refine lw_not rfl rfl rfl (by first | assumption | exact decide_eq_true (by omega) | exact decide_eq_false (by omega) | exact dec_notT (by omega) | exact dec_notF (by omega)) ?_) | (refine lw_gs_t rfl rfl rfl (fun hc => ?_) (fun hc => ?_) <;> (first | replace hc := of_decide_eq_true hc | replace hc := of_decide_eq_false hc | replace hc := dec_nT hc | replace hc := dec_nF hc | skip) <;> (try (exfalso; omega))) | (refine lw_gs_f rfl rfl rfl (fun hc => ?_) (fun hc => ?_) <;> (first | replace hc := of_decide_eq_true hc | replace hc := of_decide_eq_false hc | replace hc := dec_nT hc | replace hc := dec_nF hc | skip) <;> (try (exfalso; omega)))) | ((refine is_bin ?_; first | (refine lw_pure rfl (pv_lss rfl rfl) ?_) | (refine lw_pure rfl (pv_eql rfl rfl) ?_) | (refine lw_pure rfl (pv_neq rfl rfl) ?_) | (refine lw_pure rfl (pv_gtr rfl rfl) ?_) | (refine lw_pure rfl (pv_geq rfl rfl) ?_) | (refine lw_pure rfl (pv_sub rfl rfl (by omega)) ?_))) | ((refine is_load ?_; first | (refine lw_pure rfl (pv_load (t1 rfl) rfl (by first | exact PT.ld0 (H.mono hw) rfl | exact PT.ld (H.mono hw) rfl)) ?_) | (refine lw_pure rfl (pv_loada (tA rfl) rfl (by first | exact PT.lda (H.mono hw)) (by rfl)) ?_))) | ((refine is_fa ?_; first | (refine lw_pure rfl (pv_fa (tF rfl) rfl) ?_))) | ((refine is_ia ?_; first | (refine lw_pure rfl (pv_ian (tS rfl) rfl rfl (by omega)) ?_) | (refine lw_pure rfl (pv_ia (tS rfl) rfl rfl (by omega)) ?_))) | ((refine is_un ?_; first | (refine lw_pure rfl (pv_not rfl) ?_))) | ((refine is_bi ?_; first | (refine lw_pure rfl (pv_lenl (tS rfl) rfl) ?_) | (refine lw_pure rfl (pv_lens (tStr rfl) rfl) ?_))) | (refine is_pk ?_; refine lw_pure rfl (pv_pick_t rfl rfl rfl) ?_) | (refine is_pk ?_; refine lw_pure rfl (pv_pick_f rfl rfl rfl) ?_) | (refine is_pk ?_; refine lw_pure rfl (pv_pick_t rfl (by first | assumption | exact decide_eq_true (by omega) | exact dec_notT (by omega)) rfl) ?_) | (refine is_pk ?_; refine lw_pure rfl (pv_pick_f rfl (by first | assumption | exact decide_eq_false (by omega) | exact dec_notF (by omega)) rfl) ?_) | (refine is_pk ?_; refine lw_pure rfl (pv_pick rfl rfl rfl) ?_) | (refine lw_pure rfl (pv_extract rfl rfl) ?_) | (refine is_cw ?_; refine cw_split rfl (fun hc => ?_) (fun hc => ?_) <;> (first | replace hc := of_decide_eq_true hc | replace hc := of_decide_eq_false hc | replace hc := dec_nT hc | replace hc := dec_nF hc | skip) <;> (try (exfalso; omega))))
      all_goals exact qw_ret1 rfl rfl ⟨rfl, grow_trans hW hw⟩
end Go.Proofs.YtkehmbgcglbffaaDoor
namespace Go.Proofs.YtkehmbgcglbffaaDoor
open Go.RowKit

def depsOf (o : Oper) : List Nat := (o.after.toList.filter fun e => Region.binds .any e).map (·.on)
def anyOk (n : Nat) (ks : List Nat) : List Oper → Nat → List Nat → Bool
  | [], _, _ => true
  | o :: r, i, ds => match o.guard, o.dst with
    | none, some d => Nat.blt d n && (!ds.contains d && (!ks.contains d && ((depsOf o).all (fun j => Nat.blt j i) && anyOk n ks r (i + 1) (d :: ds))))
    | _, _ => false
structure AnyOp (n : Nat) (ks : List Nat) (os : List Oper) (k : Nat) (ds : List Nat) (i : Nat) (o : Oper) (d : Nat) : Prop where
  guard : o.guard = none
  dst : o.dst = some d
  lt : d < n
  base : d ∉ ks
  old : d ∉ ds
  deps : ∀ j ∈ depsOf o, j < k + i
  one : ∀ j o', os[j]? = some o' → o'.dst = some d → j = i
theorem anyOk_at {n : Nat} {ks : List Nat} : ∀ {os : List Oper} {k : Nat} {ds : List Nat}, anyOk n ks os k ds = true → ∀ {i : Nat} {o : Oper}, os[i]? = some o → ∃ d, AnyOp n ks os k ds i o d
  | [], _, _, _, i, o, h => by simp at h
  | o1 :: r, k, ds, h, i, o, ho => by
    unfold anyOk at h
    cases hg : o1.guard with
    | some g => rw [hg] at h; cases h
    | none =>
      cases hd : o1.dst with
      | none => rw [hg, hd] at h; cases h
      | some d1 =>
        rw [hg, hd] at h
        simp only [Bool.and_eq_true, Bool.not_eq_true', List.all_eq_true, Nat.blt_eq] at h
        obtain ⟨h1, h2, h3, h4, h5⟩ := h
        have hds : d1 ∉ ds := by simpa using h2
        have hks : d1 ∉ ks := by simpa using h3
        cases i with
        | zero =>
          simp at ho; subst ho
          refine ⟨d1, hg, hd, h1, hks, hds, fun j hj => by simpa using h4 j hj, fun j o' hj hj2 => ?_⟩
          cases j with
          | zero => rfl
          | succ j =>
            obtain ⟨d2, h6⟩ := anyOk_at h5 (i := j) (o := o') (by simpa using hj)
            have := h6.dst
            rw [hj2] at this; injection this with this; subst this
            exact absurd (List.mem_cons_self ..) h6.old
        | succ i =>
          obtain ⟨d2, h6⟩ := anyOk_at h5 (i := i) (o := o) (by simpa using ho)
          refine ⟨d2, h6.guard, h6.dst, h6.lt, h6.base, fun hm => h6.old (List.mem_cons_of_mem _ hm), fun j hj => by have := h6.deps j hj; omega, fun j o' hj hj2 => ?_⟩
          cases j with
          | zero =>
            simp at hj; subst hj
            rw [hd] at hj2; injection hj2 with hj2
            exact absurd (by rw [← hj2]; exact List.mem_cons_self ..) h6.old
          | succ j => rw [h6.one j o' (by simpa using hj) hj2]
theorem look_mem : ∀ {l : Fr} {d : Nat} {v : Value}, look l d = some v → d ∈ l.map (·.1)
  | [], _, _, h => by simp [look] at h
  | (t, u) :: r, d, v, h => by
    simp only [look] at h
    by_cases hs : t = d
    · subst hs; simp
    · have : Nat.beq t d = false := by rw [Bool.eq_false_iff]; exact fun e => hs (Nat.eq_of_beq_eq_true e)
      rw [this, cond_false] at h
      exact List.mem_cons_of_mem _ (look_mem h)
section
variable {P : Program} {n : Nat} {ops : Array Oper} {Q : Exit → Act → World → Prop} {l : Fr} {Φ : Nat → Value → World → Prop} {W : World}
theorem Holds.keep {a : Act} (h : Holds n l a) {d : Nat} (hd : d ∉ l.map (·.1)) (v : Value) : Holds n l (a.put (some d) v) := by
  obtain ⟨h1, h2, h3⟩ := h
  refine ⟨by simpa [Act.put] using h1, h2, fun t u e => ?_⟩
  have hne : d ≠ t := fun e2 => hd (e2 ▸ look_mem e)
  simp only [Act.put]
  rw [Array.getElem?_setIfInBounds_ne hne]
  exact h3 t u e
theorem Holds.add {a : Act} (h : Holds n l a) {d : Nat} {v : Value} (hv : a.tmps[d]? = some v) : Holds n ((d, v) :: l) a := by
  obtain ⟨h1, h2, h3⟩ := h
  refine ⟨h1, h2, fun t u e => ?_⟩
  simp only [look] at e
  by_cases ht : d = t
  · subst ht
    simp only [Nat.beq_refl, cond_true, Option.some.injEq] at e
    subst e; exact hv
  · have : Nat.beq d t = false := by rw [Bool.eq_false_iff]; exact fun e => ht (Nat.eq_of_beq_eq_true e)
    rw [this, cond_false] at e
    exact h3 t u e
def DepStep (P : Program) (n : Nat) (ops : Array Oper) (Φ : Nat → Value → World → Prop) (o : Oper) (w : World) (Z : Value → World → Prop) : List Nat → Fr → Prop
  | [], m => Act1 P n m o w Z
  | j :: r, m => match (ops[j]?).bind (·.dst) with
    | some d => ∀ v, Φ j v w → DepStep P n ops Φ o w Z r ((d, v) :: m)
    | none => DepStep P n ops Φ o w Z r m
def StepsL (P : Program) (n : Nat) (ops : Array Oper) (l : Fr) (Φ : Nat → Value → World → Prop) (W : World) : List Oper → Nat → Prop
  | [], _ => True
  | o :: r, i => (∀ w, Below W.heap.size W w → DepStep P n ops Φ o w (fun v w' => Below w.heap.size w w' ∧ Φ i v w') (depsOf o) l) ∧ StepsL P n ops l Φ W r (i + 1)
def EndL (n : Nat) (Q : Exit → Act → World → Prop) (Φ : Nat → Value → World → Prop) (w : World) : List Oper → Nat → Fr → Prop
  | [], _, m => QW n Q .normal m w
  | o :: r, i, m => match o.dst with
    | some d => ∀ v, Φ i v w → EndL n Q Φ w r (i + 1) ((d, v) :: m)
    | none => EndL n Q Φ w r (i + 1) m
structure AnyI (n : Nat) (ops : Array Oper) (l : Fr) (Φ : Nat → Value → World → Prop) (listed : Array Bool) (a : Act) (w : World) : Prop where
  size : listed.size = ops.size
  base : Holds n l a
  vals : ∀ i o, ops[i]? = some o → listed[i]? = some true → ∃ d v, o.dst = some d ∧ a.tmps[d]? = some v ∧ Φ i v w
theorem steps_at : ∀ {os : List Oper} {k i : Nat} {o : Oper}, StepsL P n ops l Φ W os k → os[i]? = some o → ∀ w, Below W.heap.size W w → DepStep P n ops Φ o w (fun v w' => Below w.heap.size w w' ∧ Φ (k + i) v w') (depsOf o) l
  | [], _, _, _, _, h => by simp at h
  | o1 :: r, k, 0, o, h, ho => by simp at ho; subst ho; exact h.1
  | o1 :: r, k, i + 1, o, h, ho => by
    have := steps_at h.2 (i := i) (o := o) (by simpa using ho)
    rwa [show k + 1 + i = k + (i + 1) by omega] at this
theorem dep_run {o : Oper} {w : World} {a : Act} {Z : Value → World → Prop} : ∀ {js : List Nat} {m : Fr}, DepStep P n ops Φ o w Z js m → Holds n m a → (∀ j ∈ js, ∀ d, (ops[j]?).bind (·.dst) = some d → ∃ v, a.tmps[d]? = some v ∧ Φ j v w) → ∃ m', Holds n m' a ∧ Act1 P n m' o w Z
  | [], m, h, hm, _ => ⟨m, hm, h⟩
  | j :: r, m, h, hm, hv => by
    unfold DepStep at h
    cases hd : (ops[j]?).bind (·.dst) with
    | none => rw [hd] at h; exact dep_run h hm (fun k hk => hv k (List.mem_cons_of_mem _ hk))
    | some d =>
      rw [hd] at h
      obtain ⟨v, h1, h2⟩ := hv j (List.mem_cons_self ..) d hd
      exact dep_run (h v h2) (hm.add h1) (fun k hk => hv k (List.mem_cons_of_mem _ hk))
theorem end_run {w : World} {a : Act} : ∀ {os : List Oper} {k : Nat} {m : Fr}, EndL n Q Φ w os k m → Holds n m a → (∀ i o, os[i]? = some o → ∃ d v, o.dst = some d ∧ a.tmps[d]? = some v ∧ Φ (k + i) v w) → Q .normal a w
  | [], _, _, h, hm, _ => h.out a hm
  | o :: r, k, m, h, hm, hv => by
    obtain ⟨d, v, h1, h2, h3⟩ := hv 0 o rfl
    unfold EndL at h
    rw [h1] at h
    refine end_run (h v h3) (hm.add h2) fun i o' ho => ?_
    have := hv (i + 1) o' (by simpa using ho)
    rwa [show k + (i + 1) = k + 1 + i by omega] at this
theorem any_run (hok : anyOk n (l.map (·.1)) ops.toList 0 [] = true) (hmono : ∀ i v w w', Φ i v w → Below w.heap.size w w' → Φ i v w') (hst : StepsL P n ops l Φ W ops.toList 0) (hend : ∀ w, Below W.heap.size W w → EndL n Q Φ w ops.toList 0 l) :
    ∀ (fuel : Nat) (listed : Array Bool) (a : Act) (w : World), Below W.heap.size W w → AnyI n ops l Φ listed a w → listed.toList.count false ≤ fuel → wpAny P .any ops Q fuel listed a w := by
  have hat : ∀ {i : Nat} {o : Oper}, ops[i]? = some o → ∃ d, AnyOp n (l.map (·.1)) ops.toList 0 [] i o d := fun h => anyOk_at hok (by simpa using h)
  have hready : ∀ (listed : Array Bool), listed.size = ops.size → Region.ready .any ops listed = [] → ∀ i, i < ops.size → listed[i]? = some true := by
    intro listed hs hr i
    induction i using Nat.strongRecOn with
    | ind i ih =>
      intro hi
      have hls : i < listed.size := by omega
      cases hb : listed[i] with
      | true => rw [Array.getElem?_eq_getElem hls, hb]
      | false =>
        exfalso
        have ho : ops[i]? = some ops[i] := Array.getElem?_eq_getElem hi
        obtain ⟨d, hd⟩ := hat ho
        have hm : i ∈ Region.ready .any ops listed := mem_ready.2 ⟨by simp [Array.getElem?_eq_getElem hls, hb], ops[i], ho, fun e he hbd => by
          have hj : e.on ∈ depsOf ops[i] := List.mem_map.2 ⟨e, List.mem_filter.2 ⟨by simpa using he, hbd⟩, rfl⟩
          have hlt := hd.deps _ hj
          have := ih e.on (by omega) (by omega)
          simp [this]⟩
        rw [hr] at hm; cases hm
  have hfin : ∀ (listed : Array Bool) (a : Act) (w : World), Below W.heap.size W w → AnyI n ops l Φ listed a w → Region.ready .any ops listed = [] → Q .normal a w := fun listed a w hw hI hr =>
    end_run (hend w hw) hI.base fun i o ho => by
      have ho' : ops[i]? = some o := by simpa using ho
      have hi : i < ops.size := (Array.getElem?_eq_some_iff.1 ho').1
      rw [Nat.zero_add]
      exact hI.vals i o ho' (hready listed hI.size hr i hi)
  intro fuel
  induction fuel with
  | zero =>
    intro listed a w hw hI hc
    have hall : ∀ b ∈ listed.toList, b = true := fun b hb => by
      cases b with
      | true => rfl
      | false => have := List.count_pos_iff.2 hb; omega
    have hr : Region.ready .any ops listed = [] := by
      refine List.eq_nil_iff_forall_not_mem.2 fun i hi => ?_
      obtain ⟨h1, o, ho, _⟩ := mem_ready.1 hi
      have hlt : i < listed.size := by rw [hI.size]; exact (Array.getElem?_eq_some_iff.1 ho).1
      have h2 := hall listed[i] (by simp)
      simp [Array.getElem?_eq_getElem hlt, h2] at h1
    exact ⟨hr, hfin listed a w hw hI hr⟩
  | succ fuel ih =>
    intro listed a w hw hI hc
    refine ⟨fun hr => hfin listed a w hw hI hr, fun i hi => ?_⟩
    obtain ⟨h1, o, ho, hdep⟩ := mem_ready.1 hi
    have hlt : i < listed.size := by rw [hI.size]; exact (Array.getElem?_eq_some_iff.1 ho).1
    have hli : listed[i] = false := by simpa [Array.getElem?_eq_getElem hlt] using h1
    obtain ⟨d, hd⟩ := hat ho
    have hs := steps_at hst (i := i) (o := o) (by simpa using ho) w hw
    rw [Nat.zero_add] at hs
    obtain ⟨m, hm, hact⟩ := dep_run hs hI.base fun j hj d' hd' => by
      obtain ⟨e, he, rfl⟩ := List.mem_map.1 hj
      obtain ⟨he1, he2⟩ := List.mem_filter.1 he
      have hl := hdep e (by simpa using he1) he2
      have hlt2 : e.on < listed.size := by
        rcases Nat.lt_or_ge e.on listed.size with h | h
        · exact h
        · simp [Array.getElem?_eq_none h] at hl
      have hl2 : listed[e.on]? = some true := by
        rw [Array.getElem?_eq_getElem hlt2]; simpa [Array.getElem?_eq_getElem hlt2] using hl
      have hoe : ops[e.on]? = some (ops[e.on]'(by rw [← hI.size]; exact hlt2)) := Array.getElem?_eq_getElem _
      obtain ⟨d2, v, h3, h4, h5⟩ := hI.vals e.on _ hoe hl2
      rw [hoe, Option.bind_some, h3] at hd'
      injection hd' with hd'; subst hd'
      exact ⟨v, h4, h5⟩
    unfold wpOp
    rw [ho]
    dsimp only
    have hwant : Region.wanted o (yielded ops a.tmps) = true := by simp [Region.wanted, hd.guard]
    rw [if_pos hwant]
    refine Or.inl (hact.out a hm _ _ fun v w' hZ => ih _ _ w' (grow_trans hw hZ.1) ?_ ?_)
    · rw [hd.dst]
      have hdn : d < a.tmps.size := by rw [hI.base.1]; exact hd.lt
      refine ⟨by simpa using hI.size, hI.base.keep hd.base v, fun k o' hk hlk => ?_⟩
      by_cases hki : k = i
      · subst hki
        rw [ho] at hk; injection hk with hk; subst hk
        exact ⟨d, v, hd.dst, by simp [Act.put, hdn], hZ.2⟩
      · have hlk2 : listed[k]? = some true := by rwa [Array.getElem?_setIfInBounds_ne (fun e => hki e.symm)] at hlk
        obtain ⟨d2, v2, h3, h4, h5⟩ := hI.vals k o' hk hlk2
        refine ⟨d2, v2, h3, ?_, hmono k v2 w w' h5 hZ.1⟩
        have hne : d ≠ d2 := fun e => hki (hd.one k o' (by simpa using hk) (by rw [h3, e]))
        simp only [Act.put]
        rw [Array.getElem?_setIfInBounds_ne hne]; exact h4
    · have h2 : (listed.setIfInBounds i true).toList = listed.toList.set i true := by simp
      rw [h2, List.count_set (by simpa using hlt)]
      have hin : false ∈ listed.toList := by rw [← hli]; simp
      have h4 := List.count_pos_iff.2 hin
      have h3 : listed.toList[i]'(by simpa using hlt) = false := by simpa using hli
      rw [h3]
      rw [if_pos (by rfl), if_neg (by simp)]
      omega
theorem cw_any {i : Nat} {w : World} (Φ : Nat → Value → World → Prop) (hm : P.follows .mixedOrders = true) (hok : anyOk n (l.map (·.1)) ops.toList 0 [] = true) (hmono : ∀ i v w w', Φ i v w → Below w.heap.size w w' → Φ i v w') (hst : StepsL P n ops l Φ w ops.toList 0) (hend : ∀ w', Below w.heap.size w w' → EndL n Q Φ w' ops.toList 0 l) : CW P n (.region i ops true) Q l w := ⟨fun a ha =>
  wp_region_any hm (any_run (W := w) hok hmono hst hend _ _ a _ (below_drew w) ⟨by simp, ha, fun i o ho hl => by
    simp [Array.getElem?_replicate] at hl⟩ (by simp))⟩
end

section
variable {P : Program} {n : Nat} {ops : Array Oper} {Q : Exit → Act → World → Prop} {l : Fr} {Φ : Nat → Value → World → Prop} {W : World}
def EndA (P : Program) (n : Nat) (Q : Exit → Act → World → Prop) (Φ : Nat → Value → World → Prop) (w : World) (ol : Oper) : List Oper → Nat → Fr → Prop
  | [], _, m => Act1 P n m ol w fun v w' => QW n Q .normal (putD ol.dst v m) w'
  | o :: r, i, m => match o.dst with
    | some d => ∀ v, Φ i v w → EndA P n Q Φ w ol r (i + 1) ((d, v) :: m)
    | none => EndA P n Q Φ w ol r (i + 1) m
structure AnyJ (n : Nat) (ops : Array Oper) (init : List Oper) (l : Fr) (Φ : Nat → Value → World → Prop) (listed : Array Bool) (a : Act) (w : World) : Prop where
  size : listed.size = ops.size
  last : listed[init.length]? = some false
  base : Holds n l a
  vals : ∀ i o, init[i]? = some o → listed[i]? = some true → ∃ d v, o.dst = some d ∧ a.tmps[d]? = some v ∧ Φ i v w
theorem endA_run {w : World} {a : Act} {ol : Oper} : ∀ {os : List Oper} {k : Nat} {m : Fr}, EndA P n Q Φ w ol os k m → Holds n m a → (∀ i o, os[i]? = some o → ∃ d v, o.dst = some d ∧ a.tmps[d]? = some v ∧ Φ (k + i) v w) → ∃ m', Holds n m' a ∧ Act1 P n m' ol w fun v w' => QW n Q .normal (putD ol.dst v m') w'
  | [], _, m, h, hm, _ => ⟨m, hm, h⟩
  | o :: r, k, m, h, hm, hv => by
    obtain ⟨d, v, h1, h2, h3⟩ := hv 0 o rfl
    unfold EndA at h
    rw [h1] at h
    refine endA_run (h v h3) (hm.add h2) fun i o' ho => ?_
    have := hv (i + 1) o' (by simpa using ho)
    rwa [show k + (i + 1) = k + 1 + i by omega] at this
theorem ready_none {listed : Array Bool} (h : ∀ i, i < ops.size → listed[i]? = some true) : Region.ready .any ops listed = [] := by
  refine List.eq_nil_iff_forall_not_mem.2 fun i hi => ?_
  obtain ⟨h1, o, ho, _⟩ := mem_ready.1 hi
  have h2 := h i (Array.getElem?_eq_some_iff.1 ho).1
  simp [h2] at h1
theorem any_run1 {init : List Oper} {ol : Oper} (hsz : ops.toList = init ++ [ol]) (hok : anyOk n (l.map (·.1)) init 0 [] = true) (hwl : (List.range init.length).all (fun i => (depsOf ol).contains i) = true) (hdo : (depsOf ol).all (fun j => Nat.blt j init.length) = true) (hgl : ol.guard = none) (hdl : inD ol.dst n = true) (hmono : ∀ i v w w', Φ i v w → Below w.heap.size w w' → Φ i v w') (hst : StepsL P n ops l Φ W init 0) (hend : ∀ w, Below W.heap.size W w → EndA P n Q Φ w ol init 0 l) :
    ∀ (fuel : Nat) (listed : Array Bool) (a : Act) (w : World), Below W.heap.size W w → AnyJ n ops init l Φ listed a w → listed.toList.count false ≤ fuel → wpAny P .any ops Q fuel listed a w := by
  have hosz : ops.size = init.length + 1 := by rw [← Array.length_toList, hsz]; simp
  have hops : ∀ i o, init[i]? = some o → ops[i]? = some o := fun i o h => by
    rw [← Array.getElem?_toList, hsz, List.getElem?_append_left (List.getElem?_eq_some_iff.1 h).1]; exact h
  have hopl : ops[init.length]? = some ol := by
    rw [← Array.getElem?_toList, hsz, List.getElem?_append_right (Nat.le_refl _)]; simp
  intro fuel
  induction fuel with
  | zero =>
    intro listed a w hw hI hc
    exfalso
    have hlt : init.length < listed.size := by rw [hI.size]; omega
    have h1 : listed[init.length] = false := by have := hI.last; rw [Array.getElem?_eq_getElem hlt] at this; injection this
    have hin : false ∈ listed.toList := by rw [← h1]; simp
    have := List.count_pos_iff.2 hin
    omega
  | succ fuel ih =>
    intro listed a w hw hI hc
    have hlt0 : init.length < listed.size := by rw [hI.size]; omega
    have hlast0 : listed[init.length] = false := by have := hI.last; rw [Array.getElem?_eq_getElem hlt0] at this; injection this
    have hstuck : Region.ready .any ops listed ≠ [] := fun hr => by
      -- the first that is not listed may come up
      have key : ∀ i, i < init.length → listed[i]? = some true := by
        intro i
        induction i using Nat.strongRecOn with
        | ind i ih2 =>
          intro hi
          have hls : i < listed.size := by omega
          cases hb : listed[i] with
          | true => rw [Array.getElem?_eq_getElem hls, hb]
          | false =>
            exfalso
            have ho : init[i]? = some init[i] := List.getElem?_eq_getElem hi
            obtain ⟨d, hd⟩ := anyOk_at hok ho
            have hm : i ∈ Region.ready .any ops listed := mem_ready.2 ⟨by simp [Array.getElem?_eq_getElem hls, hb], init[i], hops _ _ ho, fun e he hbd => by
              have hj : e.on ∈ depsOf init[i] := List.mem_map.2 ⟨e, List.mem_filter.2 ⟨by simpa using he, hbd⟩, rfl⟩
              have hlt := hd.deps _ hj
              have := ih2 e.on (by omega) (by omega)
              simp [this]⟩
            rw [hr] at hm; cases hm
      have hm : init.length ∈ Region.ready .any ops listed := by
        refine mem_ready.2 ⟨by simp [Array.getElem?_eq_getElem hlt0, hlast0], ol, hopl, fun e he hbd => ?_⟩
        have hj : e.on ∈ depsOf ol := List.mem_map.2 ⟨e, List.mem_filter.2 ⟨by simpa using he, hbd⟩, rfl⟩
        have hlt := List.all_eq_true.1 hdo _ hj
        have := key e.on (by simpa [Nat.blt_eq] using hlt)
        simp [this]
      rw [hr] at hm; cases hm
    refine ⟨fun hr => absurd hr hstuck, fun i hi => ?_⟩
    obtain ⟨h1, o, ho, hdep⟩ := mem_ready.1 hi
    have hlt : i < listed.size := by rw [hI.size]; exact (Array.getElem?_eq_some_iff.1 ho).1
    have hli : listed[i] = false := by simpa [Array.getElem?_eq_getElem hlt] using h1
    have hlisted : ∀ (os : List Nat), (∀ j ∈ os, ∃ e ∈ o.after, Region.binds .any e = true ∧ e.on = j) → ∀ j ∈ os, listed[j]? = some true := fun os hos j hj => by
      obtain ⟨e, he1, he2, rfl⟩ := hos j hj
      have hl := hdep e he1 he2
      have hlt2 : e.on < listed.size := by
        rcases Nat.lt_or_ge e.on listed.size with h | h
        · exact h
        · simp [Array.getElem?_eq_none h] at hl
      rw [Array.getElem?_eq_getElem hlt2]; simpa [Array.getElem?_eq_getElem hlt2] using hl
    have hdeps : ∀ j ∈ depsOf o, listed[j]? = some true := hlisted (depsOf o) fun j hj => by
      obtain ⟨e, he, rfl⟩ := List.mem_map.1 hj
      obtain ⟨he1, he2⟩ := List.mem_filter.1 he
      exact ⟨e, by simpa using he1, he2, rfl⟩
    unfold wpOp
    rw [ho]
    dsimp only
    by_cases hil : i = init.length
    · subst hil
      rw [hopl] at ho; injection ho with ho; subst ho
      have hall : ∀ j, j < init.length → listed[j]? = some true := fun j hj => hdeps j (by
        have := List.all_eq_true.1 hwl j (List.mem_range.2 hj); simpa using this)
      obtain ⟨m, hm, hact⟩ := endA_run (hend w hw) hI.base fun j o' ho' => by
        rw [Nat.zero_add]
        exact hI.vals j o' ho' (hall j (List.getElem?_eq_some_iff.1 ho').1)
      have hwant : Region.wanted ol (yielded ops a.tmps) = true := by simp [Region.wanted, hgl]
      rw [if_pos hwant]
      refine Or.inl (hact.out a hm _ _ fun v w' hZ => ?_)
      have hq := hZ.out _ (hm.putD hdl v)
      have hr : Region.ready .any ops (listed.setIfInBounds init.length true) = [] := ready_none fun j hj => by
        by_cases hjl : j = init.length
        · subst hjl; simp [hlt0]
        · rw [Array.getElem?_setIfInBounds_ne (fun e => hjl e.symm)]; exact hall j (by omega)
      cases fuel with
      | zero => exact ⟨hr, hq⟩
      | succ f => exact ⟨fun _ => hq, by rw [hr]; simp⟩
    · have hii : i < init.length := by have := (Array.getElem?_eq_some_iff.1 ho).1; omega
      have hoi : init[i]? = some init[i] := List.getElem?_eq_getElem hii
      have := hops _ _ hoi
      rw [ho] at this; injection this with this
      rw [← this] at hoi
      obtain ⟨d, hd⟩ := anyOk_at hok hoi
      have hs := steps_at hst hoi w hw
      rw [Nat.zero_add] at hs
      obtain ⟨m, hm, hact⟩ := dep_run hs hI.base fun j hj d' hd' => by
        have hjl : j < init.length := by have := hd.deps _ hj; omega
        have hoe : init[j]? = some init[j] := List.getElem?_eq_getElem hjl
        obtain ⟨d2, v, h3, h4, h5⟩ := hI.vals j _ hoe (hdeps j hj)
        rw [hops _ _ hoe, Option.bind_some, h3] at hd'
        injection hd' with hd'; subst hd'
        exact ⟨v, h4, h5⟩
      have hwant : Region.wanted o (yielded ops a.tmps) = true := by simp [Region.wanted, hd.guard]
      rw [if_pos hwant]
      refine Or.inl (hact.out a hm _ _ fun v w' hZ => ih _ _ w' (grow_trans hw hZ.1) ?_ ?_)
      · rw [hd.dst]
        have hdn : d < a.tmps.size := by rw [hI.base.1]; exact hd.lt
        refine ⟨by simpa using hI.size, by rw [Array.getElem?_setIfInBounds_ne hil]; exact hI.last, hI.base.keep hd.base v, fun k o' hk hlk => ?_⟩
        by_cases hki : k = i
        · subst hki
          rw [hoi] at hk; injection hk with hk; subst hk
          exact ⟨d, v, hd.dst, by simp [Act.put, hdn], hZ.2⟩
        · have hlk2 : listed[k]? = some true := by rwa [Array.getElem?_setIfInBounds_ne (fun e => hki e.symm)] at hlk
          obtain ⟨d2, v2, h3, h4, h5⟩ := hI.vals k o' hk hlk2
          refine ⟨d2, v2, h3, ?_, hmono k v2 w w' h5 hZ.1⟩
          have hne : d ≠ d2 := fun e => hki (hd.one k o' hk (by rw [h3, e]))
          simp only [Act.put]
          rw [Array.getElem?_setIfInBounds_ne hne]; exact h4
      · have h2 : (listed.setIfInBounds i true).toList = listed.toList.set i true := by simp
        rw [h2, List.count_set (by simpa using hlt)]
        have hin : false ∈ listed.toList := by rw [← hli]; simp
        have h4 := List.count_pos_iff.2 hin
        have h3 : listed.toList[i]'(by simpa using hlt) = false := by simpa using hli
        rw [h3]
        rw [if_pos (by rfl), if_neg (by simp)]
        omega
theorem cw_any1 {i : Nat} {w : World} {init : List Oper} {ol : Oper} (Φ : Nat → Value → World → Prop) (hm : P.follows .mixedOrders = true) (hsz : ops.toList = init ++ [ol]) (hok : anyOk n (l.map (·.1)) init 0 [] = true) (hwl : (List.range init.length).all (fun i => (depsOf ol).contains i) = true) (hdo : (depsOf ol).all (fun j => Nat.blt j init.length) = true) (hgl : ol.guard = none) (hdl : inD ol.dst n = true) (hmono : ∀ i v w w', Φ i v w → Below w.heap.size w w' → Φ i v w') (hst : StepsL P n ops l Φ w init 0) (hend : ∀ w', Below w.heap.size w w' → EndA P n Q Φ w' ol init 0 l) : CW P n (.region i ops true) Q l w := ⟨fun a ha =>
  wp_region_any hm (any_run1 (W := w) hsz hok hwl hdo hgl hdl hmono hst hend _ _ a _ (below_drew w) ⟨by simp, by
    have hosz : ops.size = init.length + 1 := by rw [← Array.length_toList, hsz]; simp
    rw [Array.getElem?_replicate, if_pos (by omega)], ha, fun i o ho hl => by
    simp [Array.getElem?_replicate] at hl⟩ (by simp))⟩
end

def remOk (n : Nat) (ops : Array Oper) (ks : List Nat) (listed : Array Bool) : List (Nat × List Nat) → List Nat → List Nat → Bool
  | [], _, _ => true
  | (i, us) :: r, done, ds => match ops[i]? with
    | some o => match o.guard, o.dst with
      | none, some d => Nat.blt d n && (!ds.contains d && (!ks.contains d && (!listed.getD i true && ((depsOf o).all (fun j => listed.getD j false || done.contains j) && (us.all (fun j => done.contains j && (depsOf o).contains j) && remOk n ops ks listed r (i :: done) (d :: ds))))))
      | _, _ => false
    | none => false
structure RemOp (n : Nat) (ops : Array Oper) (ks : List Nat) (listed : Array Bool) (rem : List (Nat × List Nat)) (ds : List Nat) (i : Nat) (us : List Nat) (o : Oper) (d : Nat) : Prop where
  at_ : ops[i]? = some o
  guard : o.guard = none
  dst : o.dst = some d
  lt : d < n
  base : d ∉ ks
  old : d ∉ ds
  open_ : listed.getD i true = false
  uses : ∀ j ∈ us, j ∈ depsOf o
  one : ∀ j vs o', (j, vs) ∈ rem → ops[j]? = some o' → o'.dst = some d → j = i
theorem rem_at {n : Nat} {ops : Array Oper} {ks : List Nat} {listed : Array Bool} : ∀ {rem : List (Nat × List Nat)} {done ds : List Nat}, remOk n ops ks listed rem done ds = true → ∀ {i : Nat} {us : List Nat}, (i, us) ∈ rem → ∃ o d, RemOp n ops ks listed rem ds i us o d
  | [], _, _, _, i, us, h => by cases h
  | (i1, us1) :: r, done, ds, h, i, us, hm => by
    unfold remOk at h
    cases ho : ops[i1]? with
    | none => rw [ho] at h; cases h
    | some o1 =>
      cases hg : o1.guard with
      | some g => rw [ho] at h; dsimp only at h; rw [hg] at h; cases h
      | none =>
        cases hd : o1.dst with
        | none => rw [ho] at h; dsimp only at h; rw [hg, hd] at h; cases h
        | some d1 =>
          rw [ho] at h; dsimp only at h; rw [hg, hd] at h
          simp only [Bool.and_eq_true, Bool.not_eq_true', List.all_eq_true, Nat.blt_eq] at h
          obtain ⟨h1, h2, h3, h4, h5, h6, h7⟩ := h
          have hds : d1 ∉ ds := by simpa using h2
          have hks : d1 ∉ ks := by simpa using h3
          have honly : ∀ j vs o', (j, vs) ∈ r → ops[j]? = some o' → o'.dst ≠ some d1 := fun j vs o' hj ho' hd' => by
            obtain ⟨o2, d2, h8⟩ := rem_at h7 hj
            have := h8.at_; rw [ho'] at this; injection this with this; subst this
            have := h8.dst; rw [hd'] at this; injection this with this; subst this
            exact h8.old (List.mem_cons_self ..)
          rcases List.mem_cons.1 hm with hm | hm
          · injection hm with e1 e2; subst e1 e2
            refine ⟨o1, d1, ho, hg, hd, h1, hks, hds, h4, fun j hj => by simpa using (h6 j hj).2, fun j vs o' hj ho' hd' => ?_⟩
            rcases List.mem_cons.1 hj with hj | hj
            · injection hj
            · exact absurd hd' (honly j vs o' hj ho')
          · obtain ⟨o2, d2, h8⟩ := rem_at h7 hm
            refine ⟨o2, d2, h8.at_, h8.guard, h8.dst, h8.lt, h8.base, fun hx => h8.old (List.mem_cons_of_mem _ hx), h8.open_, h8.uses, fun j vs o' hj ho' hd' => ?_⟩
            rcases List.mem_cons.1 hj with hj | hj
            · injection hj with e1 e2; subst e1 e2
              rw [ho] at ho'; injection ho' with ho'; subst ho'
              rw [hd] at hd'; injection hd' with hd'; subst hd'
              exact absurd (List.mem_cons_self ..) h8.old
            · exact h8.one j vs o' hj ho' hd'
theorem rem_listed {n : Nat} {ops : Array Oper} {ks : List Nat} {listed cur : Array Bool} (hsz : cur.size = ops.size) (hmono : ∀ j, listed.getD j false = true → cur.getD j false = true) (hr : Region.ready .any ops cur = []) : ∀ {rem : List (Nat × List Nat)} {done ds : List Nat}, remOk n ops ks listed rem done ds = true → (∀ j ∈ done, cur.getD j false = true) → ∀ {i : Nat} {us : List Nat}, (i, us) ∈ rem → cur.getD i false = true
  | [], _, _, _, _, i, us, h => by cases h
  | (i1, us1) :: r, done, ds, h, hdn, i, us, hm => by
    obtain ⟨o, d, h8⟩ := rem_at h (List.mem_cons_self ..)
    have hi1 : cur.getD i1 false = true := by
      cases hc : cur.getD i1 false with
      | true => rfl
      | false =>
        exfalso
        have hlt : i1 < cur.size := by rw [hsz]; exact (Array.getElem?_eq_some_iff.1 h8.at_).1
        have hm1 : i1 ∈ Region.ready .any ops cur := mem_ready.2 ⟨by simpa [hlt] using hc, o, h8.at_, fun e he hb => by
          have hj : e.on ∈ depsOf o := List.mem_map.2 ⟨e, List.mem_filter.2 ⟨by simpa using he, hb⟩, rfl⟩
          unfold remOk at h
          rw [h8.at_] at h; dsimp only at h; rw [h8.guard, h8.dst] at h
          simp only [Bool.and_eq_true, List.all_eq_true, Bool.or_eq_true] at h
          rcases h.2.2.2.2.1 e.on hj with h9 | h9
          · exact hmono _ h9
          · exact hdn _ (by simpa using h9)⟩
        rw [hr] at hm1; cases hm1
    rcases List.mem_cons.1 hm with hm | hm
    · injection hm with e1 e2; subst e1; exact hi1
    · have h' := h
      unfold remOk at h'
      rw [h8.at_] at h'; dsimp only at h'; rw [h8.guard, h8.dst] at h'
      simp only [Bool.and_eq_true] at h'
      exact rem_listed hsz hmono hr h'.2.2.2.2.2.2 (fun j hj => by
        rcases List.mem_cons.1 hj with rfl | hj
        · exact hi1
        · exact hdn j hj) hm
section
variable {P : Program} {n : Nat} {ops : Array Oper} {Q : Exit → Act → World → Prop} {l : Fr} {Φ : Nat → Value → World → Prop} {S : World → Prop}
def StepsR (P : Program) (n : Nat) (ops : Array Oper) (l : Fr) (Φ : Nat → Value → World → Prop) (S : World → Prop) (rem : List (Nat × List Nat)) : Prop := ∀ i us o, (i, us) ∈ rem → ops[i]? = some o → ∀ w, S w → DepStep P n ops Φ o w (fun v w' => S w' ∧ Below w.heap.size w w' ∧ Φ i v w') us l
theorem stepsR_nil : StepsR P n ops l Φ S [] := fun _ _ _ h => by cases h
theorem stepsR_cons {i : Nat} {us : List Nat} {r : List (Nat × List Nat)} {o : Oper} (ho : ops[i]? = some o) (h1 : ∀ w, S w → DepStep P n ops Φ o w (fun v w' => S w' ∧ Below w.heap.size w w' ∧ Φ i v w') us l) (h2 : StepsR P n ops l Φ S r) : StepsR P n ops l Φ S ((i, us) :: r) := fun j vs o' hm ho' => by
  rcases List.mem_cons.1 hm with hm | hm
  · injection hm with e1 e2; subst e1 e2
    rw [ho] at ho'; injection ho' with ho'; subst ho'; exact h1
  · exact h2 j vs o' hm ho'
theorem depStep_nil {o : Oper} {w : World} {Z : Value → World → Prop} {m : Fr} (h : Act1 P n m o w Z) : DepStep P n ops Φ o w Z [] m := h
theorem depStep_cons {o : Oper} {w : World} {Z : Value → World → Prop} {j d : Nat} {r : List Nat} {m : Fr} (hd : (ops[j]?).bind (·.dst) = some d) (h : ∀ v, Φ j v w → DepStep P n ops Φ o w Z r ((d, v) :: m)) : DepStep P n ops Φ o w Z (j :: r) m := by
  unfold DepStep; rw [hd]; exact h
def EndR (P : Program) (n : Nat) (ops : Array Oper) (Q : Exit → Act → World → Prop) (S : World → Prop) (Φ : Nat → Value → World → Prop) (w : World) (ol : Oper) : List Nat → Fr → Prop
  | [], m => Act1 P n m ol w fun v w' => S w' ∧ QW n Q .normal (putD ol.dst v m) w'
  | i :: r, m => ∀ d v, (ops[i]?).bind (·.dst) = some d → Φ i v w → EndR P n ops Q S Φ w ol r ((d, v) :: m)
theorem endR_nil {w : World} {ol : Oper} {m : Fr} (h : Act1 P n m ol w fun v w' => S w' ∧ QW n Q .normal (putD ol.dst v m) w') : EndR P n ops Q S Φ w ol [] m := h
theorem endR_cons {w : World} {ol : Oper} {i d : Nat} {r : List Nat} {m : Fr} (hd : (ops[i]?).bind (·.dst) = some d) (h : ∀ v, Φ i v w → EndR P n ops Q S Φ w ol r ((d, v) :: m)) : EndR P n ops Q S Φ w ol (i :: r) m := fun d' v hd' hv => by
  rw [hd] at hd'; injection hd' with hd'; subst hd'; exact h v hv
theorem endR_run {w : World} {a : Act} {ol : Oper} : ∀ {js : List Nat} {m : Fr}, EndR P n ops Q S Φ w ol js m → Holds n m a → (∀ j ∈ js, ∃ d v, (ops[j]?).bind (·.dst) = some d ∧ a.tmps[d]? = some v ∧ Φ j v w) → ∃ m', Holds n m' a ∧ Act1 P n m' ol w fun v w' => S w' ∧ QW n Q .normal (putD ol.dst v m') w'
  | [], m, h, hm, _ => ⟨m, hm, h⟩
  | j :: r, m, h, hm, hv => by
    obtain ⟨d, v, h1, h2, h3⟩ := hv j (List.mem_cons_self ..)
    exact endR_run (h d v h1 h3) (hm.add h2) fun k hk => hv k (List.mem_cons_of_mem _ hk)
structure AnyK (n : Nat) (ops : Array Oper) (rem : List (Nat × List Nat)) (f : Nat) (listed : Array Bool) (l : Fr) (Φ : Nat → Value → World → Prop) (cur : Array Bool) (a : Act) (w : World) : Prop where
  size : cur.size = ops.size
  mono : ∀ j, listed.getD j false = true → cur.getD j false = true
  last : cur.getD f true = false
  base : Holds n l a
  vals : ∀ i us, (i, us) ∈ rem → cur.getD i false = true → ∃ d v, (ops[i]?).bind (·.dst) = some d ∧ a.tmps[d]? = some v ∧ Φ i v w
theorem mem_idx {rem : List (Nat × List Nat)} {j : Nat} (h : (rem.map (·.1)).contains j = true) : ∃ us, (j, us) ∈ rem := by
  have h1 : j ∈ rem.map (·.1) := by simpa using h
  obtain ⟨⟨i, us⟩, h2, h3⟩ := List.mem_map.1 h1
  exact ⟨us, by subst h3; exact h2⟩
theorem any_runR {rem : List (Nat × List Nat)} {f : Nat} {listed : Array Bool} {ol : Oper} {endL : List Nat} (hok : remOk n ops (l.map (·.1)) listed rem [] [] = true) (hf : ops[f]? = some ol) (hgl : ol.guard = none) (hdl : inD ol.dst n = true) (hoth : (List.range ops.size).all (fun j => listed.getD j false || (Nat.beq j f || (rem.map (·.1)).contains j)) = true) (hfd : (depsOf ol).all (fun j => listed.getD j false || (rem.map (·.1)).contains j) = true) (hfw : rem.all (fun p => (depsOf ol).contains p.1) = true) (hus : rem.all (fun p => p.2.all (fun j => (rem.map (·.1)).contains j)) = true) (hel : endL.all (fun j => (rem.map (·.1)).contains j) = true)
    (hmono : ∀ i v w w', Φ i v w → Below w.heap.size w w' → Φ i v w') (hst : StepsR P n ops l Φ S rem) (hend : ∀ w, S w → EndR P n ops Q S Φ w ol endL l) :
    ∀ (fuel : Nat) (cur : Array Bool) (a : Act) (w : World), S w → AnyK n ops rem f listed l Φ cur a w → cur.toList.count false ≤ fuel → wpAnyH P .any ops Q S fuel cur a w := by
  intro fuel
  induction fuel with
  | zero =>
    intro cur a w hS hI hc
    exfalso
    have hlt : f < cur.size := by rw [hI.size]; exact (Array.getElem?_eq_some_iff.1 hf).1
    have h1 : cur[f] = false := by have := hI.last; simpa [hlt] using this
    have hin : false ∈ cur.toList := by rw [← h1]; simp
    have := List.count_pos_iff.2 hin
    omega
  | succ fuel ih =>
    intro cur a w hS hI hc
    have hstuck : Region.ready .any ops cur ≠ [] := fun hr => by
      have hall := fun {i us} => rem_listed (i := i) (us := us) hI.size hI.mono hr hok (by intro j hj; cases hj)
      have hm : f ∈ Region.ready .any ops cur := mem_ready.2 ⟨hI.last, ol, hf, fun e he hb => by
        have hj : e.on ∈ depsOf ol := List.mem_map.2 ⟨e, List.mem_filter.2 ⟨by simpa using he, hb⟩, rfl⟩
        rcases (Bool.or_eq_true _ _).mp (List.all_eq_true.1 hfd _ hj) with h | h
        · exact hI.mono _ h
        · obtain ⟨us, hm⟩ := mem_idx h
          exact hall hm⟩
      rw [hr] at hm; cases hm
    refine ⟨fun hr => absurd hr hstuck, fun i hi => ?_⟩
    obtain ⟨h1, o, ho, hdep⟩ := mem_ready.1 hi
    have hosz : i < ops.size := (Array.getElem?_eq_some_iff.1 ho).1
    have hlt : i < cur.size := by rw [hI.size]; exact hosz
    have hli : cur[i] = false := by simpa [hlt] using h1
    have hdeps : ∀ j ∈ depsOf o, cur.getD j false = true := fun j hj => by
      obtain ⟨e, he, rfl⟩ := List.mem_map.1 hj
      obtain ⟨he1, he2⟩ := List.mem_filter.1 he
      exact hdep e (by simpa using he1) he2
    unfold wpOp
    rw [ho]
    dsimp only
    by_cases hif : i = f
    · subst hif
      rw [hf] at ho; injection ho with ho; subst ho
      have hrem : ∀ j us, (j, us) ∈ rem → cur.getD j false = true := fun j us hm => hdeps j (by
        have := List.all_eq_true.1 hfw _ hm; simpa using this)
      obtain ⟨m, hm, hact⟩ := endR_run (hend w hS) hI.base fun j hj => by
        obtain ⟨us, hm⟩ := mem_idx (List.all_eq_true.1 hel j hj)
        exact hI.vals j us hm (hrem j us hm)
      have hwant : Region.wanted ol (yielded ops a.tmps) = true := by simp [Region.wanted, hgl]
      rw [if_pos hwant]
      refine Or.inl (hact.out a hm _ _ fun v w' hZ => ⟨hZ.1, ?_⟩)
      have hq := hZ.2.out _ (hm.putD hdl v)
      refine wpAnyH_done (ready_none fun j hj => ?_) hq _
      by_cases hjl : j = i
      · subst hjl; simp [hlt]
      · rw [Array.getElem?_setIfInBounds_ne (fun e => hjl e.symm)]
        have hjc : j < cur.size := by rw [hI.size]; exact hj
        have h5 : cur.getD j false = true := by
          rcases (Bool.or_eq_true _ _).mp (List.all_eq_true.1 hoth j (List.mem_range.2 hj)) with h | h
          · exact hI.mono _ h
          · rcases (Bool.or_eq_true _ _).mp h with h | h
            · exact absurd (Nat.eq_of_beq_eq_true h) hjl
            · obtain ⟨us, hm⟩ := mem_idx h
              exact hrem j us hm
        rw [Array.getElem?_eq_getElem hjc]; simpa [hjc] using h5
    · obtain ⟨us, hmr⟩ : ∃ us, (i, us) ∈ rem := by
        rcases (Bool.or_eq_true _ _).mp (List.all_eq_true.1 hoth i (List.mem_range.2 hosz)) with h | h
        · have := hI.mono _ h
          simp [hlt, hli] at this
        · rcases (Bool.or_eq_true _ _).mp h with h | h
          · exact absurd (Nat.eq_of_beq_eq_true h) hif
          · exact mem_idx h
      obtain ⟨o', d, h8⟩ := rem_at hok hmr
      have := h8.at_; rw [ho] at this; injection this with this; subst this
      obtain ⟨m, hm, hact⟩ := dep_run (hst i us o hmr ho w hS) hI.base fun j hj d' hd' => by
        obtain ⟨vs, hjm⟩ := mem_idx (List.all_eq_true.1 (List.all_eq_true.1 hus _ hmr) j hj)
        obtain ⟨d2, v, h3, h4, h5⟩ := hI.vals j vs hjm (hdeps j (h8.uses j hj))
        rw [h3] at hd'; injection hd' with hd'; subst hd'
        exact ⟨v, h4, h5⟩
      have hwant : Region.wanted o (yielded ops a.tmps) = true := by simp [Region.wanted, h8.guard]
      rw [if_pos hwant]
      refine Or.inl (hact.out a hm _ _ fun v w' hZ => ⟨hZ.1, ih _ _ w' hZ.1 ?_ ?_⟩)
      · rw [h8.dst]
        have hdn : d < a.tmps.size := by rw [hI.base.1]; exact h8.lt
        refine ⟨by simpa using hI.size, fun j hj => getD_set_true (hI.mono j hj), by rw [getD_set_ne true hif]; exact hI.last, hI.base.keep h8.base v, fun k vs hk hlk => ?_⟩
        by_cases hki : k = i
        · subst hki
          exact ⟨d, v, by rw [ho]; exact h8.dst, by simp [Act.put, hdn], hZ.2.2⟩
        · rw [getD_set_ne false (fun e => hki e.symm)] at hlk
          obtain ⟨d2, v2, h3, h4, h5⟩ := hI.vals k vs hk hlk
          refine ⟨d2, v2, h3, ?_, hmono k v2 w w' h5 hZ.2.1⟩
          have hne : d ≠ d2 := fun e => by
            subst e
            cases hok2 : ops[k]? with
            | none => rw [hok2] at h3; cases h3
            | some ok => exact hki (h8.one k vs ok hk hok2 (by rw [hok2] at h3; exact h3))
          simp only [Act.put]
          rw [Array.getElem?_setIfInBounds_ne hne]; exact h4
      · have h2 : (cur.setIfInBounds i true).toList = cur.toList.set i true := by simp
        rw [h2, List.count_set (by simpa using hlt)]
        have hin : false ∈ cur.toList := by rw [← hli]; simp
        have h4 := List.count_pos_iff.2 hin
        have h3 : cur.toList[i]'(by simpa using hlt) = false := by simpa using hli
        rw [h3]
        rw [if_pos (by rfl), if_neg (by simp)]
        omega
theorem aw_any {w : World} {fuel : Nat} {listed : Array Bool} (rem : List (Nat × List Nat)) (f : Nat) (endL : List Nat) {ol : Oper} (Φ : Nat → Value → World → Prop) (hf : ops[f]? = some ol) (hok : remOk n ops (l.map (·.1)) listed rem [] [] = true) (hgl : ol.guard = none) (hdl : inD ol.dst n = true) (hoth : (List.range ops.size).all (fun j => listed.getD j false || (Nat.beq j f || (rem.map (·.1)).contains j)) = true) (hfd : (depsOf ol).all (fun j => listed.getD j false || (rem.map (·.1)).contains j) = true) (hfw : rem.all (fun p => (depsOf ol).contains p.1) = true) (hus : rem.all (fun p => p.2.all (fun j => (rem.map (·.1)).contains j)) = true) (hel : endL.all (fun j => (rem.map (·.1)).contains j) = true) (hls : Nat.beq listed.size ops.size = true) (hlf : listed.getD f true = false) (hlr : rem.all (fun p => !listed.getD p.1 false) = true) (hc : Nat.ble (listed.toList.count false) fuel = true) (hS : S w)
    (hmono : ∀ i v w w', Φ i v w → Below w.heap.size w w' → Φ i v w') (hst : StepsR P n ops l Φ S rem) (hend : ∀ w, S w → EndR P n ops Q S Φ w ol endL l) : AW P n ops Q S fuel listed l w := ⟨fun a ha =>
  any_runR hok hf hgl hdl hoth hfd hfw hus hel hmono hst hend fuel listed a w hS ⟨Nat.eq_of_beq_eq_true hls, fun _ h => h, hlf, ha, fun i us hm hl => by
    have := List.all_eq_true.1 hlr _ hm
    rw [Bool.not_eq_true'] at this
    rw [hl] at this; cases this⟩ (by simpa [Nat.ble_eq] using hc)⟩
end

def waitsZ (ops : Array Oper) : Nat → Nat → Nat → Bool
  | 0, _, _ => false
  | m + 1, f, i => match ops[f]? with
    | some o => o.after.toList.any fun e => Region.binds .any e && (Nat.beq e.on i || waitsZ ops m e.on i)
    | none => false
def ClosedZ (ops : Array Oper) (listed : Array Bool) : Prop := ∀ (j : Nat) (o : Oper), ops[j]? = some o → listed.getD j false = true → ∀ e ∈ o.after, Region.binds .any e = true → listed.getD e.on false = true
def closedZ (ops : Array Oper) (listed : Array Bool) : Bool := (List.range ops.size).all fun j => match ops[j]? with
  | some o => !listed.getD j false || o.after.toList.all fun e => !Region.binds .any e || listed.getD e.on false
  | none => true
theorem closedZ_of {ops : Array Oper} {listed : Array Bool} (h : closedZ ops listed = true) : ClosedZ ops listed := fun j o ho hl e he hb => by
  have hj : j < ops.size := (Array.getElem?_eq_some_iff.1 ho).1
  have h1 := List.all_eq_true.1 h j (List.mem_range.2 hj)
  rw [ho] at h1
  dsimp only at h1
  rw [hl] at h1
  simp only [Bool.not_true, Bool.false_or] at h1
  have h2 := List.all_eq_true.1 h1 e (by simpa using he)
  rw [hb] at h2
  simpa using h2
theorem ClosedZ.step {ops : Array Oper} {listed : Array Bool} (h : ClosedZ ops listed) {i : Nat} (hi : i ∈ Region.ready .any ops listed) : ClosedZ ops (listed.setIfInBounds i true) := fun j o ho hl e he hb => by
  by_cases hij : i = j
  · subst hij
    obtain ⟨_, o', ho', hall⟩ := mem_ready.1 hi
    rw [ho] at ho'; injection ho' with ho'; subst ho'
    exact getD_set_true (hall e he hb)
  · rw [getD_set_ne false hij] at hl
    exact getD_set_true (h j o ho hl e he hb)
theorem waitsZ_listed {ops : Array Oper} {listed : Array Bool} (hc : ClosedZ ops listed) : ∀ {m f i : Nat}, waitsZ ops m f i = true → (∀ o, ops[f]? = some o → ∀ e ∈ o.after, Region.binds .any e = true → listed.getD e.on false = true) → listed.getD i false = true
  | 0, _, _, h, _ => by cases h
  | m + 1, f, i, h, hf => by
    unfold waitsZ at h
    cases ho : ops[f]? with
    | none => rw [ho] at h; cases h
    | some o =>
      rw [ho] at h
      rw [List.any_eq_true] at h
      obtain ⟨e, he, h2⟩ := h
      rw [Bool.and_eq_true] at h2
      have hl := hf o ho e (by simpa using he) h2.1
      rcases (Bool.or_eq_true _ _).mp h2.2 with h3 | h3
      · rw [← Nat.eq_of_beq_eq_true h3]; exact hl
      · exact waitsZ_listed hc h3 fun o' ho' e' he' hb' => hc e.on o' ho' hl e' he' hb'
section
variable {P : Program} {n : Nat} {ops : Array Oper} {Q : Exit → Act → World → Prop} {l : Fr} {Φ : Nat → Value → World → Prop} {S : World → Prop}
theorem any_runZ {rem : List (Nat × List Nat)} {f : Nat} {listed : Array Bool} {ol : Oper} {endL : List Nat} (hok : remOk n ops (l.map (·.1)) listed rem [] [] = true) (hf : ops[f]? = some ol) (hgl : ol.guard = none) (hdl : inD ol.dst n = true) (hoth : (List.range ops.size).all (fun j => listed.getD j false || (Nat.beq j f || (rem.map (·.1)).contains j)) = true) (hfd : (depsOf ol).all (fun j => listed.getD j false || (rem.map (·.1)).contains j) = true) (hfw : rem.all (fun p => waitsZ ops 200 f p.1) = true) (hus : rem.all (fun p => p.2.all (fun j => (rem.map (·.1)).contains j)) = true) (hel : endL.all (fun j => (rem.map (·.1)).contains j) = true)
    (hmono : ∀ i v w w', Φ i v w → Below w.heap.size w w' → Φ i v w') (hst : StepsR P n ops l Φ S rem) (hend : ∀ w, S w → EndR P n ops Q S Φ w ol endL l) :
    ∀ (fuel : Nat) (cur : Array Bool) (a : Act) (w : World), S w → AnyK n ops rem f listed l Φ cur a w → ClosedZ ops cur → cur.toList.count false ≤ fuel → wpAnyH P .any ops Q S fuel cur a w := by
  intro fuel
  induction fuel with
  | zero =>
    intro cur a w hS hI _ hc
    exfalso
    have hlt : f < cur.size := by rw [hI.size]; exact (Array.getElem?_eq_some_iff.1 hf).1
    have h1 : cur[f] = false := by have := hI.last; simpa [hlt] using this
    have hin : false ∈ cur.toList := by rw [← h1]; simp
    have := List.count_pos_iff.2 hin
    omega
  | succ fuel ih =>
    intro cur a w hS hI hcl hc
    have hstuck : Region.ready .any ops cur ≠ [] := fun hr => by
      have hall := fun {i us} => rem_listed (i := i) (us := us) hI.size hI.mono hr hok (by intro j hj; cases hj)
      have hm : f ∈ Region.ready .any ops cur := mem_ready.2 ⟨hI.last, ol, hf, fun e he hb => by
        have hj : e.on ∈ depsOf ol := List.mem_map.2 ⟨e, List.mem_filter.2 ⟨by simpa using he, hb⟩, rfl⟩
        rcases (Bool.or_eq_true _ _).mp (List.all_eq_true.1 hfd _ hj) with h | h
        · exact hI.mono _ h
        · obtain ⟨us, hm⟩ := mem_idx h
          exact hall hm⟩
      rw [hr] at hm; cases hm
    refine ⟨fun hr => absurd hr hstuck, fun i hi => ?_⟩
    obtain ⟨h1, o, ho, hdep⟩ := mem_ready.1 hi
    have hosz : i < ops.size := (Array.getElem?_eq_some_iff.1 ho).1
    have hlt : i < cur.size := by rw [hI.size]; exact hosz
    have hli : cur[i] = false := by simpa [hlt] using h1
    have hdeps : ∀ j ∈ depsOf o, cur.getD j false = true := fun j hj => by
      obtain ⟨e, he, rfl⟩ := List.mem_map.1 hj
      obtain ⟨he1, he2⟩ := List.mem_filter.1 he
      exact hdep e (by simpa using he1) he2
    unfold wpOp
    rw [ho]
    dsimp only
    by_cases hif : i = f
    · subst hif
      rw [hf] at ho; injection ho with ho; subst ho
      have hrem : ∀ j us, (j, us) ∈ rem → cur.getD j false = true := fun j us hm => waitsZ_listed hcl (List.all_eq_true.1 hfw _ hm) fun o' ho' e he hb => by
        rw [hf] at ho'; injection ho' with ho'; subst ho'
        exact hdep e he hb
      obtain ⟨m, hm, hact⟩ := endR_run (hend w hS) hI.base fun j hj => by
        obtain ⟨us, hm⟩ := mem_idx (List.all_eq_true.1 hel j hj)
        exact hI.vals j us hm (hrem j us hm)
      have hwant : Region.wanted ol (yielded ops a.tmps) = true := by simp [Region.wanted, hgl]
      rw [if_pos hwant]
      refine Or.inl (hact.out a hm _ _ fun v w' hZ => ⟨hZ.1, ?_⟩)
      have hq := hZ.2.out _ (hm.putD hdl v)
      refine wpAnyH_done (ready_none fun j hj => ?_) hq _
      by_cases hjl : j = i
      · subst hjl; simp [hlt]
      · rw [Array.getElem?_setIfInBounds_ne (fun e => hjl e.symm)]
        have hjc : j < cur.size := by rw [hI.size]; exact hj
        have h5 : cur.getD j false = true := by
          rcases (Bool.or_eq_true _ _).mp (List.all_eq_true.1 hoth j (List.mem_range.2 hj)) with h | h
          · exact hI.mono _ h
          · rcases (Bool.or_eq_true _ _).mp h with h | h
            · exact absurd (Nat.eq_of_beq_eq_true h) hjl
            · obtain ⟨us, hm⟩ := mem_idx h
              exact hrem j us hm
        rw [Array.getElem?_eq_getElem hjc]; simpa [hjc] using h5
    · obtain ⟨us, hmr⟩ : ∃ us, (i, us) ∈ rem := by
        rcases (Bool.or_eq_true _ _).mp (List.all_eq_true.1 hoth i (List.mem_range.2 hosz)) with h | h
        · have := hI.mono _ h
          simp [hlt, hli] at this
        · rcases (Bool.or_eq_true _ _).mp h with h | h
          · exact absurd (Nat.eq_of_beq_eq_true h) hif
          · exact mem_idx h
      obtain ⟨o', d, h8⟩ := rem_at hok hmr
      have := h8.at_; rw [ho] at this; injection this with this; subst this
      obtain ⟨m, hm, hact⟩ := dep_run (hst i us o hmr ho w hS) hI.base fun j hj d' hd' => by
        obtain ⟨vs, hjm⟩ := mem_idx (List.all_eq_true.1 (List.all_eq_true.1 hus _ hmr) j hj)
        obtain ⟨d2, v, h3, h4, h5⟩ := hI.vals j vs hjm (hdeps j (h8.uses j hj))
        rw [h3] at hd'; injection hd' with hd'; subst hd'
        exact ⟨v, h4, h5⟩
      have hwant : Region.wanted o (yielded ops a.tmps) = true := by simp [Region.wanted, h8.guard]
      rw [if_pos hwant]
      refine Or.inl (hact.out a hm _ _ fun v w' hZ => ⟨hZ.1, ih _ _ w' hZ.1 ?_ (hcl.step hi) ?_⟩)
      · rw [h8.dst]
        have hdn : d < a.tmps.size := by rw [hI.base.1]; exact h8.lt
        refine ⟨by simpa using hI.size, fun j hj => getD_set_true (hI.mono j hj), by rw [getD_set_ne true hif]; exact hI.last, hI.base.keep h8.base v, fun k vs hk hlk => ?_⟩
        by_cases hki : k = i
        · subst hki
          exact ⟨d, v, by rw [ho]; exact h8.dst, by simp [Act.put, hdn], hZ.2.2⟩
        · rw [getD_set_ne false (fun e => hki e.symm)] at hlk
          obtain ⟨d2, v2, h3, h4, h5⟩ := hI.vals k vs hk hlk
          refine ⟨d2, v2, h3, ?_, hmono k v2 w w' h5 hZ.2.1⟩
          have hne : d ≠ d2 := fun e => by
            subst e
            cases hok2 : ops[k]? with
            | none => rw [hok2] at h3; cases h3
            | some ok => exact hki (h8.one k vs ok hk hok2 (by rw [hok2] at h3; exact h3))
          simp only [Act.put]
          rw [Array.getElem?_setIfInBounds_ne hne]; exact h4
      · have h2 : (cur.setIfInBounds i true).toList = cur.toList.set i true := by simp
        rw [h2, List.count_set (by simpa using hlt)]
        have hin : false ∈ cur.toList := by rw [← hli]; simp
        have h4 := List.count_pos_iff.2 hin
        have h3 : cur.toList[i]'(by simpa using hlt) = false := by simpa using hli
        rw [h3]
        rw [if_pos (by rfl), if_neg (by simp)]
        omega
theorem aw_anyZ {w : World} {fuel : Nat} {listed : Array Bool} (rem : List (Nat × List Nat)) (f : Nat) (endL : List Nat) {ol : Oper} (Φ : Nat → Value → World → Prop) (hf : ops[f]? = some ol) (hok : remOk n ops (l.map (·.1)) listed rem [] [] = true) (hgl : ol.guard = none) (hdl : inD ol.dst n = true) (hoth : (List.range ops.size).all (fun j => listed.getD j false || (Nat.beq j f || (rem.map (·.1)).contains j)) = true) (hfd : (depsOf ol).all (fun j => listed.getD j false || (rem.map (·.1)).contains j) = true) (hfw : rem.all (fun p => waitsZ ops 200 f p.1) = true) (hus : rem.all (fun p => p.2.all (fun j => (rem.map (·.1)).contains j)) = true) (hel : endL.all (fun j => (rem.map (·.1)).contains j) = true) (hcz : closedZ ops listed = true) (hls : Nat.beq listed.size ops.size = true) (hlf : listed.getD f true = false) (hlr : rem.all (fun p => !listed.getD p.1 false) = true) (hc : Nat.ble (listed.toList.count false) fuel = true) (hS : S w)
    (hmono : ∀ i v w w', Φ i v w → Below w.heap.size w w' → Φ i v w') (hst : StepsR P n ops l Φ S rem) (hend : ∀ w, S w → EndR P n ops Q S Φ w ol endL l) : AW P n ops Q S fuel listed l w := ⟨fun a ha =>
  any_runZ hok hf hgl hdl hoth hfd hfw hus hel hmono hst hend fuel listed a w hS ⟨Nat.eq_of_beq_eq_true hls, fun _ h => h, hlf, ha, fun i us hm hl => by
    have := List.all_eq_true.1 hlr _ hm
    rw [Bool.not_eq_true'] at this
    rw [hl] at this; cases this⟩ (closedZ_of hcz) (by simpa [Nat.ble_eq] using hc)⟩
end
end Go.Proofs.YtkehmbgcglbffaaDoor
namespace Go.Proofs.YtkehmbgcglbffaaDoor
open Go.RowKit Go.PlainAid

abbrev nmA : List Opn := [⟨1, 9, 2, 1, 8, 8⟩, ⟨3, 5, 2, 2, 12, 1⟩, ⟨3, 7, 2, 1, 9, 4⟩]
abbrev nmB : List Lt := [⟨2, 3, 1, 1⟩, ⟨4, 1, 2, 6⟩]
def nmRun : List Evt := [(⟨3, 11, [7, 3, 2, 1, 9, 4], []⟩ : Evt), (⟨3, 11, [5, 3, 2, 2, 12, 1], []⟩ : Evt), (⟨3, 11, [9, 1, 2, 1, 8, 8], []⟩ : Evt), (⟨3, 14, [4, 1, 2, 6, 100, 5, 50], []⟩ : Evt), (⟨3, 16, [2, 3, 1, 1, 5, 60], []⟩ : Evt), (⟨3, 1, [1], []⟩ : Evt)]
theorem nmRun_ok : runF nmRun = (nmA, nmB, 4) := by kernel_rfl
def tblO : List (Evt × Int) := [((⟨3, 11, [7, 3, 2, 1, 9, 4], []⟩ : Evt), 6), ((⟨3, 16, [4, 1, 2, 6, 100, 50], []⟩ : Evt), 6), ((⟨3, 14, [2, 1, 2, 6, 100, 5, 50], []⟩ : Evt), 6), ((⟨3, 12, [8], []⟩ : Evt), 5), ((⟨3, 13, [8, 7, 9, 1, 0], []⟩ : Evt), 5), ((⟨3, 13, [7, 8, 9, 1, 0], []⟩ : Evt), 5), ((⟨3, 13, [8, 8, 9, 1, 0], []⟩ : Evt), 5), ((⟨3, 18, [3, 1, 9, 0], []⟩ : Evt), 5), ((⟨3, 19, [3], []⟩ : Evt), 5), ((⟨3, 13, [5, 7, 9, 2, 0], []⟩ : Evt), 1), ((⟨3, 13, [9, 5, 9, 2, 0], []⟩ : Evt), 1), ((⟨3, 13, [5, 5, 9, 1, 0], []⟩ : Evt), 1), ((⟨3, 11, [0, 3, 2, 1, 9, 4], []⟩ : Evt), 4), ((⟨3, 11, [1, 3, 2, 0, 9, 4], []⟩ : Evt), 4), ((⟨2, 12, [7], []⟩ : Evt), 4), ((⟨3, 99, [], []⟩ : Evt), 4), ((⟨3, 6, [1, 5], []⟩ : Evt), 0), ((⟨3, 23, [2, 3], []⟩ : Evt), 0), ((⟨3, 20, [9], []⟩ : Evt), 0), ((⟨3, 19, [2], []⟩ : Evt), 0)]
def rowO (t : Evt × Int) : Bool := decide ((eventR nmA nmB t.1).2.2 = t.2) && (if t.2 = 0 then decide ((eventR nmA nmB t.1).1 = nmA) && (decide (t.1.kind = 19) || decide ((eventR nmA nmB t.1).2.1 = nmB)) else decide ((eventR nmA nmB t.1).1 = []) && decide ((eventR nmA nmB t.1).2.1 = []))
theorem tblO_ok : (tblO.all rowO) = true := by kernel_rfl
def fullP (n : Nat) : List Opn := (List.range n).map fun (i : Nat) => ⟨1 + (i / 2 : Nat), (i : Int) + 1, 1, 2, 1, 1⟩
def fullT (n : Nat) : List Lt := (List.range n).map fun (i : Nat) => ⟨(i : Int) + 1, 1, 1, 1⟩
theorem fullP_succ (n : Nat) : fullP (n + 1) = fullP n ++ [⟨1 + (n / 2 : Nat), (n : Int) + 1, 1, 2, 1, 1⟩] := by unfold fullP; rw [List.range_succ, List.map_append]; rfl
theorem fullT_succ (n : Nat) : fullT (n + 1) = fullT n ++ [⟨(n : Int) + 1, 1, 1, 1⟩] := by unfold fullT; rw [List.range_succ, List.map_append]; rfl
theorem fullP_len (n : Nat) : (fullP n).length = n := by unfold fullP; simp
theorem fullT_len (n : Nat) : (fullT n).length = n := by unfold fullT; simp
theorem full1 : eventR (fullP 128) (fullT 32) ⟨3, 11, [500, 1, 1, 1, 1, 1], []⟩ = ([], [], 40) := by kernel_rfl
theorem full2 : eventR (fullP 128) (fullT 32) ⟨3, 14, [500, 1, 1, 1, 1, 1, 1], []⟩ = ([], [], 40) := by kernel_rfl
theorem full3 : eventR (fullP 128) (fullT 32) ⟨3, 11, [5, 1, 1, 1, 1, 1], []⟩ = ([], [], 6) := by kernel_rfl
theorem full4 : mayV (fullP 128) (fullT 32) = true := by kernel_rfl
theorem full5 : mayV (fullP 128 ++ [⟨64, 600, 1, 1, 1, 1⟩]) [] = false := by kernel_rfl
theorem full6 : mayV [] (fullT 32 ++ [⟨90, 1, 1, 1⟩]) = false := by kernel_rfl
theorem rowO_at {t : Evt × Int} (h : t ∈ tblO) : (eventR nmA nmB t.1).2.2 = t.2 ∧ (t.2 = 0 → (eventR nmA nmB t.1).1 = nmA ∧ (t.1.kind = 19 ∨ (eventR nmA nmB t.1).2.1 = nmB)) ∧ (t.2 ≠ 0 → (eventR nmA nmB t.1).1 = [] ∧ (eventR nmA nmB t.1).2.1 = []) := by
  have g := List.all_eq_true.1 tblO_ok t h
  unfold rowO at g
  rw [Bool.and_eq_true, decide_eq_true_eq] at g
  refine ⟨g.1, fun h0 => ?_, fun h0 => ?_⟩
  · have g2 := g.2
    rw [if_pos h0, Bool.and_eq_true, Bool.or_eq_true, decide_eq_true_eq, decide_eq_true_eq, decide_eq_true_eq] at g2
    exact g2
  · have g2 := g.2
    rw [if_neg h0, Bool.and_eq_true, decide_eq_true_eq, decide_eq_true_eq] at g2
    exact g2
theorem ev_e {X : List Opn × List Lt × Int} {p : List Opn} {t : List Lt} {e : Evt} {mp mt mn mx : Nat} {ap at_ an ax : Option Addr} {cp ct cn cx : Nat} {w : World} (h : eventR p t e = X) (h8 : 0 ≤ e.kind ∧ e.kind ≤ 255) (hmp : p.length = mp) (hmt : t.length = mt) (hmn : e.nums.length = mn) (hmx : e.texts.length = mx) (HP : SlR encP 6 w ap cp p) (HL : SlR encL 4 w at_ ct t) (HN : SlR encI 1 w an cn e.nums) (HX : SlR encT 1 w ax cx e.texts) (hT : TxtIn e.texts) (hK : KnW w) :
    Calls Tryd.prog 8 #[.slice ap mp cp, .slice at_ mt ct, .agg #[.int .u8 e.v, .int .u8 e.kind, .slice an mn cn, .slice ax mx cx]] w fun e1 w' => (∃ vo vt, e1 = .returned (.tuple #[vo, vt, .int .i64 (X).2.2]) ∧ Own encP 6 34 w.heap.size w' vo (X).1 ∧ Own encL 4 36 w.heap.size w' vt (X).2.1) ∧ Below w.heap.size w w' := by
  subst h; exact ev_c h8 hmp hmt hmn hmx HP HL HN HX hT hK
theorem may_e {b : Bool} {p : List Opn} {t : List Lt} {m n : Nat} {a c : Option Addr} {ca cb : Nat} {w : World} (h : mayV p t = b) (hm : p.length = m) (hn : t.length = n) (HP : SlR encP 6 w a ca p) (HL : SlR encL 4 w c cb t) : Calls Tryd.prog 11 #[.slice a m ca, .slice c n cb] w fun e w' => e = .returned (.bool b) ∧ Below w.heap.size w w' := by
  subst h; exact mayV_c hm hn HP HL
theorem pv_half {n : Nat} {l : Fr} {w : World} {d : Option Nat} {g : Option (Nat × Bool)} {t t' ty : TypeId} {pos : String} {af : Array Edge} {x y : Operand} {k : Nat} (hx : ev l x = some (.int .i64 (k : Int))) (hy : ev l y = some (.int .i64 2)) (h : k ≤ 9223372036854775807) : Pv Tryd.prog n l ⟨d, .binOp .quo t x y t', ty, pos, af, g⟩ (.int .i64 ((k / 2 : Nat) : Int)) w := by
  have h2 := pv_quo (P := Tryd.prog) (n := n) (w := w) (d := d) (g := g) (t := t) (t' := t') (ty := ty) (pos := pos) (af := af) hx hy (by omega) (by omega)
  rwa [show ((k : Int).tdiv 2) = ((k / 2 : Nat) : Int) by rw [Int.tdiv_eq_ediv_of_nonneg (by omega)]; omega] at h2
theorem pv_ld4N {P : Program} {n : Nat} {l : Fr} {w : World} {d : Option Nat} {t ty T : TypeId} {x : Operand} {pos : String} {af : Array Edge} {g : Option (Nat × Bool)} {B o : Nat} {cs : List Value} {a b c e : Value} (ht : aggB P t 4 = true) (hx : ev l x = some (.pointer (some ⟨B, o, none⟩))) (hp : PT w B T cs) (h0 : cs[o]? = some a) (h1 : cs[o + 1]? = some b) (h2 : cs[o + 2]? = some c) (h3 : cs[o + 3]? = some e) : Pv P n l ⟨d, .load t x, ty, pos, af, g⟩ (.agg #[a, b, c, e]) w := by
  have := pv_loada (P := P) (n := n) (l := l) (w := w) (d := d) (ty := ty) (pos := pos) (af := af) (g := g) (cs := [a, b, c, e]) ht hx (fun i u hu => by
    match i, hu with
    | 0, hu => injection hu with hu; subst hu; exact hp.ld h0
    | 1, hu => injection hu with hu; subst hu; exact hp.ld h1
    | 2, hu => injection hu with hu; subst hu; exact hp.ld h2
    | 3, hu => injection hu with hu; subst hu; exact hp.ld h3) rfl
  exact this
theorem fullP_0 : (fullP 128)[0]? = some ⟨1, 1, 1, 2, 1, 1⟩ := by kernel_rfl
theorem fullP_1 : (fullP 128)[1]? = some ⟨1, 2, 1, 2, 1, 1⟩ := by kernel_rfl
theorem fullT_0 : (fullT 32)[0]? = some ⟨1, 1, 1, 1⟩ := by kernel_rfl
theorem fullT_1 : (fullT 32)[1]? = some ⟨2, 1, 1, 1⟩ := by kernel_rfl
theorem may0 : mayV [] [] = true := by kernel_rfl
theorem may1 : mayV [⟨1, 1, 1, 2, 1, 1⟩, ⟨1, 1, 1, 2, 1, 1⟩] [] = false := by kernel_rfl
theorem may2 : mayV [⟨1, 1, 1, 2, 1, 1⟩, ⟨2, 1, 1, 2, 1, 1⟩] [] = false := by kernel_rfl
theorem may3 : mayV [⟨2, 1, 1, 2, 1, 1⟩, ⟨1, 2, 1, 2, 1, 1⟩] [] = false := by kernel_rfl
theorem may4 : mayV [⟨1, 1, 1, 2, 1, 0⟩] [] = false := by kernel_rfl
theorem may5 : mayV [] [⟨2, 1, 1, 1⟩, ⟨1, 1, 1, 1⟩] = false := by kernel_rfl
theorem may6 : mayV [] [⟨1, 65, 1, 1⟩] = false := by kernel_rfl

structure NmO where
  x : EvC
  k : Int
abbrev encNO (r : NmO) : List Value := [.int .u8 r.x.v, .int .u8 r.x.kind, .slice r.x.an r.x.mn r.x.cn, .slice r.x.ax r.x.mx r.x.cx, .int .i64 r.k]
abbrev valNO (r : NmO) : Value := .agg (encNO r).toArray
theorem encNO_len (r : NmO) : (encNO r).length = 5 := rfl
structure FitO (w : World) (r : NmO) (t : Evt × Int) : Prop where
  e : EvR w r.x t.1
  k : r.k = t.2
theorem FitO.mono {w w' : World} {r : NmO} {t : Evt × Int} (h : FitO w r t) (hb : Below w.heap.size w w') : FitO w' r t := ⟨h.e.mono hb, h.k⟩
def Fits {α β : Type} (F : World → α → β → Prop) (w : World) (rs : List α) (ts : List β) : Prop := rs.length = ts.length ∧ ∀ (j : Nat) r t, rs[j]? = some r → ts[j]? = some t → F w r t
theorem Fits.nil {α β : Type} {F : World → α → β → Prop} {w : World} : Fits F w [] [] := ⟨rfl, fun j r t h _ => by simp at h⟩
theorem Fits.mono {α β : Type} {F : World → α → β → Prop} {w w' : World} {rs : List α} {ts : List β} (h : Fits F w rs ts) (hF : ∀ r t, F w r t → F w' r t) : Fits F w' rs ts := ⟨h.1, fun j r t h1 h2 => hF _ _ (h.2 j r t h1 h2)⟩
theorem Fits.snoc {α β : Type} {F : World → α → β → Prop} {w : World} {rs : List α} {ts : List β} (h : Fits F w rs ts) {r : α} {t : β} (hr : F w r t) : Fits F w (rs ++ [r]) (ts ++ [t]) := ⟨by simp [h.1], fun j q u h1 h2 => by
  by_cases hj : j < rs.length
  · rw [List.getElem?_append_left hj] at h1
    rw [List.getElem?_append_left (by rw [← h.1]; exact hj)] at h2
    exact h.2 j q u h1 h2
  · rw [List.getElem?_append_right (by omega)] at h1
    rw [List.getElem?_append_right (by rw [← h.1]; omega), ← h.1] at h2
    cases hq : j - rs.length with
    | zero => rw [hq] at h1 h2; simp at h1 h2; subst h1 h2; exact hr
    | succ q => rw [hq] at h1; simp at h1⟩
theorem elemNO : ElemT Tryd.prog 38 37 5 64 := elem_of Tryd.underlying38 (by kernel_rfl) (by omega)
end Go.Proofs.YtkehmbgcglbffaaDoor
namespace Go.Proofs.YtkehmbgcglbffaaDoor
open Go.RowKit

theorem waitsZ_mono {ops : Array Oper} : ∀ {m f i : Nat}, waitsZ ops m f i = true → waitsZ ops (m + 1) f i = true
  | 0, _, _, h => by cases h
  | m + 1, f, i, h => by
    rw [waitsZ] at h ⊢
    cases ho : ops[f]? with
    | none => rw [ho] at h; cases h
    | some o =>
      rw [ho] at h
      dsimp only at h ⊢
      rw [List.any_eq_true] at h ⊢
      obtain ⟨e, he, h2⟩ := h
      refine ⟨e, he, ?_⟩
      rw [Bool.and_eq_true] at h2 ⊢
      refine ⟨h2.1, ?_⟩
      rcases (Bool.or_eq_true _ _).mp h2.2 with h3 | h3
      · rw [h3]; rfl
      · rw [waitsZ_mono h3, Bool.or_true]
theorem waitsZ_le {ops : Array Oper} {m m' f i : Nat} (h : waitsZ ops m f i = true) (hm : m ≤ m') : waitsZ ops m' f i = true := by
  induction m' with
  | zero => have : m = 0 := by omega
            subst this; exact h
  | succ k ih =>
    by_cases hk : m ≤ k
    · exact waitsZ_mono (ih hk)
    · have : m = k + 1 := by omega
      subst this; exact h
theorem waitsZ_one {ops : Array Oper} {f i : Nat} {o : Oper} (ho : ops[f]? = some o) (hi : i ∈ depsOf o) (m : Nat) : waitsZ ops (m + 1) f i = true := by
  rw [waitsZ, ho]
  dsimp only
  rw [List.any_eq_true]
  unfold depsOf at hi
  obtain ⟨e, he, rfl⟩ := List.mem_map.1 hi
  rw [List.mem_filter] at he
  exact ⟨e, he.1, by rw [he.2, Nat.beq_refl]; rfl⟩
theorem waitsZ_step {ops : Array Oper} {j i : Nat} {o : Oper} (ho : ops[j]? = some o) (hi : i ∈ depsOf o) : ∀ {m f : Nat}, waitsZ ops m f j = true → waitsZ ops (m + 1) f i = true
  | 0, _, h => by cases h
  | m + 1, f, h => by
    rw [waitsZ] at h ⊢
    cases hof : ops[f]? with
    | none => rw [hof] at h; cases h
    | some of_ =>
      rw [hof] at h
      dsimp only at h ⊢
      rw [List.any_eq_true] at h ⊢
      obtain ⟨e, he, h2⟩ := h
      refine ⟨e, he, ?_⟩
      rw [Bool.and_eq_true] at h2 ⊢
      refine ⟨h2.1, ?_⟩
      rcases (Bool.or_eq_true _ _).mp h2.2 with h3 | h3
      · rw [Nat.eq_of_beq_eq_true h3, waitsZ_one ho hi m, Bool.or_true]
      · rw [waitsZ_step ho hi h3, Bool.or_true]
def parOk (ops : Array Oper) (f : Nat) (par : List (Nat × Nat)) : Bool := par.all fun q => Nat.blt q.1 q.2 && (Nat.ble q.2 f && ((Nat.beq q.2 f || (par.map (·.1)).contains q.2) && match ops[q.2]? with
  | some o => (depsOf o).contains q.1
  | none => false))
theorem par_waits {ops : Array Oper} {f : Nat} {par : List (Nat × Nat)} (h : parOk ops f par = true) : ∀ (k : Nat) (i : Nat), i ∈ par.map (·.1) → f - i ≤ k → waitsZ ops (f - i) f i = true := by
  intro k
  induction k with
  | zero =>
    intro i hi hk
    obtain ⟨q, hq, rfl⟩ := List.mem_map.1 hi
    have h1 := List.all_eq_true.1 h q hq
    simp only [Bool.and_eq_true] at h1
    have a1 := Nat.le_of_ble_eq_true h1.1
    have a2 := Nat.le_of_ble_eq_true h1.2.1
    have : q.1 + 1 ≤ q.2 := a1
    omega
  | succ k ih =>
    intro i hi hk
    obtain ⟨q, hq, rfl⟩ := List.mem_map.1 hi
    have h1 := List.all_eq_true.1 h q hq
    simp only [Bool.and_eq_true] at h1
    have a1 : q.1 + 1 ≤ q.2 := Nat.le_of_ble_eq_true h1.1
    have a2 := Nat.le_of_ble_eq_true h1.2.1
    cases ho : ops[q.2]? with
    | none => rw [ho] at h1; cases h1.2.2.2
    | some o =>
      rw [ho] at h1
      have hm : q.1 ∈ depsOf o := by simpa using h1.2.2.2
      rcases (Bool.or_eq_true _ _).mp h1.2.2.1 with h3 | h3
      · have e := Nat.eq_of_beq_eq_true h3
        rw [e] at ho
        have := waitsZ_one ho hm (f - q.1 - 1)
        rw [show f - q.1 - 1 + 1 = f - q.1 by omega] at this
        exact this
      · have h4 := ih q.2 (by simpa using h3) (by omega)
        exact waitsZ_le (waitsZ_step ho hm h4) (by omega)
theorem waits_par {ops : Array Oper} {f : Nat} {rem : List (Nat × List Nat)} (par : List (Nat × Nat)) (h : parOk ops f par = true) (hr : rem.all (fun p => (par.map (·.1)).contains p.1) = true) (hf : Nat.ble f 200 = true) : rem.all (fun p => waitsZ ops 200 f p.1) = true := by
  rw [List.all_eq_true] at hr ⊢
  intro p hp
  have hm : p.1 ∈ par.map (·.1) := by simpa using hr p hp
  have hf := Nat.le_of_ble_eq_true hf
  exact waitsZ_le (par_waits h (f - p.1) p.1 hm (Nat.le_refl _)) (by omega)
end Go.Proofs.YtkehmbgcglbffaaDoor
