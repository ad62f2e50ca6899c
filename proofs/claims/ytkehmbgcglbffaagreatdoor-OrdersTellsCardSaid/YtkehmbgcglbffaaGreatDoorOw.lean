/-
  Contract of the document's Event (layer 22): placed, cancelled, traded. Conditions: the slices read as lists; the texts' lengths are of 64 bits.
-/
import Derived.Test.YtkehmbgcglbffaaGreatDoorOu
import Derived.Test.YtkehmbgcglbffaaGreatDoorOk
namespace Go.Proofs.YtkehmbgcglbffaaGreatDoor
open Go.RowKit Go.PlainAid

theorem rmayV_e {p : List Opn} {t : List Lt} {m n : Nat} {a b : Option Addr} {ca cb : Nat} {r : Bool} {w : World} (h : mayV p t = r) (hm : p.length = m) (hn : t.length = n) (HP : SlR encP 6 w a ca p) (HL : SlR encL 4 w b cb t) : Calls Tryz.prog 9 #[.slice a m ca, .slice b n cb] w fun e w' => e = .returned (.bool r) ∧ Below w.heap.size w w' := by
  subst h; exact rmayV_c hm hn HP HL
theorem rmayE_e {e : Evt} {m n : Nat} {a b : Option Addr} {ca cb : Nat} {r : Bool} {w : World} (h : mayE e = r) (hm : e.nums.length = m) (hn : e.texts.length = n) (HN : SlR encI 1 w a ca e.nums) (HT : SlR encT 1 w b cb e.texts) (hT : TxtIn e.texts) : Calls Tryz.prog 36 #[.agg #[.int .u8 e.v, .int .u8 e.kind, .slice a m ca, .slice b n cb]] w fun e1 w' => e1 = .returned (.bool r) ∧ Below w.heap.size w w' := by
  subst h; exact rmayE_c hm hn HN HT hT
theorem rfindP_e {p : List Opn} {m : Nat} {a : Option Addr} {ca : Nat} {w : World} {id : Int} {f : Option Opn} (h : findP p id = f) (hm : p.length = m) (HP : SlR encP 6 w a ca p) : Calls Tryz.prog 37 #[.slice a m ca, .int .i64 id] w fun e w' => e = .returned (.tuple #[.agg (encP (f.getD oZ)).toArray, .bool f.isSome]) ∧ Below w.heap.size w w' := by subst h; exact rfind_P id hm HP
theorem rfindT_e {p : List Lt} {m : Nat} {a : Option Addr} {ca : Nat} {w : World} {id : Int} {f : Option Lt} (h : findT p id = f) (hm : p.length = m) (HP : SlR encL 4 w a ca p) : Calls Tryz.prog 40 #[.slice a m ca, .int .i64 id] w fun e w' => e = .returned (.tuple #[.agg (encL (f.getD lZ)).toArray, .bool f.isSome]) ∧ Below w.heap.size w w' := by subst h; exact rfind_L id hm HP
theorem rfindP_s {p : List Opn} {m : Nat} {a : Option Addr} {ca : Nat} {w : World} {id : Int} {r : Opn} (h : findP p id = some r) (hm : p.length = m) (HP : SlR encP 6 w a ca p) : Calls Tryz.prog 37 #[.slice a m ca, .int .i64 id] w fun e w' => e = .returned (.tuple #[.agg (encP r).toArray, .bool true]) ∧ Below w.heap.size w w' := rfindP_e h hm HP
/-- what the document's Event answers: two slices that read as lists, and a number -/
def RefR (w' : World) (e1 : Ending) (R : List Opn × List Lt × Int) : Prop := ∃ a c b d, e1 = .returned (.tuple #[.slice a R.1.length c, .slice b R.2.1.length d, .int .i64 R.2.2]) ∧ SlR encP 6 w' a c R.1 ∧ SlR encL 4 w' b d R.2.1
theorem nilP (w : World) : SlR encP 6 w none 0 [] := by
  obtain ⟨a, c, hv, hs, -⟩ := Own.slR encP_len (Own.nil (enc := encP) (k := 6) (T := 37) (base := 0) w)
  injection hv with h1 _ h3; subst h1 h3; exact hs
theorem nilL (w : World) : SlR encL 4 w none 0 [] := by
  obtain ⟨a, c, hv, hs, -⟩ := Own.slR encL_len (Own.nil (enc := encL) (k := 4) (T := 39) (base := 0) w)
  injection hv with h1 _ h3; subst h1 h3; exact hs
theorem ref_nil (w : World) (c : Int) : RefR w (.returned (.tuple #[.slice none 0 0, .slice none 0 0, .int .i64 c])) ([], [], c) := ⟨_, _, _, _, rfl, nilP w, nilL w⟩
theorem at_of {e : Evt} {ns : List Int} (h : e.nums = ns) {i : Nat} {n : Int} (hx : ns[i]? = some n) : e.nums[i]? = some n := by rw [h]; exact hx
theorem nth_of {e : Evt} {i : Nat} {n : Int} (hx : e.nums[i]? = some n) : nth e i = n := nth_eq rfl hx
set_option maxRecDepth 20000 in
set_option maxHeartbeats 8000000 in
theorem rev11_c {p : List Opn} {t : List Lt} {e : Evt} {mp mt mn mx : Nat} {ap at_ an ax : Option Addr} {cp ct cn cx : Nat} {w : World} (hmp : p.length = mp) (hmt : t.length = mt) (hmn : e.nums.length = mn) (hmx : e.texts.length = mx) (HP : SlR encP 6 w ap cp p) (HL : SlR encL 4 w at_ ct t) (HN : SlR encI 1 w an cn e.nums) (HX : SlR encT 1 w ax cx e.texts) (hT : TxtIn e.texts) (hg1 : mayV p t = true) (hg2 : e.v = 3) (hg3 : mayE e = true) (hk : e.kind = 11) : Calls Tryz.prog 11 #[.slice ap mp cp, .slice at_ mt ct, .agg #[.int .u8 e.v, .int .u8 e.kind, .slice an mn cn, .slice ax mx cx]] w fun e1 w' => RefR w' e1 (placedR p t e) ∧ Below w.heap.size w w' := by
  obtain ⟨n0, n1, n2, n3, n4, n5, hev, h0, h1, h2, h3, h4, h5⟩ := nums11 hg3 hg2 hk
  have hM := mayV_iff.1 hg1
  have hl1 := hM.1
  have hx0 := at_of (i := 0) hev rfl
  have hx1 := at_of (i := 1) hev rfl
  have hx2 := at_of (i := 2) hev rfl
  have hx3 := at_of (i := 3) hev rfl
  have hx4 := at_of (i := 4) hev rfl
  have hx5 := at_of (i := 5) hev rfl
  have hlen : e.nums.length = 6 := by rw [hev]; rfl
  have hR : placedR p t e = if (findP p n0).isSome then ([], [], 6) else if p.length = 128 then ([], [], 40) else (insP p ⟨n1, n0, n2, n3, n4, n5⟩, t, 0) := by unfold placedR; rw [nth_of hx0, nth_of hx1, nth_of hx2, nth_of hx3, nth_of hx4, nth_of hx5]
  rw [hR]
  clear hR hev hM
  obtain ⟨ab, ao, rfl, -, -⟩ := HN.at (by intro h; rw [h] at hlen; cases hlen)
  subst hmp hmt hmn hmx
  have hw := Below.refl w.heap.size w
  have hcn := HN.le
  have hcm := HN.max
  have hcp := HP.le
  have hcpm := HP.max
  have hct := HL.le
  have hctm := HL.max
  refine fn_enter 270 Tryz.func11 rfl rfl rfl ?_
  repeat' (first | (refine is_cw ?_; first | (refine cw_seq ?_) | (refine cw_region ?_)))
  refine lw_boxN rfl rfl (cs := [.int .u8 e.v, .int .u8 e.kind, .slice ((some ⟨ab, ao, none⟩)) e.nums.length cn, .slice ax e.texts.length cx]) rfl ?_; intro NE wE hNE H hb
  replace hw := grow_trans hw hb
  replace HP := HP.mono hw
  replace HL := HL.mono hw
  replace HN := HN.mono hw
  replace HX := HX.mono hw
  have hw0 := hw
  clear hw hb
  have hw := Below.refl wE.heap.size wE
  repeat' (first | (refine lw_pure rfl (pv_move rfl) ?_) | (refine lw_pure rfl (pv_assign rfl) ?_) | (refine lw_call (f := 9) (by kernel_rfl) rfl rfl (rmayV_e hg1 rfl rfl (HP.mono hw) (HL.mono hw)) ?_; rintro e w1 ⟨rfl, hb⟩; refine ⟨_, rfl, ?_⟩; replace hw := grow_trans hw hb; clear hb) | (refine lw_call (f := 36) (by kernel_rfl) rfl rfl (rmayE_e hg3 rfl rfl (HN.mono hw) (HX.mono hw) hT) ?_; rintro e w1 ⟨rfl, hb⟩; refine ⟨_, rfl, ?_⟩; replace hw := grow_trans hw hb; clear hb) | (refine is_cw ?_; first | (refine cw_seq ?_) | (refine cw_region ?_) | (refine cw_false rfl rfl ?_) | (refine cw_true rfl (by first | assumption | exact decide_eq_true (by omega) | exact dec_notT (by omega)) ?_) | (refine cw_skip ?_) | (refine cw_block ?_)) | (refine is_qw ?_; first | (with_reducible refine qw_then ?_)) | (refine lw_nil ?_) | (refine is_guarded ?_; first | (refine lw_on rfl rfl rfl ?_) | (refine lw_on rfl rfl (by first | assumption | exact decide_eq_true (by omega) | exact decide_eq_false (by omega) | exact dec_notT (by omega) | exact dec_notF (by omega)) ?_)) | ((refine is_bin ?_; first | (refine lw_pure rfl (pv_eql rfl rfl) ?_) | (refine lw_pure rfl (pv_neq rfl rfl) ?_))) | ((refine is_load ?_; first | (refine lw_pure rfl (pv_load (t1 rfl) rfl (by first | exact PT.ld0 (H.mono hw) rfl | exact PT.ld (H.mono hw) rfl)) ?_) | (refine lw_pure rfl (pv_loada (tA rfl) rfl (by first | exact PT.lda (H.mono hw)) (by rfl)) ?_))) | ((refine is_fa ?_; first | (refine lw_pure rfl (pv_fa (tF rfl) rfl) ?_))) | ((refine is_ia ?_; first | (refine lw_pure rfl (pv_ia (tS rfl) rfl rfl (by omega)) ?_))) | ((refine is_un ?_; first | (refine lw_pure rfl (pv_not rfl) ?_))) | (refine lw_pure rfl (pv_pick_f rfl rfl rfl) ?_) | (refine lw_pure rfl (pv_pick_f rfl (by first | assumption | exact decide_eq_false (by omega) | exact dec_notF (by omega)) rfl) ?_))
  cases hf : findP p n0 with
  | some r =>
    repeat' (first | (refine lw_pure rfl (pv_move rfl) ?_) | (refine lw_call (f := 37) (by kernel_rfl) rfl rfl (rfindP_e hf rfl (HP.mono hw)) ?_; rintro e w1 ⟨rfl, hb⟩; refine ⟨_, rfl, ?_⟩; replace hw := grow_trans hw hb; clear hb) | ((refine is_load ?_; first | (refine lw_pure rfl (pv_load (t1 rfl) rfl (by first | exact PT.ld0 (H.mono hw) rfl | exact PT.ld (H.mono hw) rfl | exact SlR.ld (HN.mono hw) hx0 rfl | exact SlR.ld1 (HN.mono hw) hx0 rfl)) ?_))) | (refine lw_pure rfl (pv_extract rfl rfl) ?_))
    refine lw_varN rfl (by first | exact tyv_26 | exact tyv_27 | exact tyv_36 | exact tyv_37 | exact tyv_38 | exact tyv_39 | exact tyv_67 | exact tyv_68 | exact tyv_112 | exact tyv_113) rfl (tZ rfl) (fun _ => rfl) rfl rfl ?_; intro N1 wn hN1 HF hb; replace hw := grow_trans hw hb; clear hb
    repeat' (first | (refine lw_pure rfl (pv_move rfl) ?_) | (refine lw_pure rfl (pv_assign rfl) ?_) | (refine is_cw ?_; first | (refine cw_seq ?_) | (refine cw_region ?_) | (refine cw_true rfl rfl ?_) | (refine cw_ret ?_)) | (refine is_qw ?_; first | (with_reducible refine qw_then ?_) | (with_reducible refine qw_then_ret ?_) | (with_reducible refine qw_in_ret ?_)) | (refine lw_nil ?_))
    exact qw_ret3 rfl rfl rfl rfl ⟨by rw [if_pos (by rfl)]; exact ref_nil _ _, grow_trans hw0 hw⟩
  | none =>
    repeat' (first | (refine lw_pure rfl (pv_move rfl) ?_) | (refine lw_call (f := 37) (by kernel_rfl) rfl rfl (rfindP_e hf rfl (HP.mono hw)) ?_; rintro e w1 ⟨rfl, hb⟩; refine ⟨_, rfl, ?_⟩; replace hw := grow_trans hw hb; clear hb) | ((refine is_load ?_; first | (refine lw_pure rfl (pv_load (t1 rfl) rfl (by first | exact PT.ld0 (H.mono hw) rfl | exact PT.ld (H.mono hw) rfl | exact SlR.ld (HN.mono hw) hx0 rfl | exact SlR.ld1 (HN.mono hw) hx0 rfl)) ?_))) | (refine lw_pure rfl (pv_extract rfl rfl) ?_))
    refine lw_varN rfl (by first | exact tyv_26 | exact tyv_27 | exact tyv_36 | exact tyv_37 | exact tyv_38 | exact tyv_39 | exact tyv_67 | exact tyv_68 | exact tyv_112 | exact tyv_113) rfl (tZ rfl) (fun _ => rfl) rfl rfl ?_; intro N1 wn hN1 HF hb; replace hw := grow_trans hw hb; clear hb
    by_cases h128 : p.length = 128
    · repeat' (first | (refine lw_pure rfl (pv_move rfl) ?_) | (refine lw_pure rfl (pv_assign rfl) ?_) | (refine is_cw ?_; first | (refine cw_seq ?_) | (refine cw_region ?_) | (refine cw_false rfl rfl ?_) | (refine cw_true rfl (by first | assumption | exact decide_eq_true (by omega) | exact dec_notT (by omega)) ?_) | (refine cw_skip ?_) | (refine cw_ret ?_)) | (refine is_qw ?_; first | (with_reducible refine qw_then ?_) | (with_reducible refine qw_then_ret ?_) | (with_reducible refine qw_in_ret ?_)) | (refine lw_nil ?_) | ((refine is_bin ?_; first | (refine lw_pure rfl (pv_eql rfl rfl) ?_))) | ((refine is_bi ?_; first | (refine lw_pure rfl (pv_lenl (tS rfl) rfl) ?_))))
      exact qw_ret3 rfl rfl rfl rfl ⟨by rw [if_neg (by simp), if_pos h128]; exact ref_nil _ _, grow_trans hw0 hw⟩
    · have hs8 : 0 ≤ n3 ∧ n3 ≤ 255 := by omega
      repeat' (first | (refine lw_pure rfl (pv_move rfl) ?_) | (refine lw_pure rfl (pv_assign rfl) ?_) | (refine is_cw ?_; first | (refine cw_seq ?_) | (refine cw_region ?_) | (refine cw_false rfl rfl ?_) | (refine cw_false rfl (by first | assumption | exact decide_eq_false (by omega) | exact dec_notF (by omega)) ?_) | (refine cw_skip ?_)) | (refine is_qw ?_; first | (with_reducible refine qw_then ?_)) | (refine lw_nil ?_) | ((refine is_bin ?_; first | (refine lw_pure rfl (pv_eql rfl rfl) ?_))) | ((refine is_bi ?_; first | (refine lw_pure rfl (pv_lenl (tS rfl) rfl) ?_))))
      refine cw_drawn (fun w' => Below wE.heap.size wE w') (by kernel_rfl) (by repeat (first | exact NoPanic.body | with_reducible refine NoPanic.then ?_ | with_reducible refine NoPanic.inBlock ?_)) (fun hNP => ?_)
      have hS := hw.drew
      (refine aw_take 0 rfl (by kernel_rfl) (by kernel_rfl) (by kernel_rfl) hNP hS rfl (fun w' hq => pv_move rfl) ?_)
      (refine aw_take 1 rfl (by kernel_rfl) (by kernel_rfl) (by kernel_rfl) hNP hS rfl (fun w' hq => pv_move rfl) ?_)
      (refine aw_take 2 rfl (by kernel_rfl) (by kernel_rfl) (by kernel_rfl) hNP hS rfl (fun w' hq => pv_ia (tS rfl) rfl rfl (by omega)) ?_)
      (refine aw_take 3 rfl (by kernel_rfl) (by kernel_rfl) (by kernel_rfl) hNP hS rfl (fun w' hq => pv_load (t1 rfl) rfl (by first | exact SlR.ld (HN.mono hq) hx0 rfl | exact SlR.ld1 (HN.mono hq) hx0 rfl | exact SlR.ld (HN.mono hq) hx1 rfl | exact SlR.ld1 (HN.mono hq) hx1 rfl | exact SlR.ld (HN.mono hq) hx2 rfl | exact SlR.ld1 (HN.mono hq) hx2 rfl | exact SlR.ld (HN.mono hq) hx3 rfl | exact SlR.ld1 (HN.mono hq) hx3 rfl | exact SlR.ld (HN.mono hq) hx4 rfl | exact SlR.ld1 (HN.mono hq) hx4 rfl | exact SlR.ld (HN.mono hq) hx5 rfl | exact SlR.ld1 (HN.mono hq) hx5 rfl)) ?_)
      (refine aw_take 4 rfl (by kernel_rfl) (by kernel_rfl) (by kernel_rfl) hNP hS rfl (fun w' hq => pv_move rfl) ?_)
      (refine aw_take 5 rfl (by kernel_rfl) (by kernel_rfl) (by kernel_rfl) hNP hS rfl (fun w' hq => pv_ia (tS rfl) rfl rfl (by omega)) ?_)
      (refine aw_take 6 rfl (by kernel_rfl) (by kernel_rfl) (by kernel_rfl) hNP hS rfl (fun w' hq => pv_load (t1 rfl) rfl (by first | exact SlR.ld (HN.mono hq) hx0 rfl | exact SlR.ld1 (HN.mono hq) hx0 rfl | exact SlR.ld (HN.mono hq) hx1 rfl | exact SlR.ld1 (HN.mono hq) hx1 rfl | exact SlR.ld (HN.mono hq) hx2 rfl | exact SlR.ld1 (HN.mono hq) hx2 rfl | exact SlR.ld (HN.mono hq) hx3 rfl | exact SlR.ld1 (HN.mono hq) hx3 rfl | exact SlR.ld (HN.mono hq) hx4 rfl | exact SlR.ld1 (HN.mono hq) hx4 rfl | exact SlR.ld (HN.mono hq) hx5 rfl | exact SlR.ld1 (HN.mono hq) hx5 rfl)) ?_)
      (refine aw_take 7 rfl (by kernel_rfl) (by kernel_rfl) (by kernel_rfl) hNP hS rfl (fun w' hq => pv_move rfl) ?_)
      (refine aw_take 8 rfl (by kernel_rfl) (by kernel_rfl) (by kernel_rfl) hNP hS rfl (fun w' hq => pv_ia (tS rfl) rfl rfl (by omega)) ?_)
      (refine aw_take 9 rfl (by kernel_rfl) (by kernel_rfl) (by kernel_rfl) hNP hS rfl (fun w' hq => pv_load (t1 rfl) rfl (by first | exact SlR.ld (HN.mono hq) hx0 rfl | exact SlR.ld1 (HN.mono hq) hx0 rfl | exact SlR.ld (HN.mono hq) hx1 rfl | exact SlR.ld1 (HN.mono hq) hx1 rfl | exact SlR.ld (HN.mono hq) hx2 rfl | exact SlR.ld1 (HN.mono hq) hx2 rfl | exact SlR.ld (HN.mono hq) hx3 rfl | exact SlR.ld1 (HN.mono hq) hx3 rfl | exact SlR.ld (HN.mono hq) hx4 rfl | exact SlR.ld1 (HN.mono hq) hx4 rfl | exact SlR.ld (HN.mono hq) hx5 rfl | exact SlR.ld1 (HN.mono hq) hx5 rfl)) ?_)
      (refine aw_take 10 rfl (by kernel_rfl) (by kernel_rfl) (by kernel_rfl) hNP hS rfl (fun w' hq => pv_move rfl) ?_)
      (refine aw_take 11 rfl (by kernel_rfl) (by kernel_rfl) (by kernel_rfl) hNP hS rfl (fun w' hq => pv_ia (tS rfl) rfl rfl (by omega)) ?_)
      (refine aw_take 12 rfl (by kernel_rfl) (by kernel_rfl) (by kernel_rfl) hNP hS rfl (fun w' hq => pv_load (t1 rfl) rfl (by first | exact SlR.ld (HN.mono hq) hx0 rfl | exact SlR.ld1 (HN.mono hq) hx0 rfl | exact SlR.ld (HN.mono hq) hx1 rfl | exact SlR.ld1 (HN.mono hq) hx1 rfl | exact SlR.ld (HN.mono hq) hx2 rfl | exact SlR.ld1 (HN.mono hq) hx2 rfl | exact SlR.ld (HN.mono hq) hx3 rfl | exact SlR.ld1 (HN.mono hq) hx3 rfl | exact SlR.ld (HN.mono hq) hx4 rfl | exact SlR.ld1 (HN.mono hq) hx4 rfl | exact SlR.ld (HN.mono hq) hx5 rfl | exact SlR.ld1 (HN.mono hq) hx5 rfl)) ?_)
      (refine aw_take 13 rfl (by kernel_rfl) (by kernel_rfl) (by kernel_rfl) hNP hS rfl (fun w' hq => pv_conv8 (tCv rfl rfl) rfl hs8) ?_)
      (refine aw_take 14 rfl (by kernel_rfl) (by kernel_rfl) (by kernel_rfl) hNP hS rfl (fun w' hq => pv_move rfl) ?_)
      (refine aw_take 15 rfl (by kernel_rfl) (by kernel_rfl) (by kernel_rfl) hNP hS rfl (fun w' hq => pv_ia (tS rfl) rfl rfl (by omega)) ?_)
      (refine aw_take 16 rfl (by kernel_rfl) (by kernel_rfl) (by kernel_rfl) hNP hS rfl (fun w' hq => pv_load (t1 rfl) rfl (by first | exact SlR.ld (HN.mono hq) hx0 rfl | exact SlR.ld1 (HN.mono hq) hx0 rfl | exact SlR.ld (HN.mono hq) hx1 rfl | exact SlR.ld1 (HN.mono hq) hx1 rfl | exact SlR.ld (HN.mono hq) hx2 rfl | exact SlR.ld1 (HN.mono hq) hx2 rfl | exact SlR.ld (HN.mono hq) hx3 rfl | exact SlR.ld1 (HN.mono hq) hx3 rfl | exact SlR.ld (HN.mono hq) hx4 rfl | exact SlR.ld1 (HN.mono hq) hx4 rfl | exact SlR.ld (HN.mono hq) hx5 rfl | exact SlR.ld1 (HN.mono hq) hx5 rfl)) ?_)
      (refine aw_take 17 rfl (by kernel_rfl) (by kernel_rfl) (by kernel_rfl) hNP hS rfl (fun w' hq => pv_move rfl) ?_)
      (refine aw_take 18 rfl (by kernel_rfl) (by kernel_rfl) (by kernel_rfl) hNP hS rfl (fun w' hq => pv_ia (tS rfl) rfl rfl (by omega)) ?_)
      (refine aw_take 19 rfl (by kernel_rfl) (by kernel_rfl) (by kernel_rfl) hNP hS rfl (fun w' hq => pv_load (t1 rfl) rfl (by first | exact SlR.ld (HN.mono hq) hx0 rfl | exact SlR.ld1 (HN.mono hq) hx0 rfl | exact SlR.ld (HN.mono hq) hx1 rfl | exact SlR.ld1 (HN.mono hq) hx1 rfl | exact SlR.ld (HN.mono hq) hx2 rfl | exact SlR.ld1 (HN.mono hq) hx2 rfl | exact SlR.ld (HN.mono hq) hx3 rfl | exact SlR.ld1 (HN.mono hq) hx3 rfl | exact SlR.ld (HN.mono hq) hx4 rfl | exact SlR.ld1 (HN.mono hq) hx4 rfl | exact SlR.ld (HN.mono hq) hx5 rfl | exact SlR.ld1 (HN.mono hq) hx5 rfl)) ?_)
      (refine aw_take 20 rfl (by kernel_rfl) (by kernel_rfl) (by kernel_rfl) hNP hS rfl (fun w' hq => tyB_37 rfl rfl rfl) ?_)
      (refine aw_take 22 rfl (by kernel_rfl) (by kernel_rfl) (by kernel_rfl) hNP hS rfl (fun w' hq => pv_move rfl) ?_)
      refine aw_act 21 (by kernel_rfl) rfl rfl rfl ?_
      refine act_call (f := 38) (by kernel_rfl) rfl (put_c ⟨n1, n0, n2, n3, n4, n5⟩ rfl (HP.mono hS) (by omega)) ?_; rintro e1 w5 ⟨⟨v, rfl, hO⟩, hb⟩; obtain ⟨va, vc, rfl, hV, -⟩ := Own.slR encP_len hO; clear hO; refine ⟨_, rfl, grow_trans hS hb, fun hS => ?_⟩
      (refine aw_take 23 rfl (by kernel_rfl) (by kernel_rfl) (by kernel_rfl) hNP hS rfl (fun w' hq => pv_assign rfl) ?_)
      (refine aw_take 24 rfl (by kernel_rfl) (by kernel_rfl) (by kernel_rfl) hNP hS rfl (fun w' hq => pv_assign rfl) ?_)
      (refine aw_take 25 rfl (by kernel_rfl) (by kernel_rfl) (by kernel_rfl) hNP hS rfl (fun w' hq => pv_assign rfl) ?_)
      refine aw_done (by kernel_rfl) ?_
      replace hw := hS; clear hS hNP
      repeat' (first | (refine is_cw ?_; first | (refine cw_ret ?_)) | (refine is_qw ?_; first | (with_reducible refine qw_then ?_) | (with_reducible refine qw_then_ret ?_) | (with_reducible refine qw_in_ret ?_)))
      exact qw_ret3 rfl rfl rfl rfl ⟨by rw [if_neg (by simp), if_neg h128]; exact ⟨_, _, _, _, rfl, hV, HL.mono hw⟩, grow_trans hw0 hw⟩
theorem left_in {p : List Opn} {t : List Lt} (h : MayV p t) : ∀ x ∈ p, 0 ≤ x.left ∧ x.left ≤ 1048576 := fun x hx => by
  have h1 := (h.2.2.2.1 x hx).2.2.2.2.2
  omega
theorem less_in {p : List Opn} {id q : Int} (hq : 0 ≤ q) (h : ∀ x ∈ p, 0 ≤ x.left ∧ x.left ≤ 1048576) : ∀ x ∈ lessP p id q, 0 ≤ x.left ∧ x.left ≤ 1048576 := fun x hx => by
  unfold lessP at hx
  obtain ⟨h1, h2⟩ := List.mem_filter.1 hx
  obtain ⟨y, hy, he⟩ := List.mem_map.1 h1
  have h3 := h y hy
  have h4 := of_decide_eq_true h2
  subst he
  unfold cutP at h4 ⊢
  split
  · rename_i hid
    rw [if_pos hid] at h4
    dsimp only at h4 ⊢
    omega
  · exact h3
set_option maxRecDepth 20000 in
set_option maxHeartbeats 8000000 in
theorem rev12_c {p : List Opn} {t : List Lt} {e : Evt} {mp mt mn mx : Nat} {ap at_ an ax : Option Addr} {cp ct cn cx : Nat} {w : World} (hmp : p.length = mp) (hmt : t.length = mt) (hmn : e.nums.length = mn) (hmx : e.texts.length = mx) (HP : SlR encP 6 w ap cp p) (HL : SlR encL 4 w at_ ct t) (HN : SlR encI 1 w an cn e.nums) (HX : SlR encT 1 w ax cx e.texts) (hT : TxtIn e.texts) (hg1 : mayV p t = true) (hg2 : e.v = 3) (hg3 : mayE e = true) (hk : e.kind = 12) : Calls Tryz.prog 11 #[.slice ap mp cp, .slice at_ mt ct, .agg #[.int .u8 e.v, .int .u8 e.kind, .slice an mn cn, .slice ax mx cx]] w fun e1 w' => RefR w' e1 (cancelR p t e) ∧ Below w.heap.size w w' := by
  obtain ⟨n0, hev, h0⟩ := nums12 hg3 hg2 hk
  have hM := mayV_iff.1 hg1
  have hl1 := hM.1
  have hlf := left_in hM
  have hx0 := at_of (i := 0) hev rfl
  have hlen : e.nums.length = 1 := by rw [hev]; rfl
  have hn0 := nth_of hx0
  clear hev
  obtain ⟨ab, ao, rfl, -, -⟩ := HN.at (by intro h; rw [h] at hlen; cases hlen)
  subst hmp hmt hmn hmx
  have hw := Below.refl w.heap.size w
  have hcn := HN.le
  have hcm := HN.max
  have hcp := HP.le
  have hcpm := HP.max
  have hct := HL.le
  have hctm := HL.max
  refine fn_enter 270 Tryz.func11 rfl rfl rfl ?_
  repeat' (first | (refine is_cw ?_; first | (refine cw_seq ?_) | (refine cw_region ?_)))
  refine lw_boxN rfl rfl (cs := [.int .u8 e.v, .int .u8 e.kind, .slice ((some ⟨ab, ao, none⟩)) e.nums.length cn, .slice ax e.texts.length cx]) rfl ?_; intro NE wE hNE H hb
  replace hw := grow_trans hw hb
  replace HP := HP.mono hw
  replace HL := HL.mono hw
  replace HN := HN.mono hw
  replace HX := HX.mono hw
  have hw0 := hw
  clear hw hb
  have hw := Below.refl wE.heap.size wE
  repeat' (first | (refine lw_pure rfl (pv_move rfl) ?_) | (refine lw_pure rfl (pv_assign rfl) ?_) | (refine lw_call (f := 9) (by kernel_rfl) rfl rfl (rmayV_e hg1 rfl rfl (HP.mono hw) (HL.mono hw)) ?_; rintro e w1 ⟨rfl, hb⟩; refine ⟨_, rfl, ?_⟩; replace hw := grow_trans hw hb; clear hb) | (refine lw_call (f := 36) (by kernel_rfl) rfl rfl (rmayE_e hg3 rfl rfl (HN.mono hw) (HX.mono hw) hT) ?_; rintro e w1 ⟨rfl, hb⟩; refine ⟨_, rfl, ?_⟩; replace hw := grow_trans hw hb; clear hb) | (refine is_cw ?_; first | (refine cw_seq ?_) | (refine cw_region ?_) | (refine cw_false rfl rfl ?_) | (refine cw_true rfl (by first | assumption | exact decide_eq_true (by omega) | exact dec_notT (by omega)) ?_) | (refine cw_false rfl (by first | assumption | exact decide_eq_false (by omega) | exact dec_notF (by omega)) ?_) | (refine cw_skip ?_) | (refine cw_block ?_)) | (refine is_qw ?_; first | (with_reducible refine qw_then ?_)) | (refine lw_nil ?_) | (refine is_guarded ?_; first | (refine lw_on rfl rfl rfl ?_) | (refine lw_on rfl rfl (by first | assumption | exact decide_eq_true (by omega) | exact decide_eq_false (by omega) | exact dec_notT (by omega) | exact dec_notF (by omega)) ?_)) | ((refine is_bin ?_; first | (refine lw_pure rfl (pv_eql rfl rfl) ?_) | (refine lw_pure rfl (pv_neq rfl rfl) ?_))) | ((refine is_load ?_; first | (refine lw_pure rfl (pv_load (t1 rfl) rfl (by first | exact PT.ld0 (H.mono hw) rfl | exact PT.ld (H.mono hw) rfl)) ?_) | (refine lw_pure rfl (pv_loada (tA rfl) rfl (by first | exact PT.lda (H.mono hw)) (by rfl)) ?_))) | ((refine is_fa ?_; first | (refine lw_pure rfl (pv_fa (tF rfl) rfl) ?_))) | ((refine is_ia ?_; first | (refine lw_pure rfl (pv_ia (tS rfl) rfl rfl (by omega)) ?_))) | ((refine is_un ?_; first | (refine lw_pure rfl (pv_not rfl) ?_))) | (refine lw_pure rfl (pv_pick_f rfl rfl rfl) ?_) | (refine lw_pure rfl (pv_pick_f rfl (by first | assumption | exact decide_eq_false (by omega) | exact dec_notF (by omega)) rfl) ?_))
  cases hf : findP p n0 with
  | none =>
    have hR : cancelR p t e = ([], [], 5) := by unfold cancelR; rw [hn0, hf]
    rw [hR]
    repeat' (first | (refine lw_pure rfl (pv_move rfl) ?_) | (refine lw_call (f := 37) (by kernel_rfl) rfl rfl (rfindP_e hf rfl (HP.mono hw)) ?_; rintro e w1 ⟨rfl, hb⟩; refine ⟨_, rfl, ?_⟩; replace hw := grow_trans hw hb; clear hb) | ((refine is_load ?_; first | (refine lw_pure rfl (pv_load (t1 rfl) rfl (by first | exact PT.ld0 (H.mono hw) rfl | exact PT.ld (H.mono hw) rfl | exact SlR.ld (HN.mono hw) hx0 rfl | exact SlR.ld1 (HN.mono hw) hx0 rfl)) ?_))) | (refine lw_pure rfl (pv_extract rfl rfl) ?_))
    refine lw_varN rfl (by first | exact tyv_26 | exact tyv_27 | exact tyv_36 | exact tyv_37 | exact tyv_38 | exact tyv_39 | exact tyv_67 | exact tyv_68 | exact tyv_112 | exact tyv_113) rfl (tZ rfl) (fun _ => rfl) rfl rfl ?_; intro N1 wn hN1 HF hb; replace hw := grow_trans hw hb; clear hb
    repeat' (first | (refine lw_pure rfl (pv_move rfl) ?_) | (refine lw_pure rfl (pv_assign rfl) ?_) | (refine is_cw ?_; first | (refine cw_seq ?_) | (refine cw_region ?_) | (refine cw_true rfl rfl ?_) | (refine cw_ret ?_)) | (refine is_qw ?_; first | (with_reducible refine qw_then ?_) | (with_reducible refine qw_then_ret ?_) | (with_reducible refine qw_in_ret ?_)) | (refine lw_nil ?_) | ((refine is_un ?_; first | (refine lw_pure rfl (pv_not rfl) ?_))))
    exact qw_ret3 rfl rfl rfl rfl ⟨ref_nil _ _, grow_trans hw0 hw⟩
  | some r =>
    have hR : cancelR p t e = (lessP p n0 r.left, t, 0) := by unfold cancelR; rw [hn0, hf]
    have hrl := hlf r (List.mem_of_find?_eq_some hf)
    rw [hR]
    repeat' (first | (refine lw_pure rfl (pv_move rfl) ?_) | (refine lw_call (f := 37) (by kernel_rfl) rfl rfl (rfindP_s hf rfl (HP.mono hw)) ?_; rintro e w1 ⟨rfl, hb⟩; refine ⟨_, rfl, ?_⟩; replace hw := grow_trans hw hb; clear hb) | ((refine is_load ?_; first | (refine lw_pure rfl (pv_load (t1 rfl) rfl (by first | exact PT.ld0 (H.mono hw) rfl | exact PT.ld (H.mono hw) rfl | exact SlR.ld (HN.mono hw) hx0 rfl | exact SlR.ld1 (HN.mono hw) hx0 rfl)) ?_))) | (refine lw_pure rfl (pv_extract rfl rfl) ?_))
    refine lw_varN rfl (by first | exact tyv_26 | exact tyv_27 | exact tyv_36 | exact tyv_37 | exact tyv_38 | exact tyv_39 | exact tyv_67 | exact tyv_68 | exact tyv_112 | exact tyv_113) rfl (tZ rfl) (fun _ => rfl) rfl rfl ?_; intro N1 wn hN1 HF hb; replace hw := grow_trans hw hb; clear hb
    repeat' (first | (refine lw_pure rfl (pv_move rfl) ?_) | (refine lw_pure rfl (pv_assign rfl) ?_) | (refine is_cw ?_; first | (refine cw_seq ?_) | (refine cw_region ?_) | (refine cw_false rfl rfl ?_) | (refine cw_skip ?_)) | (refine is_qw ?_; first | (with_reducible refine qw_then ?_)) | (refine lw_nil ?_) | ((refine is_un ?_; first | (refine lw_pure rfl (pv_not rfl) ?_))))
    have hwE := grow_trans hw0 hw
    replace HN := HN.mono hw
    replace HP := HP.mono hw
    replace HL := HL.mono hw
    clear hw
    have hw := Below.refl wn.heap.size wn
    refine cw_drawn (fun w' => Below wn.heap.size wn w') (by kernel_rfl) (by repeat (first | exact NoPanic.body | with_reducible refine NoPanic.then ?_ | with_reducible refine NoPanic.inBlock ?_)) (fun hNP => ?_)
    have hS := hw.drew
    (refine aw_take 0 rfl (by kernel_rfl) (by kernel_rfl) (by kernel_rfl) hNP hS rfl (fun w' hq => pv_move rfl) ?_)
    (refine aw_take 1 rfl (by kernel_rfl) (by kernel_rfl) (by kernel_rfl) hNP hS rfl (fun w' hq => pv_move rfl) ?_)
    (refine aw_take 2 rfl (by kernel_rfl) (by kernel_rfl) (by kernel_rfl) hNP hS rfl (fun w' hq => pv_ia (tS rfl) rfl rfl (by omega)) ?_)
    (refine aw_take 3 rfl (by kernel_rfl) (by kernel_rfl) (by kernel_rfl) hNP hS rfl (fun w' hq => pv_load (t1 rfl) rfl (by first | exact SlR.ld (HN.mono hq) hx0 rfl | exact SlR.ld1 (HN.mono hq) hx0 rfl | exact PT.ld0 (HF.mono hq) rfl | exact PT.ld (HF.mono hq) rfl)) ?_)
    (refine aw_take 4 rfl (by kernel_rfl) (by kernel_rfl) (by kernel_rfl) hNP hS rfl (fun w' hq => pv_fa (tF rfl) rfl) ?_)
    (refine aw_take 5 rfl (by kernel_rfl) (by kernel_rfl) (by kernel_rfl) hNP hS rfl (fun w' hq => pv_load (t1 rfl) rfl (by first | exact SlR.ld (HN.mono hq) hx0 rfl | exact SlR.ld1 (HN.mono hq) hx0 rfl | exact PT.ld0 (HF.mono hq) rfl | exact PT.ld (HF.mono hq) rfl)) ?_)
    (refine aw_take 7 rfl (by kernel_rfl) (by kernel_rfl) (by kernel_rfl) hNP hS rfl (fun w' hq => pv_move rfl) ?_)
    refine aw_act 6 (by kernel_rfl) rfl rfl rfl ?_
    refine act_call (f := 39) (by kernel_rfl) rfl (less_c n0 r.left rfl (HP.mono hS) (by omega) hlf hrl) ?_; rintro e1 w5 ⟨⟨v, rfl, hO⟩, hb⟩; obtain ⟨va, vc, rfl, hV, -⟩ := Own.slR encP_len hO; clear hO; refine ⟨_, rfl, grow_trans hS hb, fun hS => ?_⟩
    (refine aw_take 8 rfl (by kernel_rfl) (by kernel_rfl) (by kernel_rfl) hNP hS rfl (fun w' hq => pv_assign rfl) ?_)
    (refine aw_take 9 rfl (by kernel_rfl) (by kernel_rfl) (by kernel_rfl) hNP hS rfl (fun w' hq => pv_assign rfl) ?_)
    (refine aw_take 10 rfl (by kernel_rfl) (by kernel_rfl) (by kernel_rfl) hNP hS rfl (fun w' hq => pv_assign rfl) ?_)
    refine aw_done (by kernel_rfl) ?_
    replace hw := hS; clear hS hNP
    repeat' (first | (refine is_cw ?_; first | (refine cw_ret ?_)) | (refine is_qw ?_; first | (with_reducible refine qw_then ?_) | (with_reducible refine qw_then_ret ?_) | (with_reducible refine qw_in_ret ?_)))
    exact qw_ret3 rfl rfl rfl rfl ⟨⟨_, _, _, _, rfl, hV, HL.mono hw⟩, grow_trans hwE hw⟩
set_option maxRecDepth 20000 in
set_option maxHeartbeats 8000000 in
theorem rev13_c {p : List Opn} {t : List Lt} {e : Evt} {mp mt mn mx : Nat} {ap at_ an ax : Option Addr} {cp ct cn cx : Nat} {w : World} (hmp : p.length = mp) (hmt : t.length = mt) (hmn : e.nums.length = mn) (hmx : e.texts.length = mx) (HP : SlR encP 6 w ap cp p) (HL : SlR encL 4 w at_ ct t) (HN : SlR encI 1 w an cn e.nums) (HX : SlR encT 1 w ax cx e.texts) (hT : TxtIn e.texts) (hg1 : mayV p t = true) (hg2 : e.v = 3) (hg3 : mayE e = true) (hk : e.kind = 13) : Calls Tryz.prog 11 #[.slice ap mp cp, .slice at_ mt ct, .agg #[.int .u8 e.v, .int .u8 e.kind, .slice an mn cn, .slice ax mx cx]] w fun e1 w' => RefR w' e1 (tradedR p t e) ∧ Below w.heap.size w w' := by
  obtain ⟨n0, n1, n2, n3, n4, hev, h0, h1, h2, h3, h4⟩ := nums13 hg3 hg2 hk
  have hM := mayV_iff.1 hg1
  have hl1 := hM.1
  have hlf := left_in hM
  have hx0 := at_of (i := 0) hev rfl
  have hx1 := at_of (i := 1) hev rfl
  have hx3 := at_of (i := 3) hev rfl
  have hlen : e.nums.length = 5 := by rw [hev]; rfl
  have hn0 := nth_of hx0
  have hn1 := nth_of hx1
  have hn3 := nth_of hx3
  clear hev
  obtain ⟨ab, ao, rfl, -, -⟩ := HN.at (by intro h; rw [h] at hlen; cases hlen)
  subst hmp hmt hmn hmx
  have hw := Below.refl w.heap.size w
  have hcn := HN.le
  have hcm := HN.max
  have hcp := HP.le
  have hcpm := HP.max
  have hct := HL.le
  have hctm := HL.max
  refine fn_enter 270 Tryz.func11 rfl rfl rfl ?_
  repeat' (first | (refine is_cw ?_; first | (refine cw_seq ?_) | (refine cw_region ?_)))
  refine lw_boxN rfl rfl (cs := [.int .u8 e.v, .int .u8 e.kind, .slice ((some ⟨ab, ao, none⟩)) e.nums.length cn, .slice ax e.texts.length cx]) rfl ?_; intro NE wE hNE H hb
  replace hw := grow_trans hw hb
  replace HP := HP.mono hw
  replace HL := HL.mono hw
  replace HN := HN.mono hw
  replace HX := HX.mono hw
  have hw0 := hw
  clear hw hb
  have hw := Below.refl wE.heap.size wE
  repeat' (first | (refine lw_pure rfl (pv_move rfl) ?_) | (refine lw_pure rfl (pv_assign rfl) ?_) | (refine lw_call (f := 9) (by kernel_rfl) rfl rfl (rmayV_e hg1 rfl rfl (HP.mono hw) (HL.mono hw)) ?_; rintro e w1 ⟨rfl, hb⟩; refine ⟨_, rfl, ?_⟩; replace hw := grow_trans hw hb; clear hb) | (refine lw_call (f := 36) (by kernel_rfl) rfl rfl (rmayE_e hg3 rfl rfl (HN.mono hw) (HX.mono hw) hT) ?_; rintro e w1 ⟨rfl, hb⟩; refine ⟨_, rfl, ?_⟩; replace hw := grow_trans hw hb; clear hb) | (refine is_cw ?_; first | (refine cw_seq ?_) | (refine cw_region ?_) | (refine cw_false rfl rfl ?_) | (refine cw_true rfl (by first | assumption | exact decide_eq_true (by omega) | exact dec_notT (by omega)) ?_) | (refine cw_false rfl (by first | assumption | exact decide_eq_false (by omega) | exact dec_notF (by omega)) ?_) | (refine cw_skip ?_) | (refine cw_block ?_)) | (refine is_qw ?_; first | (with_reducible refine qw_then ?_)) | (refine lw_nil ?_) | (refine is_guarded ?_; first | (refine lw_on rfl rfl rfl ?_) | (refine lw_on rfl rfl (by first | assumption | exact decide_eq_true (by omega) | exact decide_eq_false (by omega) | exact dec_notT (by omega) | exact dec_notF (by omega)) ?_)) | ((refine is_bin ?_; first | (refine lw_pure rfl (pv_eql rfl rfl) ?_) | (refine lw_pure rfl (pv_neq rfl rfl) ?_))) | ((refine is_load ?_; first | (refine lw_pure rfl (pv_load (t1 rfl) rfl (by first | exact PT.ld0 (H.mono hw) rfl | exact PT.ld (H.mono hw) rfl)) ?_) | (refine lw_pure rfl (pv_loada (tA rfl) rfl (by first | exact PT.lda (H.mono hw)) (by rfl)) ?_))) | ((refine is_fa ?_; first | (refine lw_pure rfl (pv_fa (tF rfl) rfl) ?_))) | ((refine is_ia ?_; first | (refine lw_pure rfl (pv_ia (tS rfl) rfl rfl (by omega)) ?_))) | ((refine is_un ?_; first | (refine lw_pure rfl (pv_not rfl) ?_))) | (refine lw_pure rfl (pv_pick_f rfl rfl rfl) ?_) | (refine lw_pure rfl (pv_pick_f rfl (by first | assumption | exact decide_eq_false (by omega) | exact dec_notF (by omega)) rfl) ?_))
  cases hf : findP p n0 with
  | none =>
    have hR : tradedR p t e = ([], [], 5) := by unfold tradedR; rw [hn0, hf]
    rw [hR]
    obtain ⟨g, hg⟩ : ∃ g, findP p n1 = g := ⟨_, rfl⟩
    repeat' (first | (refine lw_pure rfl (pv_move rfl) ?_) | (refine lw_call (f := 37) (by kernel_rfl) rfl rfl (rfindP_e hf rfl (HP.mono hw)) ?_; rintro e w1 ⟨rfl, hb⟩; refine ⟨_, rfl, ?_⟩; replace hw := grow_trans hw hb; clear hb) | ((refine is_load ?_; first | (refine lw_pure rfl (pv_load (t1 rfl) rfl (by first | exact PT.ld0 (H.mono hw) rfl | exact PT.ld (H.mono hw) rfl | exact SlR.ld (HN.mono hw) hx0 rfl | exact SlR.ld1 (HN.mono hw) hx0 rfl)) ?_))) | (refine lw_pure rfl (pv_extract rfl rfl) ?_))
    refine lw_varN rfl (by first | exact tyv_26 | exact tyv_27 | exact tyv_36 | exact tyv_37 | exact tyv_38 | exact tyv_39 | exact tyv_67 | exact tyv_68 | exact tyv_112 | exact tyv_113) rfl (tZ rfl) (fun _ => rfl) rfl rfl ?_; intro N1 wn hN1 HF hb; replace hw := grow_trans hw hb; clear hb
    repeat' (first | (refine lw_pure rfl (pv_move rfl) ?_) | (refine lw_pure rfl (pv_assign rfl) ?_) | (refine lw_call (f := 37) (by kernel_rfl) rfl rfl (rfindP_e hg rfl (HP.mono hw)) ?_; rintro e w1 ⟨rfl, hb⟩; refine ⟨_, rfl, ?_⟩; replace hw := grow_trans hw hb; clear hb) | (refine is_cw ?_; first | (refine cw_seq ?_) | (refine cw_region ?_)) | (refine is_qw ?_; first | (with_reducible refine qw_then ?_)) | (refine lw_nil ?_) | ((refine is_load ?_; first | (refine lw_pure rfl (pv_load (t1 rfl) rfl (by first | exact SlR.ld (HN.mono hw) hx1 rfl | exact SlR.ld1 (HN.mono hw) hx1 rfl)) ?_))) | ((refine is_ia ?_; first | (refine lw_pure rfl (pv_ia (tS rfl) rfl rfl (by omega)) ?_))) | (refine lw_pure rfl (pv_extract rfl rfl) ?_))
    refine lw_varN rfl (by first | exact tyv_26 | exact tyv_27 | exact tyv_36 | exact tyv_37 | exact tyv_38 | exact tyv_39 | exact tyv_67 | exact tyv_68 | exact tyv_112 | exact tyv_113) rfl (tZ rfl) (fun _ => rfl) rfl rfl ?_; intro N2 wn hN2 HG hb; replace hw := grow_trans hw hb; clear hb
    repeat' (first | (refine lw_pure rfl (pv_move rfl) ?_) | (refine lw_pure rfl (pv_assign rfl) ?_) | (refine is_cw ?_; first | (refine cw_seq ?_) | (refine cw_region ?_) | (refine cw_true rfl rfl ?_) | (refine cw_ret ?_)) | (refine is_qw ?_; first | (with_reducible refine qw_then ?_) | (with_reducible refine qw_then_ret ?_) | (with_reducible refine qw_in_ret ?_)) | (refine lw_nil ?_) | (refine is_guarded ?_; first | (refine lw_not rfl rfl rfl rfl ?_)) | ((refine is_un ?_; first | (refine lw_pure rfl (pv_not rfl) ?_))) | (refine lw_pure rfl (pv_pick_t rfl rfl rfl) ?_))
    exact qw_ret3 rfl rfl rfl rfl ⟨ref_nil _ _, grow_trans hw0 hw⟩
  | some r =>
    cases hg : findP p n1 with
    | none =>
      have hR : tradedR p t e = ([], [], 5) := by unfold tradedR; rw [hn0, hn1, hf, hg]
      rw [hR]
      repeat' (first | (refine lw_pure rfl (pv_move rfl) ?_) | (refine lw_call (f := 37) (by kernel_rfl) rfl rfl (rfindP_e hf rfl (HP.mono hw)) ?_; rintro e w1 ⟨rfl, hb⟩; refine ⟨_, rfl, ?_⟩; replace hw := grow_trans hw hb; clear hb) | ((refine is_load ?_; first | (refine lw_pure rfl (pv_load (t1 rfl) rfl (by first | exact PT.ld0 (H.mono hw) rfl | exact PT.ld (H.mono hw) rfl | exact SlR.ld (HN.mono hw) hx0 rfl | exact SlR.ld1 (HN.mono hw) hx0 rfl)) ?_))) | (refine lw_pure rfl (pv_extract rfl rfl) ?_))
      refine lw_varN rfl (by first | exact tyv_26 | exact tyv_27 | exact tyv_36 | exact tyv_37 | exact tyv_38 | exact tyv_39 | exact tyv_67 | exact tyv_68 | exact tyv_112 | exact tyv_113) rfl (tZ rfl) (fun _ => rfl) rfl rfl ?_; intro N1 wn hN1 HF hb; replace hw := grow_trans hw hb; clear hb
      repeat' (first | (refine lw_pure rfl (pv_move rfl) ?_) | (refine lw_pure rfl (pv_assign rfl) ?_) | (refine lw_call (f := 37) (by kernel_rfl) rfl rfl (rfindP_e hg rfl (HP.mono hw)) ?_; rintro e w1 ⟨rfl, hb⟩; refine ⟨_, rfl, ?_⟩; replace hw := grow_trans hw hb; clear hb) | (refine is_cw ?_; first | (refine cw_seq ?_) | (refine cw_region ?_)) | (refine is_qw ?_; first | (with_reducible refine qw_then ?_)) | (refine lw_nil ?_) | ((refine is_load ?_; first | (refine lw_pure rfl (pv_load (t1 rfl) rfl (by first | exact SlR.ld (HN.mono hw) hx1 rfl | exact SlR.ld1 (HN.mono hw) hx1 rfl)) ?_))) | ((refine is_ia ?_; first | (refine lw_pure rfl (pv_ia (tS rfl) rfl rfl (by omega)) ?_))) | (refine lw_pure rfl (pv_extract rfl rfl) ?_))
      refine lw_varN rfl (by first | exact tyv_26 | exact tyv_27 | exact tyv_36 | exact tyv_37 | exact tyv_38 | exact tyv_39 | exact tyv_67 | exact tyv_68 | exact tyv_112 | exact tyv_113) rfl (tZ rfl) (fun _ => rfl) rfl rfl ?_; intro N2 wn hN2 HG hb; replace hw := grow_trans hw hb; clear hb
      repeat' (first | (refine lw_pure rfl (pv_move rfl) ?_) | (refine lw_pure rfl (pv_assign rfl) ?_) | (refine is_cw ?_; first | (refine cw_seq ?_) | (refine cw_region ?_) | (refine cw_true rfl rfl ?_) | (refine cw_ret ?_)) | (refine is_qw ?_; first | (with_reducible refine qw_then ?_) | (with_reducible refine qw_then_ret ?_) | (with_reducible refine qw_in_ret ?_)) | (refine lw_nil ?_) | (refine is_guarded ?_; first | (refine lw_on rfl rfl rfl ?_)) | ((refine is_un ?_; first | (refine lw_pure rfl (pv_not rfl) ?_))) | (refine lw_pure rfl (pv_pick_f rfl rfl rfl) ?_))
      exact qw_ret3 rfl rfl rfl rfl ⟨ref_nil _ _, grow_trans hw0 hw⟩
    | some s =>
      have hR : tradedR p t e = if n0 = n1 ∨ r.left < n3 ∨ s.left < n3 then ([], [], 1) else (lessP (lessP p n0 n3) n1 n3, t, 0) := by unfold tradedR; rw [hn0, hn1, hn3, hf, hg]
      rw [hR]
      clear hR
      have hlp := less_len p n0 n3
      have hlf2 := less_in (id := n0) (q := n3) (by omega) hlf
      repeat' (first | (refine lw_pure rfl (pv_move rfl) ?_) | (refine lw_call (f := 37) (by kernel_rfl) rfl rfl (rfindP_s hf rfl (HP.mono hw)) ?_; rintro e w1 ⟨rfl, hb⟩; refine ⟨_, rfl, ?_⟩; replace hw := grow_trans hw hb; clear hb) | ((refine is_load ?_; first | (refine lw_pure rfl (pv_load (t1 rfl) rfl (by first | exact PT.ld0 (H.mono hw) rfl | exact PT.ld (H.mono hw) rfl | exact SlR.ld (HN.mono hw) hx0 rfl | exact SlR.ld1 (HN.mono hw) hx0 rfl)) ?_))) | (refine lw_pure rfl (pv_extract rfl rfl) ?_))
      refine lw_varN rfl (by first | exact tyv_26 | exact tyv_27 | exact tyv_36 | exact tyv_37 | exact tyv_38 | exact tyv_39 | exact tyv_67 | exact tyv_68 | exact tyv_112 | exact tyv_113) rfl (tZ rfl) (fun _ => rfl) rfl rfl ?_; intro N1 wn hN1 HF hb; replace hw := grow_trans hw hb; clear hb
      have hwE := grow_trans hw0 hw
      replace HN := HN.mono hw
      replace HP := HP.mono hw
      replace HL := HL.mono hw
      clear hw
      have hw := Below.refl wn.heap.size wn
      clear hw0
      have hw0 := hwE
      clear hwE
      repeat' (first | (refine lw_pure rfl (pv_move rfl) ?_) | (refine lw_pure rfl (pv_assign rfl) ?_) | (refine lw_call (f := 37) (by kernel_rfl) rfl rfl (rfindP_s hg rfl (HP.mono hw)) ?_; rintro e w1 ⟨rfl, hb⟩; refine ⟨_, rfl, ?_⟩; replace hw := grow_trans hw hb; clear hb) | (refine is_cw ?_; first | (refine cw_seq ?_) | (refine cw_region ?_)) | (refine is_qw ?_; first | (with_reducible refine qw_then ?_)) | (refine lw_nil ?_) | ((refine is_load ?_; first | (refine lw_pure rfl (pv_load (t1 rfl) rfl (by first | exact SlR.ld (HN.mono hw) hx1 rfl | exact SlR.ld1 (HN.mono hw) hx1 rfl)) ?_))) | ((refine is_ia ?_; first | (refine lw_pure rfl (pv_ia (tS rfl) rfl rfl (by omega)) ?_))) | (refine lw_pure rfl (pv_extract rfl rfl) ?_))
      refine lw_varN rfl (by first | exact tyv_26 | exact tyv_27 | exact tyv_36 | exact tyv_37 | exact tyv_38 | exact tyv_39 | exact tyv_67 | exact tyv_68 | exact tyv_112 | exact tyv_113) rfl (tZ rfl) (fun _ => rfl) rfl rfl ?_; intro N2 wn hN2 HG hb; replace hw := grow_trans hw hb; clear hb
      replace HF := HF.mono hw
      have hwE := grow_trans hw0 hw
      replace HN := HN.mono hw
      replace HP := HP.mono hw
      replace HL := HL.mono hw
      clear hw
      have hw := Below.refl wn.heap.size wn
      repeat' (first | (refine lw_pure rfl (pv_move rfl) ?_) | (refine lw_pure rfl (pv_assign rfl) ?_) | (refine is_cw ?_; first | (refine cw_seq ?_) | (refine cw_region ?_) | (refine cw_false rfl rfl ?_) | (refine cw_skip ?_)) | (refine is_qw ?_; first | (with_reducible refine qw_then ?_)) | (refine lw_nil ?_) | (refine is_guarded ?_; first | (refine lw_on rfl rfl rfl ?_)) | ((refine is_un ?_; first | (refine lw_pure rfl (pv_not rfl) ?_))) | (refine lw_pure rfl (pv_pick_f rfl rfl rfl) ?_))
      refine cw_drawn (fun w' => Below wn.heap.size wn w') (by kernel_rfl) (by repeat (first | exact NoPanic.body | with_reducible refine NoPanic.then ?_ | with_reducible refine NoPanic.inBlock ?_)) (fun hNP => ?_)
      have hS := hw.drew
      all_goals (refine aw_take 0 rfl (by kernel_rfl) (by kernel_rfl) (by kernel_rfl) hNP hS rfl (fun w' hq => pv_move rfl) ?_)
      all_goals (refine aw_take 1 rfl (by kernel_rfl) (by kernel_rfl) (by kernel_rfl) hNP hS rfl (fun w' hq => pv_ia (tS rfl) rfl rfl (by omega)) ?_)
      all_goals (refine aw_take 2 rfl (by kernel_rfl) (by kernel_rfl) (by kernel_rfl) hNP hS rfl (fun w' hq => pv_load (t1 rfl) rfl (by first | exact SlR.ld (HN.mono hq) hx0 rfl | exact SlR.ld1 (HN.mono hq) hx0 rfl | exact SlR.ld (HN.mono hq) hx1 rfl | exact SlR.ld1 (HN.mono hq) hx1 rfl | exact SlR.ld (HN.mono hq) hx3 rfl | exact SlR.ld1 (HN.mono hq) hx3 rfl | exact PT.ld0 (HF.mono hq) rfl | exact PT.ld (HF.mono hq) rfl | exact PT.ld0 (HG.mono hq) rfl | exact PT.ld (HG.mono hq) rfl)) ?_)
      all_goals (refine aw_take 3 rfl (by kernel_rfl) (by kernel_rfl) (by kernel_rfl) hNP hS rfl (fun w' hq => pv_move rfl) ?_)
      all_goals (refine aw_take 4 rfl (by kernel_rfl) (by kernel_rfl) (by kernel_rfl) hNP hS rfl (fun w' hq => pv_ia (tS rfl) rfl rfl (by omega)) ?_)
      all_goals (refine aw_take 5 rfl (by kernel_rfl) (by kernel_rfl) (by kernel_rfl) hNP hS rfl (fun w' hq => pv_load (t1 rfl) rfl (by first | exact SlR.ld (HN.mono hq) hx0 rfl | exact SlR.ld1 (HN.mono hq) hx0 rfl | exact SlR.ld (HN.mono hq) hx1 rfl | exact SlR.ld1 (HN.mono hq) hx1 rfl | exact SlR.ld (HN.mono hq) hx3 rfl | exact SlR.ld1 (HN.mono hq) hx3 rfl | exact PT.ld0 (HF.mono hq) rfl | exact PT.ld (HF.mono hq) rfl | exact PT.ld0 (HG.mono hq) rfl | exact PT.ld (HG.mono hq) rfl)) ?_)
      all_goals (refine aw_take 6 rfl (by kernel_rfl) (by kernel_rfl) (by kernel_rfl) hNP hS rfl (fun w' hq => pv_eql rfl rfl) ?_)
      all_goals (refine aw_take 7 rfl (by kernel_rfl) (by kernel_rfl) (by kernel_rfl) hNP hS rfl (fun w' hq => pv_move rfl) ?_)
      all_goals (refine aw_gs 8 rfl rfl rfl (by kernel_rfl) (by kernel_rfl) (by kernel_rfl) hNP hS rfl (fun hc w' hq => pv_move rfl) (fun hc => ?_) (fun hc => ?_) <;> (first | replace hc := of_decide_eq_true hc | replace hc := of_decide_eq_false hc | replace hc := dec_nT hc | replace hc := dec_nF hc | skip) <;> (try (exfalso; omega)))
      all_goals first | (refine aw_not 9 rfl rfl rfl (by first | assumption | exact decide_eq_true (by omega) | exact decide_eq_false (by omega) | exact dec_notT (by omega) | exact dec_notF (by omega)) (by kernel_rfl) (by kernel_rfl) (by kernel_rfl) hNP hS rfl ?_) | (refine aw_take_on 9 rfl rfl rfl (by first | assumption | exact decide_eq_true (by omega) | exact decide_eq_false (by omega) | exact dec_notT (by omega) | exact dec_notF (by omega)) (by kernel_rfl) (by kernel_rfl) (by kernel_rfl) hNP hS rfl (fun w' hq => pv_ia (tS rfl) rfl rfl (by omega)) ?_)
      all_goals first | (refine aw_not 10 rfl rfl rfl (by first | assumption | exact decide_eq_true (by omega) | exact decide_eq_false (by omega) | exact dec_notT (by omega) | exact dec_notF (by omega)) (by kernel_rfl) (by kernel_rfl) (by kernel_rfl) hNP hS rfl ?_) | (refine aw_take_on 10 rfl rfl rfl (by first | assumption | exact decide_eq_true (by omega) | exact decide_eq_false (by omega) | exact dec_notT (by omega) | exact dec_notF (by omega)) (by kernel_rfl) (by kernel_rfl) (by kernel_rfl) hNP hS rfl (fun w' hq => pv_load (t1 rfl) rfl (by first | exact SlR.ld (HN.mono hq) hx0 rfl | exact SlR.ld1 (HN.mono hq) hx0 rfl | exact SlR.ld (HN.mono hq) hx1 rfl | exact SlR.ld1 (HN.mono hq) hx1 rfl | exact SlR.ld (HN.mono hq) hx3 rfl | exact SlR.ld1 (HN.mono hq) hx3 rfl | exact PT.ld0 (HF.mono hq) rfl | exact PT.ld (HF.mono hq) rfl | exact PT.ld0 (HG.mono hq) rfl | exact PT.ld (HG.mono hq) rfl)) ?_)
      all_goals first | (refine aw_not 11 rfl rfl rfl (by first | assumption | exact decide_eq_true (by omega) | exact decide_eq_false (by omega) | exact dec_notT (by omega) | exact dec_notF (by omega)) (by kernel_rfl) (by kernel_rfl) (by kernel_rfl) hNP hS rfl ?_) | (refine aw_take_on 11 rfl rfl rfl (by first | assumption | exact decide_eq_true (by omega) | exact decide_eq_false (by omega) | exact dec_notT (by omega) | exact dec_notF (by omega)) (by kernel_rfl) (by kernel_rfl) (by kernel_rfl) hNP hS rfl (fun w' hq => pv_fa (tF rfl) rfl) ?_)
      all_goals first | (refine aw_not 12 rfl rfl rfl (by first | assumption | exact decide_eq_true (by omega) | exact decide_eq_false (by omega) | exact dec_notT (by omega) | exact dec_notF (by omega)) (by kernel_rfl) (by kernel_rfl) (by kernel_rfl) hNP hS rfl ?_) | (refine aw_take_on 12 rfl rfl rfl (by first | assumption | exact decide_eq_true (by omega) | exact decide_eq_false (by omega) | exact dec_notT (by omega) | exact dec_notF (by omega)) (by kernel_rfl) (by kernel_rfl) (by kernel_rfl) hNP hS rfl (fun w' hq => pv_load (t1 rfl) rfl (by first | exact SlR.ld (HN.mono hq) hx0 rfl | exact SlR.ld1 (HN.mono hq) hx0 rfl | exact SlR.ld (HN.mono hq) hx1 rfl | exact SlR.ld1 (HN.mono hq) hx1 rfl | exact SlR.ld (HN.mono hq) hx3 rfl | exact SlR.ld1 (HN.mono hq) hx3 rfl | exact PT.ld0 (HF.mono hq) rfl | exact PT.ld (HF.mono hq) rfl | exact PT.ld0 (HG.mono hq) rfl | exact PT.ld (HG.mono hq) rfl)) ?_)
      all_goals first | (refine aw_not 13 rfl rfl rfl (by first | assumption | exact decide_eq_true (by omega) | exact decide_eq_false (by omega) | exact dec_notT (by omega) | exact dec_notF (by omega)) (by kernel_rfl) (by kernel_rfl) (by kernel_rfl) hNP hS rfl ?_) | (refine aw_take_on 13 rfl rfl rfl (by first | assumption | exact decide_eq_true (by omega) | exact decide_eq_false (by omega) | exact dec_notT (by omega) | exact dec_notF (by omega)) (by kernel_rfl) (by kernel_rfl) (by kernel_rfl) hNP hS rfl (fun w' hq => pv_gtr rfl rfl) ?_)
      all_goals first | (refine aw_take 14 rfl (by kernel_rfl) (by kernel_rfl) (by kernel_rfl) hNP hS rfl (fun w' hq => pv_pick_t rfl (by first | assumption | exact decide_eq_true (by omega) | exact dec_notT (by omega)) rfl) ?_) | (refine aw_take 14 rfl (by kernel_rfl) (by kernel_rfl) (by kernel_rfl) hNP hS rfl (fun w' hq => pv_pick_f rfl (by first | assumption | exact decide_eq_false (by omega) | exact dec_notF (by omega)) rfl) ?_)
      all_goals (refine aw_take 15 rfl (by kernel_rfl) (by kernel_rfl) (by kernel_rfl) hNP hS rfl (fun w' hq => pv_move rfl) ?_)
      all_goals first | (refine aw_not 16 rfl rfl rfl rfl (by kernel_rfl) (by kernel_rfl) (by kernel_rfl) hNP hS rfl ?_) | (refine aw_gs 16 rfl rfl rfl (by kernel_rfl) (by kernel_rfl) (by kernel_rfl) hNP hS rfl (fun hc w' hq => pv_move rfl) (fun hc => ?_) (fun hc => ?_) <;> (first | replace hc := of_decide_eq_true hc | replace hc := of_decide_eq_false hc | replace hc := dec_nT hc | replace hc := dec_nF hc | skip) <;> (try (exfalso; omega)))
      all_goals first | (refine aw_not 17 rfl rfl rfl rfl (by kernel_rfl) (by kernel_rfl) (by kernel_rfl) hNP hS rfl ?_) | (refine aw_not 17 rfl rfl rfl (by first | assumption | exact decide_eq_true (by omega) | exact decide_eq_false (by omega) | exact dec_notT (by omega) | exact dec_notF (by omega)) (by kernel_rfl) (by kernel_rfl) (by kernel_rfl) hNP hS rfl ?_) | (refine aw_take_on 17 rfl rfl rfl (by first | assumption | exact decide_eq_true (by omega) | exact decide_eq_false (by omega) | exact dec_notT (by omega) | exact dec_notF (by omega)) (by kernel_rfl) (by kernel_rfl) (by kernel_rfl) hNP hS rfl (fun w' hq => pv_ia (tS rfl) rfl rfl (by omega)) ?_)
      all_goals first | (refine aw_not 18 rfl rfl rfl rfl (by kernel_rfl) (by kernel_rfl) (by kernel_rfl) hNP hS rfl ?_) | (refine aw_not 18 rfl rfl rfl (by first | assumption | exact decide_eq_true (by omega) | exact decide_eq_false (by omega) | exact dec_notT (by omega) | exact dec_notF (by omega)) (by kernel_rfl) (by kernel_rfl) (by kernel_rfl) hNP hS rfl ?_) | (refine aw_take_on 18 rfl rfl rfl (by first | assumption | exact decide_eq_true (by omega) | exact decide_eq_false (by omega) | exact dec_notT (by omega) | exact dec_notF (by omega)) (by kernel_rfl) (by kernel_rfl) (by kernel_rfl) hNP hS rfl (fun w' hq => pv_load (t1 rfl) rfl (by first | exact SlR.ld (HN.mono hq) hx0 rfl | exact SlR.ld1 (HN.mono hq) hx0 rfl | exact SlR.ld (HN.mono hq) hx1 rfl | exact SlR.ld1 (HN.mono hq) hx1 rfl | exact SlR.ld (HN.mono hq) hx3 rfl | exact SlR.ld1 (HN.mono hq) hx3 rfl | exact PT.ld0 (HF.mono hq) rfl | exact PT.ld (HF.mono hq) rfl | exact PT.ld0 (HG.mono hq) rfl | exact PT.ld (HG.mono hq) rfl)) ?_)
      all_goals first | (refine aw_not 19 rfl rfl rfl rfl (by kernel_rfl) (by kernel_rfl) (by kernel_rfl) hNP hS rfl ?_) | (refine aw_not 19 rfl rfl rfl (by first | assumption | exact decide_eq_true (by omega) | exact decide_eq_false (by omega) | exact dec_notT (by omega) | exact dec_notF (by omega)) (by kernel_rfl) (by kernel_rfl) (by kernel_rfl) hNP hS rfl ?_) | (refine aw_take_on 19 rfl rfl rfl (by first | assumption | exact decide_eq_true (by omega) | exact decide_eq_false (by omega) | exact dec_notT (by omega) | exact dec_notF (by omega)) (by kernel_rfl) (by kernel_rfl) (by kernel_rfl) hNP hS rfl (fun w' hq => pv_fa (tF rfl) rfl) ?_)
      all_goals first | (refine aw_not 20 rfl rfl rfl rfl (by kernel_rfl) (by kernel_rfl) (by kernel_rfl) hNP hS rfl ?_) | (refine aw_not 20 rfl rfl rfl (by first | assumption | exact decide_eq_true (by omega) | exact decide_eq_false (by omega) | exact dec_notT (by omega) | exact dec_notF (by omega)) (by kernel_rfl) (by kernel_rfl) (by kernel_rfl) hNP hS rfl ?_) | (refine aw_take_on 20 rfl rfl rfl (by first | assumption | exact decide_eq_true (by omega) | exact decide_eq_false (by omega) | exact dec_notT (by omega) | exact dec_notF (by omega)) (by kernel_rfl) (by kernel_rfl) (by kernel_rfl) hNP hS rfl (fun w' hq => pv_load (t1 rfl) rfl (by first | exact SlR.ld (HN.mono hq) hx0 rfl | exact SlR.ld1 (HN.mono hq) hx0 rfl | exact SlR.ld (HN.mono hq) hx1 rfl | exact SlR.ld1 (HN.mono hq) hx1 rfl | exact SlR.ld (HN.mono hq) hx3 rfl | exact SlR.ld1 (HN.mono hq) hx3 rfl | exact PT.ld0 (HF.mono hq) rfl | exact PT.ld (HF.mono hq) rfl | exact PT.ld0 (HG.mono hq) rfl | exact PT.ld (HG.mono hq) rfl)) ?_)
      all_goals first | (refine aw_not 21 rfl rfl rfl rfl (by kernel_rfl) (by kernel_rfl) (by kernel_rfl) hNP hS rfl ?_) | (refine aw_not 21 rfl rfl rfl (by first | assumption | exact decide_eq_true (by omega) | exact decide_eq_false (by omega) | exact dec_notT (by omega) | exact dec_notF (by omega)) (by kernel_rfl) (by kernel_rfl) (by kernel_rfl) hNP hS rfl ?_) | (refine aw_take_on 21 rfl rfl rfl (by first | assumption | exact decide_eq_true (by omega) | exact decide_eq_false (by omega) | exact dec_notT (by omega) | exact dec_notF (by omega)) (by kernel_rfl) (by kernel_rfl) (by kernel_rfl) hNP hS rfl (fun w' hq => pv_gtr rfl rfl) ?_)
      all_goals first | (refine aw_take 22 rfl (by kernel_rfl) (by kernel_rfl) (by kernel_rfl) hNP hS rfl (fun w' hq => pv_pick_t rfl rfl rfl) ?_) | (refine aw_take 22 rfl (by kernel_rfl) (by kernel_rfl) (by kernel_rfl) hNP hS rfl (fun w' hq => pv_pick_t rfl (by first | assumption | exact decide_eq_true (by omega) | exact dec_notT (by omega)) rfl) ?_) | (refine aw_take 22 rfl (by kernel_rfl) (by kernel_rfl) (by kernel_rfl) hNP hS rfl (fun w' hq => pv_pick_f rfl (by first | assumption | exact decide_eq_false (by omega) | exact dec_notF (by omega)) rfl) ?_)
      all_goals (refine aw_done (by kernel_rfl) ?_; replace hw := hS; clear hS hNP)
      repeat' (first | (refine lw_pure rfl (pv_assign rfl) ?_) | (refine is_cw ?_; first | (refine cw_seq ?_) | (refine cw_region ?_) | (refine cw_true rfl rfl ?_) | (refine cw_skip ?_) | (refine cw_ret ?_)) | (refine is_qw ?_; first | (with_reducible refine qw_then ?_) | (with_reducible refine qw_then_ret ?_) | (with_reducible refine qw_in_ret ?_)) | (refine lw_nil ?_) | (refine is_cw ?_; refine cw_split rfl (fun hc => ?_) (fun hc => ?_) <;> (first | replace hc := of_decide_eq_true hc | replace hc := of_decide_eq_false hc | replace hc := dec_nT hc | replace hc := dec_nF hc | skip) <;> (try (exfalso; omega))))
      all_goals first | (exact qw_ret3 rfl rfl rfl rfl ⟨by rw [if_pos (by omega)]; exact ref_nil _ _, grow_trans hwE hw⟩) | skip
      rw [if_neg (by omega)]
      refine cw_drawn (fun w' => Below wn.heap.size wn w') (by kernel_rfl) (by repeat (first | exact NoPanic.body | with_reducible refine NoPanic.then ?_ | with_reducible refine NoPanic.inBlock ?_)) (fun hNP => ?_)
      have hS := hw.drew
      (refine aw_take 0 rfl (by kernel_rfl) (by kernel_rfl) (by kernel_rfl) hNP hS rfl (fun w' hq => pv_move rfl) ?_)
      (refine aw_take 1 rfl (by kernel_rfl) (by kernel_rfl) (by kernel_rfl) hNP hS rfl (fun w' hq => pv_move rfl) ?_)
      (refine aw_take 2 rfl (by kernel_rfl) (by kernel_rfl) (by kernel_rfl) hNP hS rfl (fun w' hq => pv_ia (tS rfl) rfl rfl (by omega)) ?_)
      (refine aw_take 3 rfl (by kernel_rfl) (by kernel_rfl) (by kernel_rfl) hNP hS rfl (fun w' hq => pv_load (t1 rfl) rfl (by first | exact SlR.ld (HN.mono hq) hx0 rfl | exact SlR.ld1 (HN.mono hq) hx0 rfl | exact SlR.ld (HN.mono hq) hx1 rfl | exact SlR.ld1 (HN.mono hq) hx1 rfl | exact SlR.ld (HN.mono hq) hx3 rfl | exact SlR.ld1 (HN.mono hq) hx3 rfl)) ?_)
      (refine aw_take 4 rfl (by kernel_rfl) (by kernel_rfl) (by kernel_rfl) hNP hS rfl (fun w' hq => pv_move rfl) ?_)
      (refine aw_take 5 rfl (by kernel_rfl) (by kernel_rfl) (by kernel_rfl) hNP hS rfl (fun w' hq => pv_ia (tS rfl) rfl rfl (by omega)) ?_)
      (refine aw_take 6 rfl (by kernel_rfl) (by kernel_rfl) (by kernel_rfl) hNP hS rfl (fun w' hq => pv_load (t1 rfl) rfl (by first | exact SlR.ld (HN.mono hq) hx0 rfl | exact SlR.ld1 (HN.mono hq) hx0 rfl | exact SlR.ld (HN.mono hq) hx1 rfl | exact SlR.ld1 (HN.mono hq) hx1 rfl | exact SlR.ld (HN.mono hq) hx3 rfl | exact SlR.ld1 (HN.mono hq) hx3 rfl)) ?_)
      (refine aw_take 8 rfl (by kernel_rfl) (by kernel_rfl) (by kernel_rfl) hNP hS rfl (fun w' hq => pv_move rfl) ?_)
      (refine aw_take 9 rfl (by kernel_rfl) (by kernel_rfl) (by kernel_rfl) hNP hS rfl (fun w' hq => pv_ia (tS rfl) rfl rfl (by omega)) ?_)
      (refine aw_take 10 rfl (by kernel_rfl) (by kernel_rfl) (by kernel_rfl) hNP hS rfl (fun w' hq => pv_load (t1 rfl) rfl (by first | exact SlR.ld (HN.mono hq) hx0 rfl | exact SlR.ld1 (HN.mono hq) hx0 rfl | exact SlR.ld (HN.mono hq) hx1 rfl | exact SlR.ld1 (HN.mono hq) hx1 rfl | exact SlR.ld (HN.mono hq) hx3 rfl | exact SlR.ld1 (HN.mono hq) hx3 rfl)) ?_)
      (refine aw_take 11 rfl (by kernel_rfl) (by kernel_rfl) (by kernel_rfl) hNP hS rfl (fun w' hq => pv_move rfl) ?_)
      (refine aw_take 12 rfl (by kernel_rfl) (by kernel_rfl) (by kernel_rfl) hNP hS rfl (fun w' hq => pv_ia (tS rfl) rfl rfl (by omega)) ?_)
      (refine aw_take 13 rfl (by kernel_rfl) (by kernel_rfl) (by kernel_rfl) hNP hS rfl (fun w' hq => pv_load (t1 rfl) rfl (by first | exact SlR.ld (HN.mono hq) hx0 rfl | exact SlR.ld1 (HN.mono hq) hx0 rfl | exact SlR.ld (HN.mono hq) hx1 rfl | exact SlR.ld1 (HN.mono hq) hx1 rfl | exact SlR.ld (HN.mono hq) hx3 rfl | exact SlR.ld1 (HN.mono hq) hx3 rfl)) ?_)
      (refine aw_take 15 rfl (by kernel_rfl) (by kernel_rfl) (by kernel_rfl) hNP hS rfl (fun w' hq => pv_move rfl) ?_)
      refine aw_act 7 (by kernel_rfl) rfl rfl rfl ?_
      refine act_call (f := 39) (by kernel_rfl) rfl (less_c n0 n3 rfl (HP.mono hS) (by omega) hlf (by omega)) ?_; rintro e1 w5 ⟨⟨v, rfl, hO⟩, hb⟩; obtain ⟨va, vc, rfl, hV, -⟩ := Own.slR encP_len hO; clear hO; refine ⟨_, rfl, grow_trans hS hb, fun hS => ?_⟩
      refine aw_act 14 (by kernel_rfl) rfl rfl rfl ?_
      refine act_call (f := 39) (by kernel_rfl) rfl (less_c n1 n3 rfl hV (by omega) hlf2 (by omega)) ?_; clear hV; rintro e1 w5 ⟨⟨v, rfl, hO⟩, hb⟩; obtain ⟨va, vc, rfl, hV, -⟩ := Own.slR encP_len hO; clear hO; refine ⟨_, rfl, grow_trans hS hb, fun hS => ?_⟩
      (refine aw_take 16 rfl (by kernel_rfl) (by kernel_rfl) (by kernel_rfl) hNP hS rfl (fun w' hq => pv_assign rfl) ?_)
      (refine aw_take 17 rfl (by kernel_rfl) (by kernel_rfl) (by kernel_rfl) hNP hS rfl (fun w' hq => pv_assign rfl) ?_)
      (refine aw_take 18 rfl (by kernel_rfl) (by kernel_rfl) (by kernel_rfl) hNP hS rfl (fun w' hq => pv_assign rfl) ?_)
      refine aw_done (by kernel_rfl) ?_
      replace hw := hS; clear hS hNP
      repeat' (first | (refine is_cw ?_; first | (refine cw_ret ?_)) | (refine is_qw ?_; first | (with_reducible refine qw_then ?_) | (with_reducible refine qw_then_ret ?_) | (with_reducible refine qw_in_ret ?_)))
      exact qw_ret3 rfl rfl rfl rfl ⟨⟨_, _, _, _, rfl, hV, HL.mono hw⟩, grow_trans hwE hw⟩
end Go.Proofs.YtkehmbgcglbffaaGreatDoor
