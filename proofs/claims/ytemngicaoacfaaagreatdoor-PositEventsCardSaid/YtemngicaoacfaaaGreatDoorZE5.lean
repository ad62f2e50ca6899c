/-
  PositEvents: its row and its card: whatever the input: true; the input reads as it did. Conditions: what the row prints (the table of functions reads as the program's text lays it).
-/
import Derived.Test.YtemngicaoacfaaaGreatDoorZE4
import Derived.Test.YtemngicaoacfaaaGreatDoorTie
import Derived.Test.YtemngicaoacfaaaGreatDoorCards
import Derived.SevenTiedAt
namespace Go.Proofs.YtemngicaoacfaaaGreatDoor
open Go.RowKit Go.PlainAid

theorem rfind_e {p : List Opn} {m : Nat} {a : Option Addr} {ca : Nat} {w : World} {id : Int} {o : Opn} (h : findP p id = some o) (hm : p.length = m) (HP : SlR encP 6 w a ca p) : Calls Tryz.prog 41 #[.slice a m ca, .int .i64 id] w fun e w' => e = .returned (.tuple #[.agg (encP o).toArray, .bool true]) ∧ Below w.heap.size w w' := by
  have h1 := rfind_P id hm HP
  rw [h] at h1; exact h1
theorem rlot_e {p : List Lt} {m : Nat} {a : Option Addr} {ca : Nat} {w : World} {id : Int} {o : Lt} (h : findT p id = some o) (hm : p.length = m) (HP : SlR encL 4 w a ca p) : Calls Tryz.prog 43 #[.slice a m ca, .int .i64 id] w fun e w' => e = .returned (.tuple #[.agg (encL o).toArray, .bool true]) ∧ Below w.heap.size w w' := by
  have h1 := rfind_L id hm HP
  rw [h] at h1; exact h1
theorem rmay_e {l : List Pos} {m : Nat} {a : Option Addr} {ca : Nat} {w : World} {r : Bool} (h : mayPs l = r) (hm : l.length = m) (HS : SlR encS 6 w a ca l) : Calls Tryz.prog 40 #[.slice a m ca] w fun e w' => e = .returned (.bool r) ∧ Below w.heap.size w w' := by subst h; exact rmay_S hm HS
def RefS (w' : World) (e1 : Ending) (R : List Pos × Int) : Prop := ∃ a c, e1 = .returned (.tuple #[.slice a R.1.length c, .int .i64 R.2]) ∧ SlR encS 6 w' a c R.1
theorem refS_nil (w : World) (c : Int) : RefS w (.returned (.tuple #[.slice none 0 0, .int .i64 c])) ([], c) := ⟨_, _, rfl, SlR.nil _⟩
theorem refS_own {B : Nat} {w : World} {v : Value} {xs : List Pos} {c : Int} (h : Own encS 6 39 B w v xs) : RefS w (.returned (.tuple #[v, .int .i64 c])) (xs, c) := by
  obtain ⟨a, c, rfl, hS, -⟩ := Own.slR encS_len h
  exact ⟨_, _, rfl, hS⟩
set_option maxRecDepth 20000 in
set_option maxHeartbeats 16000000 in
theorem rpev_c {l : List Pos} {p : List Opn} {t : List Lt} {e : Evt} {ml mp mt mn mx : Nat} {al ap at_ an ax : Option Addr} {cl cp ct cn cx : Nat} {w : World} (hml : l.length = ml) (hl : l.length ≤ 65533) (hmp : p.length = mp) (hmt : t.length = mt) (hmn : e.nums.length = mn) (hmx : e.texts.length = mx) (HS : SlR encS 6 w al cl l) (HP : SlR encP 6 w ap cp p) (HL : SlR encL 4 w at_ ct t) (HN : SlR encI 1 w an cn e.nums) (HX : SlR encT 1 w ax cx e.texts) (hT : TxtIn e.texts) :
    Calls Tryz.prog 12 #[.slice al ml cl, .slice ap mp cp, .slice at_ mt ct, .agg #[.int .u8 e.v, .int .u8 e.kind, .slice an mn cn, .slice ax mx cx]] w fun e1 w' => RefS w' e1 (posR l p t e) ∧ Below w.heap.size w w' := by
  have hE := Ext.refl w
  have hw := Below.refl w.heap.size w
  have hcl := HS.le
  have hclm := HS.max
  refine fn_enter 189 Tryz.func12 rfl rfl rfl ?_
  repeat' (first | (refine is_cw ?_; first | (refine cw_seq ?_) | (refine cw_region ?_)))
  refine lw_boxN rfl rfl (cs := [.int .u8 e.v, .int .u8 e.kind, .slice an mn cn, .slice ax mx cx]) rfl ?_; intro N7 w7 hN7 HV hb
  replace hw := grow_trans hw hb
  clear hb
  replace hE := hE.mono hw; replace HS := HS.mono hw; replace HP := HP.mono hw; replace HL := HL.mono hw; replace HN := HN.mono hw; replace HX := HX.mono hw; clear hw; have hw := Below.refl w7.heap.size w7
  repeat' (first | (refine lw_pure rfl (pv_move rfl) ?_) | (refine lw_pure rfl (pv_assign rfl) ?_) | (refine is_cw ?_; first | (refine cw_seq ?_) | (refine cw_region ?_)) | (refine is_qw ?_; first | (with_reducible refine qw_then ?_)) | (refine lw_nil ?_) | ((refine is_load ?_; first | (refine lw_pure rfl (pv_loada (tA rfl) rfl (by first | exact PT.lda (HV.mono hw)) (by rfl)) ?_))))
  refine lw_call (f := 39) (by kernel_rfl) rfl rfl (rev_c hmp hmt hmn hmx HP HL HN HX hT) ?_; rintro e1 w1 ⟨⟨ra, rc, rb, rd, rfl, -, -⟩, hb⟩; refine ⟨_, rfl, ?_⟩
  replace hw := grow_trans hw hb
  clear hb
  replace hE := hE.mono hw; replace HS := HS.mono hw; replace HP := HP.mono hw; replace HL := HL.mono hw; replace HN := HN.mono hw; replace HV := HV.mono hw; clear hw; have hw := Below.refl w1.heap.size w1
  clear HX
  cases hmy : mayPs l with
  | false =>
    rw [posR_form (Or.inr hmy)]
    repeat' (first | (refine lw_pure rfl (pv_move rfl) ?_) | (refine lw_pure rfl (pv_assign rfl) ?_) | (refine lw_call (f := 40) (by kernel_rfl) rfl rfl (rmay_e hmy hml (HS.mono hw)) ?_; rintro e1 w2 ⟨rfl, hb⟩; refine ⟨_, rfl, ?_⟩; replace hw := grow_trans hw hb; clear hb) | (refine is_cw ?_; first | (refine cw_seq ?_) | (refine cw_region ?_) | (refine cw_true rfl rfl ?_) | (refine cw_ret ?_)) | (refine is_qw ?_; first | (with_reducible refine qw_then ?_) | (with_reducible refine qw_then_ret ?_)) | (refine lw_nil ?_) | (refine is_guarded ?_; first | (refine lw_not rfl rfl rfl rfl ?_)) | ((refine is_un ?_; first | (refine lw_pure rfl (pv_not rfl) ?_))) | (refine lw_pure rfl (pv_pick_t rfl rfl rfl) ?_) | (refine lw_pure rfl (pv_extract rfl rfl) ?_))
    exact qw_ret2 rfl rfl rfl ⟨refS_nil _ _, (hE.mono hw).b⟩
  | true =>
    have hM := mayPs_iff.1 hmy
    by_cases h4 : (eventR p t e).2.2 = 4
    · rw [posR_form (Or.inl h4)]
      repeat' (first | (refine lw_pure rfl (pv_move rfl) ?_) | (refine lw_pure rfl (pv_assign rfl) ?_) | (refine lw_call (f := 40) (by kernel_rfl) rfl rfl (rmay_e hmy hml (HS.mono hw)) ?_; rintro e1 w2 ⟨rfl, hb⟩; refine ⟨_, rfl, ?_⟩; replace hw := grow_trans hw hb; clear hb) | (refine is_cw ?_; first | (refine cw_seq ?_) | (refine cw_region ?_) | (refine cw_true rfl (by first | assumption | exact decide_eq_true (by omega) | exact dec_notT (by omega)) ?_) | (refine cw_ret ?_)) | (refine is_qw ?_; first | (with_reducible refine qw_then ?_) | (with_reducible refine qw_then_ret ?_)) | (refine lw_nil ?_) | (refine is_guarded ?_; first | (refine lw_on rfl rfl rfl ?_)) | ((refine is_bin ?_; first | (refine lw_pure rfl (pv_eql rfl rfl) ?_))) | ((refine is_un ?_; first | (refine lw_pure rfl (pv_not rfl) ?_))) | (refine lw_pure rfl (pv_pick_f rfl rfl rfl) ?_) | (refine lw_pure rfl (pv_extract rfl rfl) ?_))
      exact qw_ret2 rfl rfl rfl ⟨refS_nil _ _, (hE.mono hw).b⟩
    have hgo : ¬ ((eventR p t e).2.2 = 4 ∨ mayPs l = false) := by rw [hmy]; simp [h4]
    repeat' ((fail_if_success (refine is_seqr 4 ?_)); first | (refine lw_pure rfl (pv_move rfl) ?_) | (refine lw_pure rfl (pv_assign rfl) ?_) | (refine lw_call (f := 40) (by kernel_rfl) rfl rfl (rmay_e hmy hml (HS.mono hw)) ?_; rintro e1 w2 ⟨rfl, hb⟩; refine ⟨_, rfl, ?_⟩; replace hw := grow_trans hw hb; clear hb) | (refine is_cw ?_; first | (refine cw_seq ?_) | (refine cw_region ?_) | (refine cw_false rfl (by first | assumption | exact decide_eq_false (by omega) | exact dec_notF (by omega)) ?_) | (refine cw_skip ?_)) | (refine is_qw ?_; first | (with_reducible refine qw_then ?_)) | (refine lw_nil ?_) | (refine is_guarded ?_; first | (refine lw_on rfl rfl rfl ?_)) | ((refine is_bin ?_; first | (refine lw_pure rfl (pv_eql rfl rfl) ?_))) | ((refine is_un ?_; first | (refine lw_pure rfl (pv_not rfl) ?_))) | (refine lw_pure rfl (pv_pick_f rfl rfl rfl) ?_) | (refine lw_pure rfl (pv_extract rfl rfl) ?_))
    by_cases k1 : e.kind = 13
    · by_cases hf : (eventR p t e).2.2 = 0
      · obtain ⟨n0, n1, n2, n3, n4, oa, ob, hT⟩ := trade_at hf k1
        rw [posR_trade hgo hf k1 hT]
        have hns := hT.nums
        have hfa := hT.fa
        have hfb := hT.fb
        have hma := hT.ma
        have hmb := hT.mb
        have hg2 := hT.g2
        have hg3 := hT.g3
        have hg4 := hT.g4
        have hpd := hT.paid
        have x0 : e.nums[0]? = some n0 := by rw [hns]; rfl
        have x1 : e.nums[1]? = some n1 := by rw [hns]; rfl
        have x2 : e.nums[2]? = some n2 := by rw [hns]; rfl
        have x3 : e.nums[3]? = some n3 := by rw [hns]; rfl
        have x4 : e.nums[4]? = some n4 := by rw [hns]; rfl
        have hm5 : mn = 5 := by rw [← hmn, hns]; rfl
        clear hT
        obtain ⟨nb, no, rfl, -, -⟩ := HN.at (by rw [hns]; simp)
        clear hns
        repeat' (first | (refine lw_pure rfl (pv_move rfl) ?_) | (refine lw_pure rfl (pv_assign rfl) ?_) | (refine is_cw ?_; first | (refine cw_seq ?_) | (refine cw_region ?_) | (refine cw_true rfl (by first | assumption | exact decide_eq_true (by omega) | exact dec_notT (by omega)) ?_) | (refine cw_false rfl (by first | assumption | exact decide_eq_false (by omega) | exact dec_notF (by omega)) ?_) | (refine cw_skip ?_)) | (refine is_qw ?_; first | (with_reducible refine qw_then ?_)) | (refine lw_nil ?_) | ((refine is_bin ?_; first | (refine lw_pure rfl (pv_eql rfl rfl) ?_) | (refine lw_pure rfl (pv_neq rfl rfl) ?_))) | ((refine is_load ?_; first | (refine lw_pure rfl (pv_load (t1 rfl) rfl (by first | exact PT.ld0 (HV.mono hw) rfl | exact PT.ld (HV.mono hw) rfl | exact SlR.ld (HN.mono hw) x0 rfl | exact SlR.ld1 (HN.mono hw) x0 rfl)) ?_))) | ((refine is_fa ?_; first | (refine lw_pure rfl (pv_fa (tF rfl) rfl) ?_))) | ((refine is_ia ?_; first | (refine lw_pure rfl (pv_ia (tS rfl) rfl rfl (by omega)) ?_))))
        refine lw_call (f := 41) (by kernel_rfl) rfl rfl (rfind_e hfa hmp (HP.mono hw)) ?_; rintro e1 w2 ⟨rfl, hb⟩; refine ⟨_, rfl, ?_⟩; replace hw := grow_trans hw hb; clear hb
        repeat' (first | (refine lw_pure rfl (pv_move rfl) ?_) | (refine lw_pure rfl (pv_extract rfl rfl) ?_))
        refine lw_varN rfl (by first | exact tyv_27 | exact tyv_28 | exact tyv_38 | exact tyv_39 | exact tyv_48 | exact tyv_49 | exact tyv_52 | exact tyv_53 | exact tyv_68 | exact tyv_69 | exact tyv_79 | exact tyv_80 | exact tyv_94 | exact tyv_95 | exact tyv_131 | exact tyv_132) rfl (tZ rfl) (fun _ => rfl) rfl rfl ?_; intro N14 wn hN14 HA hb; replace hN14 := Nat.le_trans hw.size hN14; replace hw := grow_trans hw hb; clear hb
        replace HA : PT wn N14 49 (encP oa) := HA
        repeat' (first | (refine lw_pure rfl (pv_move rfl) ?_) | (refine lw_pure rfl (pv_assign rfl) ?_) | (refine is_cw ?_; first | (refine cw_seq ?_) | (refine cw_region ?_)) | (refine is_qw ?_; first | (with_reducible refine qw_then ?_)) | (refine lw_nil ?_) | ((refine is_load ?_; first | (refine lw_pure rfl (pv_load (t1 rfl) rfl (by first | exact SlR.ld (HN.mono hw) x1 rfl | exact SlR.ld1 (HN.mono hw) x1 rfl)) ?_))) | ((refine is_ia ?_; first | (refine lw_pure rfl (pv_ia (tS rfl) rfl rfl (by omega)) ?_))))
        refine lw_call (f := 41) (by kernel_rfl) rfl rfl (rfind_e hfb hmp (HP.mono hw)) ?_; rintro e1 w3 ⟨rfl, hb⟩; refine ⟨_, rfl, ?_⟩; replace HA := HA.mono hb; replace hw := grow_trans hw hb; clear hb
        repeat' (first | (refine lw_pure rfl (pv_move rfl) ?_) | (refine lw_pure rfl (pv_extract rfl rfl) ?_))
        refine lw_varN rfl (by first | exact tyv_27 | exact tyv_28 | exact tyv_38 | exact tyv_39 | exact tyv_48 | exact tyv_49 | exact tyv_52 | exact tyv_53 | exact tyv_68 | exact tyv_69 | exact tyv_79 | exact tyv_80 | exact tyv_94 | exact tyv_95 | exact tyv_131 | exact tyv_132) rfl (tZ rfl) (fun _ => rfl) rfl rfl ?_; intro N16 w4 hN16 HB hb
        replace HA := HA.mono hb
        replace hw := grow_trans hw hb
        clear hb
        replace HB : PT w4 N16 49 (encP ob) := HB
        replace hE := hE.mono hw; replace HS := HS.mono hw; replace HN := HN.mono hw; clear hw; have hw := Below.refl w4.heap.size w4
        repeat' (first | (refine lw_pure rfl (pv_assign rfl) ?_) | (refine is_cw ?_; first | (refine cw_seq ?_)) | (refine is_qw ?_; first | (with_reducible refine qw_then ?_)) | (refine lw_nil ?_))
        refine cw_drawn (fun w' => Below w4.heap.size w4 w') (by kernel_rfl) (by repeat (first | exact NoPanic.body | with_reducible refine NoPanic.then ?_ | with_reducible refine NoPanic.inBlock ?_)) (fun hNP => ?_)
        have hS := hw.drew
        (refine at0 0 rfl (fun w' hq => pv_move rfl) ?_)
        (refine at0 1 rfl (fun w' hq => pv_ia (tS rfl) rfl rfl (by omega)) ?_)
        (refine at0 2 rfl (fun w' hq => pv_load (t1 rfl) rfl (by first | exact SlR.ld (HN.mono hq) x2 rfl | exact SlR.ld1 (HN.mono hq) x2 rfl | exact SlR.ld (HN.mono hq) x3 rfl | exact SlR.ld1 (HN.mono hq) x3 rfl)) ?_)
        (refine at0 3 rfl (fun w' hq => pv_move rfl) ?_)
        (refine at0 4 rfl (fun w' hq => pv_ia (tS rfl) rfl rfl (by omega)) ?_)
        (refine at0 5 rfl (fun w' hq => pv_load (t1 rfl) rfl (by first | exact SlR.ld (HN.mono hq) x2 rfl | exact SlR.ld1 (HN.mono hq) x2 rfl | exact SlR.ld (HN.mono hq) x3 rfl | exact SlR.ld1 (HN.mono hq) x3 rfl)) ?_)
        (refine at0 6 rfl (fun w' hq => pv_mul rfl rfl (by omega)) ?_)
        (refine at0 7 rfl (fun w' hq => pv_assign rfl) ?_)
        refine aw_done (by kernel_rfl) ?_
        replace hw := hS; clear hS hNP
        by_cases hbad : oa.side = ob.side ∨ oa.inst ≠ ob.inst ∨ oa.acct = ob.acct ∨ n2 * n3 < n4
        · have htr : tradeS l oa ob n2 n3 n4 = ([], 1) := by
            unfold tradeS dealS
            by_cases c1 : oa.side = ob.side ∨ oa.inst ≠ ob.inst
            · rw [if_pos c1]
            · rw [if_neg c1]
              split
              · rw [if_pos (by omega)]
              · rw [if_pos (by omega)]
          rw [htr]
          repeat' (first | (refine lw_pure rfl (pv_move rfl) ?_) | (refine lw_pure rfl (pv_assign rfl) ?_) | (refine is_cw ?_; first | (refine cw_seq ?_) | (refine cw_region ?_) | (refine cw_true rfl rfl ?_) | (refine cw_true rfl (by first | assumption | exact decide_eq_true (by omega) | exact dec_notT (by omega)) ?_) | (refine cw_ret ?_)) | (refine is_qw ?_; first | (with_reducible refine qw_then ?_) | (with_reducible refine qw_then_ret ?_)) | (refine lw_nil ?_) | (refine is_guarded ?_; first | (refine lw_not rfl rfl rfl rfl ?_) | (refine lw_on rfl rfl (by first | assumption | exact decide_eq_true (by omega) | exact decide_eq_false (by omega) | exact dec_notT (by omega) | exact dec_notF (by omega)) ?_) | (refine lw_not rfl rfl rfl (by first | assumption | exact decide_eq_true (by omega) | exact decide_eq_false (by omega) | exact dec_notT (by omega) | exact dec_notF (by omega)) ?_) | (refine lw_gs_f rfl rfl rfl (fun hc => ?_) (fun hc => ?_) <;> (first | replace hc := of_decide_eq_true hc | replace hc := of_decide_eq_false hc | replace hc := dec_nT hc | replace hc := dec_nF hc | skip) <;> (try (exfalso; omega)))) | ((refine is_bin ?_; first | (refine lw_pure rfl (pv_eql rfl rfl) ?_) | (refine lw_pure rfl (pv_neq rfl rfl) ?_) | (refine lw_pure rfl (pv_gtr rfl rfl) ?_))) | ((refine is_load ?_; first | (refine lw_pure rfl (pv_load (t1 rfl) rfl (by first | exact SlR.ld (HN.mono hw) x4 rfl | exact SlR.ld1 (HN.mono hw) x4 rfl | exact PT.ld0 (HA.mono hw) rfl | exact PT.ld (HA.mono hw) rfl | exact PT.ld0 (HB.mono hw) rfl | exact PT.ld (HB.mono hw) rfl)) ?_))) | ((refine is_fa ?_; first | (refine lw_pure rfl (pv_fa (tF rfl) rfl) ?_))) | ((refine is_ia ?_; first | (refine lw_pure rfl (pv_ia (tS rfl) rfl rfl (by omega)) ?_))) | (refine lw_pure rfl (pv_pick_t rfl rfl rfl) ?_) | (refine lw_pure rfl (pv_pick_t rfl (by first | assumption | exact decide_eq_true (by omega) | exact dec_notT (by omega)) rfl) ?_) | (refine lw_pure rfl (pv_pick_f rfl (by first | assumption | exact decide_eq_false (by omega) | exact dec_notF (by omega)) rfl) ?_))
          all_goals exact qw_ret2 rfl rfl rfl ⟨refS_nil _ _, (hE.mono hw).b⟩
        · by_cases hs2 : oa.side = 2
          · have htr : tradeS l oa ob n2 n3 n4 = (addS (addS l ⟨ob.acct, oa.inst, n3, 0, n2 * n3, 0⟩) ⟨oa.acct, oa.inst, 0, n3, 0, n2 * n3 - n4⟩, 0) := by
              unfold tradeS dealS; rw [if_neg (by omega), if_pos hs2, if_neg (by omega)]
            rw [htr]
            have ho1 := okb_mk (b := ob.acct) (i := oa.inst) (q := n3) (p := n2 * n3) hmb.1 hma.2 hg3 (by omega)
            have ho2 := oks_mk (b := oa.acct) (i := oa.inst) (q := n3) (p := n2 * n3 - n4) hma.1 hma.2 hg3 (by omega)
            have hM1 := addS_may hM ho1
            have hl1 := addS_len ⟨ob.acct, oa.inst, n3, 0, n2 * n3, 0⟩ l
            repeat' (first | (refine lw_pure rfl (pv_move rfl) ?_) | (refine is_cw ?_; first | (refine cw_seq ?_) | (refine cw_region ?_) | (refine cw_false rfl (by first | assumption | exact decide_eq_false (by omega) | exact dec_notF (by omega)) ?_) | (refine cw_skip ?_)) | (refine is_qw ?_; first | (with_reducible refine qw_then ?_)) | (refine lw_nil ?_) | (refine is_guarded ?_; first | (refine lw_on rfl rfl (by first | assumption | exact decide_eq_true (by omega) | exact decide_eq_false (by omega) | exact dec_notT (by omega) | exact dec_notF (by omega)) ?_)) | ((refine is_bin ?_; first | (refine lw_pure rfl (pv_eql rfl rfl) ?_) | (refine lw_pure rfl (pv_neq rfl rfl) ?_) | (refine lw_pure rfl (pv_gtr rfl rfl) ?_))) | ((refine is_load ?_; first | (refine lw_pure rfl (pv_load (t1 rfl) rfl (by first | exact SlR.ld (HN.mono hw) x4 rfl | exact SlR.ld1 (HN.mono hw) x4 rfl | exact PT.ld0 (HA.mono hw) rfl | exact PT.ld (HA.mono hw) rfl | exact PT.ld0 (HB.mono hw) rfl | exact PT.ld (HB.mono hw) rfl)) ?_))) | ((refine is_fa ?_; first | (refine lw_pure rfl (pv_fa (tF rfl) rfl) ?_))) | ((refine is_ia ?_; first | (refine lw_pure rfl (pv_ia (tS rfl) rfl rfl (by omega)) ?_))) | (refine lw_pure rfl (pv_pick_f rfl (by first | assumption | exact decide_eq_false (by omega) | exact dec_notF (by omega)) rfl) ?_))
            refine cw_drawn (fun w' => Below w4.heap.size w4 w') (by kernel_rfl) (by repeat (first | exact NoPanic.body | with_reducible refine NoPanic.then ?_ | with_reducible refine NoPanic.inBlock ?_)) (fun hNP => ?_)
            have hS := hw.drew
            (refine at0 0 rfl (fun w' hq => pv_fa (tF rfl) rfl) ?_)
            (refine at0 1 rfl (fun w' hq => pv_load (t1 rfl) rfl (by first | exact PT.ld0 (HA.mono hq) rfl | exact PT.ld (HA.mono hq) rfl | exact PT.ld0 (HB.mono hq) rfl | exact PT.ld (HB.mono hq) rfl)) ?_)
            (refine at0 2 rfl (fun w' hq => pv_fa (tF rfl) rfl) ?_)
            (refine at0 3 rfl (fun w' hq => pv_load (t1 rfl) rfl (by first | exact PT.ld0 (HA.mono hq) rfl | exact PT.ld (HA.mono hq) rfl | exact PT.ld0 (HB.mono hq) rfl | exact PT.ld (HB.mono hq) rfl)) ?_)
            (refine at0 4 rfl (fun w' hq => pv_assign rfl) ?_)
            (refine at0 5 rfl (fun w' hq => pv_assign rfl) ?_)
            refine aw_done (by kernel_rfl) ?_
            replace hw := hS; clear hS hNP
            repeat' (first | (refine lw_pure rfl (pv_assign rfl) ?_) | (refine is_cw ?_; first | (refine cw_seq ?_) | (refine cw_region ?_) | (refine cw_true rfl (by first | assumption | exact decide_eq_true (by omega) | exact dec_notT (by omega)) ?_)) | (refine is_qw ?_; first | (with_reducible refine qw_then ?_)) | (refine lw_nil ?_) | ((refine is_bin ?_; first | (refine lw_pure rfl (pv_eql rfl rfl) ?_))) | ((refine is_load ?_; first | (refine lw_pure rfl (pv_load (t1 rfl) rfl (by first | exact PT.ld0 (HA.mono hw) rfl | exact PT.ld (HA.mono hw) rfl | exact PT.ld0 (HB.mono hw) rfl | exact PT.ld (HB.mono hw) rfl)) ?_))) | ((refine is_fa ?_; first | (refine lw_pure rfl (pv_fa (tF rfl) rfl) ?_))))
            skip
            refine cw_drawn (fun w' => Below w4.heap.size w4 w') (by kernel_rfl) (by repeat (first | exact NoPanic.body | with_reducible refine NoPanic.then ?_ | with_reducible refine NoPanic.inBlock ?_)) (fun hNP => ?_)
            have hS := hw.drew
            (refine at0 0 rfl (fun w' hq => pv_move rfl) ?_)
            (refine at0 1 rfl (fun w' hq => pv_move rfl) ?_)
            (refine at0 2 rfl (fun w' hq => pv_fa (tF rfl) rfl) ?_)
            (refine at0 3 rfl (fun w' hq => pv_load (t1 rfl) rfl (by first | exact SlR.ld (HN.mono hq) x3 rfl | exact SlR.ld1 (HN.mono hq) x3 rfl | exact SlR.ld (HN.mono hq) x4 rfl | exact SlR.ld1 (HN.mono hq) x4 rfl | exact PT.ld0 (HA.mono hq) rfl | exact PT.ld (HA.mono hq) rfl | exact PT.ld0 (HB.mono hq) rfl | exact PT.ld (HB.mono hq) rfl)) ?_)
            (refine at0 4 rfl (fun w' hq => pv_move rfl) ?_)
            (refine at0 5 rfl (fun w' hq => pv_ia (tS rfl) rfl rfl (by omega)) ?_)
            (refine at0 6 rfl (fun w' hq => pv_load (t1 rfl) rfl (by first | exact SlR.ld (HN.mono hq) x3 rfl | exact SlR.ld1 (HN.mono hq) x3 rfl | exact SlR.ld (HN.mono hq) x4 rfl | exact SlR.ld1 (HN.mono hq) x4 rfl | exact PT.ld0 (HA.mono hq) rfl | exact PT.ld (HA.mono hq) rfl | exact PT.ld0 (HB.mono hq) rfl | exact PT.ld (HB.mono hq) rfl)) ?_)
            (refine at0 7 rfl (fun w' hq => pv_move rfl) ?_)
            (refine at0 8 rfl (fun w' hq => tyB_39 rfl rfl rfl) ?_)
            (refine at0 10 rfl (fun w' hq => pv_move rfl) ?_)
            (refine at0 11 rfl (fun w' hq => pv_fa (tF rfl) rfl) ?_)
            (refine at0 12 rfl (fun w' hq => pv_load (t1 rfl) rfl (by first | exact SlR.ld (HN.mono hq) x3 rfl | exact SlR.ld1 (HN.mono hq) x3 rfl | exact SlR.ld (HN.mono hq) x4 rfl | exact SlR.ld1 (HN.mono hq) x4 rfl | exact PT.ld0 (HA.mono hq) rfl | exact PT.ld (HA.mono hq) rfl | exact PT.ld0 (HB.mono hq) rfl | exact PT.ld (HB.mono hq) rfl)) ?_)
            (refine at0 13 rfl (fun w' hq => pv_move rfl) ?_)
            (refine at0 14 rfl (fun w' hq => pv_ia (tS rfl) rfl rfl (by omega)) ?_)
            (refine at0 15 rfl (fun w' hq => pv_load (t1 rfl) rfl (by first | exact SlR.ld (HN.mono hq) x3 rfl | exact SlR.ld1 (HN.mono hq) x3 rfl | exact SlR.ld (HN.mono hq) x4 rfl | exact SlR.ld1 (HN.mono hq) x4 rfl | exact PT.ld0 (HA.mono hq) rfl | exact PT.ld (HA.mono hq) rfl | exact PT.ld0 (HB.mono hq) rfl | exact PT.ld (HB.mono hq) rfl)) ?_)
            (refine at0 16 rfl (fun w' hq => pv_move rfl) ?_)
            (refine at0 17 rfl (fun w' hq => pv_move rfl) ?_)
            (refine at0 18 rfl (fun w' hq => pv_ia (tS rfl) rfl rfl (by omega)) ?_)
            (refine at0 19 rfl (fun w' hq => pv_load (t1 rfl) rfl (by first | exact SlR.ld (HN.mono hq) x3 rfl | exact SlR.ld1 (HN.mono hq) x3 rfl | exact SlR.ld (HN.mono hq) x4 rfl | exact SlR.ld1 (HN.mono hq) x4 rfl | exact PT.ld0 (HA.mono hq) rfl | exact PT.ld (HA.mono hq) rfl | exact PT.ld0 (HB.mono hq) rfl | exact PT.ld (HB.mono hq) rfl)) ?_)
            (refine at0 20 rfl (fun w' hq => pv_sub rfl rfl (by omega)) ?_)
            (refine at0 21 rfl (fun w' hq => tyB_39 rfl rfl rfl) ?_)
            refine aw_act 9 (by kernel_rfl) rfl rfl rfl ?_
            refine act_call (f := 42) (by kernel_rfl) rfl (radd_c ⟨ob.acct, oa.inst, n3, 0, n2 * n3, 0⟩ hml (by omega) hM ho1 (HS.mono hS)) ?_; rintro e1 w8 ⟨⟨v1, rfl, hO1⟩, hb⟩; obtain ⟨a1, c1, rfl, HS1, -⟩ := Own.slR encS_len hO1; refine ⟨_, rfl, grow_trans hS hb, fun hS => ?_⟩
            refine aw_act 22 (by kernel_rfl) rfl rfl rfl ?_
            refine act_call (f := 42) (by kernel_rfl) rfl (radd_c ⟨oa.acct, oa.inst, 0, n3, 0, n2 * n3 - n4⟩ rfl (by omega) hM1 ho2 HS1) ?_; rintro e1 w9 ⟨⟨v2, rfl, hO2⟩, hb⟩; refine ⟨_, rfl, grow_trans hS hb, fun hS => ?_⟩
            (refine at0 23 rfl (fun w' hq => pv_assign rfl) ?_)
            (refine at0 24 rfl (fun w' hq => pv_assign rfl) ?_)
            refine aw_done (by kernel_rfl) ?_
            replace hw := hS; clear hS hNP
            repeat' (first | (refine is_cw ?_; first | (refine cw_ret ?_)) | (refine is_qw ?_; first | (with_reducible refine qw_then ?_) | (with_reducible refine qw_then_ret ?_)))
            exact qw_ret2 rfl rfl rfl ⟨refS_own hO2, (hE.mono hw).b⟩
          · have htr : tradeS l oa ob n2 n3 n4 = (addS (addS l ⟨oa.acct, oa.inst, n3, 0, n2 * n3, 0⟩) ⟨ob.acct, oa.inst, 0, n3, 0, n2 * n3 - n4⟩, 0) := by
              unfold tradeS dealS; rw [if_neg (by omega), if_neg hs2, if_neg (by omega)]
            rw [htr]
            have ho1 := okb_mk (b := oa.acct) (i := oa.inst) (q := n3) (p := n2 * n3) hma.1 hma.2 hg3 (by omega)
            have ho2 := oks_mk (b := ob.acct) (i := oa.inst) (q := n3) (p := n2 * n3 - n4) hmb.1 hma.2 hg3 (by omega)
            have hM1 := addS_may hM ho1
            have hl1 := addS_len ⟨oa.acct, oa.inst, n3, 0, n2 * n3, 0⟩ l
            repeat' (first | (refine lw_pure rfl (pv_move rfl) ?_) | (refine is_cw ?_; first | (refine cw_seq ?_) | (refine cw_region ?_) | (refine cw_false rfl (by first | assumption | exact decide_eq_false (by omega) | exact dec_notF (by omega)) ?_) | (refine cw_skip ?_)) | (refine is_qw ?_; first | (with_reducible refine qw_then ?_)) | (refine lw_nil ?_) | (refine is_guarded ?_; first | (refine lw_on rfl rfl (by first | assumption | exact decide_eq_true (by omega) | exact decide_eq_false (by omega) | exact dec_notT (by omega) | exact dec_notF (by omega)) ?_)) | ((refine is_bin ?_; first | (refine lw_pure rfl (pv_eql rfl rfl) ?_) | (refine lw_pure rfl (pv_neq rfl rfl) ?_) | (refine lw_pure rfl (pv_gtr rfl rfl) ?_))) | ((refine is_load ?_; first | (refine lw_pure rfl (pv_load (t1 rfl) rfl (by first | exact SlR.ld (HN.mono hw) x4 rfl | exact SlR.ld1 (HN.mono hw) x4 rfl | exact PT.ld0 (HA.mono hw) rfl | exact PT.ld (HA.mono hw) rfl | exact PT.ld0 (HB.mono hw) rfl | exact PT.ld (HB.mono hw) rfl)) ?_))) | ((refine is_fa ?_; first | (refine lw_pure rfl (pv_fa (tF rfl) rfl) ?_))) | ((refine is_ia ?_; first | (refine lw_pure rfl (pv_ia (tS rfl) rfl rfl (by omega)) ?_))) | (refine lw_pure rfl (pv_pick_f rfl (by first | assumption | exact decide_eq_false (by omega) | exact dec_notF (by omega)) rfl) ?_))
            refine cw_drawn (fun w' => Below w4.heap.size w4 w') (by kernel_rfl) (by repeat (first | exact NoPanic.body | with_reducible refine NoPanic.then ?_ | with_reducible refine NoPanic.inBlock ?_)) (fun hNP => ?_)
            have hS := hw.drew
            (refine at0 0 rfl (fun w' hq => pv_fa (tF rfl) rfl) ?_)
            (refine at0 1 rfl (fun w' hq => pv_load (t1 rfl) rfl (by first | exact PT.ld0 (HA.mono hq) rfl | exact PT.ld (HA.mono hq) rfl | exact PT.ld0 (HB.mono hq) rfl | exact PT.ld (HB.mono hq) rfl)) ?_)
            (refine at0 2 rfl (fun w' hq => pv_fa (tF rfl) rfl) ?_)
            (refine at0 3 rfl (fun w' hq => pv_load (t1 rfl) rfl (by first | exact PT.ld0 (HA.mono hq) rfl | exact PT.ld (HA.mono hq) rfl | exact PT.ld0 (HB.mono hq) rfl | exact PT.ld (HB.mono hq) rfl)) ?_)
            (refine at0 4 rfl (fun w' hq => pv_assign rfl) ?_)
            (refine at0 5 rfl (fun w' hq => pv_assign rfl) ?_)
            refine aw_done (by kernel_rfl) ?_
            replace hw := hS; clear hS hNP
            repeat' (first | (refine is_cw ?_; first | (refine cw_seq ?_) | (refine cw_region ?_) | (refine cw_false rfl (by first | assumption | exact decide_eq_false (by omega) | exact dec_notF (by omega)) ?_) | (refine cw_skip ?_)) | (refine is_qw ?_; first | (with_reducible refine qw_then ?_)) | (refine lw_nil ?_) | ((refine is_bin ?_; first | (refine lw_pure rfl (pv_eql rfl rfl) ?_))) | ((refine is_load ?_; first | (refine lw_pure rfl (pv_load (t1 rfl) rfl (by first | exact PT.ld0 (HA.mono hw) rfl | exact PT.ld (HA.mono hw) rfl | exact PT.ld0 (HB.mono hw) rfl | exact PT.ld (HB.mono hw) rfl)) ?_))) | ((refine is_fa ?_; first | (refine lw_pure rfl (pv_fa (tF rfl) rfl) ?_))))
            skip
            refine cw_drawn (fun w' => Below w4.heap.size w4 w') (by kernel_rfl) (by repeat (first | exact NoPanic.body | with_reducible refine NoPanic.then ?_ | with_reducible refine NoPanic.inBlock ?_)) (fun hNP => ?_)
            have hS := hw.drew
            (refine at0 0 rfl (fun w' hq => pv_move rfl) ?_)
            (refine at0 1 rfl (fun w' hq => pv_move rfl) ?_)
            (refine at0 2 rfl (fun w' hq => pv_fa (tF rfl) rfl) ?_)
            (refine at0 3 rfl (fun w' hq => pv_load (t1 rfl) rfl (by first | exact SlR.ld (HN.mono hq) x3 rfl | exact SlR.ld1 (HN.mono hq) x3 rfl | exact SlR.ld (HN.mono hq) x4 rfl | exact SlR.ld1 (HN.mono hq) x4 rfl | exact PT.ld0 (HA.mono hq) rfl | exact PT.ld (HA.mono hq) rfl | exact PT.ld0 (HB.mono hq) rfl | exact PT.ld (HB.mono hq) rfl)) ?_)
            (refine at0 4 rfl (fun w' hq => pv_move rfl) ?_)
            (refine at0 5 rfl (fun w' hq => pv_ia (tS rfl) rfl rfl (by omega)) ?_)
            (refine at0 6 rfl (fun w' hq => pv_load (t1 rfl) rfl (by first | exact SlR.ld (HN.mono hq) x3 rfl | exact SlR.ld1 (HN.mono hq) x3 rfl | exact SlR.ld (HN.mono hq) x4 rfl | exact SlR.ld1 (HN.mono hq) x4 rfl | exact PT.ld0 (HA.mono hq) rfl | exact PT.ld (HA.mono hq) rfl | exact PT.ld0 (HB.mono hq) rfl | exact PT.ld (HB.mono hq) rfl)) ?_)
            (refine at0 7 rfl (fun w' hq => pv_move rfl) ?_)
            (refine at0 8 rfl (fun w' hq => tyB_39 rfl rfl rfl) ?_)
            (refine at0 10 rfl (fun w' hq => pv_move rfl) ?_)
            (refine at0 11 rfl (fun w' hq => pv_fa (tF rfl) rfl) ?_)
            (refine at0 12 rfl (fun w' hq => pv_load (t1 rfl) rfl (by first | exact SlR.ld (HN.mono hq) x3 rfl | exact SlR.ld1 (HN.mono hq) x3 rfl | exact SlR.ld (HN.mono hq) x4 rfl | exact SlR.ld1 (HN.mono hq) x4 rfl | exact PT.ld0 (HA.mono hq) rfl | exact PT.ld (HA.mono hq) rfl | exact PT.ld0 (HB.mono hq) rfl | exact PT.ld (HB.mono hq) rfl)) ?_)
            (refine at0 13 rfl (fun w' hq => pv_move rfl) ?_)
            (refine at0 14 rfl (fun w' hq => pv_ia (tS rfl) rfl rfl (by omega)) ?_)
            (refine at0 15 rfl (fun w' hq => pv_load (t1 rfl) rfl (by first | exact SlR.ld (HN.mono hq) x3 rfl | exact SlR.ld1 (HN.mono hq) x3 rfl | exact SlR.ld (HN.mono hq) x4 rfl | exact SlR.ld1 (HN.mono hq) x4 rfl | exact PT.ld0 (HA.mono hq) rfl | exact PT.ld (HA.mono hq) rfl | exact PT.ld0 (HB.mono hq) rfl | exact PT.ld (HB.mono hq) rfl)) ?_)
            (refine at0 16 rfl (fun w' hq => pv_move rfl) ?_)
            (refine at0 17 rfl (fun w' hq => pv_move rfl) ?_)
            (refine at0 18 rfl (fun w' hq => pv_ia (tS rfl) rfl rfl (by omega)) ?_)
            (refine at0 19 rfl (fun w' hq => pv_load (t1 rfl) rfl (by first | exact SlR.ld (HN.mono hq) x3 rfl | exact SlR.ld1 (HN.mono hq) x3 rfl | exact SlR.ld (HN.mono hq) x4 rfl | exact SlR.ld1 (HN.mono hq) x4 rfl | exact PT.ld0 (HA.mono hq) rfl | exact PT.ld (HA.mono hq) rfl | exact PT.ld0 (HB.mono hq) rfl | exact PT.ld (HB.mono hq) rfl)) ?_)
            (refine at0 20 rfl (fun w' hq => pv_sub rfl rfl (by omega)) ?_)
            (refine at0 21 rfl (fun w' hq => tyB_39 rfl rfl rfl) ?_)
            refine aw_act 9 (by kernel_rfl) rfl rfl rfl ?_
            refine act_call (f := 42) (by kernel_rfl) rfl (radd_c ⟨oa.acct, oa.inst, n3, 0, n2 * n3, 0⟩ hml (by omega) hM ho1 (HS.mono hS)) ?_; rintro e1 w8 ⟨⟨v1, rfl, hO1⟩, hb⟩; obtain ⟨a1, c1, rfl, HS1, -⟩ := Own.slR encS_len hO1; refine ⟨_, rfl, grow_trans hS hb, fun hS => ?_⟩
            refine aw_act 22 (by kernel_rfl) rfl rfl rfl ?_
            refine act_call (f := 42) (by kernel_rfl) rfl (radd_c ⟨ob.acct, oa.inst, 0, n3, 0, n2 * n3 - n4⟩ rfl (by omega) hM1 ho2 HS1) ?_; rintro e1 w9 ⟨⟨v2, rfl, hO2⟩, hb⟩; refine ⟨_, rfl, grow_trans hS hb, fun hS => ?_⟩
            (refine at0 23 rfl (fun w' hq => pv_assign rfl) ?_)
            (refine at0 24 rfl (fun w' hq => pv_assign rfl) ?_)
            refine aw_done (by kernel_rfl) ?_
            replace hw := hS; clear hS hNP
            repeat' (first | (refine is_cw ?_; first | (refine cw_ret ?_)) | (refine is_qw ?_; first | (with_reducible refine qw_then ?_) | (with_reducible refine qw_then_ret ?_)))
            exact qw_ret2 rfl rfl rfl ⟨refS_own hO2, (hE.mono hw).b⟩
      · rw [posR_err hgo (Or.inl k1) hf]
        repeat' (first | (refine lw_pure rfl (pv_move rfl) ?_) | (refine lw_pure rfl (pv_assign rfl) ?_) | (refine is_cw ?_; first | (refine cw_seq ?_) | (refine cw_region ?_) | (refine cw_true rfl (by first | assumption | exact decide_eq_true (by omega) | exact dec_notT (by omega)) ?_) | (refine cw_ret ?_)) | (refine is_qw ?_; first | (with_reducible refine qw_then ?_) | (with_reducible refine qw_then_ret ?_)) | (refine lw_nil ?_) | ((refine is_bin ?_; first | (refine lw_pure rfl (pv_eql rfl rfl) ?_) | (refine lw_pure rfl (pv_neq rfl rfl) ?_))) | ((refine is_load ?_; first | (refine lw_pure rfl (pv_load (t1 rfl) rfl (by first | exact PT.ld0 (HV.mono hw) rfl | exact PT.ld (HV.mono hw) rfl)) ?_))) | ((refine is_fa ?_; first | (refine lw_pure rfl (pv_fa (tF rfl) rfl) ?_))))
        exact qw_ret2 rfl rfl rfl ⟨refS_nil _ _, (hE.mono hw).b⟩
    · by_cases k2 : e.kind = 18
      · by_cases hf : (eventR p t e).2.2 = 0
        · obtain ⟨n0, n1, n2, n3, ol, hT⟩ := sold_at hf k2
          rw [posR_sold hgo hf k2 hT]
          have hns := hT.nums
          have hfx := hT.fx
          have hmx2 := hT.mx
          have hg1 := hT.g1
          have hg2 := hT.g2
          have hg3 := hT.g3
          have x0 : e.nums[0]? = some n0 := by rw [hns]; rfl
          have x1 : e.nums[1]? = some n1 := by rw [hns]; rfl
          have x2 : e.nums[2]? = some n2 := by rw [hns]; rfl
          have x3 : e.nums[3]? = some n3 := by rw [hns]; rfl
          have hm4 : mn = 4 := by rw [← hmn, hns]; rfl
          clear hT
          obtain ⟨nb, no, rfl, -, -⟩ := HN.at (by rw [hns]; simp)
          clear hns
          repeat' (first | (refine lw_pure rfl (pv_move rfl) ?_) | (refine lw_pure rfl (pv_assign rfl) ?_) | (refine is_cw ?_; first | (refine cw_seq ?_) | (refine cw_region ?_) | (refine cw_true rfl (by first | assumption | exact decide_eq_true (by omega) | exact dec_notT (by omega)) ?_) | (refine cw_false rfl (by first | assumption | exact decide_eq_false (by omega) | exact dec_notF (by omega)) ?_) | (refine cw_skip ?_)) | (refine is_qw ?_; first | (with_reducible refine qw_then ?_)) | (refine lw_nil ?_) | ((refine is_bin ?_; first | (refine lw_pure rfl (pv_eql rfl rfl) ?_) | (refine lw_pure rfl (pv_neq rfl rfl) ?_))) | ((refine is_load ?_; first | (refine lw_pure rfl (pv_load (t1 rfl) rfl (by first | exact PT.ld0 (HV.mono hw) rfl | exact PT.ld (HV.mono hw) rfl | exact SlR.ld (HN.mono hw) x0 rfl | exact SlR.ld1 (HN.mono hw) x0 rfl)) ?_))) | ((refine is_fa ?_; first | (refine lw_pure rfl (pv_fa (tF rfl) rfl) ?_))) | ((refine is_ia ?_; first | (refine lw_pure rfl (pv_ia (tS rfl) rfl rfl (by omega)) ?_))))
          refine lw_call (f := 43) (by kernel_rfl) rfl rfl (rlot_e hfx hmt (HL.mono hw)) ?_; rintro e1 w2 ⟨rfl, hb⟩; refine ⟨_, rfl, ?_⟩; replace hw := grow_trans hw hb; clear hb
          repeat' (first | (refine lw_pure rfl (pv_move rfl) ?_) | (refine lw_pure rfl (pv_extract rfl rfl) ?_))
          refine lw_varN rfl (by first | exact tyv_27 | exact tyv_28 | exact tyv_38 | exact tyv_39 | exact tyv_48 | exact tyv_49 | exact tyv_52 | exact tyv_53 | exact tyv_68 | exact tyv_69 | exact tyv_79 | exact tyv_80 | exact tyv_94 | exact tyv_95 | exact tyv_131 | exact tyv_132) rfl (tZ rfl) (fun _ => rfl) rfl rfl ?_; intro N21 wn hN21 HA hb; replace hN21 := Nat.le_trans hw.size hN21; replace hw := grow_trans hw hb; clear hb
          replace HA : PT wn N21 53 (encL ol) := HA
          replace hE := hE.mono hw; replace HS := HS.mono hw; replace HN := HN.mono hw; clear hw; have hw := Below.refl wn.heap.size wn
          repeat' (first | (refine lw_pure rfl (pv_assign rfl) ?_) | (refine is_cw ?_; first | (refine cw_seq ?_)) | (refine is_qw ?_; first | (with_reducible refine qw_then ?_)) | (refine lw_nil ?_))
          by_cases hbad : n1 = ol.seller ∨ n2 < n3
          · have htr : dealS l n1 ol.seller ol.inst ol.qty n2 n3 = ([], 1) := by unfold dealS; rw [if_pos hbad]
            rw [htr]
            refine cw_drawn (fun w' => Below wn.heap.size wn w') (by kernel_rfl) (by repeat (first | exact NoPanic.body | with_reducible refine NoPanic.then ?_ | with_reducible refine NoPanic.inBlock ?_)) (fun hNP => ?_)
            have hS := hw.drew
            all_goals (refine at0 0 rfl (fun w' hq => pv_move rfl) ?_)
            all_goals (refine at0 1 rfl (fun w' hq => pv_ia (tS rfl) rfl rfl (by omega)) ?_)
            all_goals (refine at0 2 rfl (fun w' hq => pv_load (t1 rfl) rfl (by first | exact SlR.ld (HN.mono hq) x1 rfl | exact SlR.ld1 (HN.mono hq) x1 rfl | exact SlR.ld (HN.mono hq) x2 rfl | exact SlR.ld1 (HN.mono hq) x2 rfl | exact SlR.ld (HN.mono hq) x3 rfl | exact SlR.ld1 (HN.mono hq) x3 rfl | exact PT.ld0 (HA.mono hq) rfl | exact PT.ld (HA.mono hq) rfl)) ?_)
            all_goals (refine at0 3 rfl (fun w' hq => pv_fa (tF rfl) rfl) ?_)
            all_goals (refine at0 4 rfl (fun w' hq => pv_load (t1 rfl) rfl (by first | exact SlR.ld (HN.mono hq) x1 rfl | exact SlR.ld1 (HN.mono hq) x1 rfl | exact SlR.ld (HN.mono hq) x2 rfl | exact SlR.ld1 (HN.mono hq) x2 rfl | exact SlR.ld (HN.mono hq) x3 rfl | exact SlR.ld1 (HN.mono hq) x3 rfl | exact PT.ld0 (HA.mono hq) rfl | exact PT.ld (HA.mono hq) rfl)) ?_)
            all_goals (refine at0 5 rfl (fun w' hq => pv_eql rfl rfl) ?_)
            all_goals (refine at0 6 rfl (fun w' hq => pv_move rfl) ?_)
            all_goals (refine aw_gs 7 rfl rfl rfl (by kernel_rfl) (by kernel_rfl) (by kernel_rfl) hNP hS rfl (fun hc w' hq => pv_move rfl) (fun hc => ?_) (fun hc => ?_) <;> (first | replace hc := of_decide_eq_true hc | replace hc := of_decide_eq_false hc | replace hc := dec_nT hc | replace hc := dec_nF hc | skip) <;> (try (exfalso; omega)))
            all_goals first | (refine an2 8 rfl rfl rfl ?_) | (refine at2 8 rfl rfl rfl (fun w' hq => pv_ia (tS rfl) rfl rfl (by omega)) ?_)
            all_goals first | (refine an2 9 rfl rfl rfl ?_) | (refine at2 9 rfl rfl rfl (fun w' hq => pv_load (t1 rfl) rfl (by first | exact SlR.ld (HN.mono hq) x1 rfl | exact SlR.ld1 (HN.mono hq) x1 rfl | exact SlR.ld (HN.mono hq) x2 rfl | exact SlR.ld1 (HN.mono hq) x2 rfl | exact SlR.ld (HN.mono hq) x3 rfl | exact SlR.ld1 (HN.mono hq) x3 rfl | exact PT.ld0 (HA.mono hq) rfl | exact PT.ld (HA.mono hq) rfl)) ?_)
            all_goals first | (refine an2 10 rfl rfl rfl ?_) | (refine at2 10 rfl rfl rfl (fun w' hq => pv_move rfl) ?_)
            all_goals first | (refine an2 11 rfl rfl rfl ?_) | (refine at2 11 rfl rfl rfl (fun w' hq => pv_ia (tS rfl) rfl rfl (by omega)) ?_)
            all_goals first | (refine an2 12 rfl rfl rfl ?_) | (refine at2 12 rfl rfl rfl (fun w' hq => pv_load (t1 rfl) rfl (by first | exact SlR.ld (HN.mono hq) x1 rfl | exact SlR.ld1 (HN.mono hq) x1 rfl | exact SlR.ld (HN.mono hq) x2 rfl | exact SlR.ld1 (HN.mono hq) x2 rfl | exact SlR.ld (HN.mono hq) x3 rfl | exact SlR.ld1 (HN.mono hq) x3 rfl | exact PT.ld0 (HA.mono hq) rfl | exact PT.ld (HA.mono hq) rfl)) ?_)
            all_goals first | (refine an2 13 rfl rfl rfl ?_) | (refine at2 13 rfl rfl rfl (fun w' hq => pv_gtr rfl rfl) ?_)
            all_goals first | (refine at0 14 rfl (fun w' hq => pv_pick_t rfl (by first | assumption | exact decide_eq_true (by omega) | exact dec_notT (by omega)) rfl) ?_) | (refine at0 14 rfl (fun w' hq => pv_pick_f rfl (by first | assumption | exact decide_eq_false (by omega) | exact dec_notF (by omega)) rfl) ?_)
            all_goals (refine aw_done (by kernel_rfl) ?_; replace hw := hS; clear hS hNP)
            all_goals repeat' (first | (refine lw_pure rfl (pv_assign rfl) ?_) | (refine is_cw ?_; first | (refine cw_seq ?_) | (refine cw_region ?_) | (refine cw_true rfl rfl ?_) | (refine cw_true rfl (by first | assumption | exact decide_eq_true (by omega) | exact dec_notT (by omega)) ?_) | (refine cw_ret ?_)) | (refine is_qw ?_; first | (with_reducible refine qw_then ?_) | (with_reducible refine qw_then_ret ?_)) | (refine lw_nil ?_))
            all_goals exact qw_ret2 rfl rfl rfl ⟨refS_nil _ _, (hE.mono hw).b⟩
          · have htr : dealS l n1 ol.seller ol.inst ol.qty n2 n3 = (addS (addS l ⟨n1, ol.inst, ol.qty, 0, n2, 0⟩) ⟨ol.seller, ol.inst, 0, ol.qty, 0, n2 - n3⟩, 0) := by unfold dealS; rw [if_neg hbad]
            rw [htr]
            have ho1 := okb_mk (b := n1) (i := ol.inst) (q := ol.qty) (p := n2) hg1 hmx2.2.1 hmx2.2.2 hg2
            have ho2 := oks_mk (b := ol.seller) (i := ol.inst) (q := ol.qty) (p := n2 - n3) hmx2.1 hmx2.2.1 hmx2.2.2 (by omega)
            have hM1 := addS_may hM ho1
            have hl1 := addS_len ⟨n1, ol.inst, ol.qty, 0, n2, 0⟩ l
            refine cw_drawn (fun w' => Below wn.heap.size wn w') (by kernel_rfl) (by repeat (first | exact NoPanic.body | with_reducible refine NoPanic.then ?_ | with_reducible refine NoPanic.inBlock ?_)) (fun hNP => ?_)
            have hS := hw.drew
            all_goals (refine at0 0 rfl (fun w' hq => pv_move rfl) ?_)
            all_goals (refine at0 1 rfl (fun w' hq => pv_ia (tS rfl) rfl rfl (by omega)) ?_)
            all_goals (refine at0 2 rfl (fun w' hq => pv_load (t1 rfl) rfl (by first | exact SlR.ld (HN.mono hq) x1 rfl | exact SlR.ld1 (HN.mono hq) x1 rfl | exact SlR.ld (HN.mono hq) x2 rfl | exact SlR.ld1 (HN.mono hq) x2 rfl | exact SlR.ld (HN.mono hq) x3 rfl | exact SlR.ld1 (HN.mono hq) x3 rfl | exact PT.ld0 (HA.mono hq) rfl | exact PT.ld (HA.mono hq) rfl)) ?_)
            all_goals (refine at0 3 rfl (fun w' hq => pv_fa (tF rfl) rfl) ?_)
            all_goals (refine at0 4 rfl (fun w' hq => pv_load (t1 rfl) rfl (by first | exact SlR.ld (HN.mono hq) x1 rfl | exact SlR.ld1 (HN.mono hq) x1 rfl | exact SlR.ld (HN.mono hq) x2 rfl | exact SlR.ld1 (HN.mono hq) x2 rfl | exact SlR.ld (HN.mono hq) x3 rfl | exact SlR.ld1 (HN.mono hq) x3 rfl | exact PT.ld0 (HA.mono hq) rfl | exact PT.ld (HA.mono hq) rfl)) ?_)
            all_goals (refine at0 5 rfl (fun w' hq => pv_eql rfl rfl) ?_)
            all_goals (refine at0 6 rfl (fun w' hq => pv_move rfl) ?_)
            all_goals (refine at2 7 rfl rfl rfl (fun w' hq => pv_move rfl) ?_)
            all_goals (refine at2 8 rfl rfl rfl (fun w' hq => pv_ia (tS rfl) rfl rfl (by omega)) ?_)
            all_goals (refine at2 9 rfl rfl rfl (fun w' hq => pv_load (t1 rfl) rfl (by first | exact SlR.ld (HN.mono hq) x1 rfl | exact SlR.ld1 (HN.mono hq) x1 rfl | exact SlR.ld (HN.mono hq) x2 rfl | exact SlR.ld1 (HN.mono hq) x2 rfl | exact SlR.ld (HN.mono hq) x3 rfl | exact SlR.ld1 (HN.mono hq) x3 rfl | exact PT.ld0 (HA.mono hq) rfl | exact PT.ld (HA.mono hq) rfl)) ?_)
            all_goals (refine at2 10 rfl rfl rfl (fun w' hq => pv_move rfl) ?_)
            all_goals (refine at2 11 rfl rfl rfl (fun w' hq => pv_ia (tS rfl) rfl rfl (by omega)) ?_)
            all_goals (refine at2 12 rfl rfl rfl (fun w' hq => pv_load (t1 rfl) rfl (by first | exact SlR.ld (HN.mono hq) x1 rfl | exact SlR.ld1 (HN.mono hq) x1 rfl | exact SlR.ld (HN.mono hq) x2 rfl | exact SlR.ld1 (HN.mono hq) x2 rfl | exact SlR.ld (HN.mono hq) x3 rfl | exact SlR.ld1 (HN.mono hq) x3 rfl | exact PT.ld0 (HA.mono hq) rfl | exact PT.ld (HA.mono hq) rfl)) ?_)
            all_goals (refine at2 13 rfl rfl rfl (fun w' hq => pv_gtr rfl rfl) ?_)
            all_goals (refine at0 14 rfl (fun w' hq => pv_pick_f rfl (by first | assumption | exact decide_eq_false (by omega) | exact dec_notF (by omega)) rfl) ?_)
            all_goals (refine aw_done (by kernel_rfl) ?_; replace hw := hS; clear hS hNP)
            repeat' (first | (refine is_cw ?_; first | (refine cw_seq ?_) | (refine cw_false rfl (by first | assumption | exact decide_eq_false (by omega) | exact dec_notF (by omega)) ?_) | (refine cw_skip ?_)) | (refine is_qw ?_; first | (with_reducible refine qw_then ?_)))
            refine cw_drawn (fun w' => Below wn.heap.size wn w') (by kernel_rfl) (by repeat (first | exact NoPanic.body | with_reducible refine NoPanic.then ?_ | with_reducible refine NoPanic.inBlock ?_)) (fun hNP => ?_)
            have hS := hw.drew
            (refine at0 0 rfl (fun w' hq => pv_move rfl) ?_)
            (refine at0 1 rfl (fun w' hq => pv_move rfl) ?_)
            (refine at0 2 rfl (fun w' hq => pv_ia (tS rfl) rfl rfl (by omega)) ?_)
            (refine at0 3 rfl (fun w' hq => pv_load (t1 rfl) rfl (by first | exact SlR.ld (HN.mono hq) x1 rfl | exact SlR.ld1 (HN.mono hq) x1 rfl | exact SlR.ld (HN.mono hq) x2 rfl | exact SlR.ld1 (HN.mono hq) x2 rfl | exact SlR.ld (HN.mono hq) x3 rfl | exact SlR.ld1 (HN.mono hq) x3 rfl | exact PT.ld0 (HA.mono hq) rfl | exact PT.ld (HA.mono hq) rfl)) ?_)
            (refine at0 4 rfl (fun w' hq => pv_fa (tF rfl) rfl) ?_)
            (refine at0 5 rfl (fun w' hq => pv_load (t1 rfl) rfl (by first | exact SlR.ld (HN.mono hq) x1 rfl | exact SlR.ld1 (HN.mono hq) x1 rfl | exact SlR.ld (HN.mono hq) x2 rfl | exact SlR.ld1 (HN.mono hq) x2 rfl | exact SlR.ld (HN.mono hq) x3 rfl | exact SlR.ld1 (HN.mono hq) x3 rfl | exact PT.ld0 (HA.mono hq) rfl | exact PT.ld (HA.mono hq) rfl)) ?_)
            (refine at0 6 rfl (fun w' hq => pv_fa (tF rfl) rfl) ?_)
            (refine at0 7 rfl (fun w' hq => pv_load (t1 rfl) rfl (by first | exact SlR.ld (HN.mono hq) x1 rfl | exact SlR.ld1 (HN.mono hq) x1 rfl | exact SlR.ld (HN.mono hq) x2 rfl | exact SlR.ld1 (HN.mono hq) x2 rfl | exact SlR.ld (HN.mono hq) x3 rfl | exact SlR.ld1 (HN.mono hq) x3 rfl | exact PT.ld0 (HA.mono hq) rfl | exact PT.ld (HA.mono hq) rfl)) ?_)
            (refine at0 8 rfl (fun w' hq => pv_move rfl) ?_)
            (refine at0 9 rfl (fun w' hq => pv_ia (tS rfl) rfl rfl (by omega)) ?_)
            (refine at0 10 rfl (fun w' hq => pv_load (t1 rfl) rfl (by first | exact SlR.ld (HN.mono hq) x1 rfl | exact SlR.ld1 (HN.mono hq) x1 rfl | exact SlR.ld (HN.mono hq) x2 rfl | exact SlR.ld1 (HN.mono hq) x2 rfl | exact SlR.ld (HN.mono hq) x3 rfl | exact SlR.ld1 (HN.mono hq) x3 rfl | exact PT.ld0 (HA.mono hq) rfl | exact PT.ld (HA.mono hq) rfl)) ?_)
            (refine at0 11 rfl (fun w' hq => tyB_39 rfl rfl rfl) ?_)
            (refine at0 13 rfl (fun w' hq => pv_fa (tF rfl) rfl) ?_)
            (refine at0 14 rfl (fun w' hq => pv_load (t1 rfl) rfl (by first | exact SlR.ld (HN.mono hq) x1 rfl | exact SlR.ld1 (HN.mono hq) x1 rfl | exact SlR.ld (HN.mono hq) x2 rfl | exact SlR.ld1 (HN.mono hq) x2 rfl | exact SlR.ld (HN.mono hq) x3 rfl | exact SlR.ld1 (HN.mono hq) x3 rfl | exact PT.ld0 (HA.mono hq) rfl | exact PT.ld (HA.mono hq) rfl)) ?_)
            (refine at0 15 rfl (fun w' hq => pv_fa (tF rfl) rfl) ?_)
            (refine at0 16 rfl (fun w' hq => pv_load (t1 rfl) rfl (by first | exact SlR.ld (HN.mono hq) x1 rfl | exact SlR.ld1 (HN.mono hq) x1 rfl | exact SlR.ld (HN.mono hq) x2 rfl | exact SlR.ld1 (HN.mono hq) x2 rfl | exact SlR.ld (HN.mono hq) x3 rfl | exact SlR.ld1 (HN.mono hq) x3 rfl | exact PT.ld0 (HA.mono hq) rfl | exact PT.ld (HA.mono hq) rfl)) ?_)
            (refine at0 17 rfl (fun w' hq => pv_fa (tF rfl) rfl) ?_)
            (refine at0 18 rfl (fun w' hq => pv_load (t1 rfl) rfl (by first | exact SlR.ld (HN.mono hq) x1 rfl | exact SlR.ld1 (HN.mono hq) x1 rfl | exact SlR.ld (HN.mono hq) x2 rfl | exact SlR.ld1 (HN.mono hq) x2 rfl | exact SlR.ld (HN.mono hq) x3 rfl | exact SlR.ld1 (HN.mono hq) x3 rfl | exact PT.ld0 (HA.mono hq) rfl | exact PT.ld (HA.mono hq) rfl)) ?_)
            (refine at0 19 rfl (fun w' hq => pv_move rfl) ?_)
            (refine at0 20 rfl (fun w' hq => pv_ia (tS rfl) rfl rfl (by omega)) ?_)
            (refine at0 21 rfl (fun w' hq => pv_load (t1 rfl) rfl (by first | exact SlR.ld (HN.mono hq) x1 rfl | exact SlR.ld1 (HN.mono hq) x1 rfl | exact SlR.ld (HN.mono hq) x2 rfl | exact SlR.ld1 (HN.mono hq) x2 rfl | exact SlR.ld (HN.mono hq) x3 rfl | exact SlR.ld1 (HN.mono hq) x3 rfl | exact PT.ld0 (HA.mono hq) rfl | exact PT.ld (HA.mono hq) rfl)) ?_)
            (refine at0 22 rfl (fun w' hq => pv_move rfl) ?_)
            (refine at0 23 rfl (fun w' hq => pv_ia (tS rfl) rfl rfl (by omega)) ?_)
            (refine at0 24 rfl (fun w' hq => pv_load (t1 rfl) rfl (by first | exact SlR.ld (HN.mono hq) x1 rfl | exact SlR.ld1 (HN.mono hq) x1 rfl | exact SlR.ld (HN.mono hq) x2 rfl | exact SlR.ld1 (HN.mono hq) x2 rfl | exact SlR.ld (HN.mono hq) x3 rfl | exact SlR.ld1 (HN.mono hq) x3 rfl | exact PT.ld0 (HA.mono hq) rfl | exact PT.ld (HA.mono hq) rfl)) ?_)
            (refine at0 25 rfl (fun w' hq => pv_sub rfl rfl (by omega)) ?_)
            (refine at0 26 rfl (fun w' hq => tyB_39 rfl rfl rfl) ?_)
            refine aw_act 12 (by kernel_rfl) rfl rfl rfl ?_
            refine act_call (f := 42) (by kernel_rfl) rfl (radd_c ⟨n1, ol.inst, ol.qty, 0, n2, 0⟩ hml (by omega) hM ho1 (HS.mono hS)) ?_; rintro e1 w8 ⟨⟨v1, rfl, hO1⟩, hb⟩; obtain ⟨a1, c1, rfl, HS1, -⟩ := Own.slR encS_len hO1; refine ⟨_, rfl, grow_trans hS hb, fun hS => ?_⟩
            refine aw_act 27 (by kernel_rfl) rfl rfl rfl ?_
            refine act_call (f := 42) (by kernel_rfl) rfl (radd_c ⟨ol.seller, ol.inst, 0, ol.qty, 0, n2 - n3⟩ rfl (by omega) hM1 ho2 HS1) ?_; rintro e1 w9 ⟨⟨v2, rfl, hO2⟩, hb⟩; refine ⟨_, rfl, grow_trans hS hb, fun hS => ?_⟩
            (refine at0 28 rfl (fun w' hq => pv_assign rfl) ?_)
            (refine at0 29 rfl (fun w' hq => pv_assign rfl) ?_)
            refine aw_done (by kernel_rfl) ?_
            replace hw := hS; clear hS hNP
            repeat' (first | (refine is_cw ?_; first | (refine cw_ret ?_)) | (refine is_qw ?_; first | (with_reducible refine qw_then ?_) | (with_reducible refine qw_then_ret ?_)))
            exact qw_ret2 rfl rfl rfl ⟨refS_own hO2, (hE.mono hw).b⟩
        · rw [posR_err hgo (Or.inr k2) hf]
          repeat' (first | (refine lw_pure rfl (pv_move rfl) ?_) | (refine lw_pure rfl (pv_assign rfl) ?_) | (refine is_cw ?_; first | (refine cw_seq ?_) | (refine cw_region ?_) | (refine cw_true rfl (by first | assumption | exact decide_eq_true (by omega) | exact dec_notT (by omega)) ?_) | (refine cw_false rfl (by first | assumption | exact decide_eq_false (by omega) | exact dec_notF (by omega)) ?_) | (refine cw_skip ?_) | (refine cw_ret ?_)) | (refine is_qw ?_; first | (with_reducible refine qw_then ?_) | (with_reducible refine qw_then_ret ?_)) | (refine lw_nil ?_) | ((refine is_bin ?_; first | (refine lw_pure rfl (pv_eql rfl rfl) ?_) | (refine lw_pure rfl (pv_neq rfl rfl) ?_))) | ((refine is_load ?_; first | (refine lw_pure rfl (pv_load (t1 rfl) rfl (by first | exact PT.ld0 (HV.mono hw) rfl | exact PT.ld (HV.mono hw) rfl)) ?_))) | ((refine is_fa ?_; first | (refine lw_pure rfl (pv_fa (tF rfl) rfl) ?_))))
          exact qw_ret2 rfl rfl rfl ⟨refS_nil _ _, (hE.mono hw).b⟩
      · rw [posR_keep hgo k1 k2]
        repeat' (first | (refine lw_pure rfl (pv_assign rfl) ?_) | (refine is_cw ?_; first | (refine cw_seq ?_) | (refine cw_region ?_) | (refine cw_false rfl (by first | assumption | exact decide_eq_false (by omega) | exact dec_notF (by omega)) ?_) | (refine cw_skip ?_)) | (refine is_qw ?_; first | (with_reducible refine qw_then ?_)) | (refine lw_nil ?_) | ((refine is_bin ?_; first | (refine lw_pure rfl (pv_eql rfl rfl) ?_))) | ((refine is_load ?_; first | (refine lw_pure rfl (pv_load (t1 rfl) rfl (by first | exact PT.ld0 (HV.mono hw) rfl | exact PT.ld (HV.mono hw) rfl)) ?_))) | ((refine is_fa ?_; first | (refine lw_pure rfl (pv_fa (tF rfl) rfl) ?_))))
        refine lw_bs0 (enc := encS) elemS rfl ?_; intro wn hO hb hz
        have hB := grow_trans hw hb
        repeat' (first | (refine lw_pure rfl (pv_move rfl) ?_))
        refine lw_app elemS encS_len encS_one rfl rfl rfl hO (HS.mono hB) hml.symm (by omega) (by simp; omega) (by simp [maxLen]; omega) ?_; intro v2 w2 hO2 hg hb2
        replace hw := hB.trans (hb2.mono hw.size)
        repeat' (first | (refine lw_pure rfl (pv_assign rfl) ?_) | (refine is_cw ?_; first | (refine cw_ret ?_)) | (refine is_qw ?_; first | (with_reducible refine qw_then ?_)) | (refine lw_nil ?_))
        exact qw_ret2 rfl rfl rfl ⟨refS_own (by simpa using hO2), (hE.mono hw).b⟩
end Go.Proofs.YtemngicaoacfaaaGreatDoor
namespace Go.Proofs.YtemngicaoacfaaaGreatDoor
open Go.RowKit Go.PlainAid

def PhiE (B : Nat) (l : List Pos) (p : List Opn) (t : List Lt) (e : Evt) (i : Nat) (v : Value) (w : World) : Prop := match i with
  | 0 => Emp 39 B v w
  | 3 => Emp 49 B v w
  | 6 => Emp 53 B v w
  | 2 => Own encS 6 39 B w v l
  | 12 => Own encS 6 39 B w v l
  | 5 => Own encP 6 49 B w v p
  | 13 => Own encP 6 49 B w v p
  | 8 => Own encL 4 53 B w v t
  | 14 => Own encL 4 53 B w v t
  | 10 => ∃ vn vx, v = .agg #[.int .u8 e.v, .int .u8 e.kind, vn, vx] ∧ Own encI 1 2 B w vn e.nums ∧ Own encT 1 9 B w vx e.texts
  | 11 => ∃ N, B ≤ N ∧ v = .pointer (some ⟨N, 0, none⟩) ∧ PT4 N w
  | _ => True
theorem phiE_mono {B : Nat} {l : List Pos} {p : List Opn} {t : List Lt} {e : Evt} (i : Nat) (v : Value) (w w' : World) (h : PhiE B l p t e i v w) (hb : Below w.heap.size w w') : PhiE B l p t e i v w' := by
  unfold PhiE at h ⊢
  split
  · exact Emp.mono h hb
  · exact Emp.mono h hb
  · exact Emp.mono h hb
  · exact Own.mono h hb
  · exact Own.mono h hb
  · exact Own.mono h hb
  · exact Own.mono h hb
  · exact Own.mono h hb
  · exact Own.mono h hb
  · obtain ⟨vn, vx, h1, h2, h3⟩ := h
    exact ⟨vn, vx, h1, h2.mono hb, h3.mono hb⟩
  · obtain ⟨N, h1, h2, h3⟩ := h
    exact ⟨N, h1, h2, h3.mono hb⟩
  · trivial
theorem own_own_ne {α β : Type} {enc : α → List Value} {enc' : β → List Value} {k k' B B' : Nat} {T T' : TypeId} {w : World} {v v' : Value} {xs : List α} {ys : List β} (h : Own enc k T B w v xs) (h' : Own enc' k' T' B' w v' ys) (hT : T ≠ T') : v.ownBlock = none ∨ v.ownBlock ≠ v'.ownBlock := by
  rcases h.2 with ⟨rfl, _⟩ | ⟨g, cap, cur, rfl, _, hg, _⟩
  · exact Or.inl rfl
  · rcases h'.2 with ⟨rfl, _⟩ | ⟨g', cap', cur', rfl, _, hg', _⟩
    · exact Or.inr (by simp [Value.ownBlock])
    · refine Or.inr fun he => ?_
      have e1 : g = g' := by simpa [Value.ownBlock] using he
      subst e1
      rw [hg] at hg'
      injection hg' with hg'; injection hg' with _ h2 _
      exact hT h2
set_option maxRecDepth 20000 in
set_option maxHeartbeats 8000000 in
theorem events_c {l : List Pos} {p : List Opn} {t : List Lt} {x : EvC} {e : Evt} {a b c : Option Addr} {m n o ca cb cc : Nat} {w : World} (hm : l.length = m) (hn : p.length = n) (ho : t.length = o) (HS : SlR encS 6 w a ca l) (HP : SlR encP 6 w b cb p) (HL : SlR encL 4 w c cc t) (HR : EvR w x e) (hK : KnW w) :
    Calls Tryz.prog 3 #[.slice a m ca, .slice b n cb, .slice c o cc, .agg (encV x).toArray] w fun e1 w' => e1 = .returned (.bool true) ∧ Below w.heap.size w w' := by
  subst hm hn ho
  have hE := Ext.refl w
  have hw := Below.refl w.heap.size w
  have hsl := HS.le
  have hsm := HS.max
  obtain ⟨xv, xk, xan, xmn, xcn, xax, xmx, xcx⟩ := x
  obtain ⟨r1, r2, r3, r4, HN, HX, h8, htx⟩ := HR
  simp only at r1 r2 r3 r4 HN HX
  subst r1 r2 r3 r4
  refine fn_enter 99 Tryz.func3 rfl rfl rfl ?_
  repeat' (first | (refine is_cw ?_; first | (refine cw_seq ?_) | (refine cw_region ?_)))
  refine lw_boxN rfl rfl (cs := [.int .u8 e.v, .int .u8 e.kind, .slice xan e.nums.length xcn, .slice xax e.texts.length xcx]) rfl ?_; intro N7 w7 hN7 HV hb
  replace hw := grow_trans hw hb
  clear hb
  replace hE := hE.mono hw; replace HS := HS.mono hw; replace HP := HP.mono hw; replace HL := HL.mono hw; replace HN := HN.mono hw; replace HX := HX.mono hw; replace hK := hK.mono hw; clear hw; have hw := Below.refl w7.heap.size w7
  repeat' (first | (refine lw_pure rfl (pv_move rfl) ?_) | (refine lw_pure rfl (pv_assign rfl) ?_) | (refine is_cw ?_; first | (refine cw_seq ?_) | (refine cw_region ?_)) | (refine is_qw ?_; first | (with_reducible refine qw_then ?_)) | (refine lw_nil ?_) | ((refine is_load ?_; first | (refine lw_pure rfl (pv_loada (tA rfl) rfl (by first | exact PT.lda (HV.mono hw)) (by rfl)) ?_))))
  refine lw_call (f := 9) (by kernel_rfl) rfl rfl (long_c rfl HX) ?_; rintro e1 w1 ⟨⟨r, rfl, hr⟩, hb⟩; refine ⟨_, rfl, ?_⟩; replace hw := grow_trans hw hb; clear hb
  cases r with
  | true =>
    repeat' (first | (refine lw_pure rfl (pv_assign rfl) ?_) | ((refine lw_call (f := 10) (by kernel_rfl) rfl rfl (awake_c (hK.mono hw)) ?_; rintro e1 wz ⟨rfl, hb⟩; refine ⟨_, rfl, ?_⟩; replace hw := grow_trans hw hb; clear hb)) | (refine is_cw ?_; first | (refine cw_seq ?_) | (refine cw_region ?_) | (refine cw_true rfl rfl ?_) | (refine cw_ret ?_)) | (refine is_qw ?_; first | (with_reducible refine qw_then ?_) | (with_reducible refine qw_then_ret ?_)) | (refine lw_nil ?_))
    exact qw_ret1 rfl rfl ⟨rfl, (hE.mono hw).b⟩
  | false =>
    obtain ⟨hl1, hl2, hl3, hl4, hl5⟩ := hr rfl
    clear hr
    replace hE := hE.mono hw; replace HS := HS.mono hw; replace HP := HP.mono hw; replace HL := HL.mono hw; replace HN := HN.mono hw; replace HX := HX.mono hw; replace hK := hK.mono hw; replace HV := HV.mono hw; clear hw; have hw := Below.refl w1.heap.size w1
    have S1 := HS
    have P1 := HP
    have L1 := HL
    have K1 := hK
    have E1 := hE
    repeat' (first | (refine is_cw ?_; first | (refine cw_seq ?_) | (refine cw_false rfl rfl ?_) | (refine cw_skip ?_)) | (refine is_qw ?_; first | (with_reducible refine qw_then ?_)) | (refine lw_nil ?_))
    refine cw_drawn (fun w' => Below w1.heap.size w1 w') (by kernel_rfl) (by repeat (first | exact NoPanic.body | with_reducible refine NoPanic.then ?_ | with_reducible refine NoPanic.inBlock ?_)) (fun hNP => ?_)
    have hS := hw.drew
    first | (refine at0 1 rfl (fun w' hq => pv_move rfl) ?_)
    first | (refine at0 4 rfl (fun w' hq => pv_move rfl) ?_)
    first | (refine at0 7 rfl (fun w' hq => pv_move rfl) ?_)
    first | (refine at0 9 rfl (fun w' hq => pv_loada (tA rfl) rfl (by first | exact PT.lda (HV.mono hq)) (by rfl)) ?_)
    refine aw_any [(0, []), (3, []), (6, []), (2, [0]), (5, [3]), (8, [6]), (10, []), (11, []), (12, [2]), (13, [5]), (14, [8])] 15 [11, 10, 12, 13, 14] (PhiE w1.heap.size l p t e) rfl (by kernel_rfl) rfl rfl (by kernel_rfl) (by kernel_rfl) (by kernel_rfl) (by kernel_rfl) (by kernel_rfl) (by kernel_rfl) (by kernel_rfl) (by kernel_rfl) (by kernel_rfl) hS (fun i v w w' => phiE_mono i v w w') ?_ ?_
    · refine stepsR_cons rfl (fun wa hS => ?_) ?_
      · refine depStep_nil ?_; refine act_bs0 elemS hS.size ?_; intro v wb hv hb; exact ⟨grow_trans hS hb, hb, hv⟩
      refine stepsR_cons rfl (fun wa hS => ?_) ?_
      · refine depStep_nil ?_; refine act_bs0 elemP hS.size ?_; intro v wb hv hb; exact ⟨grow_trans hS hb, hb, hv⟩
      refine stepsR_cons rfl (fun wa hS => ?_) ?_
      · refine depStep_nil ?_; refine act_bs0 elemL hS.size ?_; intro v wb hv hb; exact ⟨grow_trans hS hb, hb, hv⟩
      refine stepsR_cons rfl (fun wa hS => ?_) ?_
      · refine depStep_cons rfl (fun v0 h0 => ?_); refine depStep_nil ?_; refine act_app0 elemS encS_len encS_one rfl h0 rfl (HS.mono hS) rfl hS.size (by omega) (by simp [maxLen]; omega) ?_; intro v wb hv hb; exact ⟨grow_trans hS hb, hb, hv⟩
      refine stepsR_cons rfl (fun wa hS => ?_) ?_
      · refine depStep_cons rfl (fun v3 h3 => ?_); refine depStep_nil ?_; refine act_app0 elemP encP_len encP_one rfl h3 rfl (HP.mono hS) rfl hS.size (by omega) (by simp [maxLen]; omega) ?_; intro v wb hv hb; exact ⟨grow_trans hS hb, hb, hv⟩
      refine stepsR_cons rfl (fun wa hS => ?_) ?_
      · refine depStep_cons rfl (fun v6 h6 => ?_); refine depStep_nil ?_; refine act_app0 elemL encL_len encL_one rfl h6 rfl (HL.mono hS) rfl hS.size (by omega) (by simp [maxLen]; omega) ?_; intro v wb hv hb; exact ⟨grow_trans hS hb, hb, hv⟩
      refine stepsR_cons rfl (fun wa hS => ?_) ?_
      · refine depStep_nil ?_; refine act_call (f := 11) (by kernel_rfl) rfl (own_c (e := e) rfl rfl (by omega) (by omega) (HN.mono hS) (HX.mono hS)) ?_; rintro e1 wb ⟨⟨vn, vx, rfl, hn1, hx1⟩, hb⟩; refine ⟨_, rfl, ?_⟩; exact ⟨grow_trans hS hb, hb, ⟨vn, vx, rfl, hn1.weaken hS.size, hx1.weaken hS.size⟩⟩
      refine stepsR_cons rfl (fun wa hS => ?_) ?_
      · refine depStep_nil ?_; refine act_alloc (by first | exact tyv_27 | exact tyv_28 | exact tyv_38 | exact tyv_39 | exact tyv_48 | exact tyv_49 | exact tyv_52 | exact tyv_53 | exact tyv_68 | exact tyv_69 | exact tyv_79 | exact tyv_80 | exact tyv_94 | exact tyv_95 | exact tyv_131 | exact tyv_132) rfl ?_; intro N wb hN H hb; exact ⟨grow_trans hS hb, hb, ⟨N, Nat.le_trans hS.size hN, rfl, _, rfl, H⟩⟩
      refine stepsR_cons rfl (fun wa hS => ?_) ?_
      · refine depStep_cons rfl (fun v2 h2 => ?_); refine depStep_nil ?_; exact act_pv (pv_assign rfl) ⟨hS, Below.refl _ _, h2⟩
      refine stepsR_cons rfl (fun wa hS => ?_) ?_
      · refine depStep_cons rfl (fun v5 h5 => ?_); refine depStep_nil ?_; exact act_pv (pv_assign rfl) ⟨hS, Below.refl _ _, h5⟩
      refine stepsR_cons rfl (fun wa hS => ?_) ?_
      · refine depStep_cons rfl (fun v8 h8 => ?_); refine depStep_nil ?_; exact act_pv (pv_assign rfl) ⟨hS, Below.refl _ _, h8⟩
      exact stepsR_nil
    · intro wa hS; refine endR_cons rfl (fun v11 h11 => ?_); refine endR_cons rfl (fun v10 h10 => ?_); refine endR_cons rfl (fun v12 h12 => ?_); refine endR_cons rfl (fun v13 h13 => ?_); refine endR_cons rfl (fun v14 h14 => ?_); refine endR_nil ?_; obtain ⟨N, hN, rfl, cs, hcs, HP4⟩ := h11; obtain ⟨vn, vx, rfl, hn1, hx1⟩ := h10; refine act_storea (vs := [.int .u8 e.v, .int .u8 e.kind, vn, vx]) HP4 (tZ rfl) rfl rfl rfl hcs (own_one hn1 hx1) ?_; intro w5 H5 hg5 hz5; refine ⟨st_hw hS hg5 hN, ?_⟩
      have hO1 : Own encS 6 39 w1.heap.size wa v12 l := h12
      have hO2 : Own encP 6 49 w1.heap.size wa v13 p := h13
      have hO3 : Own encL 4 53 w1.heap.size wa v14 t := h14
      replace hO1 := hO1.kept hg5 (Or.inr (own_pt_ne hO1 HP4 (by decide)))
      replace hO2 := hO2.kept hg5 (Or.inr (own_pt_ne hO2 HP4 (by decide)))
      replace hO3 := hO3.kept hg5 (Or.inr (own_pt_ne hO3 HP4 (by decide)))
      replace hn1 := hn1.kept hg5 (Or.inr (own_pt_ne hn1 HP4 (by decide)))
      replace hx1 := hx1.kept hg5 (Or.inr (own_pt_ne hx1 HP4 (by decide)))
      replace hw := st_hw hS hg5 hN
      clear hg5 hz5 HP4 hS h12 h13 h14
      obtain ⟨ia, ic, rfl, I1, -⟩ := Own.slR encS_len hO1
      obtain ⟨ja, jc, rfl, I2, -⟩ := Own.slR encP_len hO2
      obtain ⟨ka, kc, rfl, I3, -⟩ := Own.slR encL_len hO3
      obtain ⟨na, nc, rfl, NN, -⟩ := Own.slR encI_len hn1
      obtain ⟨xa, xc, rfl, NX, -⟩ := Own.slR encT_len hx1
      clear hn1 hx1
      have hB := hw
      replace hE := hE.mono hw; replace HS := HS.mono hw; replace HP := HP.mono hw; replace HL := HL.mono hw; replace HN := HN.mono hw; replace HX := HX.mono hw; replace hK := hK.mono hw; replace HV := HV.mono hw; clear hw; have hw := Below.refl w5.heap.size w5
      repeat' (first | (refine lw_pure rfl (pv_move rfl) ?_) | (refine is_cw ?_; first | (refine cw_seq ?_) | (refine cw_region ?_)) | (refine is_qw ?_; first | (with_reducible refine qw_then ?_)) | ((refine is_load ?_; first | (refine lw_pure rfl (pv_loada (tA rfl) rfl (by first | exact PT.lda (HV.mono hw)) (by rfl)) ?_))))
      refine lw_call (f := 12) (by kernel_rfl) rfl rfl (rpev_c rfl (by omega) rfl rfl rfl rfl HS HP HL HN HX htx) ?_; rintro e1 w6 ⟨hR, hb⟩
      obtain ⟨R, hR2⟩ : ∃ R, posR l p t e = R := ⟨_, rfl⟩
      rw [hR2] at hR
      obtain ⟨R1, k0⟩ := R
      obtain ⟨ra, rc, rfl, HW⟩ := hR
      dsimp only at HW ⊢
      refine ⟨_, rfl, ?_⟩
      replace hO1 := hO1.mono hb
      replace hO2 := hO2.mono hb
      replace hO3 := hO3.mono hb
      replace hB := grow_trans hB hb
      replace hw := grow_trans hw hb
      clear hb
      replace hE := hE.mono hw; replace HS := HS.mono hw; replace HP := HP.mono hw; replace HL := HL.mono hw; replace HN := HN.mono hw; replace hK := hK.mono hw; replace HV := HV.mono hw; replace I1 := I1.mono hw; replace I2 := I2.mono hw; replace I3 := I3.mono hw; replace NN := NN.mono hw; replace NX := NX.mono hw; replace H5 := H5.mono hw; clear hw; have hw := Below.refl w6.heap.size w6
      clear HX
      have hEW := hE.le
      repeat' (first | (refine lw_pure rfl (pv_move rfl) ?_) | (refine lw_pure rfl (pv_assign rfl) ?_) | (refine is_cw ?_; first | (refine cw_seq ?_) | (refine cw_region ?_) | (refine cw_block ?_)) | (refine is_qw ?_; first | (with_reducible refine qw_then ?_)) | (refine lw_nil ?_) | (refine lw_pure rfl (pv_extract rfl rfl) ?_))
      refine cw_loop (σ := Nat) (fun k => [(0, .slice a l.length ca), (1, .slice b p.length cb), (2, .slice c t.length cc), (7, .pointer (some ⟨N7, 0, none⟩)), (9, .slice ia l.length ic), (10, .slice ja p.length jc), (11, .slice ka t.length kc), (12, .pointer (some ⟨N, 0, none⟩)), (13, .slice ra R1.length rc), (14, .int .i64 k0), (15, .int .i64 (k : Nat))]) (fun k wr => k ≤ 2 ∧ Below w6.heap.size w6 wr) (fun k => 2 - k) 0 (by repeat' (first | exact trivial | refine ⟨rfl, ?_⟩)) ⟨Nat.zero_le _, hw⟩ ?_
      clear hw
      rintro k wr ⟨hk, hw⟩
      by_cases hlt : k < 2
      · repeat' (first | (refine lw_pure rfl (pv_move rfl) ?_) | (refine is_cw ?_; first | (refine cw_seq ?_) | (refine cw_region ?_) | (refine cw_true rfl (by first | assumption | exact decide_eq_true (by omega) | exact dec_notT (by omega)) ?_) | (refine cw_skip ?_) | (refine cw_block ?_)) | (refine is_qw ?_; first | (with_reducible refine qw_then ?_)) | (refine lw_nil ?_) | ((refine is_bin ?_; first | (refine lw_pure rfl (pv_lss rfl rfl) ?_))) | ((refine is_load ?_; first | (refine lw_pure rfl (pv_loada (tA rfl) rfl (by first | exact PT.lda (H5.mono hw)) (by rfl)) ?_))))
        refine lw_call (f := 13) (by kernel_rfl) rfl rfl (pev_c h8 rfl (by omega) rfl rfl rfl rfl (I1.mono hw) (I2.mono hw) (I3.mono hw) (NN.mono hw) (NX.mono hw) htx (hK.mono hw)) ?_; rintro e1 w8 ⟨⟨vo, rfl, hO⟩, hb⟩
        rw [hR2] at hO ⊢
        dsimp only at hO ⊢
        refine ⟨_, rfl, ?_⟩
        have hw0 := hw.size
        replace hw := grow_trans hw hb
        clear hb
        repeat' (first | (refine lw_pure rfl (pv_move rfl) ?_) | (refine lw_pure rfl (pv_assign rfl) ?_) | (refine lw_pure rfl (pv_neqs rfl rfl) ?_) | (refine is_cw ?_; first | (refine cw_seq ?_) | (refine cw_region ?_)) | (refine is_qw ?_; first | (with_reducible refine qw_then ?_)) | (refine lw_nil ?_) | (refine is_guarded ?_; first | (refine lw_on rfl rfl rfl ?_)) | (refine lw_pure rfl (pv_extract rfl rfl) ?_))
        refine lw_call (f := 14) (by kernel_rfl) rfl rfl (is_g rfl hO (HW.mono hw)) ?_; rintro e1 x5 ⟨rfl, hg⟩; refine ⟨_, rfl, ?_⟩
        replace hw := below_own hw hO hg hw0
        rw [show decide (R1 = R1) = true by simp]
        clear hg hO
        repeat' (first | (refine lw_pure rfl (pv_move rfl) ?_) | (refine lw_pure rfl (pv_assign rfl) ?_) | (refine is_cw ?_; first | (refine cw_region ?_) | (refine cw_false rfl rfl ?_) | (refine cw_skip ?_)) | (refine is_qw ?_; first | (with_reducible refine qw_then ?_) | (with_reducible refine qw_in ?_)) | (refine lw_nil ?_) | (refine is_guarded ?_; first | (refine lw_on rfl rfl rfl ?_)) | ((refine is_bin ?_; first | (refine lw_pure rfl (pv_inc rfl rfl (by omega)) ?_))) | ((refine is_un ?_; first | (refine lw_pure rfl (pv_not rfl) ?_))) | (refine lw_pure rfl (pv_pick_f rfl rfl rfl) ?_))
        exact qw_round (k + 1) (by repeat' (first | exact trivial | refine ⟨rfl, ?_⟩)) ⟨by omega, hw⟩ (by omega)
      have hk2 : k = 2 := by omega
      subst hk2
      clear hlt hk
      replace hO1 := hO1.mono hw
      replace hO2 := hO2.mono hw
      replace hO3 := hO3.mono hw
      replace hB := grow_trans hB hw
      replace hE := hE.mono hw; replace HS := HS.mono hw; replace HP := HP.mono hw; replace HL := HL.mono hw; replace HN := HN.mono hw; replace hK := hK.mono hw; replace HV := HV.mono hw; replace I2 := I2.mono hw; replace I3 := I3.mono hw; replace NN := NN.mono hw; replace H5 := H5.mono hw; clear hw; have hw := Below.refl wr.heap.size wr
      clear I1 NX HW hR2
      repeat' (first | (refine lw_pure rfl (pv_move rfl) ?_) | (refine lw_pure rfl (pv_assign rfl) ?_) | (refine is_cw ?_; first | (refine cw_seq ?_) | (refine cw_region ?_) | (refine cw_false rfl rfl ?_) | (refine cw_block ?_) | (refine cw_exit ?_)) | (refine is_qw ?_; first | (with_reducible refine qw_then ?_) | (with_reducible refine qw_in_hit ?_) | (with_reducible refine qw_then_exit ?_)) | (refine lw_nil ?_) | ((refine is_bin ?_; first | (refine lw_pure rfl (pv_lss rfl rfl) ?_))))
      refine cw_loop (σ := Nat) (fun k => [(0, .slice a l.length ca), (1, .slice b p.length cb), (2, .slice c t.length cc), (7, .pointer (some ⟨N7, 0, none⟩)), (9, .slice ia l.length ic), (10, .slice ja p.length jc), (11, .slice ka t.length kc), (12, .pointer (some ⟨N, 0, none⟩)), (18, .int .i64 (k : Nat))]) (fun k ws => k ≤ e.nums.length ∧ Below wr.heap.size wr ws) (fun k => e.nums.length - k) 0 (by repeat' (first | exact trivial | refine ⟨rfl, ?_⟩)) ⟨Nat.zero_le _, hw⟩ ?_
      clear hw
      rintro k ws ⟨hk, hw⟩
      by_cases hlt : k < e.nums.length
      · have hxk : e.nums[k]? = some e.nums[k] := List.getElem?_eq_getElem hlt
        obtain ⟨ab, ao, rfl, -, -⟩ := HN.at (by intro h; rw [h] at hlt; simp at hlt)
        obtain ⟨nb, no, rfl, -, -⟩ := NN.at (by intro h; rw [h] at hlt; simp at hlt)
        generalize e.nums[k] = s at hxk
        repeat' (first | (refine lw_pure rfl (pv_move rfl) ?_) | (refine is_cw ?_; first | (refine cw_seq ?_) | (refine cw_region ?_) | (refine cw_true rfl (by first | assumption | exact decide_eq_true (by omega) | exact dec_notT (by omega)) ?_) | (refine cw_skip ?_) | (refine cw_block ?_)) | (refine is_qw ?_; first | (with_reducible refine qw_then ?_)) | (refine lw_nil ?_) | ((refine is_bin ?_; first | (refine lw_pure rfl (pv_lss rfl rfl) ?_))) | ((refine is_load ?_; first | (refine lw_pure rfl (pv_load (t1 rfl) rfl (by first | exact PT.ld0 (HV.mono hw) rfl | exact PT.ld (HV.mono hw) rfl)) ?_))) | ((refine is_fa ?_; first | (refine lw_pure rfl (pv_fa (tF rfl) rfl) ?_))) | ((refine is_bi ?_; first | (refine lw_pure rfl (pv_lenl (tS rfl) rfl) ?_))))
        have hwr := hw
        replace hE := hE.mono hw; replace HS := HS.mono hw; replace HP := HP.mono hw; replace HL := HL.mono hw; replace HN := HN.mono hw; replace HV := HV.mono hw; replace NN := NN.mono hw; replace H5 := H5.mono hw; clear hw; have hw := Below.refl ws.heap.size ws
        refine cw_drawn (fun w' => Below ws.heap.size ws w') (by kernel_rfl) (by repeat (first | exact NoPanic.body | with_reducible refine NoPanic.then ?_ | with_reducible refine NoPanic.inBlock ?_)) (fun hNP => ?_)
        have hS := hw.drew
        (refine at0 0 rfl (fun w' hq => pv_fa (tF rfl) rfl) ?_)
        (refine at0 1 rfl (fun w' hq => pv_load (t1 rfl) rfl (by first | exact PT.ld0 (HV.mono hq) rfl | exact PT.ld (HV.mono hq) rfl | exact PT.ld0 (H5.mono hq) rfl | exact PT.ld (H5.mono hq) rfl | exact SlR.ld (HN.mono hq) hxk rfl | exact SlR.ld1 (HN.mono hq) hxk rfl | exact SlR.ld (NN.mono hq) hxk rfl | exact SlR.ld1 (NN.mono hq) hxk rfl)) ?_)
        (refine at0 2 rfl (fun w' hq => pv_move rfl) ?_)
        (refine at0 3 rfl (fun w' hq => pv_ian (tS rfl) rfl rfl (by omega)) ?_)
        (refine at0 4 rfl (fun w' hq => pv_load (t1 rfl) rfl (by first | exact PT.ld0 (HV.mono hq) rfl | exact PT.ld (HV.mono hq) rfl | exact PT.ld0 (H5.mono hq) rfl | exact PT.ld (H5.mono hq) rfl | exact SlR.ld (HN.mono hq) hxk rfl | exact SlR.ld1 (HN.mono hq) hxk rfl | exact SlR.ld (NN.mono hq) hxk rfl | exact SlR.ld1 (NN.mono hq) hxk rfl)) ?_)
        (refine at0 5 rfl (fun w' hq => pv_fa (tF rfl) rfl) ?_)
        (refine at0 6 rfl (fun w' hq => pv_load (t1 rfl) rfl (by first | exact PT.ld0 (HV.mono hq) rfl | exact PT.ld (HV.mono hq) rfl | exact PT.ld0 (H5.mono hq) rfl | exact PT.ld (H5.mono hq) rfl | exact SlR.ld (HN.mono hq) hxk rfl | exact SlR.ld1 (HN.mono hq) hxk rfl | exact SlR.ld (NN.mono hq) hxk rfl | exact SlR.ld1 (NN.mono hq) hxk rfl)) ?_)
        (refine at0 7 rfl (fun w' hq => pv_move rfl) ?_)
        (refine at0 8 rfl (fun w' hq => pv_ian (tS rfl) rfl rfl (by omega)) ?_)
        (refine at0 9 rfl (fun w' hq => pv_load (t1 rfl) rfl (by first | exact PT.ld0 (HV.mono hq) rfl | exact PT.ld (HV.mono hq) rfl | exact PT.ld0 (H5.mono hq) rfl | exact PT.ld (H5.mono hq) rfl | exact SlR.ld (HN.mono hq) hxk rfl | exact SlR.ld1 (HN.mono hq) hxk rfl | exact SlR.ld (NN.mono hq) hxk rfl | exact SlR.ld1 (NN.mono hq) hxk rfl)) ?_)
        (refine at0 10 rfl (fun w' hq => pv_neq rfl rfl) ?_)
        refine aw_done (by kernel_rfl) ?_
        replace hw := hS; clear hS hNP
        repeat' (first | (refine lw_pure rfl (pv_move rfl) ?_) | (refine lw_pure rfl (pv_assign rfl) ?_) | (refine is_cw ?_; first | (refine cw_region ?_) | (refine cw_false rfl (by first | assumption | exact decide_eq_false (by omega) | exact dec_notF (by omega)) ?_) | (refine cw_skip ?_)) | (refine is_qw ?_; first | (with_reducible refine qw_then ?_) | (with_reducible refine qw_in ?_)) | (refine lw_nil ?_) | ((refine is_bin ?_; first | (refine lw_pure rfl (pv_inc rfl rfl (by omega)) ?_))))
        exact qw_round (k + 1) (by repeat' (first | exact trivial | refine ⟨rfl, ?_⟩)) ⟨by omega, grow_trans hwr hw⟩ (by omega)
      have hk2 : k = e.nums.length := by omega
      subst hk2
      clear hlt hk
      replace hB := grow_trans hB hw
      replace hO1 := hO1.mono hw
      replace hO2 := hO2.mono hw
      replace hO3 := hO3.mono hw
      repeat' (first | (refine lw_pure rfl (pv_move rfl) ?_) | (refine is_cw ?_; first | (refine cw_seq ?_) | (refine cw_region ?_) | (refine cw_false rfl (by first | assumption | exact decide_eq_false (by omega) | exact dec_notF (by omega)) ?_) | (refine cw_exit ?_)) | (refine is_qw ?_; first | (with_reducible refine qw_then ?_) | (with_reducible refine qw_in_hit ?_) | (with_reducible refine qw_then_exit ?_)) | (refine lw_nil ?_) | ((refine is_bin ?_; first | (refine lw_pure rfl (pv_lss rfl rfl) ?_))) | ((refine is_load ?_; first | (refine lw_pure rfl (pv_load (t1 rfl) rfl (by first | exact PT.ld0 (HV.mono hw) rfl | exact PT.ld (HV.mono hw) rfl)) ?_))) | ((refine is_fa ?_; first | (refine lw_pure rfl (pv_fa (tF rfl) rfl) ?_))) | ((refine is_bi ?_; first | (refine lw_pure rfl (pv_lenl (tS rfl) rfl) ?_))))
      clear hE HS HP HL HN HV NN H5 hK I2 I3
      refine lw_call (f := 14) (by kernel_rfl) rfl rfl (is_g rfl hO1 (S1.mono hB)) ?_; rintro e1 x5 ⟨rfl, hg⟩; refine ⟨_, rfl, ?_⟩
      have hB5 := below_own hB hO1 hg (Nat.le_refl _)
      replace hO2 := hO2.kept hg (own_own_ne hO2 hO1 (by decide))
      replace hO3 := hO3.kept hg (own_own_ne hO3 hO1 (by decide))
      rw [show decide (l = l) = true by simp]
      obtain ⟨ja2, jc2, hj, I2, -⟩ := Own.slR encP_len hO2
      obtain ⟨ka2, kc2, hk2, I3, -⟩ := Own.slR encL_len hO3
      injection hj with r1 r2 r3; subst r1 r3
      injection hk2 with r1 r2 r3; subst r1 r3
      have hw := Below.refl x5.heap.size x5
      have hK := K1.mono hB5
      repeat' (first | (refine lw_pure rfl (pv_move rfl) ?_) | (refine lw_pure rfl (pv_assign rfl) ?_) | (refine lw_call (f := 15) (by kernel_rfl) rfl rfl (rsP_t rfl rfl (I2.mono hw) (P1.mono (grow_trans hB5 hw))) ?_; rintro e w1 ⟨rfl, hb⟩; refine ⟨_, rfl, ?_⟩; replace hw := grow_trans hw hb; clear hb) | (refine lw_call (f := 16) (by kernel_rfl) rfl rfl (rsT_t rfl rfl (I3.mono hw) (L1.mono (grow_trans hB5 hw))) ?_; rintro e w1 ⟨rfl, hb⟩; refine ⟨_, rfl, ?_⟩; replace hw := grow_trans hw hb; clear hb) | ((refine lw_call (f := 10) (by kernel_rfl) rfl rfl (awake_c (hK.mono hw)) ?_; rintro e1 wz ⟨rfl, hb⟩; refine ⟨_, rfl, ?_⟩; replace hw := grow_trans hw hb; clear hb)) | (refine is_cw ?_; first | (refine cw_ret ?_)) | (refine is_qw ?_; first | (with_reducible refine qw_then ?_)) | (refine lw_nil ?_) | (refine is_guarded ?_; first | (refine lw_on rfl rfl rfl ?_)) | (refine lw_pure rfl (pv_pick_t rfl rfl rfl) ?_))
      exact qw_ret1 rfl rfl ⟨rfl, (E1.mono (grow_trans hB5 hw)).b⟩
end Go.Proofs.YtemngicaoacfaaaGreatDoor
namespace Go.Proofs.YtemngicaoacfaaaGreatDoor
open Go.ChangeShapes Go.WideShapes Go.ChangeAt Go.RowKit

set_option maxRecDepth 100000 in
theorem positEvents_lifted (os : Os) (started : os.Started) (H : Type) (enc : TypeId × Value → H) :
    ReturnsInHanded {} Tryz.checked os 3 .any (fun w args => (Rows.positEventsSpec.pre enc Tryz.prog Tryz.f3 [] false w args ∧ laidMetH Tryz.prog Rows.positEventsRow.laid w) ∧ sizedMet enc Tryz.prog Tryz.f3 (OpenSpec.ofChange Rows.positEventsSpec) false w args)
      (Rows.positEventsSpec.post enc Tryz.prog Tryz.f3 false true false false) := by
  refine returnsInHanded_of_change_and (C := Tryz.checked) (X := fun w _ => laidMetH Tryz.prog Rows.positEventsRow.laid w) (fun _ _ _ hh h => h.of_heap hh) seatOwn started (by kernel_rfl) Tryz.func3
    (ChangeSpec.witness_shaped (enc := enc) (C := Tryz.checked) (os := os) (X := fun w _ => laidMetH Tryz.prog Rows.positEventsRow.laid w) false (World.doorLaid Tryz.prog 200 os) #[.slice none 0 0, .slice none 0 0, .slice none 0 0, .agg #[.int .u8 0, .int .u8 0, .slice none 0 0, .slice none 0 0]] 8 rfl (World.shaped_of_RefB (by kernel_rfl) (by kernel_rfl)) (by kernel_rfl) (by kernel_rfl) (by kernel_rfl) (door_met os _)) ?_
  intro W base args ds gs before hval0 hW _ hZ hL _
  have hval : ∀ (j : Nat) t v, Tryz.f3.params[j]? = some t → args[j]? = some v → Value.okWide Tryz.prog W .any base t v := hval0
  have hW' := hW
  obtain ⟨p, q, hA0, hV, hpq, hfz, hnd⟩ := hW
  have hA : DataW.TrodAll enc Tryz.prog W 0 (fun _ => true) true Tryz.f3.params.toList args.toList ds p := hA0
  rw [Tryz.params3] at hA hval
  obtain ⟨args⟩ := args
  have hA1 : DataW.TrodAll enc Tryz.prog W 0 (fun _ => true) true _ args ds p := hA
  clear hA
  obtain ⟨v0, vs0, d0, ds0, p0, q0, hv0, hd0, hp0, h0, hr0⟩ := trodAll_cons hA1
  obtain ⟨v1, vs1, d1, ds1, p1, q1, hv1, hd1, hp1, h1, hr1⟩ := trodAll_cons hr0
  obtain ⟨v2, vs2, d2, ds2, p2, q2, hv2, hd2, hp2, h2, hr2⟩ := trodAll_cons hr1
  obtain ⟨v3, vs3, d3, ds3, p3, q3, hv3, hd3, hp3, h3, hr3⟩ := trodAll_cons hr2
  obtain ⟨hvn, hdn, hpn⟩ := trodAll_nil hr3
  subst hvn hdn hpn
  subst hv3 hd3 hp3
  subst hv2 hd2 hp2
  subst hv1 hd1 hp1
  subst hv0 hd0 hp0
  obtain ⟨rfl, rfl⟩ := trodVars_none hV
  obtain ⟨lla, llc, ll, rfl, lls, -⟩ := poss_open (hval 0 _ v0 rfl rfl) h0
  obtain ⟨ppa, ppc, pp, rfl, pps, -⟩ := opens_open (hval 1 _ v1 rfl rfl) h1
  obtain ⟨tta, ttc, tt, rfl, tts, -⟩ := lots_open (hval 2 _ v2 rfl rfl) h2
  obtain ⟨eex, ee, rfl, ees⟩ := ev_open (hval 3 _ v3 rfl rfl) h3 (wt_of hZ (j := 3) (by kernel_rfl) rfl)
  have hpr := knW_of hL
  subst hpq
  refine (events_c rfl rfl rfl lls pps tts ees hpr).mono fun e W' ⟨he, hw⟩ => ?_
  subst he
  have hB := below_trodAll hw (by decide +kernel) hA1
  rw [← Tryz.params3] at hB
  exact ⟨_, rfl, _, _, _, [], _, [], hW', trodAll_mk1 (shut_bool Tryz.underlying4 true), hB, rfl, hw.frame _, fun h => by cases h⟩
theorem positEvents_holds : Rows.PositEventsSaid :=
  OpenClaim.holds_of_wide 3 Tryz.f3 rfl rfl rfl rfl rfl rfl rfl ⟨rfl, rfl, rfl, rfl, rfl⟩ rfl rfl rfl rfl rfl (by kernel_rfl) Tryz.func3 (by kernel_rfl)
    (of_decide_eq_true (by kernel_rfl)) (by unfold Func.isWrapper; first | (rw [if_pos (by decide +kernel)]; kernel_rfl) | (rw [if_neg (by decide +kernel)]; exact ⟨rfl, rfl⟩))
    (fun os started H enc _ => positEvents_lifted os started H enc)
theorem positEvents_card : Rows.PositEventsCardSaid :=
  Claim7.holds_tied_plain_at .later [] [.data] true (true, "bc14626de8671fe056bc101160101831099c9fba5249131a73b1c47841d3af97") false
    positEvents_holds (fun _ h => by cases h) (by kernel_rfl) (fun _ h => by cases h) positEvents_row_tie rfl ⟨rfl, rfl⟩ (by kernel_rfl) rfl
    (fun f fn hf hfn => by
      obtain rfl : f = 3 := Option.some.inj ((show Tryz.prog.funcNamed Rows.positEventsRow.func = some 3 by kernel_rfl).symm.trans hf) |>.symm
      obtain rfl : fn = Tryz.f3 := (Option.some.inj (Tryz.func3.symm.trans hfn)).symm
      exact ⟨by kernel_rfl, fun j t ht => by
        have hall : (Tryz.f3.params.toList.all fun u => !Tryz.prog.wantsStandIn u) = true := by kernel_rfl
        have hm : t ∈ Tryz.f3.params.toList := Array.mem_toList_iff.2 (Array.mem_of_getElem? ht)
        exact (show Tryz.prog.wantsStandIn t = false by simpa using List.all_eq_true.1 hall t hm)⟩)
    (by kernel_rfl)
#print axioms positEvents_card
end Go.Proofs.YtemngicaoacfaaaGreatDoor
