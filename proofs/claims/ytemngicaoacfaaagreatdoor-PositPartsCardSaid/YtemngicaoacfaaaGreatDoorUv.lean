/-
  Contracts of layer 23's deal and Event: what an event makes of positions. Conditions: the slices read as lists; the table of kinds lies in memory (KnW).
-/
import Derived.Test.YtemngicaoacfaaaGreatDoorUj
import Derived.Test.YtemngicaoacfaaaGreatDoorUg
import Derived.Test.YtemngicaoacfaaaGreatDoorOk
namespace Go.Proofs.YtemngicaoacfaaaGreatDoor
open Go.RowKit Go.PlainAid

theorem zS_num (a i : Int) : NumS (zS a i).bought ∧ NumS (zS a i).sold ∧ NumS (zS a i).spent ∧ NumS (zS a i).got := by unfold zS NumS farS; simp
theorem mem_num {l : List Pos} (hM : MayPs l) {x : Pos} {a i : Int} (h : x ∈ l ∨ x = zS a i) : NumS x.bought ∧ NumS x.sold ∧ NumS x.spent ∧ NumS x.got := by
  rcases h with h | rfl
  · exact (hM.2 x h).2.2.1
  · exact zS_num a i
set_option maxRecDepth 20000 in
set_option maxHeartbeats 4000000 in
theorem deal_c {l : List Pos} {m : Nat} {a : Option Addr} {ca : Nat} {b s inst qty paid fee : Int} {w : World} (hm : l.length = m) (hl : l.length ≤ 65534) (hM : MayPs l) (HS : SlR encS 6 w a ca l) (h1 : 1 ≤ b ∧ b ≤ 64) (h2 : 1 ≤ s ∧ s ≤ 64) (h3 : 1 ≤ inst ∧ inst ≤ 16) (h4 : 1 ≤ qty ∧ qty ≤ 1048576) (h5 : 0 ≤ paid ∧ paid ≤ 1125899906842624) (h6 : 0 ≤ fee) :
    Calls Tryz.prog 45 #[.agg #[.int .i64 b, .int .i64 s, .int .i64 inst, .int .i64 qty, .int .i64 paid, .int .i64 fee], .slice a m ca] w fun e w' => (∃ vo, e = .returned (.tuple #[vo, .int .i64 (dealS l b s inst qty paid fee).2]) ∧ Own encS 6 39 w.heap.size w' vo (dealS l b s inst qty paid fee).1) ∧ Below w.heap.size w w' := by
  subst hm
  have hE := Ext.refl w
  have hw := Below.refl w.heap.size w
  have hca := HS.le
  have hcm := HS.max
  have hq : NumS qty := by unfold NumS farS; omega
  have hp : NumS paid := by unfold NumS farS; omega
  refine fn_enter 45 Tryz.func45 rfl rfl rfl ?_
  repeat' (first | (refine is_cw ?_; first | (refine cw_seq ?_) | (refine cw_region ?_)))
  refine lw_boxN rfl rfl (cs := [.int .i64 b, .int .i64 s, .int .i64 inst, .int .i64 qty, .int .i64 paid, .int .i64 fee]) rfl ?_; intro N2 w2 hN2 HD hb
  replace hw := grow_trans hw hb
  clear hb
  replace hE := hE.mono hw; replace HS := HS.mono hw; clear hw; have hw := Below.refl w2.heap.size w2
  by_cases hbad : b = s ∨ paid < fee
  · have hd : dealS l b s inst qty paid fee = ([], 1) := by unfold dealS; rw [if_pos hbad]
    rw [hd]
    repeat' (first | (refine lw_pure rfl (pv_move rfl) ?_) | (refine lw_pure rfl (pv_assign rfl) ?_) | (refine is_cw ?_; first | (refine cw_seq ?_) | (refine cw_region ?_) | (refine cw_true rfl rfl ?_) | (refine cw_true rfl (by first | assumption | exact decide_eq_true (by omega) | exact dec_notT (by omega)) ?_) | (refine cw_ret ?_)) | (refine is_qw ?_; first | (with_reducible refine qw_then ?_) | (with_reducible refine qw_then_ret ?_)) | (refine lw_nil ?_) | (refine is_guarded ?_; first | (refine lw_on rfl rfl (by first | assumption | exact decide_eq_true (by omega) | exact decide_eq_false (by omega) | exact dec_notT (by omega) | exact dec_notF (by omega)) ?_) | (refine lw_not rfl rfl rfl (by first | assumption | exact decide_eq_true (by omega) | exact decide_eq_false (by omega) | exact dec_notT (by omega) | exact dec_notF (by omega)) ?_) | (refine lw_gs_f rfl rfl rfl (fun hc => ?_) (fun hc => ?_) <;> (first | replace hc := of_decide_eq_true hc | replace hc := of_decide_eq_false hc | replace hc := dec_nT hc | replace hc := dec_nF hc | skip) <;> (try (exfalso; omega)))) | ((refine is_bin ?_; first | (refine lw_pure rfl (pv_eql rfl rfl) ?_) | (refine lw_pure rfl (pv_gtr rfl rfl) ?_))) | ((refine is_load ?_; first | (refine lw_pure rfl (pv_load (t1 rfl) rfl (by first | exact PT.ld0 (HD.mono hw) rfl | exact PT.ld (HD.mono hw) rfl)) ?_))) | ((refine is_fa ?_; first | (refine lw_pure rfl (pv_fa (tF rfl) rfl) ?_))) | (refine lw_pure rfl (pv_pick_t rfl (by first | assumption | exact decide_eq_true (by omega) | exact dec_notT (by omega)) rfl) ?_) | (refine lw_pure rfl (pv_pick_f rfl (by first | assumption | exact decide_eq_false (by omega) | exact dec_notF (by omega)) rfl) ?_))
    all_goals exact qw_ret2 rfl rfl rfl ⟨⟨_, rfl, Own.nil _⟩, (hE.mono hw).b⟩
  · have hd : dealS l b s inst qty paid fee = (addS (addS l ⟨b, inst, qty, 0, paid, 0⟩) ⟨s, inst, 0, qty, 0, paid - fee⟩, 0) := by unfold dealS; rw [if_neg hbad]
    rw [hd]
    have hg : NumS (paid - fee) := by unfold NumS farS; omega
    have o1 := okb_mk h1 h3 h4 h5
    have o2 := oks_mk (p := paid - fee) h2 h3 h4 (by omega)
    have hM1 := addS_may hM o1
    have hl1 := addS_len ⟨b, inst, qty, 0, paid, 0⟩ l
    repeat' (first | (refine lw_pure rfl (pv_move rfl) ?_) | (refine lw_pure rfl (pv_assign rfl) ?_) | (refine is_cw ?_; first | (refine cw_seq ?_) | (refine cw_region ?_) | (refine cw_false rfl (by first | assumption | exact decide_eq_false (by omega) | exact dec_notF (by omega)) ?_) | (refine cw_skip ?_)) | (refine is_qw ?_; first | (with_reducible refine qw_then ?_)) | (refine lw_nil ?_) | (refine is_guarded ?_; first | (refine lw_on rfl rfl (by first | assumption | exact decide_eq_true (by omega) | exact decide_eq_false (by omega) | exact dec_notT (by omega) | exact dec_notF (by omega)) ?_)) | ((refine is_bin ?_; first | (refine lw_pure rfl (pv_eql rfl rfl) ?_) | (refine lw_pure rfl (pv_gtr rfl rfl) ?_))) | ((refine is_load ?_; first | (refine lw_pure rfl (pv_load (t1 rfl) rfl (by first | exact PT.ld0 (HD.mono hw) rfl | exact PT.ld (HD.mono hw) rfl)) ?_))) | ((refine is_fa ?_; first | (refine lw_pure rfl (pv_fa (tF rfl) rfl) ?_))) | ((refine is_bd ?_; first | (refine lw_pure rfl (tyB_95 rfl rfl rfl) ?_))) | (refine lw_pure rfl (pv_pick_f rfl (by first | assumption | exact decide_eq_false (by omega) | exact dec_notF (by omega)) rfl) ?_) | (refine lw_pure rfl (pv_makeFunc rfl rfl) ?_))
    refine lw_call (f := 65) (by kernel_rfl) rfl rfl (put_c (p := ⟨b, inst, qty, 0, paid, 0⟩) 66 #[.agg #[.int .i64 qty, .int .i64 paid]] (by kernel_rfl) rfl (by omega) hM.1 (HS.mono hw) (fun x hx w' => bought_c b inst hq hp (mem_num hM hx) w') (join_zero o1)) ?_; rintro e w3 ⟨⟨v1, rfl, hO1⟩, hb⟩; refine ⟨_, rfl, ?_⟩
    replace hE := hE.mono (grow_trans hw hb)
    replace HD := HD.mono (grow_trans hw hb)
    obtain ⟨a1, c1, rfl, HS1, -⟩ := Own.slR encS_len hO1
    clear hb hw hO1
    have hw := Below.refl w3.heap.size w3
    repeat' (first | (refine lw_pure rfl (pv_move rfl) ?_) | (refine lw_pure rfl (pv_assign rfl) ?_) | (refine is_cw ?_; first | (refine cw_seq ?_) | (refine cw_region ?_)) | (refine is_qw ?_; first | (with_reducible refine qw_then ?_)) | (refine lw_nil ?_) | ((refine is_bin ?_; first | (refine lw_pure rfl (pv_sub rfl rfl (by omega)) ?_))) | ((refine is_load ?_; first | (refine lw_pure rfl (pv_load (t1 rfl) rfl (by first | exact PT.ld0 (HD.mono hw) rfl | exact PT.ld (HD.mono hw) rfl)) ?_))) | ((refine is_fa ?_; first | (refine lw_pure rfl (pv_fa (tF rfl) rfl) ?_))) | ((refine is_bd ?_; first | (refine lw_pure rfl (tyB_95 rfl rfl rfl) ?_))) | (refine lw_pure rfl (pv_makeFunc rfl rfl) ?_))
    refine lw_call (f := 65) (by kernel_rfl) rfl rfl (put_c (p := ⟨s, inst, 0, qty, 0, paid - fee⟩) 67 #[.agg #[.int .i64 qty, .int .i64 (paid - fee)]] (by kernel_rfl) rfl (by omega) hM1.1 (HS1.mono hw) (fun x hx w' => sold_c s inst hq hg (mem_num hM1 hx) w') (join_zero o2)) ?_; rintro e w4 ⟨⟨v2, rfl, hO2⟩, hb⟩; refine ⟨_, rfl, ?_⟩
    replace hO2 := hO2.weaken (Nat.le_trans hE.le hw.size)
    replace hE := hE.mono (grow_trans hw hb)
    clear hb hw
    have hw := Below.refl w4.heap.size w4
    repeat' (first | (refine lw_pure rfl (pv_assign rfl) ?_) | (refine is_cw ?_; first | (refine cw_ret ?_)) | (refine is_qw ?_; first | (with_reducible refine qw_then ?_)) | (refine lw_nil ?_))
    exact qw_ret2 rfl rfl rfl ⟨⟨_, rfl, hO2⟩, hE.b⟩
theorem mayS_e {l : List Pos} {m : Nat} {a : Option Addr} {ca : Nat} {w : World} {r : Bool} (h : mayPs l = r) (hm : l.length = m) (HS : SlR encS 6 w a ca l) : Calls Tryz.prog 23 #[.slice a m ca] w fun e w' => e = .returned (.bool r) ∧ Below w.heap.size w w' := by subst h; exact may_S hm HS
theorem deal_e {l : List Pos} {m : Nat} {a : Option Addr} {ca : Nat} {b s inst qty paid fee : Int} {w : World} {R : List Pos × Int} (hR : dealS l b s inst qty paid fee = R) (hm : l.length = m) (hl : l.length ≤ 65534) (hM : MayPs l) (HS : SlR encS 6 w a ca l) (h1 : 1 ≤ b ∧ b ≤ 64) (h2 : 1 ≤ s ∧ s ≤ 64) (h3 : 1 ≤ inst ∧ inst ≤ 16) (h4 : 1 ≤ qty ∧ qty ≤ 1048576) (h5 : 0 ≤ paid ∧ paid ≤ 1125899906842624) (h6 : 0 ≤ fee) :
    Calls Tryz.prog 45 #[.agg #[.int .i64 b, .int .i64 s, .int .i64 inst, .int .i64 qty, .int .i64 paid, .int .i64 fee], .slice a m ca] w fun e w' => (∃ vo, e = .returned (.tuple #[vo, .int .i64 R.2]) ∧ Own encS 6 39 w.heap.size w' vo R.1) ∧ Below w.heap.size w w' := by subst hR; exact deal_c hm hl hM HS h1 h2 h3 h4 h5 h6
theorem find_e {p : List Opn} {m : Nat} {a : Option Addr} {ca : Nat} {w : World} {id : Int} {o : Opn} (h : findP p id = some o) (hm : p.length = m) (HP : SlR encP 6 w a ca p) : Calls Tryz.prog 21 #[.slice a m ca, .int .i64 id] w fun e w' => e = .returned (.tuple #[.agg (encP o).toArray, .bool true]) ∧ Below w.heap.size w w' := by
  have h1 := find_c id hm HP
  rw [h] at h1; exact h1
theorem lot_e {p : List Lt} {m : Nat} {a : Option Addr} {ca : Nat} {w : World} {id : Int} {o : Lt} (h : findT p id = some o) (hm : p.length = m) (HP : SlR encL 4 w a ca p) : Calls Tryz.prog 22 #[.slice a m ca, .int .i64 id] w fun e w' => e = .returned (.tuple #[.agg (encL o).toArray, .bool true]) ∧ Below w.heap.size w w' := by
  have h1 := lotx_c id hm HP
  rw [h] at h1; exact h1
set_option maxRecDepth 20000 in
set_option maxHeartbeats 8000000 in
theorem pev_c {l : List Pos} {p : List Opn} {t : List Lt} {e : Evt} {ml mp mt mn mx : Nat} {al ap at_ an ax : Option Addr} {cl cp ct cn cx : Nat} {w : World} (h8 : 0 ≤ e.kind ∧ e.kind ≤ 255) (hml : l.length = ml) (hl : l.length ≤ 65534) (hmp : p.length = mp) (hmt : t.length = mt) (hmn : e.nums.length = mn) (hmx : e.texts.length = mx) (HS : SlR encS 6 w al cl l) (HP : SlR encP 6 w ap cp p) (HL : SlR encL 4 w at_ ct t) (HN : SlR encI 1 w an cn e.nums) (HX : SlR encT 1 w ax cx e.texts) (hT : TxtIn e.texts) (hK : KnW w) :
    Calls Tryz.prog 13 #[.slice al ml cl, .slice ap mp cp, .slice at_ mt ct, .agg #[.int .u8 e.v, .int .u8 e.kind, .slice an mn cn, .slice ax mx cx]] w fun e1 w' => (∃ vo, e1 = .returned (.tuple #[vo, .int .i64 (posR l p t e).2]) ∧ Own encS 6 39 w.heap.size w' vo (posR l p t e).1) ∧ Below w.heap.size w w' := by
  have hE := Ext.refl w
  have hw := Below.refl w.heap.size w
  have hcl := HS.le
  have hclm := HS.max
  refine fn_enter 147 Tryz.func13 rfl rfl rfl ?_
  repeat' (first | (refine is_cw ?_; first | (refine cw_seq ?_) | (refine cw_region ?_)))
  refine lw_boxN rfl rfl (cs := [.int .u8 e.v, .int .u8 e.kind, .slice an mn cn, .slice ax mx cx]) rfl ?_; intro N7 w7 hN7 HV hb
  replace hw := grow_trans hw hb
  clear hb
  replace hE := hE.mono hw; replace HS := HS.mono hw; replace HP := HP.mono hw; replace HL := HL.mono hw; replace HN := HN.mono hw; replace HX := HX.mono hw; replace hK := hK.mono hw; clear hw; have hw := Below.refl w7.heap.size w7
  repeat' (first | (refine lw_pure rfl (pv_move rfl) ?_) | (refine lw_pure rfl (pv_assign rfl) ?_) | (refine is_cw ?_; first | (refine cw_seq ?_) | (refine cw_region ?_)) | (refine is_qw ?_; first | (with_reducible refine qw_then ?_)) | (refine lw_nil ?_) | ((refine is_load ?_; first | (refine lw_pure rfl (pv_loada (tA rfl) rfl (by first | exact PT.lda (HV.mono hw)) (by rfl)) ?_))))
  refine lw_call (f := 20) (by kernel_rfl) rfl rfl (ev_c h8 hmp hmt hmn hmx HP HL HN HX hT hK) ?_; rintro e1 w1 ⟨⟨vo, vt, rfl, -, -⟩, hb⟩; refine ⟨_, rfl, ?_⟩
  replace hw := grow_trans hw hb
  clear hb
  replace hE := hE.mono hw; replace HS := HS.mono hw; replace HP := HP.mono hw; replace HL := HL.mono hw; replace HN := HN.mono hw; replace HV := HV.mono hw; clear hw; have hw := Below.refl w1.heap.size w1
  clear HX hK
  by_cases h4 : (eventR p t e).2.2 = 4
  · rw [posR_form (Or.inl h4)]
    repeat' (first | (refine lw_pure rfl (pv_move rfl) ?_) | (refine lw_pure rfl (pv_assign rfl) ?_) | (refine is_cw ?_; first | (refine cw_seq ?_) | (refine cw_region ?_) | (refine cw_true rfl rfl ?_) | (refine cw_ret ?_)) | (refine is_qw ?_; first | (with_reducible refine qw_then ?_) | (with_reducible refine qw_then_ret ?_)) | (refine lw_nil ?_) | (refine is_guarded ?_; first | (refine lw_not rfl rfl rfl (by first | assumption | exact decide_eq_true (by omega) | exact decide_eq_false (by omega) | exact dec_notT (by omega) | exact dec_notF (by omega)) ?_)) | ((refine is_bin ?_; first | (refine lw_pure rfl (pv_eql rfl rfl) ?_))) | (refine lw_pure rfl (pv_pick_t rfl (by first | assumption | exact decide_eq_true (by omega) | exact dec_notT (by omega)) rfl) ?_) | (refine lw_pure rfl (pv_extract rfl rfl) ?_))
    all_goals exact qw_ret2 rfl rfl rfl ⟨⟨_, rfl, Own.nil _⟩, (hE.mono hw).b⟩
  cases hmy : mayPs l with
  | false =>
    rw [posR_form (Or.inr hmy)]
    repeat' (first | (refine lw_pure rfl (pv_move rfl) ?_) | (refine lw_pure rfl (pv_assign rfl) ?_) | (refine lw_call (f := 23) (by kernel_rfl) rfl rfl (mayS_e hmy hml (HS.mono hw)) ?_; rintro e1 w2 ⟨rfl, hb⟩; refine ⟨_, rfl, ?_⟩; replace hw := grow_trans hw hb; clear hb) | (refine is_cw ?_; first | (refine cw_seq ?_) | (refine cw_region ?_) | (refine cw_true rfl rfl ?_) | (refine cw_ret ?_)) | (refine is_qw ?_; first | (with_reducible refine qw_then ?_) | (with_reducible refine qw_then_ret ?_)) | (refine lw_nil ?_) | (refine is_guarded ?_; first | (refine lw_on rfl rfl (by first | assumption | exact decide_eq_true (by omega) | exact decide_eq_false (by omega) | exact dec_notT (by omega) | exact dec_notF (by omega)) ?_)) | ((refine is_bin ?_; first | (refine lw_pure rfl (pv_eql rfl rfl) ?_))) | ((refine is_un ?_; first | (refine lw_pure rfl (pv_not rfl) ?_))) | (refine lw_pure rfl (pv_pick_f rfl (by first | assumption | exact decide_eq_false (by omega) | exact dec_notF (by omega)) rfl) ?_) | (refine lw_pure rfl (pv_extract rfl rfl) ?_))
    all_goals exact qw_ret2 rfl rfl rfl ⟨⟨_, rfl, Own.nil _⟩, (hE.mono hw).b⟩
  | true =>
    have hM := mayPs_iff.1 hmy
    have hgo : ¬ ((eventR p t e).2.2 = 4 ∨ mayPs l = false) := by rw [hmy]; simp [h4]
    repeat' ((fail_if_success (refine is_seqb ?_)); (fail_if_success (refine is_blk ?_)); first | (refine lw_pure rfl (pv_move rfl) ?_) | (refine lw_pure rfl (pv_assign rfl) ?_) | (refine lw_call (f := 23) (by kernel_rfl) rfl rfl (mayS_e hmy hml (HS.mono hw)) ?_; rintro e1 w2 ⟨rfl, hb⟩; refine ⟨_, rfl, ?_⟩; replace hw := grow_trans hw hb; clear hb) | (refine is_cw ?_; first | (refine cw_seq ?_) | (refine cw_region ?_) | (refine cw_false rfl rfl ?_) | (refine cw_skip ?_)) | (refine is_qw ?_; first | (with_reducible refine qw_then ?_)) | (refine lw_nil ?_) | (refine is_guarded ?_; first | (refine lw_on rfl rfl (by first | assumption | exact decide_eq_true (by omega) | exact decide_eq_false (by omega) | exact dec_notT (by omega) | exact dec_notF (by omega)) ?_)) | ((refine is_bin ?_; first | (refine lw_pure rfl (pv_eql rfl rfl) ?_))) | ((refine is_fa ?_; first | (refine lw_pure rfl (pv_fa (tF rfl) rfl) ?_))) | ((refine is_un ?_; first | (refine lw_pure rfl (pv_not rfl) ?_))) | (refine lw_pure rfl (pv_pick_f rfl (by first | assumption | exact decide_eq_false (by omega) | exact dec_notF (by omega)) rfl) ?_) | (refine lw_pure rfl (pv_extract rfl rfl) ?_))
    by_cases k1 : e.kind = 13
    · by_cases hf : (eventR p t e).2.2 = 0
      · obtain ⟨n0, n1, n2, n3, n4, oa, ob, hT⟩ := trade_at hf k1
        rw [posR_trade hgo hf k1 hT]
        have hns := hT.nums
        have hfa := hT.fa
        have hfb := hT.fb
        have hma := hT.ma
        have hmb := hT.mb
        have hg2 := hT.g2
        have hg3 := hT.g3
        have hg4 := hT.g4
        have hpd := hT.paid
        have x0 : e.nums[0]? = some n0 := by rw [hns]; rfl
        have x1 : e.nums[1]? = some n1 := by rw [hns]; rfl
        have x2 : e.nums[2]? = some n2 := by rw [hns]; rfl
        have x3 : e.nums[3]? = some n3 := by rw [hns]; rfl
        have x4 : e.nums[4]? = some n4 := by rw [hns]; rfl
        have hm5 : mn = 5 := by rw [← hmn, hns]; rfl
        clear hT
        obtain ⟨nb, no, rfl, -, -⟩ := HN.at (by rw [hns]; simp)
        clear hns
        repeat' (first | (refine lw_pure rfl (pv_move rfl) ?_) | (refine lw_pure rfl (pv_assign rfl) ?_) | (refine is_cw ?_; first | (refine cw_seq ?_) | (refine cw_region ?_) | (refine cw_false rfl rfl ?_) | (refine cw_false rfl (by first | assumption | exact decide_eq_false (by omega) | exact dec_notF (by omega)) ?_) | (refine cw_skip ?_) | (refine cw_block ?_)) | (refine is_qw ?_; first | (with_reducible refine qw_then ?_) | (with_reducible refine qw_in ?_)) | (refine lw_nil ?_) | (refine is_guarded ?_; first | (refine lw_not rfl rfl rfl (by first | assumption | exact decide_eq_true (by omega) | exact decide_eq_false (by omega) | exact dec_notT (by omega) | exact dec_notF (by omega)) ?_)) | ((refine is_bin ?_; first | (refine lw_pure rfl (pv_eql rfl rfl) ?_) | (refine lw_pure rfl (pv_neq rfl rfl) ?_))) | ((refine is_load ?_; first | (refine lw_pure rfl (pv_load (t1 rfl) rfl (by first | exact PT.ld0 (HV.mono hw) rfl | exact PT.ld (HV.mono hw) rfl | exact SlR.ld (HN.mono hw) x0 rfl | exact SlR.ld1 (HN.mono hw) x0 rfl)) ?_))) | ((refine is_fa ?_; first | (refine lw_pure rfl (pv_fa (tF rfl) rfl) ?_))) | ((refine is_ia ?_; first | (refine lw_pure rfl (pv_ia (tS rfl) rfl rfl (by omega)) ?_))) | (refine lw_pure rfl (pv_pick_f rfl (by first | assumption | exact decide_eq_false (by omega) | exact dec_notF (by omega)) rfl) ?_))
        refine lw_call (f := 21) (by kernel_rfl) rfl rfl (find_e hfa hmp (HP.mono hw)) ?_; rintro e1 w2 ⟨rfl, hb⟩; refine ⟨_, rfl, ?_⟩; replace hw := grow_trans hw hb; clear hb
        repeat' (first | (refine lw_pure rfl (pv_move rfl) ?_) | (refine lw_pure rfl (pv_extract rfl rfl) ?_))
        refine lw_varN rfl (by first | exact tyv_27 | exact tyv_28 | exact tyv_38 | exact tyv_39 | exact tyv_48 | exact tyv_49 | exact tyv_52 | exact tyv_53 | exact tyv_68 | exact tyv_69 | exact tyv_79 | exact tyv_80 | exact tyv_94 | exact tyv_95 | exact tyv_131 | exact tyv_132) rfl (tZ rfl) (fun _ => rfl) rfl rfl ?_; intro N16 wn hN16 HA hb; replace hN16 := Nat.le_trans hw.size hN16; replace hw := grow_trans hw hb; clear hb
        replace HA : PT wn N16 49 (encP oa) := HA
        repeat' (first | (refine lw_pure rfl (pv_move rfl) ?_) | (refine lw_pure rfl (pv_assign rfl) ?_) | (refine is_cw ?_; first | (refine cw_seq ?_) | (refine cw_region ?_)) | (refine is_qw ?_; first | (with_reducible refine qw_then ?_)) | (refine lw_nil ?_) | ((refine is_load ?_; first | (refine lw_pure rfl (pv_load (t1 rfl) rfl (by first | exact SlR.ld (HN.mono hw) x1 rfl | exact SlR.ld1 (HN.mono hw) x1 rfl)) ?_))) | ((refine is_ia ?_; first | (refine lw_pure rfl (pv_ia (tS rfl) rfl rfl (by omega)) ?_))))
        refine lw_call (f := 21) (by kernel_rfl) rfl rfl (find_e hfb hmp (HP.mono hw)) ?_; rintro e1 w3 ⟨rfl, hb⟩; refine ⟨_, rfl, ?_⟩; replace HA := HA.mono hb; replace hw := grow_trans hw hb; clear hb
        repeat' (first | (refine lw_pure rfl (pv_move rfl) ?_) | (refine lw_pure rfl (pv_extract rfl rfl) ?_))
        refine lw_varN rfl (by first | exact tyv_27 | exact tyv_28 | exact tyv_38 | exact tyv_39 | exact tyv_48 | exact tyv_49 | exact tyv_52 | exact tyv_53 | exact tyv_68 | exact tyv_69 | exact tyv_79 | exact tyv_80 | exact tyv_94 | exact tyv_95 | exact tyv_131 | exact tyv_132) rfl (tZ rfl) (fun _ => rfl) rfl rfl ?_; intro N18 w4 hN18 HB hb
        have hne : N16 ≠ N18 := by have := HA.lt; omega
        replace HA := HA.mono hb
        replace hN18 := Nat.le_trans hw.size hN18
        replace hw := grow_trans hw hb
        clear hb
        replace HB : PT w4 N18 49 (encP ob) := HB
        by_cases hbad : oa.side = ob.side ∨ oa.inst ≠ ob.inst
        · have htr : tradeS l oa ob n2 n3 n4 = ([], 1) := by unfold tradeS; rw [if_pos hbad]
          rw [htr]
          repeat' (first | (refine lw_pure rfl (pv_move rfl) ?_) | (refine lw_pure rfl (pv_assign rfl) ?_) | (refine is_cw ?_; first | (refine cw_seq ?_) | (refine cw_region ?_) | (refine cw_true rfl rfl ?_) | (refine cw_true rfl (by first | assumption | exact decide_eq_true (by omega) | exact dec_notT (by omega)) ?_) | (refine cw_ret ?_)) | (refine is_qw ?_; first | (with_reducible refine qw_then ?_) | (with_reducible refine qw_then_ret ?_)) | (refine lw_nil ?_) | (refine is_guarded ?_; first | (refine lw_on rfl rfl (by first | assumption | exact decide_eq_true (by omega) | exact decide_eq_false (by omega) | exact dec_notT (by omega) | exact dec_notF (by omega)) ?_) | (refine lw_not rfl rfl rfl (by first | assumption | exact decide_eq_true (by omega) | exact decide_eq_false (by omega) | exact dec_notT (by omega) | exact dec_notF (by omega)) ?_) | (refine lw_gs_f rfl rfl rfl (fun hc => ?_) (fun hc => ?_) <;> (first | replace hc := of_decide_eq_true hc | replace hc := of_decide_eq_false hc | replace hc := dec_nT hc | replace hc := dec_nF hc | skip) <;> (try (exfalso; omega)))) | ((refine is_bin ?_; first | (refine lw_pure rfl (pv_eql rfl rfl) ?_) | (refine lw_pure rfl (pv_neq rfl rfl) ?_))) | ((refine is_load ?_; first | (refine lw_pure rfl (pv_load (t1 rfl) rfl (by first | exact PT.ld0 HA rfl | exact PT.ld HA rfl | exact PT.ld0 HB rfl | exact PT.ld HB rfl)) ?_))) | ((refine is_fa ?_; first | (refine lw_pure rfl (pv_fa (tF rfl) rfl) ?_))) | (refine lw_pure rfl (pv_pick_t rfl (by first | assumption | exact decide_eq_true (by omega) | exact dec_notT (by omega)) rfl) ?_) | (refine lw_pure rfl (pv_pick_f rfl (by first | assumption | exact decide_eq_false (by omega) | exact dec_notF (by omega)) rfl) ?_))
          all_goals exact qw_ret2 rfl rfl rfl ⟨⟨_, rfl, Own.nil _⟩, (hE.mono hw).b⟩
        · by_cases hs2 : oa.side = 2
          · have htr : tradeS l oa ob n2 n3 n4 = dealS l ob.acct oa.acct ob.inst n3 (n2 * n3) n4 := by
              unfold tradeS; rw [if_neg hbad, if_pos hs2, show ob.inst = oa.inst by omega]
            rw [htr]
            clear htr
            obtain ⟨R, hdl⟩ : ∃ R, dealS l ob.acct oa.acct ob.inst n3 (n2 * n3) n4 = R := ⟨_, rfl⟩
            rw [hdl]
            repeat' (first | (refine lw_pure rfl (pv_move rfl) ?_) | (refine lw_pure rfl (pv_assign rfl) ?_) | (refine is_cw ?_; first | (refine cw_seq ?_) | (refine cw_region ?_) | (refine cw_true rfl (by first | assumption | exact decide_eq_true (by omega) | exact dec_notT (by omega)) ?_) | (refine cw_false rfl (by first | assumption | exact decide_eq_false (by omega) | exact dec_notF (by omega)) ?_) | (refine cw_skip ?_)) | (refine is_qw ?_; first | (with_reducible refine qw_then ?_)) | (refine lw_nil ?_) | (refine is_guarded ?_; first | (refine lw_on rfl rfl (by first | assumption | exact decide_eq_true (by omega) | exact decide_eq_false (by omega) | exact dec_notT (by omega) | exact dec_notF (by omega)) ?_)) | ((refine is_bin ?_; first | (refine lw_pure rfl (pv_eql rfl rfl) ?_) | (refine lw_pure rfl (pv_neq rfl rfl) ?_))) | ((refine is_load ?_; first | (refine lw_pure rfl (pv_load (t1 rfl) rfl (by first | exact PT.ld0 HA rfl | exact PT.ld HA rfl | exact PT.ld0 HB rfl | exact PT.ld HB rfl)) ?_) | (refine lw_pure rfl (pv_loada (tA rfl) rfl (by first | exact PT.lda HA | exact PT.lda HB) (by rfl)) ?_))) | ((refine is_fa ?_; first | (refine lw_pure rfl (pv_fa (tF rfl) rfl) ?_))) | (refine lw_pure rfl (pv_pick_f rfl (by first | assumption | exact decide_eq_false (by omega) | exact dec_notF (by omega)) rfl) ?_))
            refine lw_storea (vs := encP ob) HA (tZ rfl) rfl rfl rfl rfl (encP_one _) ?_; intro w5 HA2 hg5 hz5
            replace HB := HB.grown hg5 (by intro h; injection h with h; exact hne h)
            replace hw := st_hw hw hg5 hN16
            refine lw_storea (vs := encP oa) HB (tZ rfl) rfl rfl rfl rfl (encP_one _) ?_; intro w6 HB2 hg6 hz6
            replace HA2 := HA2.grown hg6 (by intro h; injection h with h; exact hne h.symm)
            replace hw := st_hw hw hg6 hN18
            clear HA HB hg5 hg6 hz5 hz6
            have HA := HA2
            have HB := HB2
            clear HA2 HB2
            replace hE := hE.mono hw; replace HS := HS.mono hw; replace HN := HN.mono hw; clear hw; have hw := Below.refl w6.heap.size w6
            repeat' (first | (refine is_cw ?_; first | (refine cw_seq ?_)) | (refine is_qw ?_; first | (with_reducible refine qw_then ?_)) | (refine lw_nil ?_))
            refine cw_drawn (fun w' => Below w6.heap.size w6 w') (by kernel_rfl) (by repeat (first | exact NoPanic.body | with_reducible refine NoPanic.then ?_ | with_reducible refine NoPanic.inBlock ?_)) (fun hNP => ?_)
            have hS := hw.drew
            (refine aw_take 0 rfl (by kernel_rfl) (by kernel_rfl) (by kernel_rfl) hNP hS rfl (fun w' hq => pv_move rfl) ?_)
            (refine aw_take 1 rfl (by kernel_rfl) (by kernel_rfl) (by kernel_rfl) hNP hS rfl (fun w' hq => pv_ia (tS rfl) rfl rfl (by omega)) ?_)
            (refine aw_take 2 rfl (by kernel_rfl) (by kernel_rfl) (by kernel_rfl) hNP hS rfl (fun w' hq => pv_load (t1 rfl) rfl (by first | exact SlR.ld (HN.mono hq) x2 rfl | exact SlR.ld1 (HN.mono hq) x2 rfl | exact SlR.ld (HN.mono hq) x3 rfl | exact SlR.ld1 (HN.mono hq) x3 rfl)) ?_)
            (refine aw_take 3 rfl (by kernel_rfl) (by kernel_rfl) (by kernel_rfl) hNP hS rfl (fun w' hq => pv_move rfl) ?_)
            (refine aw_take 4 rfl (by kernel_rfl) (by kernel_rfl) (by kernel_rfl) hNP hS rfl (fun w' hq => pv_ia (tS rfl) rfl rfl (by omega)) ?_)
            (refine aw_take 5 rfl (by kernel_rfl) (by kernel_rfl) (by kernel_rfl) hNP hS rfl (fun w' hq => pv_load (t1 rfl) rfl (by first | exact SlR.ld (HN.mono hq) x2 rfl | exact SlR.ld1 (HN.mono hq) x2 rfl | exact SlR.ld (HN.mono hq) x3 rfl | exact SlR.ld1 (HN.mono hq) x3 rfl)) ?_)
            refine aw_act 6 (by kernel_rfl) rfl rfl rfl ?_
            refine act_call (f := 46) (by kernel_rfl) rfl (mul_c (by omega) (by omega) (by omega) _) ?_; rintro e1 w5 ⟨rfl, rfl⟩; refine ⟨_, rfl, hS, fun hS => ?_⟩
            (refine aw_take 7 rfl (by kernel_rfl) (by kernel_rfl) (by kernel_rfl) hNP hS rfl (fun w' hq => pv_move rfl) ?_)
            (refine aw_take 8 rfl (by kernel_rfl) (by kernel_rfl) (by kernel_rfl) hNP hS rfl (fun w' hq => pv_extract rfl rfl) ?_)
            (refine aw_take 9 rfl (by kernel_rfl) (by kernel_rfl) (by kernel_rfl) hNP hS rfl (fun w' hq => pv_extract rfl rfl) ?_)
            (refine aw_take 10 rfl (by kernel_rfl) (by kernel_rfl) (by kernel_rfl) hNP hS rfl (fun w' hq => pv_assign rfl) ?_)
            (refine aw_take 11 rfl (by kernel_rfl) (by kernel_rfl) (by kernel_rfl) hNP hS rfl (fun w' hq => pv_assign rfl) ?_)
            refine aw_done (by kernel_rfl) ?_
            replace hw := hS; clear hS hNP
            repeat' (first | (refine is_cw ?_; first | (refine cw_seq ?_)) | (refine is_qw ?_; first | (with_reducible refine qw_then ?_)))
            refine cw_drawn (fun w' => Below w6.heap.size w6 w') (by kernel_rfl) (by repeat (first | exact NoPanic.body | with_reducible refine NoPanic.then ?_ | with_reducible refine NoPanic.inBlock ?_)) (fun hNP => ?_)
            have hS := hw.drew
            (refine aw_take 0 rfl (by kernel_rfl) (by kernel_rfl) (by kernel_rfl) hNP hS rfl (fun w' hq => pv_fa (tF rfl) rfl) ?_)
            (refine aw_take 1 rfl (by kernel_rfl) (by kernel_rfl) (by kernel_rfl) hNP hS rfl (fun w' hq => pv_load (t1 rfl) rfl (by first | exact SlR.ld (HN.mono hq) x3 rfl | exact SlR.ld1 (HN.mono hq) x3 rfl | exact SlR.ld (HN.mono hq) x4 rfl | exact SlR.ld1 (HN.mono hq) x4 rfl | exact PT.ld0 (HA.mono hq) rfl | exact PT.ld (HA.mono hq) rfl | exact PT.ld0 (HB.mono hq) rfl | exact PT.ld (HB.mono hq) rfl)) ?_)
            (refine aw_take 2 rfl (by kernel_rfl) (by kernel_rfl) (by kernel_rfl) hNP hS rfl (fun w' hq => pv_fa (tF rfl) rfl) ?_)
            (refine aw_take 3 rfl (by kernel_rfl) (by kernel_rfl) (by kernel_rfl) hNP hS rfl (fun w' hq => pv_load (t1 rfl) rfl (by first | exact SlR.ld (HN.mono hq) x3 rfl | exact SlR.ld1 (HN.mono hq) x3 rfl | exact SlR.ld (HN.mono hq) x4 rfl | exact SlR.ld1 (HN.mono hq) x4 rfl | exact PT.ld0 (HA.mono hq) rfl | exact PT.ld (HA.mono hq) rfl | exact PT.ld0 (HB.mono hq) rfl | exact PT.ld (HB.mono hq) rfl)) ?_)
            (refine aw_take 4 rfl (by kernel_rfl) (by kernel_rfl) (by kernel_rfl) hNP hS rfl (fun w' hq => pv_fa (tF rfl) rfl) ?_)
            (refine aw_take 5 rfl (by kernel_rfl) (by kernel_rfl) (by kernel_rfl) hNP hS rfl (fun w' hq => pv_load (t1 rfl) rfl (by first | exact SlR.ld (HN.mono hq) x3 rfl | exact SlR.ld1 (HN.mono hq) x3 rfl | exact SlR.ld (HN.mono hq) x4 rfl | exact SlR.ld1 (HN.mono hq) x4 rfl | exact PT.ld0 (HA.mono hq) rfl | exact PT.ld (HA.mono hq) rfl | exact PT.ld0 (HB.mono hq) rfl | exact PT.ld (HB.mono hq) rfl)) ?_)
            (refine aw_take 6 rfl (by kernel_rfl) (by kernel_rfl) (by kernel_rfl) hNP hS rfl (fun w' hq => pv_move rfl) ?_)
            (refine aw_take 7 rfl (by kernel_rfl) (by kernel_rfl) (by kernel_rfl) hNP hS rfl (fun w' hq => pv_ia (tS rfl) rfl rfl (by omega)) ?_)
            (refine aw_take 8 rfl (by kernel_rfl) (by kernel_rfl) (by kernel_rfl) hNP hS rfl (fun w' hq => pv_load (t1 rfl) rfl (by first | exact SlR.ld (HN.mono hq) x3 rfl | exact SlR.ld1 (HN.mono hq) x3 rfl | exact SlR.ld (HN.mono hq) x4 rfl | exact SlR.ld1 (HN.mono hq) x4 rfl | exact PT.ld0 (HA.mono hq) rfl | exact PT.ld (HA.mono hq) rfl | exact PT.ld0 (HB.mono hq) rfl | exact PT.ld (HB.mono hq) rfl)) ?_)
            (refine aw_take 9 rfl (by kernel_rfl) (by kernel_rfl) (by kernel_rfl) hNP hS rfl (fun w' hq => pv_move rfl) ?_)
            (refine aw_take 10 rfl (by kernel_rfl) (by kernel_rfl) (by kernel_rfl) hNP hS rfl (fun w' hq => pv_move rfl) ?_)
            (refine aw_take 11 rfl (by kernel_rfl) (by kernel_rfl) (by kernel_rfl) hNP hS rfl (fun w' hq => pv_ia (tS rfl) rfl rfl (by omega)) ?_)
            (refine aw_take 12 rfl (by kernel_rfl) (by kernel_rfl) (by kernel_rfl) hNP hS rfl (fun w' hq => pv_load (t1 rfl) rfl (by first | exact SlR.ld (HN.mono hq) x3 rfl | exact SlR.ld1 (HN.mono hq) x3 rfl | exact SlR.ld (HN.mono hq) x4 rfl | exact SlR.ld1 (HN.mono hq) x4 rfl | exact PT.ld0 (HA.mono hq) rfl | exact PT.ld (HA.mono hq) rfl | exact PT.ld0 (HB.mono hq) rfl | exact PT.ld (HB.mono hq) rfl)) ?_)
            (refine aw_take 13 rfl (by kernel_rfl) (by kernel_rfl) (by kernel_rfl) hNP hS rfl (fun w' hq => tyB_69 rfl rfl rfl) ?_)
            (refine aw_take 14 rfl (by kernel_rfl) (by kernel_rfl) (by kernel_rfl) hNP hS rfl (fun w' hq => pv_move rfl) ?_)
            refine aw_act 15 (by kernel_rfl) rfl rfl rfl ?_
            refine act_call (f := 45) (by kernel_rfl) rfl (deal_e hdl hml hl hM (HS.mono hS) hmb.1 hma.1 (by omega) (by omega) (by omega) (by omega)) ?_; rintro e1 w8 ⟨⟨vo2, rfl, hO⟩, hb⟩; replace hO := hO.weaken (Nat.le_trans hE.le hS.size); refine ⟨_, rfl, grow_trans hS hb, fun hS => ?_⟩
            (refine aw_take 16 rfl (by kernel_rfl) (by kernel_rfl) (by kernel_rfl) hNP hS rfl (fun w' hq => pv_extract rfl rfl) ?_)
            (refine aw_take 17 rfl (by kernel_rfl) (by kernel_rfl) (by kernel_rfl) hNP hS rfl (fun w' hq => pv_extract rfl rfl) ?_)
            (refine aw_take 18 rfl (by kernel_rfl) (by kernel_rfl) (by kernel_rfl) hNP hS rfl (fun w' hq => pv_assign rfl) ?_)
            (refine aw_take 19 rfl (by kernel_rfl) (by kernel_rfl) (by kernel_rfl) hNP hS rfl (fun w' hq => pv_assign rfl) ?_)
            refine aw_done (by kernel_rfl) ?_
            replace hw := hS; clear hS hNP
            repeat' (first | (refine is_cw ?_; first | (refine cw_ret ?_)) | (refine is_qw ?_; first | (with_reducible refine qw_then ?_)))
            exact qw_ret2 rfl rfl rfl ⟨⟨_, rfl, hO⟩, (hE.mono hw).b⟩
          · have htr : tradeS l oa ob n2 n3 n4 = dealS l oa.acct ob.acct oa.inst n3 (n2 * n3) n4 := by
              unfold tradeS; rw [if_neg hbad, if_neg hs2]
            rw [htr]
            clear htr
            obtain ⟨R, hdl⟩ : ∃ R, dealS l oa.acct ob.acct oa.inst n3 (n2 * n3) n4 = R := ⟨_, rfl⟩
            rw [hdl]
            repeat' (first | (refine lw_pure rfl (pv_move rfl) ?_) | (refine lw_pure rfl (pv_assign rfl) ?_) | (refine is_cw ?_; first | (refine cw_seq ?_) | (refine cw_region ?_) | (refine cw_false rfl (by first | assumption | exact decide_eq_false (by omega) | exact dec_notF (by omega)) ?_) | (refine cw_skip ?_)) | (refine is_qw ?_; first | (with_reducible refine qw_then ?_)) | (refine lw_nil ?_) | (refine is_guarded ?_; first | (refine lw_on rfl rfl (by first | assumption | exact decide_eq_true (by omega) | exact decide_eq_false (by omega) | exact dec_notT (by omega) | exact dec_notF (by omega)) ?_)) | ((refine is_bin ?_; first | (refine lw_pure rfl (pv_eql rfl rfl) ?_) | (refine lw_pure rfl (pv_neq rfl rfl) ?_))) | ((refine is_load ?_; first | (refine lw_pure rfl (pv_load (t1 rfl) rfl (by first | exact PT.ld0 HA rfl | exact PT.ld HA rfl | exact PT.ld0 HB rfl | exact PT.ld HB rfl)) ?_))) | ((refine is_fa ?_; first | (refine lw_pure rfl (pv_fa (tF rfl) rfl) ?_))) | (refine lw_pure rfl (pv_pick_f rfl (by first | assumption | exact decide_eq_false (by omega) | exact dec_notF (by omega)) rfl) ?_))
            replace hE := hE.mono hw; replace HS := HS.mono hw; replace HN := HN.mono hw; clear hw; have hw := Below.refl w4.heap.size w4
            skip
            refine cw_drawn (fun w' => Below w4.heap.size w4 w') (by kernel_rfl) (by repeat (first | exact NoPanic.body | with_reducible refine NoPanic.then ?_ | with_reducible refine NoPanic.inBlock ?_)) (fun hNP => ?_)
            have hS := hw.drew
            (refine aw_take 0 rfl (by kernel_rfl) (by kernel_rfl) (by kernel_rfl) hNP hS rfl (fun w' hq => pv_move rfl) ?_)
            (refine aw_take 1 rfl (by kernel_rfl) (by kernel_rfl) (by kernel_rfl) hNP hS rfl (fun w' hq => pv_ia (tS rfl) rfl rfl (by omega)) ?_)
            (refine aw_take 2 rfl (by kernel_rfl) (by kernel_rfl) (by kernel_rfl) hNP hS rfl (fun w' hq => pv_load (t1 rfl) rfl (by first | exact SlR.ld (HN.mono hq) x2 rfl | exact SlR.ld1 (HN.mono hq) x2 rfl | exact SlR.ld (HN.mono hq) x3 rfl | exact SlR.ld1 (HN.mono hq) x3 rfl)) ?_)
            (refine aw_take 3 rfl (by kernel_rfl) (by kernel_rfl) (by kernel_rfl) hNP hS rfl (fun w' hq => pv_move rfl) ?_)
            (refine aw_take 4 rfl (by kernel_rfl) (by kernel_rfl) (by kernel_rfl) hNP hS rfl (fun w' hq => pv_ia (tS rfl) rfl rfl (by omega)) ?_)
            (refine aw_take 5 rfl (by kernel_rfl) (by kernel_rfl) (by kernel_rfl) hNP hS rfl (fun w' hq => pv_load (t1 rfl) rfl (by first | exact SlR.ld (HN.mono hq) x2 rfl | exact SlR.ld1 (HN.mono hq) x2 rfl | exact SlR.ld (HN.mono hq) x3 rfl | exact SlR.ld1 (HN.mono hq) x3 rfl)) ?_)
            refine aw_act 6 (by kernel_rfl) rfl rfl rfl ?_
            refine act_call (f := 46) (by kernel_rfl) rfl (mul_c (by omega) (by omega) (by omega) _) ?_; rintro e1 w5 ⟨rfl, rfl⟩; refine ⟨_, rfl, hS, fun hS => ?_⟩
            (refine aw_take 7 rfl (by kernel_rfl) (by kernel_rfl) (by kernel_rfl) hNP hS rfl (fun w' hq => pv_move rfl) ?_)
            (refine aw_take 8 rfl (by kernel_rfl) (by kernel_rfl) (by kernel_rfl) hNP hS rfl (fun w' hq => pv_extract rfl rfl) ?_)
            (refine aw_take 9 rfl (by kernel_rfl) (by kernel_rfl) (by kernel_rfl) hNP hS rfl (fun w' hq => pv_extract rfl rfl) ?_)
            (refine aw_take 10 rfl (by kernel_rfl) (by kernel_rfl) (by kernel_rfl) hNP hS rfl (fun w' hq => pv_assign rfl) ?_)
            (refine aw_take 11 rfl (by kernel_rfl) (by kernel_rfl) (by kernel_rfl) hNP hS rfl (fun w' hq => pv_assign rfl) ?_)
            refine aw_done (by kernel_rfl) ?_
            replace hw := hS; clear hS hNP
            repeat' (first | (refine is_cw ?_; first | (refine cw_seq ?_)) | (refine is_qw ?_; first | (with_reducible refine qw_then ?_)))
            refine cw_drawn (fun w' => Below w4.heap.size w4 w') (by kernel_rfl) (by repeat (first | exact NoPanic.body | with_reducible refine NoPanic.then ?_ | with_reducible refine NoPanic.inBlock ?_)) (fun hNP => ?_)
            have hS := hw.drew
            (refine aw_take 0 rfl (by kernel_rfl) (by kernel_rfl) (by kernel_rfl) hNP hS rfl (fun w' hq => pv_fa (tF rfl) rfl) ?_)
            (refine aw_take 1 rfl (by kernel_rfl) (by kernel_rfl) (by kernel_rfl) hNP hS rfl (fun w' hq => pv_load (t1 rfl) rfl (by first | exact SlR.ld (HN.mono hq) x3 rfl | exact SlR.ld1 (HN.mono hq) x3 rfl | exact SlR.ld (HN.mono hq) x4 rfl | exact SlR.ld1 (HN.mono hq) x4 rfl | exact PT.ld0 (HA.mono hq) rfl | exact PT.ld (HA.mono hq) rfl | exact PT.ld0 (HB.mono hq) rfl | exact PT.ld (HB.mono hq) rfl)) ?_)
            (refine aw_take 2 rfl (by kernel_rfl) (by kernel_rfl) (by kernel_rfl) hNP hS rfl (fun w' hq => pv_fa (tF rfl) rfl) ?_)
            (refine aw_take 3 rfl (by kernel_rfl) (by kernel_rfl) (by kernel_rfl) hNP hS rfl (fun w' hq => pv_load (t1 rfl) rfl (by first | exact SlR.ld (HN.mono hq) x3 rfl | exact SlR.ld1 (HN.mono hq) x3 rfl | exact SlR.ld (HN.mono hq) x4 rfl | exact SlR.ld1 (HN.mono hq) x4 rfl | exact PT.ld0 (HA.mono hq) rfl | exact PT.ld (HA.mono hq) rfl | exact PT.ld0 (HB.mono hq) rfl | exact PT.ld (HB.mono hq) rfl)) ?_)
            (refine aw_take 4 rfl (by kernel_rfl) (by kernel_rfl) (by kernel_rfl) hNP hS rfl (fun w' hq => pv_fa (tF rfl) rfl) ?_)
            (refine aw_take 5 rfl (by kernel_rfl) (by kernel_rfl) (by kernel_rfl) hNP hS rfl (fun w' hq => pv_load (t1 rfl) rfl (by first | exact SlR.ld (HN.mono hq) x3 rfl | exact SlR.ld1 (HN.mono hq) x3 rfl | exact SlR.ld (HN.mono hq) x4 rfl | exact SlR.ld1 (HN.mono hq) x4 rfl | exact PT.ld0 (HA.mono hq) rfl | exact PT.ld (HA.mono hq) rfl | exact PT.ld0 (HB.mono hq) rfl | exact PT.ld (HB.mono hq) rfl)) ?_)
            (refine aw_take 6 rfl (by kernel_rfl) (by kernel_rfl) (by kernel_rfl) hNP hS rfl (fun w' hq => pv_move rfl) ?_)
            (refine aw_take 7 rfl (by kernel_rfl) (by kernel_rfl) (by kernel_rfl) hNP hS rfl (fun w' hq => pv_ia (tS rfl) rfl rfl (by omega)) ?_)
            (refine aw_take 8 rfl (by kernel_rfl) (by kernel_rfl) (by kernel_rfl) hNP hS rfl (fun w' hq => pv_load (t1 rfl) rfl (by first | exact SlR.ld (HN.mono hq) x3 rfl | exact SlR.ld1 (HN.mono hq) x3 rfl | exact SlR.ld (HN.mono hq) x4 rfl | exact SlR.ld1 (HN.mono hq) x4 rfl | exact PT.ld0 (HA.mono hq) rfl | exact PT.ld (HA.mono hq) rfl | exact PT.ld0 (HB.mono hq) rfl | exact PT.ld (HB.mono hq) rfl)) ?_)
            (refine aw_take 9 rfl (by kernel_rfl) (by kernel_rfl) (by kernel_rfl) hNP hS rfl (fun w' hq => pv_move rfl) ?_)
            (refine aw_take 10 rfl (by kernel_rfl) (by kernel_rfl) (by kernel_rfl) hNP hS rfl (fun w' hq => pv_move rfl) ?_)
            (refine aw_take 11 rfl (by kernel_rfl) (by kernel_rfl) (by kernel_rfl) hNP hS rfl (fun w' hq => pv_ia (tS rfl) rfl rfl (by omega)) ?_)
            (refine aw_take 12 rfl (by kernel_rfl) (by kernel_rfl) (by kernel_rfl) hNP hS rfl (fun w' hq => pv_load (t1 rfl) rfl (by first | exact SlR.ld (HN.mono hq) x3 rfl | exact SlR.ld1 (HN.mono hq) x3 rfl | exact SlR.ld (HN.mono hq) x4 rfl | exact SlR.ld1 (HN.mono hq) x4 rfl | exact PT.ld0 (HA.mono hq) rfl | exact PT.ld (HA.mono hq) rfl | exact PT.ld0 (HB.mono hq) rfl | exact PT.ld (HB.mono hq) rfl)) ?_)
            (refine aw_take 13 rfl (by kernel_rfl) (by kernel_rfl) (by kernel_rfl) hNP hS rfl (fun w' hq => tyB_69 rfl rfl rfl) ?_)
            (refine aw_take 14 rfl (by kernel_rfl) (by kernel_rfl) (by kernel_rfl) hNP hS rfl (fun w' hq => pv_move rfl) ?_)
            refine aw_act 15 (by kernel_rfl) rfl rfl rfl ?_
            refine act_call (f := 45) (by kernel_rfl) rfl (deal_e hdl hml hl hM (HS.mono hS) hma.1 hmb.1 (by omega) (by omega) (by omega) (by omega)) ?_; rintro e1 w8 ⟨⟨vo2, rfl, hO⟩, hb⟩; replace hO := hO.weaken (Nat.le_trans hE.le hS.size); refine ⟨_, rfl, grow_trans hS hb, fun hS => ?_⟩
            (refine aw_take 16 rfl (by kernel_rfl) (by kernel_rfl) (by kernel_rfl) hNP hS rfl (fun w' hq => pv_extract rfl rfl) ?_)
            (refine aw_take 17 rfl (by kernel_rfl) (by kernel_rfl) (by kernel_rfl) hNP hS rfl (fun w' hq => pv_extract rfl rfl) ?_)
            (refine aw_take 18 rfl (by kernel_rfl) (by kernel_rfl) (by kernel_rfl) hNP hS rfl (fun w' hq => pv_assign rfl) ?_)
            (refine aw_take 19 rfl (by kernel_rfl) (by kernel_rfl) (by kernel_rfl) hNP hS rfl (fun w' hq => pv_assign rfl) ?_)
            refine aw_done (by kernel_rfl) ?_
            replace hw := hS; clear hS hNP
            repeat' (first | (refine is_cw ?_; first | (refine cw_ret ?_)) | (refine is_qw ?_; first | (with_reducible refine qw_then ?_)))
            exact qw_ret2 rfl rfl rfl ⟨⟨_, rfl, hO⟩, (hE.mono hw).b⟩
      · rw [posR_err hgo (Or.inl k1) hf]
        repeat' (first | (refine lw_pure rfl (pv_move rfl) ?_) | (refine lw_pure rfl (pv_assign rfl) ?_) | (refine is_cw ?_; first | (refine cw_seq ?_) | (refine cw_region ?_) | (refine cw_false rfl rfl ?_) | (refine cw_true rfl (by first | assumption | exact decide_eq_true (by omega) | exact dec_notT (by omega)) ?_) | (refine cw_block ?_) | (refine cw_ret ?_)) | (refine is_qw ?_; first | (with_reducible refine qw_then ?_) | (with_reducible refine qw_then_ret ?_) | (with_reducible refine qw_in_ret ?_)) | (refine lw_nil ?_) | (refine is_guarded ?_; first | (refine lw_not rfl rfl rfl (by first | assumption | exact decide_eq_true (by omega) | exact decide_eq_false (by omega) | exact dec_notT (by omega) | exact dec_notF (by omega)) ?_)) | ((refine is_bin ?_; first | (refine lw_pure rfl (pv_neq rfl rfl) ?_))) | ((refine is_load ?_; first | (refine lw_pure rfl (pv_load (t1 rfl) rfl (by first | exact PT.ld0 (HV.mono hw) rfl | exact PT.ld (HV.mono hw) rfl)) ?_))) | ((refine is_fa ?_; first | (refine lw_pure rfl (pv_fa (tF rfl) rfl) ?_))) | (refine lw_pure rfl (pv_pick_f rfl (by first | assumption | exact decide_eq_false (by omega) | exact dec_notF (by omega)) rfl) ?_))
        all_goals exact qw_ret2 rfl rfl rfl ⟨⟨_, rfl, Own.nil _⟩, (hE.mono hw).b⟩
    · by_cases k2 : e.kind = 18
      · by_cases hf : (eventR p t e).2.2 = 0
        · obtain ⟨n0, n1, n2, n3, ol, hT⟩ := sold_at hf k2
          rw [posR_sold hgo hf k2 hT]
          have hns := hT.nums
          have hfx := hT.fx
          have hmx2 := hT.mx
          have hg1 := hT.g1
          have hg2 := hT.g2
          have hg3 := hT.g3
          have x0 : e.nums[0]? = some n0 := by rw [hns]; rfl
          have x1 : e.nums[1]? = some n1 := by rw [hns]; rfl
          have x2 : e.nums[2]? = some n2 := by rw [hns]; rfl
          have x3 : e.nums[3]? = some n3 := by rw [hns]; rfl
          have hm4 : mn = 4 := by rw [← hmn, hns]; rfl
          clear hT
          obtain ⟨nb, no, rfl, -, -⟩ := HN.at (by rw [hns]; simp)
          clear hns
          obtain ⟨R, hdl⟩ : ∃ R, dealS l n1 ol.seller ol.inst ol.qty n2 n3 = R := ⟨_, rfl⟩
          rw [hdl]
          repeat' (first | (refine lw_pure rfl (pv_move rfl) ?_) | (refine lw_pure rfl (pv_assign rfl) ?_) | (refine is_cw ?_; first | (refine cw_seq ?_) | (refine cw_region ?_) | (refine cw_true rfl (by first | assumption | exact decide_eq_true (by omega) | exact dec_notT (by omega)) ?_) | (refine cw_false rfl (by first | assumption | exact decide_eq_false (by omega) | exact dec_notF (by omega)) ?_) | (refine cw_block ?_)) | (refine is_qw ?_; first | (with_reducible refine qw_then ?_)) | (refine lw_nil ?_) | (refine is_guarded ?_; first | (refine lw_on rfl rfl (by first | assumption | exact decide_eq_true (by omega) | exact decide_eq_false (by omega) | exact dec_notT (by omega) | exact dec_notF (by omega)) ?_)) | ((refine is_bin ?_; first | (refine lw_pure rfl (pv_eql rfl rfl) ?_) | (refine lw_pure rfl (pv_neq rfl rfl) ?_))) | ((refine is_load ?_; first | (refine lw_pure rfl (pv_load (t1 rfl) rfl (by first | exact PT.ld0 (HV.mono hw) rfl | exact PT.ld (HV.mono hw) rfl | exact SlR.ld (HN.mono hw) x0 rfl | exact SlR.ld1 (HN.mono hw) x0 rfl)) ?_))) | ((refine is_fa ?_; first | (refine lw_pure rfl (pv_fa (tF rfl) rfl) ?_))) | ((refine is_ia ?_; first | (refine lw_pure rfl (pv_ia (tS rfl) rfl rfl (by omega)) ?_))) | (refine lw_pure rfl (pv_pick_t rfl (by first | assumption | exact decide_eq_true (by omega) | exact dec_notT (by omega)) rfl) ?_))
          refine lw_call (f := 22) (by kernel_rfl) rfl rfl (lot_e hfx hmt (HL.mono hw)) ?_; rintro e1 w2 ⟨rfl, hb⟩; refine ⟨_, rfl, ?_⟩; replace hw := grow_trans hw hb; clear hb
          repeat' (first | (refine lw_pure rfl (pv_move rfl) ?_) | (refine lw_pure rfl (pv_extract rfl rfl) ?_))
          refine lw_varN rfl (by first | exact tyv_27 | exact tyv_28 | exact tyv_38 | exact tyv_39 | exact tyv_48 | exact tyv_49 | exact tyv_52 | exact tyv_53 | exact tyv_68 | exact tyv_69 | exact tyv_79 | exact tyv_80 | exact tyv_94 | exact tyv_95 | exact tyv_131 | exact tyv_132) rfl (tZ rfl) (fun _ => rfl) rfl rfl ?_; intro N14 wn hN14 HA hb; replace hN14 := Nat.le_trans hw.size hN14; replace hw := grow_trans hw hb; clear hb
          replace HA : PT wn N14 53 (encL ol) := HA
          replace hE := hE.mono hw; replace HS := HS.mono hw; replace HN := HN.mono hw; clear hw; have hw := Below.refl wn.heap.size wn
          repeat' (first | (refine lw_pure rfl (pv_assign rfl) ?_) | (refine is_cw ?_; first | (refine cw_seq ?_)) | (refine is_qw ?_; first | (with_reducible refine qw_then ?_)) | (refine lw_nil ?_))
          refine cw_drawn (fun w' => Below wn.heap.size wn w') (by kernel_rfl) (by repeat (first | exact NoPanic.body | with_reducible refine NoPanic.then ?_ | with_reducible refine NoPanic.inBlock ?_)) (fun hNP => ?_)
          have hS := hw.drew
          (refine aw_take 0 rfl (by kernel_rfl) (by kernel_rfl) (by kernel_rfl) hNP hS rfl (fun w' hq => pv_move rfl) ?_)
          (refine aw_take 1 rfl (by kernel_rfl) (by kernel_rfl) (by kernel_rfl) hNP hS rfl (fun w' hq => pv_ia (tS rfl) rfl rfl (by omega)) ?_)
          (refine aw_take 2 rfl (by kernel_rfl) (by kernel_rfl) (by kernel_rfl) hNP hS rfl (fun w' hq => pv_load (t1 rfl) rfl (by first | exact SlR.ld (HN.mono hq) x1 rfl | exact SlR.ld1 (HN.mono hq) x1 rfl | exact SlR.ld (HN.mono hq) x2 rfl | exact SlR.ld1 (HN.mono hq) x2 rfl | exact SlR.ld (HN.mono hq) x3 rfl | exact SlR.ld1 (HN.mono hq) x3 rfl | exact PT.ld0 (HA.mono hq) rfl | exact PT.ld (HA.mono hq) rfl)) ?_)
          (refine aw_take 3 rfl (by kernel_rfl) (by kernel_rfl) (by kernel_rfl) hNP hS rfl (fun w' hq => pv_fa (tF rfl) rfl) ?_)
          (refine aw_take 4 rfl (by kernel_rfl) (by kernel_rfl) (by kernel_rfl) hNP hS rfl (fun w' hq => pv_load (t1 rfl) rfl (by first | exact SlR.ld (HN.mono hq) x1 rfl | exact SlR.ld1 (HN.mono hq) x1 rfl | exact SlR.ld (HN.mono hq) x2 rfl | exact SlR.ld1 (HN.mono hq) x2 rfl | exact SlR.ld (HN.mono hq) x3 rfl | exact SlR.ld1 (HN.mono hq) x3 rfl | exact PT.ld0 (HA.mono hq) rfl | exact PT.ld (HA.mono hq) rfl)) ?_)
          (refine aw_take 5 rfl (by kernel_rfl) (by kernel_rfl) (by kernel_rfl) hNP hS rfl (fun w' hq => pv_fa (tF rfl) rfl) ?_)
          (refine aw_take 6 rfl (by kernel_rfl) (by kernel_rfl) (by kernel_rfl) hNP hS rfl (fun w' hq => pv_load (t1 rfl) rfl (by first | exact SlR.ld (HN.mono hq) x1 rfl | exact SlR.ld1 (HN.mono hq) x1 rfl | exact SlR.ld (HN.mono hq) x2 rfl | exact SlR.ld1 (HN.mono hq) x2 rfl | exact SlR.ld (HN.mono hq) x3 rfl | exact SlR.ld1 (HN.mono hq) x3 rfl | exact PT.ld0 (HA.mono hq) rfl | exact PT.ld (HA.mono hq) rfl)) ?_)
          (refine aw_take 7 rfl (by kernel_rfl) (by kernel_rfl) (by kernel_rfl) hNP hS rfl (fun w' hq => pv_fa (tF rfl) rfl) ?_)
          (refine aw_take 8 rfl (by kernel_rfl) (by kernel_rfl) (by kernel_rfl) hNP hS rfl (fun w' hq => pv_load (t1 rfl) rfl (by first | exact SlR.ld (HN.mono hq) x1 rfl | exact SlR.ld1 (HN.mono hq) x1 rfl | exact SlR.ld (HN.mono hq) x2 rfl | exact SlR.ld1 (HN.mono hq) x2 rfl | exact SlR.ld (HN.mono hq) x3 rfl | exact SlR.ld1 (HN.mono hq) x3 rfl | exact PT.ld0 (HA.mono hq) rfl | exact PT.ld (HA.mono hq) rfl)) ?_)
          (refine aw_take 9 rfl (by kernel_rfl) (by kernel_rfl) (by kernel_rfl) hNP hS rfl (fun w' hq => pv_move rfl) ?_)
          (refine aw_take 10 rfl (by kernel_rfl) (by kernel_rfl) (by kernel_rfl) hNP hS rfl (fun w' hq => pv_ia (tS rfl) rfl rfl (by omega)) ?_)
          (refine aw_take 11 rfl (by kernel_rfl) (by kernel_rfl) (by kernel_rfl) hNP hS rfl (fun w' hq => pv_load (t1 rfl) rfl (by first | exact SlR.ld (HN.mono hq) x1 rfl | exact SlR.ld1 (HN.mono hq) x1 rfl | exact SlR.ld (HN.mono hq) x2 rfl | exact SlR.ld1 (HN.mono hq) x2 rfl | exact SlR.ld (HN.mono hq) x3 rfl | exact SlR.ld1 (HN.mono hq) x3 rfl | exact PT.ld0 (HA.mono hq) rfl | exact PT.ld (HA.mono hq) rfl)) ?_)
          (refine aw_take 12 rfl (by kernel_rfl) (by kernel_rfl) (by kernel_rfl) hNP hS rfl (fun w' hq => pv_move rfl) ?_)
          (refine aw_take 13 rfl (by kernel_rfl) (by kernel_rfl) (by kernel_rfl) hNP hS rfl (fun w' hq => pv_ia (tS rfl) rfl rfl (by omega)) ?_)
          (refine aw_take 14 rfl (by kernel_rfl) (by kernel_rfl) (by kernel_rfl) hNP hS rfl (fun w' hq => pv_load (t1 rfl) rfl (by first | exact SlR.ld (HN.mono hq) x1 rfl | exact SlR.ld1 (HN.mono hq) x1 rfl | exact SlR.ld (HN.mono hq) x2 rfl | exact SlR.ld1 (HN.mono hq) x2 rfl | exact SlR.ld (HN.mono hq) x3 rfl | exact SlR.ld1 (HN.mono hq) x3 rfl | exact PT.ld0 (HA.mono hq) rfl | exact PT.ld (HA.mono hq) rfl)) ?_)
          (refine aw_take 15 rfl (by kernel_rfl) (by kernel_rfl) (by kernel_rfl) hNP hS rfl (fun w' hq => tyB_69 rfl rfl rfl) ?_)
          (refine aw_take 16 rfl (by kernel_rfl) (by kernel_rfl) (by kernel_rfl) hNP hS rfl (fun w' hq => pv_move rfl) ?_)
          refine aw_act 17 (by kernel_rfl) rfl rfl rfl ?_
          refine act_call (f := 45) (by kernel_rfl) rfl (deal_e hdl hml hl hM (HS.mono hS) hg1 hmx2.1 hmx2.2.1 hmx2.2.2 hg2 hg3) ?_; rintro e1 w8 ⟨⟨vo2, rfl, hO⟩, hb⟩; replace hO := hO.weaken (Nat.le_trans hE.le hS.size); refine ⟨_, rfl, grow_trans hS hb, fun hS => ?_⟩
          (refine aw_take 18 rfl (by kernel_rfl) (by kernel_rfl) (by kernel_rfl) hNP hS rfl (fun w' hq => pv_extract rfl rfl) ?_)
          (refine aw_take 19 rfl (by kernel_rfl) (by kernel_rfl) (by kernel_rfl) hNP hS rfl (fun w' hq => pv_extract rfl rfl) ?_)
          (refine aw_take 20 rfl (by kernel_rfl) (by kernel_rfl) (by kernel_rfl) hNP hS rfl (fun w' hq => pv_assign rfl) ?_)
          (refine aw_take 21 rfl (by kernel_rfl) (by kernel_rfl) (by kernel_rfl) hNP hS rfl (fun w' hq => pv_assign rfl) ?_)
          refine aw_done (by kernel_rfl) ?_
          replace hw := hS; clear hS hNP
          repeat' (first | (refine is_cw ?_; first | (refine cw_ret ?_)) | (refine is_qw ?_; first | (with_reducible refine qw_then ?_) | (with_reducible refine qw_then_ret ?_) | (with_reducible refine qw_in_ret ?_)))
          exact qw_ret2 rfl rfl rfl ⟨⟨_, rfl, hO⟩, (hE.mono hw).b⟩
        · rw [posR_err hgo (Or.inr k2) hf]
          repeat' (first | (refine lw_pure rfl (pv_move rfl) ?_) | (refine lw_pure rfl (pv_assign rfl) ?_) | (refine is_cw ?_; first | (refine cw_seq ?_) | (refine cw_region ?_) | (refine cw_true rfl (by first | assumption | exact decide_eq_true (by omega) | exact dec_notT (by omega)) ?_) | (refine cw_false rfl (by first | assumption | exact decide_eq_false (by omega) | exact dec_notF (by omega)) ?_) | (refine cw_block ?_) | (refine cw_ret ?_)) | (refine is_qw ?_; first | (with_reducible refine qw_then ?_) | (with_reducible refine qw_then_ret ?_) | (with_reducible refine qw_in_ret ?_)) | (refine lw_nil ?_) | (refine is_guarded ?_; first | (refine lw_on rfl rfl (by first | assumption | exact decide_eq_true (by omega) | exact decide_eq_false (by omega) | exact dec_notT (by omega) | exact dec_notF (by omega)) ?_)) | ((refine is_bin ?_; first | (refine lw_pure rfl (pv_neq rfl rfl) ?_))) | ((refine is_load ?_; first | (refine lw_pure rfl (pv_load (t1 rfl) rfl (by first | exact PT.ld0 (HV.mono hw) rfl | exact PT.ld (HV.mono hw) rfl)) ?_))) | ((refine is_fa ?_; first | (refine lw_pure rfl (pv_fa (tF rfl) rfl) ?_))) | (refine lw_pure rfl (pv_pick_t rfl (by first | assumption | exact decide_eq_true (by omega) | exact dec_notT (by omega)) rfl) ?_))
          all_goals exact qw_ret2 rfl rfl rfl ⟨⟨_, rfl, Own.nil _⟩, (hE.mono hw).b⟩
      · rw [posR_keep hgo k1 k2]
        repeat' (first | (refine lw_pure rfl (pv_move rfl) ?_) | (refine lw_pure rfl (pv_assign rfl) ?_) | (refine is_cw ?_; first | (refine cw_seq ?_) | (refine cw_region ?_) | (refine cw_true rfl (by first | assumption | exact decide_eq_true (by omega) | exact dec_notT (by omega)) ?_) | (refine cw_block ?_)) | (refine is_qw ?_; first | (with_reducible refine qw_then ?_)) | (refine lw_nil ?_) | (refine is_guarded ?_; first | (refine lw_on rfl rfl (by first | assumption | exact decide_eq_true (by omega) | exact decide_eq_false (by omega) | exact dec_notT (by omega) | exact dec_notF (by omega)) ?_)) | ((refine is_bin ?_; first | (refine lw_pure rfl (pv_neq rfl rfl) ?_))) | ((refine is_load ?_; first | (refine lw_pure rfl (pv_load (t1 rfl) rfl (by first | exact PT.ld0 (HV.mono hw) rfl | exact PT.ld (HV.mono hw) rfl)) ?_))) | ((refine is_fa ?_; first | (refine lw_pure rfl (pv_fa (tF rfl) rfl) ?_))) | (refine lw_pure rfl (pv_pick_t rfl (by first | assumption | exact decide_eq_true (by omega) | exact dec_notT (by omega)) rfl) ?_))
        refine lw_call (f := 44) (by kernel_rfl) rfl rfl (clone_S hml (HS.mono hw) (by omega)) ?_; rintro e1 w2 ⟨⟨vo2, rfl, hO⟩, hb⟩; refine ⟨_, rfl, ?_⟩; replace hO := hO.weaken (Nat.le_trans hE.le hw.size); replace hw := grow_trans hw hb; clear hb
        repeat' (first | (refine lw_pure rfl (pv_assign rfl) ?_) | (refine is_cw ?_; first | (refine cw_ret ?_)) | (refine is_qw ?_; first | (with_reducible refine qw_then ?_) | (with_reducible refine qw_then_ret ?_) | (with_reducible refine qw_in_ret ?_)) | (refine lw_nil ?_))
        exact qw_ret2 rfl rfl rfl ⟨⟨_, rfl, hO⟩, (hE.mono hw).b⟩
end Go.Proofs.YtemngicaoacfaaaGreatDoor
