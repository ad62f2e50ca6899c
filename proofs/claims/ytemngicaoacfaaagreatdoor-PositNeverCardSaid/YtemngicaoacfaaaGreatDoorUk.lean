/-
  The law PositNever: walked: it returns true, whatever it is called with. Conditions: the event reads as one; the table of kinds lies in memory (KnW).
-/
import Derived.Test.YtemngicaoacfaaaGreatDoorUw
namespace Go.Proofs.YtemngicaoacfaaaGreatDoor
open Go.RowKit Go.PlainAid

theorem filter_take {p : Pos → Bool} {out : List Pos} {k : Nat} {x : Pos} (h : out[k]? = some x) : (out.take (k + 1)).filter p = (out.take k).filter p ++ (if p x = true then [x] else []) := by
  rw [List.take_add_one, h, List.filter_append]
  cases hp : p x <;> simp [hp]
set_option maxRecDepth 20000 in
set_option maxHeartbeats 16000000 in
theorem never_c {l : List Pos} {p : List Opn} {t : List Lt} {x : EvC} {e : Evt} {a b c : Option Addr} {m n o ca cb cc : Nat} {w : World} (hm : l.length = m) (hn : p.length = n) (ho : t.length = o) (HS : SlR encS 6 w a ca l) (HP : SlR encP 6 w b cb p) (HL : SlR encL 4 w c cc t) (HR : EvR w x e) (hK : KnW w) :
    Calls Tryz.prog 7 #[.slice a m ca, .slice b n cb, .slice c o cc, .agg (encV x).toArray] w fun e1 w' => e1 = .returned (.bool true) ∧ Below w.heap.size w w' := by
  subst hm hn ho
  have hE := Ext.refl w
  have hw := Below.refl w.heap.size w
  have hsl := HS.le
  have hsm := HS.max
  obtain ⟨xv, xk, xan, xmn, xcn, xax, xmx, xcx⟩ := x
  obtain ⟨r1, r2, r3, r4, HN, HX, h8, htx⟩ := HR
  simp only at r1 r2 r3 r4 HN HX
  subst r1 r2 r3 r4
  refine fn_enter 192 Tryz.func7 rfl rfl rfl ?_
  repeat' (first | (refine is_cw ?_; first | (refine cw_seq ?_) | (refine cw_region ?_)))
  refine lw_boxN rfl rfl (cs := [.int .u8 e.v, .int .u8 e.kind, .slice xan e.nums.length xcn, .slice xax e.texts.length xcx]) rfl ?_; intro N7 w7 hN7 HV hb
  replace hw := grow_trans hw hb
  clear hb
  replace hE := hE.mono hw; replace HS := HS.mono hw; replace HP := HP.mono hw; replace HL := HL.mono hw; replace HN := HN.mono hw; replace HX := HX.mono hw; replace hK := hK.mono hw; clear hw; have hw := Below.refl w7.heap.size w7
  repeat' (first | (refine lw_pure rfl (pv_move rfl) ?_) | (refine lw_pure rfl (pv_assign rfl) ?_) | (refine is_cw ?_; first | (refine cw_seq ?_) | (refine cw_region ?_)) | (refine is_qw ?_; first | (with_reducible refine qw_then ?_)) | (refine lw_nil ?_) | ((refine is_load ?_; first | (refine lw_pure rfl (pv_loada (tA rfl) rfl (by first | exact PT.lda (HV.mono hw)) (by rfl)) ?_))))
  refine lw_call (f := 9) (by kernel_rfl) rfl rfl (long_c rfl HX) ?_; rintro e1 w1 ⟨⟨r, rfl, hr⟩, hb⟩; refine ⟨_, rfl, ?_⟩; replace hw := grow_trans hw hb; clear hb
  cases r with
  | true =>
    repeat' (first | (refine lw_pure rfl (pv_move rfl) ?_) | (refine lw_pure rfl (pv_assign rfl) ?_) | ((refine lw_call (f := 10) (by kernel_rfl) rfl rfl (awake_c (hK.mono hw)) ?_; rintro e1 wz ⟨rfl, hb⟩; refine ⟨_, rfl, ?_⟩; replace hw := grow_trans hw hb; clear hb)) | (refine is_cw ?_; first | (refine cw_seq ?_) | (refine cw_region ?_) | (refine cw_true rfl rfl ?_) | (refine cw_ret ?_)) | (refine is_qw ?_; first | (with_reducible refine qw_then ?_) | (with_reducible refine qw_then_ret ?_)) | (refine lw_nil ?_) | (refine is_guarded ?_; first | (refine lw_not rfl rfl rfl rfl ?_)) | (refine lw_pure rfl (pv_pick_t rfl rfl rfl) ?_))
    exact qw_ret1 rfl rfl ⟨rfl, (hE.mono hw).b⟩
  | false =>
    obtain ⟨hl1, -, -, -, -⟩ := hr rfl
    clear hr
    repeat' ((fail_if_success (refine is_seqr 3 ?_)); first | (refine lw_pure rfl (pv_move rfl) ?_) | ((refine lw_call (f := 10) (by kernel_rfl) rfl rfl (awake_c (hK.mono hw)) ?_; rintro e1 wz ⟨rfl, hb⟩; refine ⟨_, rfl, ?_⟩; replace hw := grow_trans hw hb; clear hb)) | (refine is_cw ?_; first | (refine cw_false rfl rfl ?_) | (refine cw_skip ?_)) | (refine is_qw ?_; first | (with_reducible refine qw_then ?_)) | (refine lw_nil ?_) | (refine is_guarded ?_; first | (refine lw_on rfl rfl rfl ?_)) | ((refine is_un ?_; first | (refine lw_pure rfl (pv_not rfl) ?_))) | (refine lw_pure rfl (pv_pick_f rfl rfl rfl) ?_))
    repeat' (first | (refine lw_pure rfl (pv_move rfl) ?_) | (refine is_cw ?_; first | (refine cw_seq ?_) | (refine cw_region ?_)) | ((refine is_load ?_; first | (refine lw_pure rfl (pv_loada (tA rfl) rfl (by first | exact PT.lda (HV.mono hw)) (by rfl)) ?_))))
    refine lw_call (f := 13) (by kernel_rfl) rfl rfl (pev_c h8 rfl (by omega) rfl rfl rfl rfl (HS.mono hw) (HP.mono hw) (HL.mono hw) (HN.mono hw) (HX.mono hw) htx (hK.mono hw)) ?_; rintro e1 w2 ⟨⟨vo, rfl, hO⟩, hb⟩; refine ⟨_, rfl, ?_⟩; replace hw := grow_trans hw hb; clear hb
    have hnv := never_ok (l := l) (p := p) (t := t) (e := e)
    have her := pos_err (l := l) (p := p) (t := t) (e := e)
    obtain ⟨R, hR⟩ : ∃ R, posR l p t e = R := ⟨_, rfl⟩
    rw [hR] at hnv her hO ⊢
    obtain ⟨out, k0⟩ := R
    dsimp only at hnv her hO ⊢
    obtain ⟨oa, oc, rfl, HO, -⟩ := Own.slR encS_len hO
    clear hO hR
    have hol := HO.le
    have hom := HO.max
    replace hE := hE.mono hw; replace HS := HS.mono hw; replace HV := HV.mono hw; clear hw; have hw := Below.refl w2.heap.size w2
    clear HP HL HN HX hK
    by_cases h0 : k0 = 0
    · subst h0
      obtain ⟨⟨hmo, hml, ⟨I, hI⟩, hge, htwo, hlen, hnow⟩, hkeep⟩ := hnv rfl
      clear hnv her
      repeat' ((fail_if_success (refine is_seqr 6 ?_)); first | (refine lw_pure rfl (pv_move rfl) ?_) | (refine lw_pure rfl (pv_assign rfl) ?_) | (refine is_cw ?_; first | (refine cw_seq ?_) | (refine cw_region ?_) | (refine cw_false rfl rfl ?_) | (refine cw_skip ?_)) | (refine is_qw ?_; first | (with_reducible refine qw_then ?_)) | (refine lw_nil ?_) | ((refine is_bin ?_; first | (refine lw_pure rfl (pv_neq rfl rfl) ?_))) | (refine lw_pure rfl (pv_extract rfl rfl) ?_))
      refine cw_cut (σ := Unit) (fun _ => ([(0, .slice a l.length ca), (7, .pointer (some ⟨N7, 0, none⟩)), (9, .slice oa out.length oc), (63, .bool false)])) (fun _ w' => Below w2.heap.size w2 w' ∧ (True)) ?_ ?_
      · repeat' (first | (refine lw_pure rfl (pv_move rfl) ?_) | (refine is_cw ?_; first | (refine cw_region ?_)))
        refine lw_call (f := 23) (by kernel_rfl) rfl rfl (mayS_e (mayPs_iff.2 hmo) rfl (HO.mono hw)) ?_; rintro e1 w3 ⟨rfl, hb⟩; refine ⟨_, rfl, ?_⟩; replace hw := grow_trans hw hb; clear hb
        repeat' (first | (refine lw_pure rfl (pv_move rfl) ?_) | (refine is_guarded ?_; first | (refine lw_on rfl rfl rfl ?_)) | ((refine is_un ?_; first | (refine lw_pure rfl (pv_not rfl) ?_))))
        refine lw_call (f := 23) (by kernel_rfl) rfl rfl (mayS_e (mayPs_iff.2 hml) rfl (HS.mono hw)) ?_; rintro e1 w4 ⟨rfl, hb⟩; refine ⟨_, rfl, ?_⟩; replace hw := grow_trans hw hb; clear hb
        by_cases hk : e.kind = 13 ∨ e.kind = 18
        · repeat' (first | (refine lw_pure rfl (pv_move rfl) ?_) | (refine lw_nil ?_) | (refine is_guarded ?_; first | (refine lw_not rfl rfl rfl rfl ?_) | (refine lw_on rfl rfl rfl ?_) | (refine lw_on rfl rfl (by first | assumption | exact decide_eq_true (by omega) | exact decide_eq_false (by omega) | exact dec_notT (by omega) | exact dec_notF (by omega)) ?_) | (refine lw_not rfl rfl rfl (by first | assumption | exact decide_eq_true (by omega) | exact decide_eq_false (by omega) | exact dec_notT (by omega) | exact dec_notF (by omega)) ?_) | (refine lw_gs_t rfl rfl rfl (fun hc => ?_) (fun hc => ?_) <;> (first | replace hc := of_decide_eq_true hc | replace hc := of_decide_eq_false hc | replace hc := dec_nT hc | replace hc := dec_nF hc | skip) <;> (try (exfalso; omega)))) | ((refine is_bin ?_; first | (refine lw_pure rfl (pv_neq rfl rfl) ?_))) | ((refine is_load ?_; first | (refine lw_pure rfl (pv_load (t1 rfl) rfl (by first | exact PT.ld0 (HV.mono hw) rfl | exact PT.ld (HV.mono hw) rfl)) ?_))) | ((refine is_fa ?_; first | (refine lw_pure rfl (pv_fa (tF rfl) rfl) ?_))) | ((refine is_un ?_; first | (refine lw_pure rfl (pv_not rfl) ?_))) | (refine lw_pure rfl (pv_pick_f rfl rfl rfl) ?_) | (refine lw_pure rfl (pv_pick_t rfl (by first | assumption | exact decide_eq_true (by omega) | exact dec_notT (by omega)) rfl) ?_) | (refine lw_pure rfl (pv_pick_f rfl (by first | assumption | exact decide_eq_false (by omega) | exact dec_notF (by omega)) rfl) ?_))
          all_goals (refine qw_join () (by repeat' (first | exact trivial | refine ⟨rfl, ?_⟩)) ⟨hw, ?_⟩; trivial)
        · have hq := hkeep (by omega) (by omega)
          have HO2 := HO
          rw [hq] at HO2
          repeat' (first | (refine lw_pure rfl (pv_move rfl) ?_) | (refine lw_call (f := 38) (by kernel_rfl) rfl rfl (same_t (by rw [hq]) rfl (HO2.mono hw) (HS.mono hw)) ?_; rintro e w1 ⟨rfl, hb⟩; refine ⟨_, rfl, ?_⟩; replace hw := grow_trans hw hb; clear hb) | (refine lw_nil ?_) | (refine is_guarded ?_; first | (refine lw_on rfl rfl rfl ?_) | (refine lw_on rfl rfl (by first | assumption | exact decide_eq_true (by omega) | exact decide_eq_false (by omega) | exact dec_notT (by omega) | exact dec_notF (by omega)) ?_)) | ((refine is_bin ?_; first | (refine lw_pure rfl (pv_neq rfl rfl) ?_))) | ((refine is_load ?_; first | (refine lw_pure rfl (pv_load (t1 rfl) rfl (by first | exact PT.ld0 (HV.mono hw) rfl | exact PT.ld (HV.mono hw) rfl)) ?_))) | ((refine is_fa ?_; first | (refine lw_pure rfl (pv_fa (tF rfl) rfl) ?_))) | ((refine is_un ?_; first | (refine lw_pure rfl (pv_not rfl) ?_))) | (refine lw_pure rfl (pv_pick_f rfl rfl rfl) ?_) | (refine lw_pure rfl (pv_pick_t rfl (by first | assumption | exact decide_eq_true (by omega) | exact dec_notT (by omega)) rfl) ?_))
          all_goals (refine qw_join () (by repeat' (first | exact trivial | refine ⟨rfl, ?_⟩)) ⟨hw, ?_⟩; trivial)
      rintro - w3 ⟨hw, -⟩
      replace hE := hE.mono hw; replace HS := HS.mono hw; replace HV := HV.mono hw; replace HO := HO.mono hw; clear hw; have hw := Below.refl w3.heap.size w3
      repeat' ((fail_if_success (refine is_seqb ?_)); (fail_if_success (refine is_blk ?_)); first | (refine lw_pure rfl (pv_assign rfl) ?_) | (refine is_cw ?_; first | (refine cw_seq ?_) | (refine cw_region ?_) | (refine cw_false rfl rfl ?_) | (refine cw_skip ?_)) | (refine is_qw ?_; first | (with_reducible refine qw_then ?_)) | (refine lw_nil ?_))
      repeat' (first | (refine is_cw ?_; first | (refine cw_block ?_)))
      refine cw_loop (σ := (Nat × Nat) × Int) (fun s => [(0, .slice a l.length ca), (9, .slice oa out.length oc), (11, .int .i64 (s.1.2 : Nat)), (12, .int .i64 s.2), (13, .int .i64 (s.1.1 : Nat))]) (fun s wr => s.1.1 ≤ out.length ∧ Below w3.heap.size w3 wr ∧ s.1.2 = ((out.take s.1.1).filter (chgS l)).length ∧ (s.1.2 = 0 ∨ s.2 = I)) (fun s => out.length - s.1.1) ((0, 0), 0) (by repeat' (first | exact trivial | refine ⟨rfl, ?_⟩)) ⟨Nat.zero_le _, hw, by simp, Or.inl rfl⟩ ?_
      clear hw
      rintro ⟨⟨k, cnt⟩, inst⟩ wr ⟨hk, hw, hcn, hcnt⟩
      dsimp only at hk hcn hcnt
      change CW _ _ _ _ [(0, .slice a l.length ca), (9, .slice oa out.length oc), (11, .int .i64 (cnt : Nat)), (12, .int .i64 inst), (13, .int .i64 (k : Nat))] wr
      have hcl : cnt ≤ out.length := by rw [hcn]; exact Nat.le_trans (List.length_filter_le _ _) (by rw [List.length_take]; omega)
      by_cases hlt : k < out.length
      · have hxk : out[k]? = some out[k] := List.getElem?_eq_getElem hlt
        have hmem := List.getElem_mem hlt
        obtain ⟨ob, oo, rfl, -, -⟩ := HO.at (by intro h; rw [h] at hlt; simp at hlt)
        generalize out[k] = y at hxk hmem
        have hgy := hge y hmem
        have hIy := hI y hmem
        have hft := filter_take (p := chgS l) hxk
        have hcy : chgS l y = decide (y ≠ getS l y.acct y.inst) := rfl
        obtain ⟨was, hwas⟩ : ∃ q, getS l y.acct y.inst = q := ⟨_, rfl⟩
        rw [hwas] at hgy hIy hcy
        repeat' ((fail_if_success (refine is_seqr 12 ?_)); first | (refine lw_pure rfl (pv_move rfl) ?_) | (refine is_cw ?_; first | (refine cw_seq ?_) | (refine cw_region ?_) | (refine cw_true rfl (by first | assumption | exact decide_eq_true (by omega) | exact dec_notT (by omega)) ?_) | (refine cw_skip ?_) | (refine cw_block ?_)) | (refine is_qw ?_; first | (with_reducible refine qw_then ?_)) | (refine lw_nil ?_) | ((refine is_bin ?_; first | (refine lw_pure rfl (pv_lss rfl rfl) ?_))) | ((refine is_bi ?_; first | (refine lw_pure rfl (pv_lenl (tS rfl) rfl) ?_))))
        refine cw_cut (σ := Nat) (fun N => [(0, .slice a l.length ca), (9, .slice (some ⟨ob, oo, none⟩) out.length oc), (11, .int .i64 (cnt : Nat)), (12, .int .i64 inst), (13, .int .i64 (k : Nat)), (14, .pointer (some ⟨N, 0, none⟩))]) (fun N w' => w3.heap.size ≤ N ∧ Below w3.heap.size w3 w' ∧ PT w' N 39 (encS was)) ?_ ?_
        · skip
          refine cw_drawn (fun w' => Below w3.heap.size w3 w') (by kernel_rfl) (by repeat (first | exact NoPanic.body | with_reducible refine NoPanic.then ?_ | with_reducible refine NoPanic.inBlock ?_)) (fun hNP => ?_)
          have hS := hw.drew
          (refine aw_take 0 rfl (by kernel_rfl) (by kernel_rfl) (by kernel_rfl) hNP hS rfl (fun w' hq => pv_move rfl) ?_)
          (refine aw_take 1 rfl (by kernel_rfl) (by kernel_rfl) (by kernel_rfl) hNP hS rfl (fun w' hq => pv_move rfl) ?_)
          (refine aw_take 2 rfl (by kernel_rfl) (by kernel_rfl) (by kernel_rfl) hNP hS rfl (fun w' hq => pv_move rfl) ?_)
          (refine aw_take 3 rfl (by kernel_rfl) (by kernel_rfl) (by kernel_rfl) hNP hS rfl (fun w' hq => pv_ian (tS rfl) rfl rfl (by omega)) ?_)
          (refine aw_take 4 rfl (by kernel_rfl) (by kernel_rfl) (by kernel_rfl) hNP hS rfl (fun w' hq => pv_fa (tF rfl) rfl) ?_)
          (refine aw_take 5 rfl (by kernel_rfl) (by kernel_rfl) (by kernel_rfl) hNP hS rfl (fun w' hq => pv_load (t1 rfl) rfl (by first | exact SlR.ld (HO.mono hq) hxk rfl | exact SlR.ld1 (HO.mono hq) hxk rfl)) ?_)
          (refine aw_take 6 rfl (by kernel_rfl) (by kernel_rfl) (by kernel_rfl) hNP hS rfl (fun w' hq => pv_move rfl) ?_)
          (refine aw_take 7 rfl (by kernel_rfl) (by kernel_rfl) (by kernel_rfl) hNP hS rfl (fun w' hq => pv_move rfl) ?_)
          (refine aw_take 8 rfl (by kernel_rfl) (by kernel_rfl) (by kernel_rfl) hNP hS rfl (fun w' hq => pv_ian (tS rfl) rfl rfl (by omega)) ?_)
          (refine aw_take 9 rfl (by kernel_rfl) (by kernel_rfl) (by kernel_rfl) hNP hS rfl (fun w' hq => pv_fa (tF rfl) rfl) ?_)
          (refine aw_take 10 rfl (by kernel_rfl) (by kernel_rfl) (by kernel_rfl) hNP hS rfl (fun w' hq => pv_load (t1 rfl) rfl (by first | exact SlR.ld (HO.mono hq) hxk rfl | exact SlR.ld1 (HO.mono hq) hxk rfl)) ?_)
          refine aw_act2 11 12 (by kernel_rfl) rfl rfl rfl rfl rfl rfl ?_ ?_
          · refine act_call (f := 18) (by kernel_rfl) rfl (get_e hwas rfl (HS.mono hS)) ?_; rintro e1 wg ⟨rfl, hb⟩; refine ⟨_, rfl, grow_trans hS hb, fun hS => ?_⟩; (try replace HW := HW.mono hb); clear hb
            refine aw_act 12 (by kernel_rfl) rfl rfl rfl ?_
            refine act_alloc (by first | exact tyv_27 | exact tyv_28 | exact tyv_38 | exact tyv_39 | exact tyv_48 | exact tyv_49 | exact tyv_52 | exact tyv_53 | exact tyv_68 | exact tyv_69 | exact tyv_79 | exact tyv_80 | exact tyv_94 | exact tyv_95 | exact tyv_131 | exact tyv_132) rfl ?_; intro N wn hN HW hb; replace hN := Nat.le_trans hS.size hN; refine ⟨grow_trans hS hb, fun hS => ?_⟩; clear hb
            refine aw_act 13 (by kernel_rfl) rfl rfl rfl ?_
            refine act_storea HW (tZ rfl) rfl rfl rfl rfl (encS_one _) ?_; intro ws HW hg hz; refine ⟨st_hw hS hg hN, fun hS => ?_⟩
            refine aw_done (by kernel_rfl) ?_
            replace hw := hS; clear hS hNP
            exact qw_join N (by repeat' (first | exact trivial | refine ⟨rfl, ?_⟩)) ⟨hN, hw, HW⟩
          · refine act_alloc (by first | exact tyv_27 | exact tyv_28 | exact tyv_38 | exact tyv_39 | exact tyv_48 | exact tyv_49 | exact tyv_52 | exact tyv_53 | exact tyv_68 | exact tyv_69 | exact tyv_79 | exact tyv_80 | exact tyv_94 | exact tyv_95 | exact tyv_131 | exact tyv_132) rfl ?_; intro N wn hN HW hb; replace hN := Nat.le_trans hS.size hN; refine ⟨grow_trans hS hb, fun hS => ?_⟩; clear hb
            refine aw_act 11 (by kernel_rfl) rfl rfl rfl ?_
            refine act_call (f := 18) (by kernel_rfl) rfl (get_e hwas rfl (HS.mono hS)) ?_; rintro e1 wg ⟨rfl, hb⟩; refine ⟨_, rfl, grow_trans hS hb, fun hS => ?_⟩; (try replace HW := HW.mono hb); clear hb
            refine aw_act 13 (by kernel_rfl) rfl rfl rfl ?_
            refine act_storea HW (tZ rfl) rfl rfl rfl rfl (encS_one _) ?_; intro ws HW hg hz; refine ⟨st_hw hS hg hN, fun hS => ?_⟩
            refine aw_done (by kernel_rfl) ?_
            replace hw := hS; clear hS hNP
            exact qw_join N (by repeat' (first | exact trivial | refine ⟨rfl, ?_⟩)) ⟨hN, hw, HW⟩
        rintro N w4 ⟨hN, hw, HW⟩
        have hB3 := hw
        replace hE := hE.mono hw; replace HS := HS.mono hw; replace HO := HO.mono hw; clear hw; have hw := Below.refl w4.heap.size w4
        repeat' (first | (refine is_cw ?_; first | (refine cw_seq ?_)))
        refine cw_drawn (fun w' => Below w4.heap.size w4 w') (by kernel_rfl) (by repeat (first | exact NoPanic.body | with_reducible refine NoPanic.then ?_ | with_reducible refine NoPanic.inBlock ?_)) (fun hNP => ?_)
        have hS := hw.drew
        (refine aw_take 0 rfl (by kernel_rfl) (by kernel_rfl) (by kernel_rfl) hNP hS rfl (fun w' hq => pv_move rfl) ?_)
        (refine aw_take 1 rfl (by kernel_rfl) (by kernel_rfl) (by kernel_rfl) hNP hS rfl (fun w' hq => pv_move rfl) ?_)
        (refine aw_take 2 rfl (by kernel_rfl) (by kernel_rfl) (by kernel_rfl) hNP hS rfl (fun w' hq => pv_ian (tS rfl) rfl rfl (by omega)) ?_)
        (refine aw_take 3 rfl (by kernel_rfl) (by kernel_rfl) (by kernel_rfl) hNP hS rfl (fun w' hq => pv_loada (tA rfl) rfl (by first | exact SlR.lda (HO.mono hq) hxk | exact PT.lda (HW.mono hq)) (by rfl)) ?_)
        (refine aw_take 4 rfl (by kernel_rfl) (by kernel_rfl) (by kernel_rfl) hNP hS rfl (fun w' hq => pv_loada (tA rfl) rfl (by first | exact SlR.lda (HO.mono hq) hxk | exact PT.lda (HW.mono hq)) (by rfl)) ?_)
        (refine aw_take 5 rfl (by kernel_rfl) (by kernel_rfl) (by kernel_rfl) hNP hS rfl (fun w' hq => pv_eqlS _ _ rfl rfl) ?_)
        refine aw_done (by kernel_rfl) ?_
        replace hw := hS; clear hS hNP
        by_cases hyw : y = was
        · repeat' (first | (refine lw_pure rfl (pv_move rfl) ?_) | (refine lw_pure rfl (pv_assign rfl) ?_) | (refine is_cw ?_; first | (refine cw_region ?_) | (refine cw_true rfl (by first | assumption | exact decide_eq_true (by omega) | exact dec_notT (by omega)) ?_) | (refine cw_exit ?_)) | (refine is_qw ?_; first | (with_reducible refine qw_then ?_) | (with_reducible refine qw_in_hit ?_) | (with_reducible refine qw_then_exit ?_)) | (refine lw_nil ?_) | ((refine is_bin ?_; first | (refine lw_pure rfl (pv_inc rfl rfl (by omega)) ?_))))
          refine qw_round ((k + 1, cnt), inst) (by repeat' (first | exact trivial | refine ⟨rfl, ?_⟩)) ⟨by show k + 1 ≤ _; omega, grow_trans hB3 hw, ?_, hcnt⟩ (by show out.length - (k + 1) < out.length - k; omega)
          show cnt = ((out.take (k + 1)).filter (chgS l)).length
          rw [hft, hcy, List.length_append, ← hcn]
          simp [hyw]
        · have hI2 := hIy hyw
          repeat' (first | (refine is_cw ?_; first | (refine cw_seq ?_) | (refine cw_false rfl (by first | assumption | exact decide_eq_false (by omega) | exact dec_notF (by omega)) ?_) | (refine cw_skip ?_)) | (refine is_qw ?_; first | (with_reducible refine qw_then ?_)))
          refine cw_drawn (fun w' => Below w4.heap.size w4 w') (by kernel_rfl) (by repeat (first | exact NoPanic.body | with_reducible refine NoPanic.then ?_ | with_reducible refine NoPanic.inBlock ?_)) (fun hNP => ?_)
          have hS := hw.drew
          rcases hcnt with hcnt | hcnt
          all_goals (refine aw_take 0 rfl (by kernel_rfl) (by kernel_rfl) (by kernel_rfl) hNP hS rfl (fun w' hq => pv_move rfl) ?_)
          all_goals (refine aw_take 1 rfl (by kernel_rfl) (by kernel_rfl) (by kernel_rfl) hNP hS rfl (fun w' hq => pv_move rfl) ?_)
          all_goals (refine aw_take 2 rfl (by kernel_rfl) (by kernel_rfl) (by kernel_rfl) hNP hS rfl (fun w' hq => pv_ian (tS rfl) rfl rfl (by omega)) ?_)
          all_goals (refine aw_take 3 rfl (by kernel_rfl) (by kernel_rfl) (by kernel_rfl) hNP hS rfl (fun w' hq => pv_fa (tF rfl) rfl) ?_)
          all_goals (refine aw_take 4 rfl (by kernel_rfl) (by kernel_rfl) (by kernel_rfl) hNP hS rfl (fun w' hq => pv_load (t1 rfl) rfl (by first | exact SlR.ld (HO.mono hq) hxk rfl | exact SlR.ld1 (HO.mono hq) hxk rfl | exact PT.ld0 (HW.mono hq) rfl | exact PT.ld (HW.mono hq) rfl)) ?_)
          all_goals (refine aw_take 5 rfl (by kernel_rfl) (by kernel_rfl) (by kernel_rfl) hNP hS rfl (fun w' hq => pv_fa (tF rfl) rfl) ?_)
          all_goals (refine aw_take 6 rfl (by kernel_rfl) (by kernel_rfl) (by kernel_rfl) hNP hS rfl (fun w' hq => pv_load (t1 rfl) rfl (by first | exact SlR.ld (HO.mono hq) hxk rfl | exact SlR.ld1 (HO.mono hq) hxk rfl | exact PT.ld0 (HW.mono hq) rfl | exact PT.ld (HW.mono hq) rfl)) ?_)
          all_goals (refine aw_take 7 rfl (by kernel_rfl) (by kernel_rfl) (by kernel_rfl) hNP hS rfl (fun w' hq => pv_lss rfl rfl) ?_)
          all_goals (refine aw_take 8 rfl (by kernel_rfl) (by kernel_rfl) (by kernel_rfl) hNP hS rfl (fun w' hq => pv_move rfl) ?_)
          all_goals (refine aw_take_on 9 rfl rfl rfl (by first | assumption | exact decide_eq_true (by omega) | exact decide_eq_false (by omega) | exact dec_notT (by omega) | exact dec_notF (by omega)) (by kernel_rfl) (by kernel_rfl) (by kernel_rfl) hNP hS rfl (fun w' hq => pv_move rfl) ?_)
          all_goals (refine aw_take_on 10 rfl rfl rfl (by first | assumption | exact decide_eq_true (by omega) | exact decide_eq_false (by omega) | exact dec_notT (by omega) | exact dec_notF (by omega)) (by kernel_rfl) (by kernel_rfl) (by kernel_rfl) hNP hS rfl (fun w' hq => pv_move rfl) ?_)
          all_goals (refine aw_take_on 11 rfl rfl rfl (by first | assumption | exact decide_eq_true (by omega) | exact decide_eq_false (by omega) | exact dec_notT (by omega) | exact dec_notF (by omega)) (by kernel_rfl) (by kernel_rfl) (by kernel_rfl) hNP hS rfl (fun w' hq => pv_ian (tS rfl) rfl rfl (by omega)) ?_)
          all_goals (refine aw_take_on 12 rfl rfl rfl (by first | assumption | exact decide_eq_true (by omega) | exact decide_eq_false (by omega) | exact dec_notT (by omega) | exact dec_notF (by omega)) (by kernel_rfl) (by kernel_rfl) (by kernel_rfl) hNP hS rfl (fun w' hq => pv_fa (tF rfl) rfl) ?_)
          all_goals (refine aw_take_on 13 rfl rfl rfl (by first | assumption | exact decide_eq_true (by omega) | exact decide_eq_false (by omega) | exact dec_notT (by omega) | exact dec_notF (by omega)) (by kernel_rfl) (by kernel_rfl) (by kernel_rfl) hNP hS rfl (fun w' hq => pv_load (t1 rfl) rfl (by first | exact SlR.ld (HO.mono hq) hxk rfl | exact SlR.ld1 (HO.mono hq) hxk rfl | exact PT.ld0 (HW.mono hq) rfl | exact PT.ld (HW.mono hq) rfl)) ?_)
          all_goals (refine aw_take_on 14 rfl rfl rfl (by first | assumption | exact decide_eq_true (by omega) | exact decide_eq_false (by omega) | exact dec_notT (by omega) | exact dec_notF (by omega)) (by kernel_rfl) (by kernel_rfl) (by kernel_rfl) hNP hS rfl (fun w' hq => pv_fa (tF rfl) rfl) ?_)
          all_goals (refine aw_take_on 15 rfl rfl rfl (by first | assumption | exact decide_eq_true (by omega) | exact decide_eq_false (by omega) | exact dec_notT (by omega) | exact dec_notF (by omega)) (by kernel_rfl) (by kernel_rfl) (by kernel_rfl) hNP hS rfl (fun w' hq => pv_load (t1 rfl) rfl (by first | exact SlR.ld (HO.mono hq) hxk rfl | exact SlR.ld1 (HO.mono hq) hxk rfl | exact PT.ld0 (HW.mono hq) rfl | exact PT.ld (HW.mono hq) rfl)) ?_)
          all_goals (refine aw_take_on 16 rfl rfl rfl (by first | assumption | exact decide_eq_true (by omega) | exact decide_eq_false (by omega) | exact dec_notT (by omega) | exact dec_notF (by omega)) (by kernel_rfl) (by kernel_rfl) (by kernel_rfl) hNP hS rfl (fun w' hq => pv_lss rfl rfl) ?_)
          all_goals (refine aw_take 17 rfl (by kernel_rfl) (by kernel_rfl) (by kernel_rfl) hNP hS rfl (fun w' hq => pv_pick_f rfl (by first | assumption | exact decide_eq_false (by omega) | exact dec_notF (by omega)) rfl) ?_)
          all_goals (refine aw_take 18 rfl (by kernel_rfl) (by kernel_rfl) (by kernel_rfl) hNP hS rfl (fun w' hq => pv_move rfl) ?_)
          all_goals (refine aw_take_on 19 rfl rfl rfl (by first | assumption | exact decide_eq_true (by omega) | exact decide_eq_false (by omega) | exact dec_notT (by omega) | exact dec_notF (by omega)) (by kernel_rfl) (by kernel_rfl) (by kernel_rfl) hNP hS rfl (fun w' hq => pv_move rfl) ?_)
          all_goals (refine aw_take_on 20 rfl rfl rfl (by first | assumption | exact decide_eq_true (by omega) | exact decide_eq_false (by omega) | exact dec_notT (by omega) | exact dec_notF (by omega)) (by kernel_rfl) (by kernel_rfl) (by kernel_rfl) hNP hS rfl (fun w' hq => pv_move rfl) ?_)
          all_goals (refine aw_take_on 21 rfl rfl rfl (by first | assumption | exact decide_eq_true (by omega) | exact decide_eq_false (by omega) | exact dec_notT (by omega) | exact dec_notF (by omega)) (by kernel_rfl) (by kernel_rfl) (by kernel_rfl) hNP hS rfl (fun w' hq => pv_ian (tS rfl) rfl rfl (by omega)) ?_)
          all_goals (refine aw_take_on 22 rfl rfl rfl (by first | assumption | exact decide_eq_true (by omega) | exact decide_eq_false (by omega) | exact dec_notT (by omega) | exact dec_notF (by omega)) (by kernel_rfl) (by kernel_rfl) (by kernel_rfl) hNP hS rfl (fun w' hq => pv_fa (tF rfl) rfl) ?_)
          all_goals (refine aw_take_on 23 rfl rfl rfl (by first | assumption | exact decide_eq_true (by omega) | exact decide_eq_false (by omega) | exact dec_notT (by omega) | exact dec_notF (by omega)) (by kernel_rfl) (by kernel_rfl) (by kernel_rfl) hNP hS rfl (fun w' hq => pv_load (t1 rfl) rfl (by first | exact SlR.ld (HO.mono hq) hxk rfl | exact SlR.ld1 (HO.mono hq) hxk rfl | exact PT.ld0 (HW.mono hq) rfl | exact PT.ld (HW.mono hq) rfl)) ?_)
          all_goals (refine aw_take_on 24 rfl rfl rfl (by first | assumption | exact decide_eq_true (by omega) | exact decide_eq_false (by omega) | exact dec_notT (by omega) | exact dec_notF (by omega)) (by kernel_rfl) (by kernel_rfl) (by kernel_rfl) hNP hS rfl (fun w' hq => pv_fa (tF rfl) rfl) ?_)
          all_goals (refine aw_take_on 25 rfl rfl rfl (by first | assumption | exact decide_eq_true (by omega) | exact decide_eq_false (by omega) | exact dec_notT (by omega) | exact dec_notF (by omega)) (by kernel_rfl) (by kernel_rfl) (by kernel_rfl) hNP hS rfl (fun w' hq => pv_load (t1 rfl) rfl (by first | exact SlR.ld (HO.mono hq) hxk rfl | exact SlR.ld1 (HO.mono hq) hxk rfl | exact PT.ld0 (HW.mono hq) rfl | exact PT.ld (HW.mono hq) rfl)) ?_)
          all_goals (refine aw_take_on 26 rfl rfl rfl (by first | assumption | exact decide_eq_true (by omega) | exact decide_eq_false (by omega) | exact dec_notT (by omega) | exact dec_notF (by omega)) (by kernel_rfl) (by kernel_rfl) (by kernel_rfl) hNP hS rfl (fun w' hq => pv_lss rfl rfl) ?_)
          all_goals (refine aw_take 27 rfl (by kernel_rfl) (by kernel_rfl) (by kernel_rfl) hNP hS rfl (fun w' hq => pv_pick_f rfl (by first | assumption | exact decide_eq_false (by omega) | exact dec_notF (by omega)) rfl) ?_)
          all_goals (refine aw_take 28 rfl (by kernel_rfl) (by kernel_rfl) (by kernel_rfl) hNP hS rfl (fun w' hq => pv_move rfl) ?_)
          all_goals (refine aw_take_on 29 rfl rfl rfl (by first | assumption | exact decide_eq_true (by omega) | exact decide_eq_false (by omega) | exact dec_notT (by omega) | exact dec_notF (by omega)) (by kernel_rfl) (by kernel_rfl) (by kernel_rfl) hNP hS rfl (fun w' hq => pv_move rfl) ?_)
          all_goals (refine aw_take_on 30 rfl rfl rfl (by first | assumption | exact decide_eq_true (by omega) | exact decide_eq_false (by omega) | exact dec_notT (by omega) | exact dec_notF (by omega)) (by kernel_rfl) (by kernel_rfl) (by kernel_rfl) hNP hS rfl (fun w' hq => pv_move rfl) ?_)
          all_goals (refine aw_take_on 31 rfl rfl rfl (by first | assumption | exact decide_eq_true (by omega) | exact decide_eq_false (by omega) | exact dec_notT (by omega) | exact dec_notF (by omega)) (by kernel_rfl) (by kernel_rfl) (by kernel_rfl) hNP hS rfl (fun w' hq => pv_ian (tS rfl) rfl rfl (by omega)) ?_)
          all_goals (refine aw_take_on 32 rfl rfl rfl (by first | assumption | exact decide_eq_true (by omega) | exact decide_eq_false (by omega) | exact dec_notT (by omega) | exact dec_notF (by omega)) (by kernel_rfl) (by kernel_rfl) (by kernel_rfl) hNP hS rfl (fun w' hq => pv_fa (tF rfl) rfl) ?_)
          all_goals (refine aw_take_on 33 rfl rfl rfl (by first | assumption | exact decide_eq_true (by omega) | exact decide_eq_false (by omega) | exact dec_notT (by omega) | exact dec_notF (by omega)) (by kernel_rfl) (by kernel_rfl) (by kernel_rfl) hNP hS rfl (fun w' hq => pv_load (t1 rfl) rfl (by first | exact SlR.ld (HO.mono hq) hxk rfl | exact SlR.ld1 (HO.mono hq) hxk rfl | exact PT.ld0 (HW.mono hq) rfl | exact PT.ld (HW.mono hq) rfl)) ?_)
          all_goals (refine aw_take_on 34 rfl rfl rfl (by first | assumption | exact decide_eq_true (by omega) | exact decide_eq_false (by omega) | exact dec_notT (by omega) | exact dec_notF (by omega)) (by kernel_rfl) (by kernel_rfl) (by kernel_rfl) hNP hS rfl (fun w' hq => pv_fa (tF rfl) rfl) ?_)
          all_goals (refine aw_take_on 35 rfl rfl rfl (by first | assumption | exact decide_eq_true (by omega) | exact decide_eq_false (by omega) | exact dec_notT (by omega) | exact dec_notF (by omega)) (by kernel_rfl) (by kernel_rfl) (by kernel_rfl) hNP hS rfl (fun w' hq => pv_load (t1 rfl) rfl (by first | exact SlR.ld (HO.mono hq) hxk rfl | exact SlR.ld1 (HO.mono hq) hxk rfl | exact PT.ld0 (HW.mono hq) rfl | exact PT.ld (HW.mono hq) rfl)) ?_)
          all_goals (refine aw_take_on 36 rfl rfl rfl (by first | assumption | exact decide_eq_true (by omega) | exact decide_eq_false (by omega) | exact dec_notT (by omega) | exact dec_notF (by omega)) (by kernel_rfl) (by kernel_rfl) (by kernel_rfl) hNP hS rfl (fun w' hq => pv_lss rfl rfl) ?_)
          all_goals (refine aw_take 37 rfl (by kernel_rfl) (by kernel_rfl) (by kernel_rfl) hNP hS rfl (fun w' hq => pv_pick_f rfl (by first | assumption | exact decide_eq_false (by omega) | exact dec_notF (by omega)) rfl) ?_)
          all_goals (refine aw_take 38 rfl (by kernel_rfl) (by kernel_rfl) (by kernel_rfl) hNP hS rfl (fun w' hq => pv_move rfl) ?_)
          all_goals (refine aw_take_on 39 rfl rfl rfl (by first | assumption | exact decide_eq_true (by omega) | exact decide_eq_false (by omega) | exact dec_notT (by omega) | exact dec_notF (by omega)) (by kernel_rfl) (by kernel_rfl) (by kernel_rfl) hNP hS rfl (fun w' hq => pv_move rfl) ?_)
          all_goals (refine aw_take_on 40 rfl rfl rfl (by first | assumption | exact decide_eq_true (by omega) | exact decide_eq_false (by omega) | exact dec_notT (by omega) | exact dec_notF (by omega)) (by kernel_rfl) (by kernel_rfl) (by kernel_rfl) hNP hS rfl (fun w' hq => pv_gtr rfl rfl) ?_)
          all_goals (refine aw_take_on 41 rfl rfl rfl (by first | assumption | exact decide_eq_true (by omega) | exact decide_eq_false (by omega) | exact dec_notT (by omega) | exact dec_notF (by omega)) (by kernel_rfl) (by kernel_rfl) (by kernel_rfl) hNP hS rfl (fun w' hq => pv_move rfl) ?_)
          all_goals first | (refine aw_not 42 rfl rfl rfl (by first | assumption | exact decide_eq_true (by omega) | exact decide_eq_false (by omega) | exact dec_notT (by omega) | exact dec_notF (by omega)) (by kernel_rfl) (by kernel_rfl) (by kernel_rfl) hNP hS rfl ?_) | (refine aw_gs 42 rfl rfl rfl (by kernel_rfl) (by kernel_rfl) (by kernel_rfl) hNP hS rfl (fun hc w' hq => pv_move rfl) (fun hc => ?_) (fun hc => ?_) <;> (first | replace hc := of_decide_eq_true hc | replace hc := of_decide_eq_false hc | replace hc := dec_nT hc | replace hc := dec_nF hc | skip) <;> (try (exfalso; omega)))
          all_goals first | (refine aw_not 43 rfl rfl rfl (by first | assumption | exact decide_eq_true (by omega) | exact decide_eq_false (by omega) | exact dec_notT (by omega) | exact dec_notF (by omega)) (by kernel_rfl) (by kernel_rfl) (by kernel_rfl) hNP hS rfl ?_) | (refine aw_take_on 43 rfl rfl rfl (by first | assumption | exact decide_eq_true (by omega) | exact decide_eq_false (by omega) | exact dec_notT (by omega) | exact dec_notF (by omega)) (by kernel_rfl) (by kernel_rfl) (by kernel_rfl) hNP hS rfl (fun w' hq => pv_move rfl) ?_)
          all_goals first | (refine aw_not 44 rfl rfl rfl (by first | assumption | exact decide_eq_true (by omega) | exact decide_eq_false (by omega) | exact dec_notT (by omega) | exact dec_notF (by omega)) (by kernel_rfl) (by kernel_rfl) (by kernel_rfl) hNP hS rfl ?_) | (refine aw_take_on 44 rfl rfl rfl (by first | assumption | exact decide_eq_true (by omega) | exact decide_eq_false (by omega) | exact dec_notT (by omega) | exact dec_notF (by omega)) (by kernel_rfl) (by kernel_rfl) (by kernel_rfl) hNP hS rfl (fun w' hq => pv_ian (tS rfl) rfl rfl (by omega)) ?_)
          all_goals first | (refine aw_not 45 rfl rfl rfl (by first | assumption | exact decide_eq_true (by omega) | exact decide_eq_false (by omega) | exact dec_notT (by omega) | exact dec_notF (by omega)) (by kernel_rfl) (by kernel_rfl) (by kernel_rfl) hNP hS rfl ?_) | (refine aw_take_on 45 rfl rfl rfl (by first | assumption | exact decide_eq_true (by omega) | exact decide_eq_false (by omega) | exact dec_notT (by omega) | exact dec_notF (by omega)) (by kernel_rfl) (by kernel_rfl) (by kernel_rfl) hNP hS rfl (fun w' hq => pv_fa (tF rfl) rfl) ?_)
          all_goals first | (refine aw_not 46 rfl rfl rfl (by first | assumption | exact decide_eq_true (by omega) | exact decide_eq_false (by omega) | exact dec_notT (by omega) | exact dec_notF (by omega)) (by kernel_rfl) (by kernel_rfl) (by kernel_rfl) hNP hS rfl ?_) | (refine aw_take_on 46 rfl rfl rfl (by first | assumption | exact decide_eq_true (by omega) | exact decide_eq_false (by omega) | exact dec_notT (by omega) | exact dec_notF (by omega)) (by kernel_rfl) (by kernel_rfl) (by kernel_rfl) hNP hS rfl (fun w' hq => pv_load (t1 rfl) rfl (by first | exact SlR.ld (HO.mono hq) hxk rfl | exact SlR.ld1 (HO.mono hq) hxk rfl | exact PT.ld0 (HW.mono hq) rfl | exact PT.ld (HW.mono hq) rfl)) ?_)
          all_goals first | (refine aw_not 47 rfl rfl rfl (by first | assumption | exact decide_eq_true (by omega) | exact decide_eq_false (by omega) | exact dec_notT (by omega) | exact dec_notF (by omega)) (by kernel_rfl) (by kernel_rfl) (by kernel_rfl) hNP hS rfl ?_) | (refine aw_take_on 47 rfl rfl rfl (by first | assumption | exact decide_eq_true (by omega) | exact decide_eq_false (by omega) | exact dec_notT (by omega) | exact dec_notF (by omega)) (by kernel_rfl) (by kernel_rfl) (by kernel_rfl) hNP hS rfl (fun w' hq => pv_move rfl) ?_)
          all_goals first | (refine aw_not 48 rfl rfl rfl (by first | assumption | exact decide_eq_true (by omega) | exact decide_eq_false (by omega) | exact dec_notT (by omega) | exact dec_notF (by omega)) (by kernel_rfl) (by kernel_rfl) (by kernel_rfl) hNP hS rfl ?_) | (refine aw_take_on 48 rfl rfl rfl (by first | assumption | exact decide_eq_true (by omega) | exact decide_eq_false (by omega) | exact dec_notT (by omega) | exact dec_notF (by omega)) (by kernel_rfl) (by kernel_rfl) (by kernel_rfl) hNP hS rfl (fun w' hq => pv_neq rfl rfl) ?_)
          all_goals first | (refine aw_take_on 49 rfl rfl rfl (by first | assumption | exact decide_eq_true (by omega) | exact decide_eq_false (by omega) | exact dec_notT (by omega) | exact dec_notF (by omega)) (by kernel_rfl) (by kernel_rfl) (by kernel_rfl) hNP hS rfl (fun w' hq => pv_pick_t rfl (by first | assumption | exact decide_eq_true (by omega) | exact dec_notT (by omega)) rfl) ?_) | (refine aw_take_on 49 rfl rfl rfl (by first | assumption | exact decide_eq_true (by omega) | exact decide_eq_false (by omega) | exact dec_notT (by omega) | exact dec_notF (by omega)) (by kernel_rfl) (by kernel_rfl) (by kernel_rfl) hNP hS rfl (fun w' hq => pv_pick_f rfl (by first | assumption | exact decide_eq_false (by omega) | exact dec_notF (by omega)) rfl) ?_)
          all_goals (refine aw_take 50 rfl (by kernel_rfl) (by kernel_rfl) (by kernel_rfl) hNP hS rfl (fun w' hq => pv_pick_f rfl (by first | assumption | exact decide_eq_false (by omega) | exact dec_notF (by omega)) rfl) ?_)
          all_goals (refine aw_done (by kernel_rfl) ?_; replace hw := hS; clear hS hNP)
          all_goals repeat' (first | (refine lw_pure rfl (pv_move rfl) ?_) | (refine lw_pure rfl (pv_assign rfl) ?_) | (refine is_cw ?_; first | (refine cw_seq ?_) | (refine cw_region ?_) | (refine cw_false rfl rfl ?_) | (refine cw_false rfl (by first | assumption | exact decide_eq_false (by omega) | exact dec_notF (by omega)) ?_) | (refine cw_skip ?_)) | (refine is_qw ?_; first | (with_reducible refine qw_then ?_) | (with_reducible refine qw_in ?_)) | (refine lw_nil ?_) | ((refine is_bin ?_; first | (refine lw_pure rfl (pv_inc rfl rfl (by omega)) ?_))) | ((refine is_load ?_; first | (refine lw_pure rfl (pv_load (t1 rfl) rfl (by first | exact SlR.ld (HO.mono hw) hxk rfl | exact SlR.ld1 (HO.mono hw) hxk rfl)) ?_))) | ((refine is_fa ?_; first | (refine lw_pure rfl (pv_fa (tF rfl) rfl) ?_))) | ((refine is_ia ?_; first | (refine lw_pure rfl (pv_ian (tS rfl) rfl rfl (by omega)) ?_))))
          all_goals refine qw_round ((k + 1, cnt + 1), y.inst) (by repeat' (first | exact trivial | refine ⟨rfl, ?_⟩)) ⟨by show k + 1 ≤ _; omega, grow_trans hB3 hw, ?_, Or.inr hI2⟩ (by show out.length - (k + 1) < out.length - k; omega)
          all_goals (show cnt + 1 = ((out.take (k + 1)).filter (chgS l)).length; rw [hft, hcy, List.length_append, ← hcn]; simp [hyw])
      · have hkl : k = out.length := by omega
        subst hkl
        rw [List.take_length] at hcn
        have hc2 : cnt ≤ 2 := by rw [hcn]; exact htwo
        repeat' (first | (refine lw_pure rfl (pv_move rfl) ?_) | (refine lw_pure rfl (pv_assign rfl) ?_) | (refine is_cw ?_; first | (refine cw_seq ?_) | (refine cw_region ?_) | (refine cw_false rfl (by first | assumption | exact decide_eq_false (by omega) | exact dec_notF (by omega)) ?_) | (refine cw_block ?_) | (refine cw_exit ?_)) | (refine is_qw ?_; first | (with_reducible refine qw_then ?_) | (with_reducible refine qw_in_hit ?_) | (with_reducible refine qw_then_exit ?_)) | (refine lw_nil ?_) | ((refine is_bin ?_; first | (refine lw_pure rfl (pv_lss rfl rfl) ?_))) | ((refine is_bi ?_; first | (refine lw_pure rfl (pv_lenl (tS rfl) rfl) ?_))))
        refine cw_loop (σ := Nat) (fun k => [(0, .slice a l.length ca), (9, .slice oa out.length oc), (11, .int .i64 (cnt : Nat)), (15, .int .i64 (k : Nat))]) (fun k wr => k ≤ l.length ∧ Below w3.heap.size w3 wr) (fun k => l.length - k) 0 (by repeat' (first | exact trivial | refine ⟨rfl, ?_⟩)) ⟨Nat.zero_le _, hw⟩ ?_
        clear hw hk hlt
        rintro k wr ⟨hk, hw⟩
        by_cases hlt : k < l.length
        · have hxk : l[k]? = some l[k] := List.getElem?_eq_getElem hlt
          have hmem := List.getElem_mem hlt
          obtain ⟨ob, oo, rfl, -, -⟩ := HS.at (by intro h; rw [h] at hlt; simp at hlt)
          generalize l[k] = y at hxk hmem
          have hny := hnow y hmem
          obtain ⟨now, hq⟩ : ∃ q, getS out y.acct y.inst = q := ⟨_, rfl⟩
          rw [hq] at hny
          repeat' ((fail_if_success (refine is_seqr 21 ?_)); first | (refine lw_pure rfl (pv_move rfl) ?_) | (refine is_cw ?_; first | (refine cw_seq ?_) | (refine cw_region ?_) | (refine cw_true rfl (by first | assumption | exact decide_eq_true (by omega) | exact dec_notT (by omega)) ?_) | (refine cw_skip ?_) | (refine cw_block ?_)) | (refine is_qw ?_; first | (with_reducible refine qw_then ?_)) | (refine lw_nil ?_) | ((refine is_bin ?_; first | (refine lw_pure rfl (pv_lss rfl rfl) ?_))) | ((refine is_bi ?_; first | (refine lw_pure rfl (pv_lenl (tS rfl) rfl) ?_))))
          refine cw_cut (σ := Nat) (fun N => [(0, .slice (some ⟨ob, oo, none⟩) l.length ca), (9, .slice oa out.length oc), (11, .int .i64 (cnt : Nat)), (15, .int .i64 (k : Nat)), (16, .pointer (some ⟨N, 0, none⟩))]) (fun N w' => w3.heap.size ≤ N ∧ Below w3.heap.size w3 w' ∧ PT w' N 39 (encS now)) ?_ ?_
          · skip
            refine cw_drawn (fun w' => Below w3.heap.size w3 w') (by kernel_rfl) (by repeat (first | exact NoPanic.body | with_reducible refine NoPanic.then ?_ | with_reducible refine NoPanic.inBlock ?_)) (fun hNP => ?_)
            have hS := hw.drew
            (refine aw_take 0 rfl (by kernel_rfl) (by kernel_rfl) (by kernel_rfl) hNP hS rfl (fun w' hq => pv_move rfl) ?_)
            (refine aw_take 1 rfl (by kernel_rfl) (by kernel_rfl) (by kernel_rfl) hNP hS rfl (fun w' hq => pv_move rfl) ?_)
            (refine aw_take 2 rfl (by kernel_rfl) (by kernel_rfl) (by kernel_rfl) hNP hS rfl (fun w' hq => pv_move rfl) ?_)
            (refine aw_take 3 rfl (by kernel_rfl) (by kernel_rfl) (by kernel_rfl) hNP hS rfl (fun w' hq => pv_ian (tS rfl) rfl rfl (by omega)) ?_)
            (refine aw_take 4 rfl (by kernel_rfl) (by kernel_rfl) (by kernel_rfl) hNP hS rfl (fun w' hq => pv_fa (tF rfl) rfl) ?_)
            (refine aw_take 5 rfl (by kernel_rfl) (by kernel_rfl) (by kernel_rfl) hNP hS rfl (fun w' hq => pv_load (t1 rfl) rfl (by first | exact SlR.ld (HS.mono hq) hxk rfl | exact SlR.ld1 (HS.mono hq) hxk rfl)) ?_)
            (refine aw_take 6 rfl (by kernel_rfl) (by kernel_rfl) (by kernel_rfl) hNP hS rfl (fun w' hq => pv_move rfl) ?_)
            (refine aw_take 7 rfl (by kernel_rfl) (by kernel_rfl) (by kernel_rfl) hNP hS rfl (fun w' hq => pv_move rfl) ?_)
            (refine aw_take 8 rfl (by kernel_rfl) (by kernel_rfl) (by kernel_rfl) hNP hS rfl (fun w' hq => pv_ian (tS rfl) rfl rfl (by omega)) ?_)
            (refine aw_take 9 rfl (by kernel_rfl) (by kernel_rfl) (by kernel_rfl) hNP hS rfl (fun w' hq => pv_fa (tF rfl) rfl) ?_)
            (refine aw_take 10 rfl (by kernel_rfl) (by kernel_rfl) (by kernel_rfl) hNP hS rfl (fun w' hq => pv_load (t1 rfl) rfl (by first | exact SlR.ld (HS.mono hq) hxk rfl | exact SlR.ld1 (HS.mono hq) hxk rfl)) ?_)
            refine aw_act2 11 12 (by kernel_rfl) rfl rfl rfl rfl rfl rfl ?_ ?_
            · refine act_call (f := 18) (by kernel_rfl) rfl (get_e hq rfl (HO.mono hS)) ?_; rintro e1 wg ⟨rfl, hb⟩; refine ⟨_, rfl, grow_trans hS hb, fun hS => ?_⟩; (try replace HW := HW.mono hb); clear hb
              refine aw_act 12 (by kernel_rfl) rfl rfl rfl ?_
              refine act_alloc (by first | exact tyv_27 | exact tyv_28 | exact tyv_38 | exact tyv_39 | exact tyv_48 | exact tyv_49 | exact tyv_52 | exact tyv_53 | exact tyv_68 | exact tyv_69 | exact tyv_79 | exact tyv_80 | exact tyv_94 | exact tyv_95 | exact tyv_131 | exact tyv_132) rfl ?_; intro N wn hN HW hb; replace hN := Nat.le_trans hS.size hN; refine ⟨grow_trans hS hb, fun hS => ?_⟩; clear hb
              refine aw_act 13 (by kernel_rfl) rfl rfl rfl ?_
              refine act_storea HW (tZ rfl) rfl rfl rfl rfl (encS_one _) ?_; intro ws HW hg hz; refine ⟨st_hw hS hg hN, fun hS => ?_⟩
              refine aw_done (by kernel_rfl) ?_
              replace hw := hS; clear hS hNP
              exact qw_join N (by repeat' (first | exact trivial | refine ⟨rfl, ?_⟩)) ⟨hN, hw, HW⟩
            · refine act_alloc (by first | exact tyv_27 | exact tyv_28 | exact tyv_38 | exact tyv_39 | exact tyv_48 | exact tyv_49 | exact tyv_52 | exact tyv_53 | exact tyv_68 | exact tyv_69 | exact tyv_79 | exact tyv_80 | exact tyv_94 | exact tyv_95 | exact tyv_131 | exact tyv_132) rfl ?_; intro N wn hN HW hb; replace hN := Nat.le_trans hS.size hN; refine ⟨grow_trans hS hb, fun hS => ?_⟩; clear hb
              refine aw_act 11 (by kernel_rfl) rfl rfl rfl ?_
              refine act_call (f := 18) (by kernel_rfl) rfl (get_e hq rfl (HO.mono hS)) ?_; rintro e1 wg ⟨rfl, hb⟩; refine ⟨_, rfl, grow_trans hS hb, fun hS => ?_⟩; (try replace HW := HW.mono hb); clear hb
              refine aw_act 13 (by kernel_rfl) rfl rfl rfl ?_
              refine act_storea HW (tZ rfl) rfl rfl rfl rfl (encS_one _) ?_; intro ws HW hg hz; refine ⟨st_hw hS hg hN, fun hS => ?_⟩
              refine aw_done (by kernel_rfl) ?_
              replace hw := hS; clear hS hNP
              exact qw_join N (by repeat' (first | exact trivial | refine ⟨rfl, ?_⟩)) ⟨hN, hw, HW⟩
          rintro N w4 ⟨hN, hw, HW⟩
          have hB3 := hw
          replace hE := hE.mono hw; replace HS := HS.mono hw; replace HO := HO.mono hw; clear hw; have hw := Below.refl w4.heap.size w4
          refine cw_seq ?_
          refine cw_drawn (fun w' => Below w4.heap.size w4 w') (by kernel_rfl) (by repeat (first | exact NoPanic.body | with_reducible refine NoPanic.then ?_ | with_reducible refine NoPanic.inBlock ?_)) (fun hNP => ?_)
          have hS := hw.drew
          all_goals (refine aw_take 0 rfl (by kernel_rfl) (by kernel_rfl) (by kernel_rfl) hNP hS rfl (fun w' hq => pv_fa (tF rfl) rfl) ?_)
          all_goals (refine aw_take 1 rfl (by kernel_rfl) (by kernel_rfl) (by kernel_rfl) hNP hS rfl (fun w' hq => pv_load (t1 rfl) rfl (by first | exact SlR.ld (HS.mono hq) hxk rfl | exact SlR.ld1 (HS.mono hq) hxk rfl | exact PT.ld0 (HW.mono hq) rfl | exact PT.ld (HW.mono hq) rfl)) ?_)
          all_goals (refine aw_take 2 rfl (by kernel_rfl) (by kernel_rfl) (by kernel_rfl) hNP hS rfl (fun w' hq => pv_move rfl) ?_)
          all_goals (refine aw_take 3 rfl (by kernel_rfl) (by kernel_rfl) (by kernel_rfl) hNP hS rfl (fun w' hq => pv_move rfl) ?_)
          all_goals (refine aw_take 4 rfl (by kernel_rfl) (by kernel_rfl) (by kernel_rfl) hNP hS rfl (fun w' hq => pv_ian (tS rfl) rfl rfl (by omega)) ?_)
          all_goals (refine aw_take 5 rfl (by kernel_rfl) (by kernel_rfl) (by kernel_rfl) hNP hS rfl (fun w' hq => pv_fa (tF rfl) rfl) ?_)
          all_goals (refine aw_take 6 rfl (by kernel_rfl) (by kernel_rfl) (by kernel_rfl) hNP hS rfl (fun w' hq => pv_load (t1 rfl) rfl (by first | exact SlR.ld (HS.mono hq) hxk rfl | exact SlR.ld1 (HS.mono hq) hxk rfl | exact PT.ld0 (HW.mono hq) rfl | exact PT.ld (HW.mono hq) rfl)) ?_)
          all_goals (refine aw_take 7 rfl (by kernel_rfl) (by kernel_rfl) (by kernel_rfl) hNP hS rfl (fun w' hq => pv_lss rfl rfl) ?_)
          all_goals (refine aw_take 8 rfl (by kernel_rfl) (by kernel_rfl) (by kernel_rfl) hNP hS rfl (fun w' hq => pv_move rfl) ?_)
          all_goals (refine aw_take_on 9 rfl rfl rfl (by first | assumption | exact decide_eq_true (by omega) | exact decide_eq_false (by omega) | exact dec_notT (by omega) | exact dec_notF (by omega)) (by kernel_rfl) (by kernel_rfl) (by kernel_rfl) hNP hS rfl (fun w' hq => pv_fa (tF rfl) rfl) ?_)
          all_goals (refine aw_take_on 10 rfl rfl rfl (by first | assumption | exact decide_eq_true (by omega) | exact decide_eq_false (by omega) | exact dec_notT (by omega) | exact dec_notF (by omega)) (by kernel_rfl) (by kernel_rfl) (by kernel_rfl) hNP hS rfl (fun w' hq => pv_load (t1 rfl) rfl (by first | exact SlR.ld (HS.mono hq) hxk rfl | exact SlR.ld1 (HS.mono hq) hxk rfl | exact PT.ld0 (HW.mono hq) rfl | exact PT.ld (HW.mono hq) rfl)) ?_)
          all_goals (refine aw_take_on 11 rfl rfl rfl (by first | assumption | exact decide_eq_true (by omega) | exact decide_eq_false (by omega) | exact dec_notT (by omega) | exact dec_notF (by omega)) (by kernel_rfl) (by kernel_rfl) (by kernel_rfl) hNP hS rfl (fun w' hq => pv_move rfl) ?_)
          all_goals (refine aw_take_on 12 rfl rfl rfl (by first | assumption | exact decide_eq_true (by omega) | exact decide_eq_false (by omega) | exact dec_notT (by omega) | exact dec_notF (by omega)) (by kernel_rfl) (by kernel_rfl) (by kernel_rfl) hNP hS rfl (fun w' hq => pv_move rfl) ?_)
          all_goals (refine aw_take_on 13 rfl rfl rfl (by first | assumption | exact decide_eq_true (by omega) | exact decide_eq_false (by omega) | exact dec_notT (by omega) | exact dec_notF (by omega)) (by kernel_rfl) (by kernel_rfl) (by kernel_rfl) hNP hS rfl (fun w' hq => pv_ian (tS rfl) rfl rfl (by omega)) ?_)
          all_goals (refine aw_take_on 14 rfl rfl rfl (by first | assumption | exact decide_eq_true (by omega) | exact decide_eq_false (by omega) | exact dec_notT (by omega) | exact dec_notF (by omega)) (by kernel_rfl) (by kernel_rfl) (by kernel_rfl) hNP hS rfl (fun w' hq => pv_fa (tF rfl) rfl) ?_)
          all_goals (refine aw_take_on 15 rfl rfl rfl (by first | assumption | exact decide_eq_true (by omega) | exact decide_eq_false (by omega) | exact dec_notT (by omega) | exact dec_notF (by omega)) (by kernel_rfl) (by kernel_rfl) (by kernel_rfl) hNP hS rfl (fun w' hq => pv_load (t1 rfl) rfl (by first | exact SlR.ld (HS.mono hq) hxk rfl | exact SlR.ld1 (HS.mono hq) hxk rfl | exact PT.ld0 (HW.mono hq) rfl | exact PT.ld (HW.mono hq) rfl)) ?_)
          all_goals (refine aw_take_on 16 rfl rfl rfl (by first | assumption | exact decide_eq_true (by omega) | exact decide_eq_false (by omega) | exact dec_notT (by omega) | exact dec_notF (by omega)) (by kernel_rfl) (by kernel_rfl) (by kernel_rfl) hNP hS rfl (fun w' hq => pv_lss rfl rfl) ?_)
          all_goals (refine aw_take 17 rfl (by kernel_rfl) (by kernel_rfl) (by kernel_rfl) hNP hS rfl (fun w' hq => pv_pick_f rfl (by first | assumption | exact decide_eq_false (by omega) | exact dec_notF (by omega)) rfl) ?_)
          all_goals (refine aw_done (by kernel_rfl) ?_; replace hw := hS; clear hS hNP)
          repeat' (first | (refine lw_pure rfl (pv_move rfl) ?_) | (refine lw_pure rfl (pv_assign rfl) ?_) | (refine is_cw ?_; first | (refine cw_region ?_) | (refine cw_false rfl (by first | assumption | exact decide_eq_false (by omega) | exact dec_notF (by omega)) ?_) | (refine cw_skip ?_)) | (refine is_qw ?_; first | (with_reducible refine qw_then ?_) | (with_reducible refine qw_in ?_)) | (refine lw_nil ?_) | ((refine is_bin ?_; first | (refine lw_pure rfl (pv_inc rfl rfl (by omega)) ?_))))
          exact qw_round (k + 1) (by repeat' (first | exact trivial | refine ⟨rfl, ?_⟩)) ⟨by omega, grow_trans hB3 hw⟩ (by omega)
        · repeat' (first | (refine lw_pure rfl (pv_move rfl) ?_) | (refine lw_pure rfl (pv_assign rfl) ?_) | (refine is_cw ?_; first | (refine cw_seq ?_) | (refine cw_region ?_) | (refine cw_false rfl (by first | assumption | exact decide_eq_false (by omega) | exact dec_notF (by omega)) ?_) | (refine cw_exit ?_) | (refine cw_ret ?_)) | (refine is_qw ?_; first | (with_reducible refine qw_then ?_) | (with_reducible refine qw_in_hit ?_) | (with_reducible refine qw_then_exit ?_)) | (refine lw_nil ?_) | (refine is_guarded ?_; first | (refine lw_on rfl rfl (by first | assumption | exact decide_eq_true (by omega) | exact decide_eq_false (by omega) | exact dec_notT (by omega) | exact dec_notF (by omega)) ?_)) | ((refine is_bin ?_; first | (refine lw_pure rfl (pv_lss rfl rfl) ?_) | (refine lw_pure rfl (pv_leq rfl rfl) ?_) | (refine lw_pure rfl (pv_add rfl rfl (by omega)) ?_))) | ((refine is_bi ?_; first | (refine lw_pure rfl (pv_lenl (tS rfl) rfl) ?_))) | (refine lw_pure rfl (pv_pick_t rfl (by first | assumption | exact decide_eq_true (by omega) | exact dec_notT (by omega)) rfl) ?_))
          all_goals exact qw_ret1 rfl rfl ⟨ret_bool (decide_eq_true (by omega)), (hE.mono hw).b⟩
    · have hou := her h0
      subst hou
      repeat' (first | (refine lw_pure rfl (pv_move rfl) ?_) | (refine lw_pure rfl (pv_assign rfl) ?_) | (refine is_cw ?_; first | (refine cw_seq ?_) | (refine cw_region ?_) | (refine cw_true rfl (by first | assumption | exact decide_eq_true (by omega) | exact dec_notT (by omega)) ?_) | (refine cw_ret ?_)) | (refine is_qw ?_; first | (with_reducible refine qw_then ?_) | (with_reducible refine qw_then_ret ?_)) | (refine lw_nil ?_) | ((refine is_bin ?_; first | (refine lw_pure rfl (pv_eql rfl rfl) ?_) | (refine lw_pure rfl (pv_neq rfl rfl) ?_))) | ((refine is_bi ?_; first | (refine lw_pure rfl (pv_lenl (tS rfl) rfl) ?_))) | (refine lw_pure rfl (pv_extract rfl rfl) ?_))
      all_goals exact qw_ret1 rfl rfl ⟨ret_bool (by simp), (hE.mono hw).b⟩
end Go.Proofs.YtemngicaoacfaaaGreatDoor
