/-
  Part 4 of the texts of: PositEvents: its row and its card: whatever the input: true; the input reads as it did. Conditions: what the row prints (the table of functions reads as the program's text lays it).
-/
import Derived.Test.YtemngicaoacfaaaGreatDoorZE3
namespace Go.Proofs.YtemngicaoacfaaaGreatDoor
open Go.RowKit Go.PlainAid

set_option maxRecDepth 20000 in
set_option maxHeartbeats 16000000 in
theorem rmay_S {l : List Pos} {m : Nat} {a : Option Addr} {ca : Nat} {w : World} (hm : l.length = m) (HS : SlR encS 6 w a ca l) : Calls Tryz.prog 40 #[.slice a m ca] w fun e w' => e = .returned (.bool (mayPs l)) ∧ Below w.heap.size w w' := by
  subst hm
  have hE := Ext.refl w
  have hw := Below.refl w.heap.size w
  have hca := HS.le
  have hcm := HS.max
  refine fn_enter 101 Tryz.func40 rfl rfl rfl ?_
  repeat' (first | (refine lw_pure rfl (pv_assign rfl) ?_) | (refine is_cw ?_; first | (refine cw_seq ?_) | (refine cw_region ?_) | (refine cw_block ?_)) | (refine is_qw ?_; first | (with_reducible refine qw_then ?_)) | (refine lw_nil ?_))
  refine cw_loop (σ := Nat) (fun k => [(0, .slice a l.length ca), (3, .int .i64 (k : Nat))]) (fun k wr => k ≤ l.length ∧ Below w.heap.size w wr ∧ MayPs (l.take k)) (fun k => l.length - k) 0 (by repeat' (first | exact trivial | refine ⟨rfl, ?_⟩)) ⟨Nat.zero_le _, hw, by simp [MayPs]⟩ ?_
  clear hw hE
  rintro k wr ⟨hk, hw, hn⟩
  by_cases hlt : k < l.length
  · have hxk : l[k]? = some l[k] := List.getElem?_eq_getElem hlt
    have hlt1 : k - 1 < l.length := by omega
    have hxj : l[k - 1]? = some l[k - 1] := List.getElem?_eq_getElem hlt1
    obtain ⟨ab, ao, rfl, -, -⟩ := HS.at (by intro h; rw [h] at hlt; simp at hlt)
    have hidx : 0 < k → ((k : Int) - 1) = ((k - 1 : Nat) : Int) := by omega
    have hmem := List.getElem_mem hlt
    generalize l[k] = x at hxk hmem
    generalize l[k - 1] = y at hxj
    have hno : ¬ MayS x → mayPs l = false := fun h => mayPs_no.2 fun hM => h (hM.2 _ hmem)
    have n6 : 0 < k → ¬ keyS y x → mayPs l = false := fun h0 h => mayPs_no.2 fun hM => h (pwg_get hM.1 (by omega) hxj hxk)
    have hok : MayS x → (k = 0 ∨ keyS y x) → MayPs (l.take (k + 1)) := fun a0 a6 => by
      refine ⟨pwg_snoc (R := keyS) (fun _ _ _ h g => keyS_trans h g) hn.1 hxk (a6.imp id fun h => ⟨y, hxj, h⟩), fun z hz => ?_⟩
      rw [List.take_add_one, hxk] at hz
      rcases List.mem_append.1 hz with hz | hz
      · exact hn.2 z hz
      · simp at hz; subst hz; exact a0
    repeat' (first | (refine lw_pure rfl (pv_move rfl) ?_) | (refine is_cw ?_; first | (refine cw_seq ?_) | (refine cw_region ?_) | (refine cw_true rfl (by first | assumption | exact decide_eq_true (by omega) | exact dec_notT (by omega)) ?_) | (refine cw_skip ?_) | (refine cw_block ?_)) | (refine is_qw ?_; first | (with_reducible refine qw_then ?_)) | (refine lw_nil ?_) | ((refine is_bin ?_; first | (refine lw_pure rfl (pv_lss rfl rfl) ?_))) | ((refine is_load ?_; first | (refine lw_pure rfl (pv_loada (tA rfl) rfl (by first | exact SlR.lda (HS.mono hw) hxk) (by rfl)) ?_))) | ((refine is_ia ?_; first | (refine lw_pure rfl (pv_ian (tS rfl) rfl rfl (by omega)) ?_))) | ((refine is_bi ?_; first | (refine lw_pure rfl (pv_lenl (tS rfl) rfl) ?_))))
    refine lw_varN rfl (by first | exact tyv_27 | exact tyv_28 | exact tyv_38 | exact tyv_39 | exact tyv_48 | exact tyv_49 | exact tyv_52 | exact tyv_53 | exact tyv_68 | exact tyv_69 | exact tyv_79 | exact tyv_80 | exact tyv_94 | exact tyv_95 | exact tyv_131 | exact tyv_132) rfl (tZ rfl) (fun _ => rfl) rfl rfl ?_; intro N4 wn hN4 HX hb; replace hN4 := Nat.le_trans hw.size hN4; replace hw := grow_trans hw hb; clear hb
    replace HX : PT wn N4 39 (encS x) := HX
    have hE := Ext.mk hw
    replace HS := HS.mono hw
    clear hw
    have hw := Below.refl wn.heap.size wn
    refine lw_nil ?_; (with_reducible refine qw_then ?_)
    refine cw_cut (σ := Unit) (fun _ => ([(0, .slice (some ⟨ab, ao, none⟩) l.length ca), (3, .int .i64 (k : Nat)), (4, .pointer (some ⟨N4, 0, none⟩))])) (fun _ w' => Below wn.heap.size wn w' ∧ (¬ (x.acct < 1 ∨ 64 < x.acct ∨ x.inst < 1 ∨ 16 < x.inst ∨ (x.bought = 0 ∧ x.sold = 0)))) ?_ ?_
    · repeat' (first | (refine lw_pure rfl (pv_move rfl) ?_) | (refine lw_pure rfl (pv_assign rfl) ?_) | (refine is_cw ?_; first | (refine cw_seq ?_) | (refine cw_region ?_) | (refine cw_true rfl rfl ?_) | (refine cw_false rfl rfl ?_) | (refine cw_skip ?_) | (refine cw_ret ?_)) | (refine is_qw ?_; first | (with_reducible refine qw_then ?_) | (with_reducible refine qw_then_ret ?_) | (with_reducible refine qw_in_ret ?_)) | (refine lw_nil ?_) | (refine is_guarded ?_; first | (refine lw_not rfl rfl rfl rfl ?_) | (refine lw_not_u rfl rfl rfl ?_) | (refine lw_on rfl rfl (by first | assumption | exact decide_eq_true (by omega) | exact decide_eq_false (by omega) | exact dec_notT (by omega) | exact dec_notF (by omega)) ?_) | (refine lw_not rfl rfl rfl (by first | assumption | exact decide_eq_true (by omega) | exact decide_eq_false (by omega) | exact dec_notT (by omega) | exact dec_notF (by omega)) ?_) | (refine lw_gs_t rfl rfl rfl (fun hc => ?_) (fun hc => ?_) <;> (first | replace hc := of_decide_eq_true hc | replace hc := of_decide_eq_false hc | replace hc := dec_nT hc | replace hc := dec_nF hc | skip) <;> (try (exfalso; omega))) | (refine lw_gs_f rfl rfl rfl (fun hc => ?_) (fun hc => ?_) <;> (first | replace hc := of_decide_eq_true hc | replace hc := of_decide_eq_false hc | replace hc := dec_nT hc | replace hc := dec_nF hc | skip) <;> (try (exfalso; omega)))) | ((refine is_bin ?_; first | (refine lw_pure rfl (pv_lss rfl rfl) ?_) | (refine lw_pure rfl (pv_eql rfl rfl) ?_) | (refine lw_pure rfl (pv_gtr rfl rfl) ?_))) | ((refine is_load ?_; first | (refine lw_pure rfl (pv_load (t1 rfl) rfl (by first | exact PT.ld0 (HX.mono hw) rfl | exact PT.ld (HX.mono hw) rfl)) ?_))) | ((refine is_fa ?_; first | (refine lw_pure rfl (pv_fa (tF rfl) rfl) ?_))) | (refine lw_pure rfl (pv_pick_t rfl rfl rfl) ?_) | (refine lw_pure rfl (pv_pick_t rfl (by first | assumption | exact decide_eq_true (by omega) | exact dec_notT (by omega)) rfl) ?_) | (refine lw_pure rfl (pv_pick_f rfl (by first | assumption | exact decide_eq_false (by omega) | exact dec_notF (by omega)) rfl) ?_) | (refine is_cw ?_; refine cw_split rfl (fun hc => ?_) (fun hc => ?_) <;> (first | replace hc := of_decide_eq_true hc | replace hc := of_decide_eq_false hc | replace hc := dec_nT hc | replace hc := dec_nF hc | skip) <;> (try (exfalso; omega))))
      all_goals first | (refine qw_join () (by repeat' (first | exact trivial | refine ⟨rfl, ?_⟩)) ⟨hw, ?_⟩; omega) | (exact qw_ret1 rfl rfl ⟨ret_bool (hno (fun hM => by unfold MayS at hM; omega)).symm, (hE.mono hw).b⟩)
    rintro - w3 ⟨hw, hbad⟩
    replace hE := hE.mono hw; replace HS := HS.mono hw; replace HX := HX.mono hw; clear hw; have hw := Below.refl w3.heap.size w3
    · skip
      repeat' (first | (refine is_cw ?_; first | (refine cw_seq ?_) | (refine cw_region ?_)) | ((refine is_load ?_; first | (refine lw_pure rfl (pv_load (t1 rfl) rfl (by first | exact PT.ld0 (HX.mono hw) rfl | exact PT.ld (HX.mono hw) rfl)) ?_))) | ((refine is_fa ?_; first | (refine lw_pure rfl (pv_fa (tF rfl) rfl) ?_))))
      refine lw_bsN (vs := [.int .i64 x.bought, .int .i64 x.sold, .int .i64 x.spent, .int .i64 x.got]) (cs := [.int .i64 x.bought, .int .i64 x.sold, .int .i64 x.spent, .int .i64 x.got]) elemI rfl rfl rfl (by omega) (by omega) rfl (by simp [Value.cells]) ?_; intro NB wb _ HB hb
      have HQ : SlR encI 1 wb (some ⟨NB, 0, none⟩) 4 [x.bought, x.sold, x.spent, x.got] := HB.slR (xs := [x.bought, x.sold, x.spent, x.got]) encI_len rfl (by omega)
      replace hw := grow_trans hw hb
      clear hb HB
      replace hE := hE.mono hw; replace HS := HS.mono hw; replace HX := HX.mono hw; clear hw; have hw := Below.refl wb.heap.size wb
      repeat' (first | (refine lw_pure rfl (pv_move rfl) ?_) | (refine is_cw ?_; first | (refine cw_block ?_)) | (refine is_qw ?_; first | (with_reducible refine qw_then ?_)) | (refine lw_nil ?_) | ((refine is_bi ?_; first | (refine lw_pure rfl (pv_lenl (tS rfl) rfl) ?_))))
      refine cw_loop (σ := Nat) (fun j => [(0, .slice (some ⟨ab, ao, none⟩) l.length ca), (3, .int .i64 (k : Nat)), (4, .pointer (some ⟨N4, 0, none⟩)), (53, .slice (some ⟨NB, 0, none⟩) 4 4), (54, .int .i64 (4 : Nat)), (55, .int .i64 (j : Nat))]) (fun j wr => j ≤ 4 ∧ Below wb.heap.size wb wr ∧ ∀ i q, i < j → [x.bought, x.sold, x.spent, x.got][i]? = some q → NumS q) (fun j => 4 - j) 0 (by repeat' (first | exact trivial | refine ⟨rfl, ?_⟩)) ⟨Nat.zero_le _, hw, by omega⟩ ?_
      clear hw
      rintro j wr ⟨hj, hw, hnum⟩
      by_cases hj4 : j < 4
      · obtain ⟨q, hxq⟩ : ∃ q, [x.bought, x.sold, x.spent, x.got][j]? = some q := ⟨_, List.getElem?_eq_getElem hj4⟩
        have hqm : q = x.bought ∨ q = x.sold ∨ q = x.spent ∨ q = x.got := by
          have := List.mem_of_getElem? hxq; simpa using this
        by_cases hq : NumS q
        · have hq2 := hq
          unfold NumS farS at hq2
          repeat' (first | (refine lw_pure rfl (pv_move rfl) ?_) | (refine lw_pure rfl (pv_assign rfl) ?_) | (refine is_cw ?_; first | (refine cw_seq ?_) | (refine cw_region ?_) | (refine cw_true rfl (by first | assumption | exact decide_eq_true (by omega) | exact dec_notT (by omega)) ?_) | (refine cw_false rfl (by first | assumption | exact decide_eq_false (by omega) | exact dec_notF (by omega)) ?_) | (refine cw_skip ?_) | (refine cw_block ?_)) | (refine is_qw ?_; first | (with_reducible refine qw_then ?_) | (with_reducible refine qw_in ?_)) | (refine lw_nil ?_) | (refine is_guarded ?_; first | (refine lw_on rfl rfl (by first | assumption | exact decide_eq_true (by omega) | exact decide_eq_false (by omega) | exact dec_notT (by omega) | exact dec_notF (by omega)) ?_)) | ((refine is_bin ?_; first | (refine lw_pure rfl (pv_lss rfl rfl) ?_) | (refine lw_pure rfl (pv_gtr rfl rfl) ?_) | (refine lw_pure rfl (pv_inc rfl rfl (by omega)) ?_))) | ((refine is_load ?_; first | (refine lw_pure rfl (pv_load (t1 rfl) rfl (by first | exact SlR.ld (HQ.mono hw) hxq rfl | exact SlR.ld1 (HQ.mono hw) hxq rfl)) ?_))) | ((refine is_ia ?_; first | (refine lw_pure rfl (pv_ian (tS rfl) rfl rfl (by omega)) ?_))) | (refine lw_pure rfl (pv_pick_f rfl (by first | assumption | exact decide_eq_false (by omega) | exact dec_notF (by omega)) rfl) ?_))
          all_goals refine qw_round (j + 1) (by repeat' (first | exact trivial | refine ⟨rfl, ?_⟩)) ⟨by omega, hw, fun i r hi hr => ?_⟩ (by omega)
          all_goals (by_cases hij : i = j; (subst hij; rw [hxq] at hr; injection hr with hr; subst hr; exact hq); (exact hnum i r (by omega) hr))
        · have hz := hno (fun hM => hq (by rcases hqm with rfl | rfl | rfl | rfl; (exact hM.2.2.1.1); (exact hM.2.2.1.2.1); (exact hM.2.2.1.2.2.1); (exact hM.2.2.1.2.2.2)))
          unfold NumS farS at hq
          repeat' (first | (refine lw_pure rfl (pv_move rfl) ?_) | (refine lw_pure rfl (pv_assign rfl) ?_) | (refine is_cw ?_; first | (refine cw_seq ?_) | (refine cw_region ?_) | (refine cw_true rfl rfl ?_) | (refine cw_true rfl (by first | assumption | exact decide_eq_true (by omega) | exact dec_notT (by omega)) ?_) | (refine cw_skip ?_) | (refine cw_block ?_) | (refine cw_ret ?_)) | (refine is_qw ?_; first | (with_reducible refine qw_then ?_) | (with_reducible refine qw_then_ret ?_) | (with_reducible refine qw_in_ret ?_)) | (refine lw_nil ?_) | (refine is_guarded ?_; first | (refine lw_on rfl rfl (by first | assumption | exact decide_eq_true (by omega) | exact decide_eq_false (by omega) | exact dec_notT (by omega) | exact dec_notF (by omega)) ?_) | (refine lw_not rfl rfl rfl (by first | assumption | exact decide_eq_true (by omega) | exact decide_eq_false (by omega) | exact dec_notT (by omega) | exact dec_notF (by omega)) ?_) | (refine lw_gs_f rfl rfl rfl (fun hc => ?_) (fun hc => ?_) <;> (first | replace hc := of_decide_eq_true hc | replace hc := of_decide_eq_false hc | replace hc := dec_nT hc | replace hc := dec_nF hc | skip) <;> (try (exfalso; omega)))) | ((refine is_bin ?_; first | (refine lw_pure rfl (pv_lss rfl rfl) ?_) | (refine lw_pure rfl (pv_gtr rfl rfl) ?_))) | ((refine is_load ?_; first | (refine lw_pure rfl (pv_load (t1 rfl) rfl (by first | exact SlR.ld (HQ.mono hw) hxq rfl | exact SlR.ld1 (HQ.mono hw) hxq rfl)) ?_))) | ((refine is_ia ?_; first | (refine lw_pure rfl (pv_ian (tS rfl) rfl rfl (by omega)) ?_))) | (refine lw_pure rfl (pv_pick_t rfl (by first | assumption | exact decide_eq_true (by omega) | exact dec_notT (by omega)) rfl) ?_) | (refine lw_pure rfl (pv_pick_f rfl (by first | assumption | exact decide_eq_false (by omega) | exact dec_notF (by omega)) rfl) ?_))
          all_goals exact qw_ret1 rfl rfl ⟨ret_bool hz.symm, (hE.mono hw).b⟩
      · have hj5 : j = 4 := by omega
        subst hj5
        have hMS : MayS x := ⟨by omega, by omega, ⟨hnum 0 _ (by omega) rfl, hnum 1 _ (by omega) rfl, hnum 2 _ (by omega) rfl, hnum 3 _ (by omega) rfl⟩, by omega⟩
        have hok2 := hok hMS
        unfold keyS at hok2 n6
        have hways : k = 0 ∨ (0 < k ∧ y.acct < x.acct) ∨ (0 < k ∧ y.acct = x.acct ∧ y.inst < x.inst) ∨ (0 < k ∧ y.acct = x.acct ∧ x.inst ≤ y.inst) ∨ (0 < k ∧ x.acct < y.acct) := by omega
        repeat' (first | (refine is_cw ?_; first | (refine cw_seq ?_) | (refine cw_region ?_) | (refine cw_false rfl rfl ?_) | (refine cw_exit ?_)) | (refine is_qw ?_; first | (with_reducible refine qw_then ?_) | (with_reducible refine qw_in_hit ?_) | (with_reducible refine qw_then_exit ?_)) | (refine lw_nil ?_) | ((refine is_bin ?_; first | (refine lw_pure rfl (pv_lss rfl rfl) ?_))))
        refine cw_drawn (fun w' => Below wb.heap.size wb w') (by kernel_rfl) (by repeat (first | exact NoPanic.body | with_reducible refine NoPanic.then ?_ | with_reducible refine NoPanic.inBlock ?_)) (fun hNP => ?_)
        have hS := hw.drew
        rcases hways with h | ⟨h, g⟩ | ⟨h, g, f⟩ | ⟨h, g, f⟩ | ⟨h, g⟩
        all_goals (refine at0 0 rfl (fun w' hq => pv_move rfl) ?_)
        all_goals (refine at0 1 rfl (fun w' hq => pv_gtr rfl rfl) ?_)
        all_goals (refine at0 2 rfl (fun w' hq => pv_move rfl) ?_)
        all_goals first | (refine an2 3 rfl rfl rfl ?_) | (refine at2 3 rfl rfl rfl (fun w' hq => pv_move rfl) ?_)
        all_goals first | (refine an2 4 rfl rfl rfl ?_) | (refine at2 4 rfl rfl rfl (fun w' hq => pv_move rfl) ?_)
        all_goals first | (refine an2 5 rfl rfl rfl ?_) | (refine at2 5 rfl rfl rfl (fun w' hq => pv_sub rfl rfl (by omega)) ?_)
        all_goals first | (refine an2 6 rfl rfl rfl ?_) | (refine at2 6 rfl rfl rfl (fun w' hq => pv_iap (hidx (by omega)) (tS rfl) rfl rfl hlt1) ?_)
        all_goals first | (refine an2 7 rfl rfl rfl ?_) | (refine at2 7 rfl rfl rfl (fun w' hq => pv_fa (tF rfl) rfl) ?_)
        all_goals first | (refine an2 8 rfl rfl rfl ?_) | (refine at2 8 rfl rfl rfl (fun w' hq => pv_load (t1 rfl) rfl (by first | exact PT.ld0 (HX.mono hq) rfl | exact PT.ld (HX.mono hq) rfl | exact SlR.ld (HS.mono hq) hxj rfl | exact SlR.ld1 (HS.mono hq) hxj rfl)) ?_)
        all_goals first | (refine an2 9 rfl rfl rfl ?_) | (refine at2 9 rfl rfl rfl (fun w' hq => pv_fa (tF rfl) rfl) ?_)
        all_goals first | (refine an2 10 rfl rfl rfl ?_) | (refine at2 10 rfl rfl rfl (fun w' hq => pv_load (t1 rfl) rfl (by first | exact PT.ld0 (HX.mono hq) rfl | exact PT.ld (HX.mono hq) rfl | exact SlR.ld (HS.mono hq) hxj rfl | exact SlR.ld1 (HS.mono hq) hxj rfl)) ?_)
        all_goals first | (refine an2 11 rfl rfl rfl ?_) | (refine at2 11 rfl rfl rfl (fun w' hq => pv_gtr rfl rfl) ?_)
        all_goals first | (refine an2 12 rfl rfl rfl ?_) | (refine at2 12 rfl rfl rfl (fun w' hq => pv_move rfl) ?_)
        all_goals first | (refine an0 13 rfl rfl rfl ?_) | (refine an2 13 rfl rfl rfl ?_) | (refine at2 13 rfl rfl rfl (fun w' hq => pv_move rfl) ?_)
        all_goals first | (refine an0 14 rfl rfl rfl ?_) | (refine an2 14 rfl rfl rfl ?_) | (refine at2 14 rfl rfl rfl (fun w' hq => pv_move rfl) ?_)
        all_goals first | (refine an0 15 rfl rfl rfl ?_) | (refine an2 15 rfl rfl rfl ?_) | (refine at2 15 rfl rfl rfl (fun w' hq => pv_sub rfl rfl (by omega)) ?_)
        all_goals first | (refine an0 16 rfl rfl rfl ?_) | (refine an2 16 rfl rfl rfl ?_) | (refine at2 16 rfl rfl rfl (fun w' hq => pv_iap (hidx (by omega)) (tS rfl) rfl rfl hlt1) ?_)
        all_goals first | (refine an0 17 rfl rfl rfl ?_) | (refine an2 17 rfl rfl rfl ?_) | (refine at2 17 rfl rfl rfl (fun w' hq => pv_fa (tF rfl) rfl) ?_)
        all_goals first | (refine an0 18 rfl rfl rfl ?_) | (refine an2 18 rfl rfl rfl ?_) | (refine at2 18 rfl rfl rfl (fun w' hq => pv_load (t1 rfl) rfl (by first | exact PT.ld0 (HX.mono hq) rfl | exact PT.ld (HX.mono hq) rfl | exact SlR.ld (HS.mono hq) hxj rfl | exact SlR.ld1 (HS.mono hq) hxj rfl)) ?_)
        all_goals first | (refine an0 19 rfl rfl rfl ?_) | (refine an2 19 rfl rfl rfl ?_) | (refine at2 19 rfl rfl rfl (fun w' hq => pv_fa (tF rfl) rfl) ?_)
        all_goals first | (refine an0 20 rfl rfl rfl ?_) | (refine an2 20 rfl rfl rfl ?_) | (refine at2 20 rfl rfl rfl (fun w' hq => pv_load (t1 rfl) rfl (by first | exact PT.ld0 (HX.mono hq) rfl | exact PT.ld (HX.mono hq) rfl | exact SlR.ld (HS.mono hq) hxj rfl | exact SlR.ld1 (HS.mono hq) hxj rfl)) ?_)
        all_goals first | (refine an0 21 rfl rfl rfl ?_) | (refine an2 21 rfl rfl rfl ?_) | (refine at2 21 rfl rfl rfl (fun w' hq => pv_eql rfl rfl) ?_)
        all_goals first | (refine an0 22 rfl rfl rfl ?_) | (refine an2 22 rfl rfl rfl ?_) | (refine at2 22 rfl rfl rfl (fun w' hq => pv_move rfl) ?_)
        all_goals first | (refine an0 23 rfl rfl rfl ?_) | (refine an2 23 rfl rfl rfl ?_) | (refine at2 23 rfl rfl rfl (fun w' hq => pv_move rfl) ?_)
        all_goals first | (refine an0 24 rfl rfl rfl ?_) | (refine an2 24 rfl rfl rfl ?_) | (refine at2 24 rfl rfl rfl (fun w' hq => pv_move rfl) ?_)
        all_goals first | (refine an0 25 rfl rfl rfl ?_) | (refine an2 25 rfl rfl rfl ?_) | (refine at2 25 rfl rfl rfl (fun w' hq => pv_sub rfl rfl (by omega)) ?_)
        all_goals first | (refine an0 26 rfl rfl rfl ?_) | (refine an2 26 rfl rfl rfl ?_) | (refine at2 26 rfl rfl rfl (fun w' hq => pv_iap (hidx (by omega)) (tS rfl) rfl rfl hlt1) ?_)
        all_goals first | (refine an0 27 rfl rfl rfl ?_) | (refine an2 27 rfl rfl rfl ?_) | (refine at2 27 rfl rfl rfl (fun w' hq => pv_fa (tF rfl) rfl) ?_)
        all_goals first | (refine an0 28 rfl rfl rfl ?_) | (refine an2 28 rfl rfl rfl ?_) | (refine at2 28 rfl rfl rfl (fun w' hq => pv_load (t1 rfl) rfl (by first | exact PT.ld0 (HX.mono hq) rfl | exact PT.ld (HX.mono hq) rfl | exact SlR.ld (HS.mono hq) hxj rfl | exact SlR.ld1 (HS.mono hq) hxj rfl)) ?_)
        all_goals first | (refine an0 29 rfl rfl rfl ?_) | (refine an2 29 rfl rfl rfl ?_) | (refine at2 29 rfl rfl rfl (fun w' hq => pv_fa (tF rfl) rfl) ?_)
        all_goals first | (refine an0 30 rfl rfl rfl ?_) | (refine an2 30 rfl rfl rfl ?_) | (refine at2 30 rfl rfl rfl (fun w' hq => pv_load (t1 rfl) rfl (by first | exact PT.ld0 (HX.mono hq) rfl | exact PT.ld (HX.mono hq) rfl | exact SlR.ld (HS.mono hq) hxj rfl | exact SlR.ld1 (HS.mono hq) hxj rfl)) ?_)
        all_goals first | (refine an0 31 rfl rfl rfl ?_) | (refine an2 31 rfl rfl rfl ?_) | (refine at2 31 rfl rfl rfl (fun w' hq => pv_geq rfl rfl) ?_)
        all_goals first | (refine an0 32 rfl rfl rfl ?_) | (refine an2 32 rfl rfl rfl ?_) | (refine at2 32 rfl rfl rfl (fun w' hq => pv_pick_t rfl (by first | assumption | exact decide_eq_true (by omega) | exact dec_notT (by omega)) rfl) ?_) | (refine at2 32 rfl rfl rfl (fun w' hq => pv_pick_f rfl (by first | assumption | exact decide_eq_false (by omega) | exact dec_notF (by omega)) rfl) ?_)
        all_goals first | (refine an2 33 rfl rfl rfl ?_) | (refine at2 33 rfl rfl rfl (fun w' hq => pv_pick_t rfl (by first | assumption | exact decide_eq_true (by omega) | exact dec_notT (by omega)) rfl) ?_) | (refine at2 33 rfl rfl rfl (fun w' hq => pv_pick_f rfl (by first | assumption | exact decide_eq_false (by omega) | exact dec_notF (by omega)) rfl) ?_)
        all_goals first | (refine at0 34 rfl (fun w' hq => pv_pick_t rfl (by first | assumption | exact decide_eq_true (by omega) | exact dec_notT (by omega)) rfl) ?_) | (refine at0 34 rfl (fun w' hq => pv_pick_f rfl (by first | assumption | exact decide_eq_false (by omega) | exact dec_notF (by omega)) rfl) ?_)
        all_goals (refine aw_done (by kernel_rfl) ?_; replace hw := hS; clear hS hNP)
        all_goals repeat' (first | (refine lw_pure rfl (pv_move rfl) ?_) | (refine lw_pure rfl (pv_assign rfl) ?_) | (refine is_cw ?_; first | (refine cw_seq ?_) | (refine cw_region ?_) | (refine cw_true rfl rfl ?_) | (refine cw_false rfl rfl ?_) | (refine cw_true rfl (by first | assumption | exact decide_eq_true (by omega) | exact dec_notT (by omega)) ?_) | (refine cw_false rfl (by first | assumption | exact decide_eq_false (by omega) | exact dec_notF (by omega)) ?_) | (refine cw_skip ?_) | (refine cw_ret ?_)) | (refine is_qw ?_; first | (with_reducible refine qw_then ?_) | (with_reducible refine qw_in ?_) | (with_reducible refine qw_then_ret ?_) | (with_reducible refine qw_in_ret ?_)) | (refine lw_nil ?_) | ((refine is_bin ?_; first | (refine lw_pure rfl (pv_inc rfl rfl (by omega)) ?_))))
        all_goals first | (exact qw_ret1 rfl rfl ⟨ret_bool (n6 (by omega) (by omega)).symm, (hE.mono hw).b⟩) | (exact qw_round (k + 1) (by repeat' (first | exact trivial | refine ⟨rfl, ?_⟩)) ⟨by omega, (hE.mono hw).b, hok2 (by omega)⟩ (by omega))
  · have hkl : l.take k = l := List.take_of_length_le (by omega)
    rw [hkl] at hn
    repeat' (first | (refine lw_pure rfl (pv_move rfl) ?_) | (refine lw_pure rfl (pv_assign rfl) ?_) | (refine is_cw ?_; first | (refine cw_seq ?_) | (refine cw_region ?_) | (refine cw_false rfl (by first | assumption | exact decide_eq_false (by omega) | exact dec_notF (by omega)) ?_) | (refine cw_exit ?_) | (refine cw_ret ?_)) | (refine is_qw ?_; first | (with_reducible refine qw_then ?_) | (with_reducible refine qw_in_hit ?_) | (with_reducible refine qw_then_exit ?_)) | (refine lw_nil ?_) | ((refine is_bin ?_; first | (refine lw_pure rfl (pv_lss rfl rfl) ?_))) | ((refine is_bi ?_; first | (refine lw_pure rfl (pv_lenl (tS rfl) rfl) ?_))))
    exact qw_ret1 rfl rfl ⟨ret_bool (mayPs_iff.2 hn).symm, hw⟩
end Go.Proofs.YtemngicaoacfaaaGreatDoor
namespace Go.Proofs.YtemngicaoacfaaaGreatDoor
open Go.RowKit Go.PlainAid

theorem insP_end {o : Opn} : ∀ {l : List Opn}, (∀ x ∈ l, ¬ keyO o x) → insP l o = l ++ [o]
  | [], _ => rfl
  | x :: r, h => by unfold insP; rw [if_neg (h x (by simp)), insP_end (fun y hy => h y (List.mem_cons_of_mem _ hy))]; rfl
theorem insP_here {o y : Opn} (hk : keyO o y) : ∀ {l : List Opn}, (∀ x ∈ l, ¬ keyO o x) → insP (l ++ [y]) o = l ++ [o] ++ [y]
  | [], _ => by simp [insP, hk]
  | x :: r, h => by
    rw [List.cons_append]; unfold insP
    rw [if_neg (h x (by simp)), insP_here hk (fun y hy => h y (List.mem_cons_of_mem _ hy))]; rfl
theorem insP_past {o y : Opn} : ∀ {l : List Opn}, (∃ x ∈ l, keyO o x) → insP (l ++ [y]) o = insP l o ++ [y]
  | [], h => by obtain ⟨x, hx, _⟩ := h; cases hx
  | x :: r, h => by
    rw [List.cons_append]; unfold insP
    by_cases hk : keyO o x
    · rw [if_pos hk, if_pos hk]; rfl
    · rw [if_neg hk, if_neg hk]
      obtain ⟨z, hz, hkz⟩ := h
      rcases List.mem_cons.1 hz with rfl | hz
      · exact absurd hkz hk
      · rw [insP_past ⟨z, hz, hkz⟩]; rfl
theorem insT_end {o : Lt} : ∀ {l : List Lt}, (∀ x ∈ l, ¬ keyT o x) → insT l o = l ++ [o]
  | [], _ => rfl
  | x :: r, h => by unfold insT; rw [if_neg (h x (by simp)), insT_end (fun y hy => h y (List.mem_cons_of_mem _ hy))]; rfl
theorem insT_here {o y : Lt} (hk : keyT o y) : ∀ {l : List Lt}, (∀ x ∈ l, ¬ keyT o x) → insT (l ++ [y]) o = l ++ [o] ++ [y]
  | [], _ => by simp [insT, hk]
  | x :: r, h => by
    rw [List.cons_append]; unfold insT
    rw [if_neg (h x (by simp)), insT_here hk (fun y hy => h y (List.mem_cons_of_mem _ hy))]; rfl
theorem insT_past {o y : Lt} : ∀ {l : List Lt}, (∃ x ∈ l, keyT o x) → insT (l ++ [y]) o = insT l o ++ [y]
  | [], h => by obtain ⟨x, hx, _⟩ := h; cases hx
  | x :: r, h => by
    rw [List.cons_append]; unfold insT
    by_cases hk : keyT o x
    · rw [if_pos hk, if_pos hk]; rfl
    · rw [if_neg hk, if_neg hk]
      obtain ⟨z, hz, hkz⟩ := h
      rcases List.mem_cons.1 hz with rfl | hz
      · exact absurd hkz hk
      · rw [insT_past ⟨z, hz, hkz⟩]; rfl
theorem take_snoc {α : Type} {l : List α} {k : Nat} {x : α} (h : l[k]? = some x) : l.take (k + 1) = l.take k ++ [x] := by rw [List.take_add_one, h]; rfl
def putI (p : List Opn) (o : Opn) (k : Nat) (done : Bool) (L : List Opn) : Prop := (done = false ∧ L = p.take k ∧ ∀ x ∈ p.take k, ¬ keyO o x) ∨ (done = true ∧ L = insP (p.take k) o ∧ ∃ x ∈ p.take k, keyO o x)
theorem putI.len {p : List Opn} {o : Opn} {k : Nat} {d : Bool} {L : List Opn} (h : putI p o k d L) : L.length ≤ k + 1 := by
  have ht : (p.take k).length ≤ k := by rw [List.length_take]; omega
  rcases h with ⟨_, rfl, _⟩ | ⟨_, rfl, _⟩
  · omega
  · have := (insP_perm o (p.take k)).length_eq
    rw [this, List.length_append]; simp; omega
theorem putI.end_f {p : List Opn} {o : Opn} {L : List Opn} (h : putI p o p.length false L) : L ++ [o] = insP p o := by
  rcases h with ⟨_, rfl, h⟩ | ⟨h, _⟩
  · rw [List.take_length] at h ⊢; exact (insP_end h).symm
  · cases h
theorem putI.end_t {p : List Opn} {o : Opn} {L : List Opn} (h : putI p o p.length true L) : L = insP p o := by
  rcases h with ⟨h, _⟩ | ⟨_, rfl, _⟩
  · cases h
  · rw [List.take_length]
theorem putI.past {p : List Opn} {o x : Opn} {k : Nat} {L : List Opn} (h : putI p o k true L) (hx : p[k]? = some x) : putI p o (k + 1) true (L ++ [x]) := by
  rcases h with ⟨h, _⟩ | ⟨_, rfl, z, hz, hk⟩
  · cases h
  · exact Or.inr ⟨rfl, by rw [take_snoc hx, insP_past ⟨z, hz, hk⟩], z, by rw [take_snoc hx]; exact List.mem_append_left _ hz, hk⟩
theorem putI.here {p : List Opn} {o x : Opn} {k : Nat} {L : List Opn} (h : putI p o k false L) (hx : p[k]? = some x) (hk : keyO o x) : putI p o (k + 1) true (L ++ [o] ++ [x]) := by
  rcases h with ⟨_, rfl, h⟩ | ⟨h, _⟩
  · exact Or.inr ⟨rfl, by rw [take_snoc hx, insP_here hk h], x, by rw [take_snoc hx]; simp, hk⟩
  · cases h
theorem putI.yet {p : List Opn} {o x : Opn} {k : Nat} {L : List Opn} (h : putI p o k false L) (hx : p[k]? = some x) (hk : ¬ keyO o x) : putI p o (k + 1) false (L ++ [x]) := by
  rcases h with ⟨_, rfl, h⟩ | ⟨h, _⟩
  · refine Or.inl ⟨rfl, (take_snoc hx).symm, fun y hy => ?_⟩
    rw [take_snoc hx] at hy
    rcases List.mem_append.1 hy with hy | hy
    · exact h y hy
    · simp at hy; subst hy; exact hk
  · cases h
def putJ (p : List Lt) (o : Lt) (k : Nat) (done : Bool) (L : List Lt) : Prop := (done = false ∧ L = p.take k ∧ ∀ x ∈ p.take k, ¬ keyT o x) ∨ (done = true ∧ L = insT (p.take k) o ∧ ∃ x ∈ p.take k, keyT o x)
theorem putJ.len {p : List Lt} {o : Lt} {k : Nat} {d : Bool} {L : List Lt} (h : putJ p o k d L) : L.length ≤ k + 1 := by
  have ht : (p.take k).length ≤ k := by rw [List.length_take]; omega
  rcases h with ⟨_, rfl, _⟩ | ⟨_, rfl, _⟩
  · omega
  · have := (insT_perm o (p.take k)).length_eq
    rw [this, List.length_append]; simp; omega
theorem putJ.end_f {p : List Lt} {o : Lt} {L : List Lt} (h : putJ p o p.length false L) : L ++ [o] = insT p o := by
  rcases h with ⟨_, rfl, h⟩ | ⟨h, _⟩
  · rw [List.take_length] at h ⊢; exact (insT_end h).symm
  · cases h
theorem putJ.end_t {p : List Lt} {o : Lt} {L : List Lt} (h : putJ p o p.length true L) : L = insT p o := by
  rcases h with ⟨h, _⟩ | ⟨_, rfl, _⟩
  · cases h
  · rw [List.take_length]
theorem putJ.past {p : List Lt} {o x : Lt} {k : Nat} {L : List Lt} (h : putJ p o k true L) (hx : p[k]? = some x) : putJ p o (k + 1) true (L ++ [x]) := by
  rcases h with ⟨h, _⟩ | ⟨_, rfl, z, hz, hk⟩
  · cases h
  · exact Or.inr ⟨rfl, by rw [take_snoc hx, insT_past ⟨z, hz, hk⟩], z, by rw [take_snoc hx]; exact List.mem_append_left _ hz, hk⟩
theorem putJ.here {p : List Lt} {o x : Lt} {k : Nat} {L : List Lt} (h : putJ p o k false L) (hx : p[k]? = some x) (hk : keyT o x) : putJ p o (k + 1) true (L ++ [o] ++ [x]) := by
  rcases h with ⟨_, rfl, h⟩ | ⟨h, _⟩
  · exact Or.inr ⟨rfl, by rw [take_snoc hx, insT_here hk h], x, by rw [take_snoc hx]; simp, hk⟩
  · cases h
theorem putJ.yet {p : List Lt} {o x : Lt} {k : Nat} {L : List Lt} (h : putJ p o k false L) (hx : p[k]? = some x) (hk : ¬ keyT o x) : putJ p o (k + 1) false (L ++ [x]) := by
  rcases h with ⟨_, rfl, h⟩ | ⟨h, _⟩
  · refine Or.inl ⟨rfl, (take_snoc hx).symm, fun y hy => ?_⟩
    rw [take_snoc hx] at hy
    rcases List.mem_append.1 hy with hy | hy
    · exact h y hy
    · simp at hy; subst hy; exact hk
  · cases h
set_option maxRecDepth 20000 in
set_option maxHeartbeats 4000000 in
theorem put_c {p : List Opn} {m : Nat} {a : Option Addr} {ca : Nat} {w : World} (o : Opn) (hm : p.length = m) (HP : SlR encP 6 w a ca p) (hlp : p.length ≤ 1048576) : Calls Tryz.prog 62 #[.slice a m ca, .agg (encP o).toArray] w fun e w' => (∃ v, e = .returned v ∧ Own encP 6 49 w.heap.size w' v (insP p o)) ∧ Below w.heap.size w w' := by
  subst hm
  have hca := HP.le
  have hcm := HP.max
  refine fn_enter 64 Tryz.func62 rfl rfl rfl ?_
  have hw := Below.refl w.heap.size w
  repeat' (first | (refine is_cw ?_; first | (refine cw_seq ?_) | (refine cw_region ?_)))
  refine lw_boxN rfl rfl (cs := encP o) rfl ?_; intro N w1 hN HA hb
  have hE := Ext.mk (grow_trans hw hb)
  have hE0 := hb.size
  replace HP := HP.mono hb
  clear hb hw
  have hw := Below.refl w1.heap.size w1
  repeat' (first | (refine lw_pure rfl (pv_assign rfl) ?_) | (refine is_cw ?_; first | (refine cw_seq ?_) | (refine cw_region ?_) | (refine cw_block ?_)) | (refine is_qw ?_; first | (with_reducible refine qw_then ?_)) | (refine lw_nil ?_))
  refine cw_loop (σ := Nat × Value × Bool × List Opn) (fun s => [(0, .slice a p.length ca), (3, .pointer (some ⟨N, 0, none⟩)), (5, s.2.1), (6, .bool s.2.2.1), (7, .int .i64 (s.1 : Nat))]) (fun s wr => s.1 ≤ p.length ∧ Below w1.heap.size w1 wr ∧ Own encP 6 49 w1.heap.size wr s.2.1 s.2.2.2 ∧ putI p o s.1 s.2.2.1 s.2.2.2) (fun s => p.length - s.1) (0, .slice none 0 0, false, []) (by repeat' (first | exact trivial | refine ⟨rfl, ?_⟩)) ⟨Nat.zero_le _, hw, Own.nil _, Or.inl ⟨rfl, by simp, by simp⟩⟩ ?_
  clear hw
  rintro ⟨k, v, d, L⟩ wr ⟨hk, hw, hO, hI⟩
  dsimp only at hk hO hI
  change CW _ _ _ _ [(0, .slice a p.length ca), (3, .pointer (some ⟨N, 0, none⟩)), (5, v), (6, .bool d), (7, .int .i64 (k : Nat))] wr
  have hLl := hI.len
  by_cases hlt : k < p.length
  · have hxk : p[k]? = some p[k] := List.getElem?_eq_getElem hlt
    obtain ⟨ab, ao, rfl, -, -⟩ := HP.at (by intro h; rw [h] at hlt; simp at hlt)
    generalize p[k] = x at hxk
    cases d with
    | true =>
      repeat' (first | (refine lw_pure rfl (pv_move rfl) ?_) | (refine is_cw ?_; first | (refine cw_seq ?_) | (refine cw_region ?_) | (refine cw_true rfl (by first | assumption | exact decide_eq_true (by omega) | exact dec_notT (by omega)) ?_) | (refine cw_skip ?_) | (refine cw_block ?_)) | (refine is_qw ?_; first | (with_reducible refine qw_then ?_)) | (refine lw_nil ?_) | ((refine is_bin ?_; first | (refine lw_pure rfl (pv_lss rfl rfl) ?_))) | ((refine is_bi ?_; first | (refine lw_pure rfl (pv_lenl (tS rfl) rfl) ?_))))
      have hO1 := hO.mono (below_drew _)
      refine cw_drawn (fun w' => Below w1.heap.size w1 w') (by kernel_rfl) (by repeat (first | exact NoPanic.body | with_reducible refine NoPanic.then ?_ | with_reducible refine NoPanic.inBlock ?_)) (fun hNP => ?_)
      have hS := hw.drew
      all_goals (refine at0 0 rfl (fun w' hq => pv_move rfl) ?_)
      all_goals (refine at0 1 rfl (fun w' hq => pv_not rfl) ?_)
      all_goals (refine at0 2 rfl (fun w' hq => pv_move rfl) ?_)
      all_goals (refine an1 3 rfl rfl rfl rfl ?_)
      all_goals (refine an1 4 rfl rfl rfl rfl ?_)
      all_goals (refine an1 5 rfl rfl rfl rfl ?_)
      all_goals (refine an1 6 rfl rfl rfl rfl ?_)
      all_goals (refine an1 7 rfl rfl rfl rfl ?_)
      all_goals (refine an1 8 rfl rfl rfl rfl ?_)
      all_goals (refine an1 9 rfl rfl rfl rfl ?_)
      all_goals (refine an1 10 rfl rfl rfl rfl ?_)
      all_goals (refine an1 11 rfl rfl rfl rfl ?_)
      all_goals (refine an0 12 rfl rfl rfl ?_)
      all_goals (refine an0 13 rfl rfl rfl ?_)
      all_goals (refine an0 14 rfl rfl rfl ?_)
      all_goals (refine an0 15 rfl rfl rfl ?_)
      all_goals (refine an0 16 rfl rfl rfl ?_)
      all_goals (refine an0 17 rfl rfl rfl ?_)
      all_goals (refine an0 18 rfl rfl rfl ?_)
      all_goals (refine an0 19 rfl rfl rfl ?_)
      all_goals (refine an0 20 rfl rfl rfl ?_)
      all_goals (refine an0 21 rfl rfl rfl ?_)
      all_goals (refine an0 22 rfl rfl rfl ?_)
      all_goals (refine an0 23 rfl rfl rfl ?_)
      all_goals (refine an0 24 rfl rfl rfl ?_)
      all_goals (refine an0 25 rfl rfl rfl ?_)
      all_goals (refine an0 26 rfl rfl rfl ?_)
      all_goals (refine an0 27 rfl rfl rfl ?_)
      all_goals (refine an0 28 rfl rfl rfl ?_)
      all_goals (refine an0 29 rfl rfl rfl ?_)
      all_goals (refine an1 30 rfl rfl rfl rfl ?_)
      all_goals (refine at0 31 rfl (fun w' hq => pv_pick_f rfl rfl rfl) ?_)
      all_goals (refine aw_done (by kernel_rfl) ?_; replace hw := hS; clear hS hNP)
      repeat' (first | (refine lw_pure rfl (pv_move rfl) ?_) | (refine is_cw ?_; first | (refine cw_region ?_) | (refine cw_false rfl rfl ?_) | (refine cw_skip ?_)) | (refine is_qw ?_; first | (with_reducible refine qw_then ?_)) | ((refine is_load ?_; first | (refine lw_pure rfl (pv_loada (tA rfl) rfl (by first | exact SlR.lda (HP.mono hw) hxk | exact PT.lda (HA.mono hw)) (by rfl)) ?_))) | ((refine is_ia ?_; first | (refine lw_pure rfl (pv_ian (tS rfl) rfl rfl (by omega)) ?_))))
      refine lw_bs (vs := [.agg (encP x).toArray]) (cs := encP x) elemP rfl rfl rfl (by omega) (by omega) rfl (by simp [Value.cells, encP]) ?_; intro wb HB hb hz9
      refine lw_app elemP encP_len encP_one rfl rfl rfl ((hO1).mono hb) (HB.slR (xs := [x]) encP_len rfl (by omega)) rfl (Nat.le_trans hw.size hb.size) (by simp; omega) (by simp [maxLen]; omega) ?_; intro v2 wc hO2 hg9 hb9
      replace hw := (grow_trans hw hb).trans hb9; clear hb hb9 hz9 HB hg9
      repeat' (first | (refine lw_pure rfl (pv_move rfl) ?_) | (refine lw_pure rfl (pv_assign rfl) ?_) | (refine is_cw ?_; first | (refine cw_region ?_)) | (refine is_qw ?_; first | (with_reducible refine qw_then ?_) | (with_reducible refine qw_in ?_)) | (refine lw_nil ?_) | ((refine is_bin ?_; first | (refine lw_pure rfl (pv_inc rfl rfl (by omega)) ?_))))
      exact qw_round (k + 1, v2, true, L ++ [x]) (by repeat' (first | exact trivial | refine ⟨rfl, ?_⟩)) ⟨by show k + 1 ≤ _; omega, hw, hO2, hI.past hxk⟩ (by show p.length - (k + 1) < p.length - k; omega)
    | false =>
      by_cases hkey : keyO o x
      · have hk2 : o.acct < x.acct ∨ (o.acct = x.acct ∧ o.id < x.id) := hkey
        by_cases c1 : o.acct < x.acct
        · repeat' (first | (refine lw_pure rfl (pv_move rfl) ?_) | (refine is_cw ?_; first | (refine cw_seq ?_) | (refine cw_region ?_) | (refine cw_true rfl (by first | assumption | exact decide_eq_true (by omega) | exact dec_notT (by omega)) ?_) | (refine cw_skip ?_) | (refine cw_block ?_)) | (refine is_qw ?_; first | (with_reducible refine qw_then ?_)) | (refine lw_nil ?_) | ((refine is_bin ?_; first | (refine lw_pure rfl (pv_lss rfl rfl) ?_))) | ((refine is_bi ?_; first | (refine lw_pure rfl (pv_lenl (tS rfl) rfl) ?_))))
          have hO1 := hO.mono (below_drew _)
          refine cw_drawn (fun w' => Below w1.heap.size w1 w') (by kernel_rfl) (by repeat (first | exact NoPanic.body | with_reducible refine NoPanic.then ?_ | with_reducible refine NoPanic.inBlock ?_)) (fun hNP => ?_)
          have hS := hw.drew
          all_goals (refine at0 0 rfl (fun w' hq => pv_move rfl) ?_)
          all_goals (refine at0 1 rfl (fun w' hq => pv_not rfl) ?_)
          all_goals (refine at0 2 rfl (fun w' hq => pv_move rfl) ?_)
          all_goals (refine at1 3 rfl rfl rfl rfl (fun w' hq => pv_move rfl) ?_)
          all_goals (refine at1 4 rfl rfl rfl rfl (fun w' hq => pv_move rfl) ?_)
          all_goals (refine at1 5 rfl rfl rfl rfl (fun w' hq => pv_ian (tS rfl) rfl rfl (by omega)) ?_)
          all_goals (refine at1 6 rfl rfl rfl rfl (fun w' hq => pv_fa (tF rfl) rfl) ?_)
          all_goals (refine at1 7 rfl rfl rfl rfl (fun w' hq => pv_load (t1 rfl) rfl (by first | exact SlR.ld (HP.mono hq) hxk rfl | exact SlR.ld1 (HP.mono hq) hxk rfl | exact PT.ld0 (HA.mono hq) rfl | exact PT.ld (HA.mono hq) rfl)) ?_)
          all_goals (refine at1 8 rfl rfl rfl rfl (fun w' hq => pv_fa (tF rfl) rfl) ?_)
          all_goals (refine at1 9 rfl rfl rfl rfl (fun w' hq => pv_load (t1 rfl) rfl (by first | exact SlR.ld (HP.mono hq) hxk rfl | exact SlR.ld1 (HP.mono hq) hxk rfl | exact PT.ld0 (HA.mono hq) rfl | exact PT.ld (HA.mono hq) rfl)) ?_)
          all_goals (refine at1 10 rfl rfl rfl rfl (fun w' hq => pv_gtr rfl rfl) ?_)
          all_goals (refine at1 11 rfl rfl rfl rfl (fun w' hq => pv_move rfl) ?_)
          all_goals (refine an2 12 rfl rfl rfl ?_)
          all_goals (refine an2 13 rfl rfl rfl ?_)
          all_goals (refine an2 14 rfl rfl rfl ?_)
          all_goals (refine an2 15 rfl rfl rfl ?_)
          all_goals (refine an2 16 rfl rfl rfl ?_)
          all_goals (refine an2 17 rfl rfl rfl ?_)
          all_goals (refine an2 18 rfl rfl rfl ?_)
          all_goals (refine an2 19 rfl rfl rfl ?_)
          all_goals (refine an2 20 rfl rfl rfl ?_)
          all_goals (refine an0 21 rfl rfl rfl ?_)
          all_goals (refine an0 22 rfl rfl rfl ?_)
          all_goals (refine an0 23 rfl rfl rfl ?_)
          all_goals (refine an0 24 rfl rfl rfl ?_)
          all_goals (refine an0 25 rfl rfl rfl ?_)
          all_goals (refine an0 26 rfl rfl rfl ?_)
          all_goals (refine an0 27 rfl rfl rfl ?_)
          all_goals (refine an0 28 rfl rfl rfl ?_)
          all_goals (refine an2 29 rfl rfl rfl ?_)
          all_goals (refine at1 30 rfl rfl rfl rfl (fun w' hq => pv_pick_t rfl (by first | assumption | exact decide_eq_true (by omega) | exact dec_notT (by omega)) rfl) ?_)
          all_goals (refine at0 31 rfl (fun w' hq => pv_pick_t rfl rfl rfl) ?_)
          all_goals (refine aw_done (by kernel_rfl) ?_; replace hw := hS; clear hS hNP)
          repeat' (first | (refine lw_pure rfl (pv_move rfl) ?_) | (refine is_cw ?_; first | (refine cw_seq ?_) | (refine cw_region ?_) | (refine cw_true rfl rfl ?_)) | (refine is_qw ?_; first | (with_reducible refine qw_then ?_)) | ((refine is_load ?_; first | (refine lw_pure rfl (pv_loada (tA rfl) rfl (by first | exact SlR.lda (HP.mono hw) hxk | exact PT.lda (HA.mono hw)) (by rfl)) ?_))))
          refine lw_bs (vs := [.agg (encP o).toArray]) (cs := encP o) elemP rfl rfl rfl (by omega) (by omega) rfl (by simp [Value.cells, encP]) ?_; intro wb HB hb hz9
          refine lw_app elemP encP_len encP_one rfl rfl rfl ((hO1).mono hb) (HB.slR (xs := [o]) encP_len rfl (by omega)) rfl (Nat.le_trans hw.size hb.size) (by simp; omega) (by simp [maxLen]; omega) ?_; intro v2 wc hO2 hg9 hb9
          replace hw := (grow_trans hw hb).trans hb9; clear hb hb9 hz9 HB hg9
          repeat' (first | (refine lw_pure rfl (pv_move rfl) ?_) | (refine lw_pure rfl (pv_assign rfl) ?_) | (refine is_cw ?_; first | (refine cw_region ?_)) | (refine is_qw ?_; first | (with_reducible refine qw_then ?_)) | (refine lw_nil ?_) | ((refine is_load ?_; first | (refine lw_pure rfl (pv_loada (tA rfl) rfl (by first | exact SlR.lda (HP.mono hw) hxk | exact PT.lda (HA.mono hw)) (by rfl)) ?_))) | ((refine is_ia ?_; first | (refine lw_pure rfl (pv_ian (tS rfl) rfl rfl (by omega)) ?_))))
          refine lw_bs (vs := [.agg (encP x).toArray]) (cs := encP x) elemP rfl rfl rfl (by omega) (by omega) rfl (by simp [Value.cells, encP]) ?_; intro wb HB hb hz9
          refine lw_app elemP encP_len encP_one rfl rfl rfl ((hO2).mono hb) (HB.slR (xs := [x]) encP_len rfl (by omega)) rfl (Nat.le_trans hw.size hb.size) (by simp; omega) (by simp [maxLen]; omega) ?_; intro v3 wc hO3 hg9 hb9
          replace hw := (grow_trans hw hb).trans hb9; clear hb hb9 hz9 HB hg9
          repeat' (first | (refine lw_pure rfl (pv_move rfl) ?_) | (refine lw_pure rfl (pv_assign rfl) ?_) | (refine is_cw ?_; first | (refine cw_region ?_)) | (refine is_qw ?_; first | (with_reducible refine qw_then ?_) | (with_reducible refine qw_in ?_)) | (refine lw_nil ?_) | ((refine is_bin ?_; first | (refine lw_pure rfl (pv_inc rfl rfl (by omega)) ?_))))
          exact qw_round (k + 1, v3, true, L ++ [o] ++ [x]) (by repeat' (first | exact trivial | refine ⟨rfl, ?_⟩)) ⟨by show k + 1 ≤ _; omega, hw, hO3, hI.here hxk hkey⟩ (by show p.length - (k + 1) < p.length - k; omega)
        · have c2 : x.acct = o.acct := by omega
          have c3 : o.id < x.id := by omega
          clear hk2
          repeat' (first | (refine lw_pure rfl (pv_move rfl) ?_) | (refine is_cw ?_; first | (refine cw_seq ?_) | (refine cw_region ?_) | (refine cw_true rfl (by first | assumption | exact decide_eq_true (by omega) | exact dec_notT (by omega)) ?_) | (refine cw_skip ?_) | (refine cw_block ?_)) | (refine is_qw ?_; first | (with_reducible refine qw_then ?_)) | (refine lw_nil ?_) | ((refine is_bin ?_; first | (refine lw_pure rfl (pv_lss rfl rfl) ?_))) | ((refine is_bi ?_; first | (refine lw_pure rfl (pv_lenl (tS rfl) rfl) ?_))))
          have hO1 := hO.mono (below_drew _)
          refine cw_drawn (fun w' => Below w1.heap.size w1 w') (by kernel_rfl) (by repeat (first | exact NoPanic.body | with_reducible refine NoPanic.then ?_ | with_reducible refine NoPanic.inBlock ?_)) (fun hNP => ?_)
          have hS := hw.drew
          all_goals (refine at0 0 rfl (fun w' hq => pv_move rfl) ?_)
          all_goals (refine at0 1 rfl (fun w' hq => pv_not rfl) ?_)
          all_goals (refine at0 2 rfl (fun w' hq => pv_move rfl) ?_)
          all_goals (refine at1 3 rfl rfl rfl rfl (fun w' hq => pv_move rfl) ?_)
          all_goals (refine at1 4 rfl rfl rfl rfl (fun w' hq => pv_move rfl) ?_)
          all_goals (refine at1 5 rfl rfl rfl rfl (fun w' hq => pv_ian (tS rfl) rfl rfl (by omega)) ?_)
          all_goals (refine at1 6 rfl rfl rfl rfl (fun w' hq => pv_fa (tF rfl) rfl) ?_)
          all_goals (refine at1 7 rfl rfl rfl rfl (fun w' hq => pv_load (t1 rfl) rfl (by first | exact SlR.ld (HP.mono hq) hxk rfl | exact SlR.ld1 (HP.mono hq) hxk rfl | exact PT.ld0 (HA.mono hq) rfl | exact PT.ld (HA.mono hq) rfl)) ?_)
          all_goals (refine at1 8 rfl rfl rfl rfl (fun w' hq => pv_fa (tF rfl) rfl) ?_)
          all_goals (refine at1 9 rfl rfl rfl rfl (fun w' hq => pv_load (t1 rfl) rfl (by first | exact SlR.ld (HP.mono hq) hxk rfl | exact SlR.ld1 (HP.mono hq) hxk rfl | exact PT.ld0 (HA.mono hq) rfl | exact PT.ld (HA.mono hq) rfl)) ?_)
          all_goals (refine at1 10 rfl rfl rfl rfl (fun w' hq => pv_gtr rfl rfl) ?_)
          all_goals (refine at1 11 rfl rfl rfl rfl (fun w' hq => pv_move rfl) ?_)
          all_goals (refine at2 12 rfl rfl rfl (fun w' hq => pv_move rfl) ?_)
          all_goals (refine at2 13 rfl rfl rfl (fun w' hq => pv_move rfl) ?_)
          all_goals (refine at2 14 rfl rfl rfl (fun w' hq => pv_ian (tS rfl) rfl rfl (by omega)) ?_)
          all_goals (refine at2 15 rfl rfl rfl (fun w' hq => pv_fa (tF rfl) rfl) ?_)
          all_goals (refine at2 16 rfl rfl rfl (fun w' hq => pv_load (t1 rfl) rfl (by first | exact SlR.ld (HP.mono hq) hxk rfl | exact SlR.ld1 (HP.mono hq) hxk rfl | exact PT.ld0 (HA.mono hq) rfl | exact PT.ld (HA.mono hq) rfl)) ?_)
          all_goals (refine at2 17 rfl rfl rfl (fun w' hq => pv_fa (tF rfl) rfl) ?_)
          all_goals (refine at2 18 rfl rfl rfl (fun w' hq => pv_load (t1 rfl) rfl (by first | exact SlR.ld (HP.mono hq) hxk rfl | exact SlR.ld1 (HP.mono hq) hxk rfl | exact PT.ld0 (HA.mono hq) rfl | exact PT.ld (HA.mono hq) rfl)) ?_)
          all_goals (refine at2 19 rfl rfl rfl (fun w' hq => pv_eql rfl rfl) ?_)
          all_goals (refine at2 20 rfl rfl rfl (fun w' hq => pv_move rfl) ?_)
          all_goals (refine at2 21 rfl rfl rfl (fun w' hq => pv_move rfl) ?_)
          all_goals (refine at2 22 rfl rfl rfl (fun w' hq => pv_move rfl) ?_)
          all_goals (refine at2 23 rfl rfl rfl (fun w' hq => pv_ian (tS rfl) rfl rfl (by omega)) ?_)
          all_goals (refine at2 24 rfl rfl rfl (fun w' hq => pv_fa (tF rfl) rfl) ?_)
          all_goals (refine at2 25 rfl rfl rfl (fun w' hq => pv_load (t1 rfl) rfl (by first | exact SlR.ld (HP.mono hq) hxk rfl | exact SlR.ld1 (HP.mono hq) hxk rfl | exact PT.ld0 (HA.mono hq) rfl | exact PT.ld (HA.mono hq) rfl)) ?_)
          all_goals (refine at2 26 rfl rfl rfl (fun w' hq => pv_fa (tF rfl) rfl) ?_)
          all_goals (refine at2 27 rfl rfl rfl (fun w' hq => pv_load (t1 rfl) rfl (by first | exact SlR.ld (HP.mono hq) hxk rfl | exact SlR.ld1 (HP.mono hq) hxk rfl | exact PT.ld0 (HA.mono hq) rfl | exact PT.ld (HA.mono hq) rfl)) ?_)
          all_goals (refine at2 28 rfl rfl rfl (fun w' hq => pv_gtr rfl rfl) ?_)
          all_goals (refine at2 29 rfl rfl rfl (fun w' hq => pv_pick_t rfl (by first | assumption | exact decide_eq_true (by omega) | exact dec_notT (by omega)) rfl) ?_)
          all_goals (refine at1 30 rfl rfl rfl rfl (fun w' hq => pv_pick_f rfl (by first | assumption | exact decide_eq_false (by omega) | exact dec_notF (by omega)) rfl) ?_)
          all_goals (refine at0 31 rfl (fun w' hq => pv_pick_t rfl rfl rfl) ?_)
          all_goals (refine aw_done (by kernel_rfl) ?_; replace hw := hS; clear hS hNP)
          repeat' (first | (refine lw_pure rfl (pv_move rfl) ?_) | (refine is_cw ?_; first | (refine cw_seq ?_) | (refine cw_region ?_) | (refine cw_true rfl (by first | assumption | exact decide_eq_true (by omega) | exact dec_notT (by omega)) ?_)) | (refine is_qw ?_; first | (with_reducible refine qw_then ?_)) | ((refine is_load ?_; first | (refine lw_pure rfl (pv_loada (tA rfl) rfl (by first | exact SlR.lda (HP.mono hw) hxk | exact PT.lda (HA.mono hw)) (by rfl)) ?_))))
          refine lw_bs (vs := [.agg (encP o).toArray]) (cs := encP o) elemP rfl rfl rfl (by omega) (by omega) rfl (by simp [Value.cells, encP]) ?_; intro wb HB hb hz9
          refine lw_app elemP encP_len encP_one rfl rfl rfl ((hO1).mono hb) (HB.slR (xs := [o]) encP_len rfl (by omega)) rfl (Nat.le_trans hw.size hb.size) (by simp; omega) (by simp [maxLen]; omega) ?_; intro v2 wc hO2 hg9 hb9
          replace hw := (grow_trans hw hb).trans hb9; clear hb hb9 hz9 HB hg9
          repeat' (first | (refine lw_pure rfl (pv_move rfl) ?_) | (refine lw_pure rfl (pv_assign rfl) ?_) | (refine is_cw ?_; first | (refine cw_region ?_)) | (refine is_qw ?_; first | (with_reducible refine qw_then ?_)) | (refine lw_nil ?_) | ((refine is_load ?_; first | (refine lw_pure rfl (pv_loada (tA rfl) rfl (by first | exact SlR.lda (HP.mono hw) hxk | exact PT.lda (HA.mono hw)) (by rfl)) ?_))) | ((refine is_ia ?_; first | (refine lw_pure rfl (pv_ian (tS rfl) rfl rfl (by omega)) ?_))))
          refine lw_bs (vs := [.agg (encP x).toArray]) (cs := encP x) elemP rfl rfl rfl (by omega) (by omega) rfl (by simp [Value.cells, encP]) ?_; intro wb HB hb hz9
          refine lw_app elemP encP_len encP_one rfl rfl rfl ((hO2).mono hb) (HB.slR (xs := [x]) encP_len rfl (by omega)) rfl (Nat.le_trans hw.size hb.size) (by simp; omega) (by simp [maxLen]; omega) ?_; intro v3 wc hO3 hg9 hb9
          replace hw := (grow_trans hw hb).trans hb9; clear hb hb9 hz9 HB hg9
          repeat' (first | (refine lw_pure rfl (pv_move rfl) ?_) | (refine lw_pure rfl (pv_assign rfl) ?_) | (refine is_cw ?_; first | (refine cw_region ?_)) | (refine is_qw ?_; first | (with_reducible refine qw_then ?_) | (with_reducible refine qw_in ?_)) | (refine lw_nil ?_) | ((refine is_bin ?_; first | (refine lw_pure rfl (pv_inc rfl rfl (by omega)) ?_))))
          exact qw_round (k + 1, v3, true, L ++ [o] ++ [x]) (by repeat' (first | exact trivial | refine ⟨rfl, ?_⟩)) ⟨by show k + 1 ≤ _; omega, hw, hO3, hI.here hxk hkey⟩ (by show p.length - (k + 1) < p.length - k; omega)
      · have hk2 : ¬ (o.acct < x.acct ∨ (o.acct = x.acct ∧ o.id < x.id)) := hkey
        have c1 : ¬ o.acct < x.acct := by omega
        by_cases c2 : x.acct = o.acct
        · have c3 : ¬ o.id < x.id := by omega
          clear hk2
          repeat' (first | (refine lw_pure rfl (pv_move rfl) ?_) | (refine is_cw ?_; first | (refine cw_seq ?_) | (refine cw_region ?_) | (refine cw_true rfl (by first | assumption | exact decide_eq_true (by omega) | exact dec_notT (by omega)) ?_) | (refine cw_skip ?_) | (refine cw_block ?_)) | (refine is_qw ?_; first | (with_reducible refine qw_then ?_)) | (refine lw_nil ?_) | ((refine is_bin ?_; first | (refine lw_pure rfl (pv_lss rfl rfl) ?_))) | ((refine is_bi ?_; first | (refine lw_pure rfl (pv_lenl (tS rfl) rfl) ?_))))
          have hO1 := hO.mono (below_drew _)
          refine cw_drawn (fun w' => Below w1.heap.size w1 w') (by kernel_rfl) (by repeat (first | exact NoPanic.body | with_reducible refine NoPanic.then ?_ | with_reducible refine NoPanic.inBlock ?_)) (fun hNP => ?_)
          have hS := hw.drew
          all_goals (refine at0 0 rfl (fun w' hq => pv_move rfl) ?_)
          all_goals (refine at0 1 rfl (fun w' hq => pv_not rfl) ?_)
          all_goals (refine at0 2 rfl (fun w' hq => pv_move rfl) ?_)
          all_goals (refine at1 3 rfl rfl rfl rfl (fun w' hq => pv_move rfl) ?_)
          all_goals (refine at1 4 rfl rfl rfl rfl (fun w' hq => pv_move rfl) ?_)
          all_goals (refine at1 5 rfl rfl rfl rfl (fun w' hq => pv_ian (tS rfl) rfl rfl (by omega)) ?_)
          all_goals (refine at1 6 rfl rfl rfl rfl (fun w' hq => pv_fa (tF rfl) rfl) ?_)
          all_goals (refine at1 7 rfl rfl rfl rfl (fun w' hq => pv_load (t1 rfl) rfl (by first | exact SlR.ld (HP.mono hq) hxk rfl | exact SlR.ld1 (HP.mono hq) hxk rfl | exact PT.ld0 (HA.mono hq) rfl | exact PT.ld (HA.mono hq) rfl)) ?_)
          all_goals (refine at1 8 rfl rfl rfl rfl (fun w' hq => pv_fa (tF rfl) rfl) ?_)
          all_goals (refine at1 9 rfl rfl rfl rfl (fun w' hq => pv_load (t1 rfl) rfl (by first | exact SlR.ld (HP.mono hq) hxk rfl | exact SlR.ld1 (HP.mono hq) hxk rfl | exact PT.ld0 (HA.mono hq) rfl | exact PT.ld (HA.mono hq) rfl)) ?_)
          all_goals (refine at1 10 rfl rfl rfl rfl (fun w' hq => pv_gtr rfl rfl) ?_)
          all_goals (refine at1 11 rfl rfl rfl rfl (fun w' hq => pv_move rfl) ?_)
          all_goals (refine at2 12 rfl rfl rfl (fun w' hq => pv_move rfl) ?_)
          all_goals (refine at2 13 rfl rfl rfl (fun w' hq => pv_move rfl) ?_)
          all_goals (refine at2 14 rfl rfl rfl (fun w' hq => pv_ian (tS rfl) rfl rfl (by omega)) ?_)
          all_goals (refine at2 15 rfl rfl rfl (fun w' hq => pv_fa (tF rfl) rfl) ?_)
          all_goals (refine at2 16 rfl rfl rfl (fun w' hq => pv_load (t1 rfl) rfl (by first | exact SlR.ld (HP.mono hq) hxk rfl | exact SlR.ld1 (HP.mono hq) hxk rfl | exact PT.ld0 (HA.mono hq) rfl | exact PT.ld (HA.mono hq) rfl)) ?_)
          all_goals (refine at2 17 rfl rfl rfl (fun w' hq => pv_fa (tF rfl) rfl) ?_)
          all_goals (refine at2 18 rfl rfl rfl (fun w' hq => pv_load (t1 rfl) rfl (by first | exact SlR.ld (HP.mono hq) hxk rfl | exact SlR.ld1 (HP.mono hq) hxk rfl | exact PT.ld0 (HA.mono hq) rfl | exact PT.ld (HA.mono hq) rfl)) ?_)
          all_goals (refine at2 19 rfl rfl rfl (fun w' hq => pv_eql rfl rfl) ?_)
          all_goals (refine at2 20 rfl rfl rfl (fun w' hq => pv_move rfl) ?_)
          all_goals (refine at2 21 rfl rfl rfl (fun w' hq => pv_move rfl) ?_)
          all_goals (refine at2 22 rfl rfl rfl (fun w' hq => pv_move rfl) ?_)
          all_goals (refine at2 23 rfl rfl rfl (fun w' hq => pv_ian (tS rfl) rfl rfl (by omega)) ?_)
          all_goals (refine at2 24 rfl rfl rfl (fun w' hq => pv_fa (tF rfl) rfl) ?_)
          all_goals (refine at2 25 rfl rfl rfl (fun w' hq => pv_load (t1 rfl) rfl (by first | exact SlR.ld (HP.mono hq) hxk rfl | exact SlR.ld1 (HP.mono hq) hxk rfl | exact PT.ld0 (HA.mono hq) rfl | exact PT.ld (HA.mono hq) rfl)) ?_)
          all_goals (refine at2 26 rfl rfl rfl (fun w' hq => pv_fa (tF rfl) rfl) ?_)
          all_goals (refine at2 27 rfl rfl rfl (fun w' hq => pv_load (t1 rfl) rfl (by first | exact SlR.ld (HP.mono hq) hxk rfl | exact SlR.ld1 (HP.mono hq) hxk rfl | exact PT.ld0 (HA.mono hq) rfl | exact PT.ld (HA.mono hq) rfl)) ?_)
          all_goals (refine at2 28 rfl rfl rfl (fun w' hq => pv_gtr rfl rfl) ?_)
          all_goals (refine at2 29 rfl rfl rfl (fun w' hq => pv_pick_t rfl (by first | assumption | exact decide_eq_true (by omega) | exact dec_notT (by omega)) rfl) ?_)
          all_goals (refine at1 30 rfl rfl rfl rfl (fun w' hq => pv_pick_f rfl (by first | assumption | exact decide_eq_false (by omega) | exact dec_notF (by omega)) rfl) ?_)
          all_goals (refine at0 31 rfl (fun w' hq => pv_pick_t rfl rfl rfl) ?_)
          all_goals (refine aw_done (by kernel_rfl) ?_; replace hw := hS; clear hS hNP)
          repeat' (first | (refine lw_pure rfl (pv_move rfl) ?_) | (refine is_cw ?_; first | (refine cw_region ?_) | (refine cw_false rfl (by first | assumption | exact decide_eq_false (by omega) | exact dec_notF (by omega)) ?_) | (refine cw_skip ?_)) | (refine is_qw ?_; first | (with_reducible refine qw_then ?_)) | ((refine is_load ?_; first | (refine lw_pure rfl (pv_loada (tA rfl) rfl (by first | exact SlR.lda (HP.mono hw) hxk | exact PT.lda (HA.mono hw)) (by rfl)) ?_))) | ((refine is_ia ?_; first | (refine lw_pure rfl (pv_ian (tS rfl) rfl rfl (by omega)) ?_))))
          refine lw_bs (vs := [.agg (encP x).toArray]) (cs := encP x) elemP rfl rfl rfl (by omega) (by omega) rfl (by simp [Value.cells, encP]) ?_; intro wb HB hb hz9
          refine lw_app elemP encP_len encP_one rfl rfl rfl ((hO1).mono hb) (HB.slR (xs := [x]) encP_len rfl (by omega)) rfl (Nat.le_trans hw.size hb.size) (by simp; omega) (by simp [maxLen]; omega) ?_; intro v2 wc hO2 hg9 hb9
          replace hw := (grow_trans hw hb).trans hb9; clear hb hb9 hz9 HB hg9
          repeat' (first | (refine lw_pure rfl (pv_move rfl) ?_) | (refine lw_pure rfl (pv_assign rfl) ?_) | (refine is_cw ?_; first | (refine cw_region ?_)) | (refine is_qw ?_; first | (with_reducible refine qw_then ?_) | (with_reducible refine qw_in ?_)) | (refine lw_nil ?_) | ((refine is_bin ?_; first | (refine lw_pure rfl (pv_inc rfl rfl (by omega)) ?_))))
          exact qw_round (k + 1, v2, false, L ++ [x]) (by repeat' (first | exact trivial | refine ⟨rfl, ?_⟩)) ⟨by show k + 1 ≤ _; omega, hw, hO2, hI.yet hxk hkey⟩ (by show p.length - (k + 1) < p.length - k; omega)
        · clear hk2
          repeat' (first | (refine lw_pure rfl (pv_move rfl) ?_) | (refine is_cw ?_; first | (refine cw_seq ?_) | (refine cw_region ?_) | (refine cw_true rfl (by first | assumption | exact decide_eq_true (by omega) | exact dec_notT (by omega)) ?_) | (refine cw_skip ?_) | (refine cw_block ?_)) | (refine is_qw ?_; first | (with_reducible refine qw_then ?_)) | (refine lw_nil ?_) | ((refine is_bin ?_; first | (refine lw_pure rfl (pv_lss rfl rfl) ?_))) | ((refine is_bi ?_; first | (refine lw_pure rfl (pv_lenl (tS rfl) rfl) ?_))))
          have hO1 := hO.mono (below_drew _)
          refine cw_drawn (fun w' => Below w1.heap.size w1 w') (by kernel_rfl) (by repeat (first | exact NoPanic.body | with_reducible refine NoPanic.then ?_ | with_reducible refine NoPanic.inBlock ?_)) (fun hNP => ?_)
          have hS := hw.drew
          all_goals (refine at0 0 rfl (fun w' hq => pv_move rfl) ?_)
          all_goals (refine at0 1 rfl (fun w' hq => pv_not rfl) ?_)
          all_goals (refine at0 2 rfl (fun w' hq => pv_move rfl) ?_)
          all_goals (refine at1 3 rfl rfl rfl rfl (fun w' hq => pv_move rfl) ?_)
          all_goals (refine at1 4 rfl rfl rfl rfl (fun w' hq => pv_move rfl) ?_)
          all_goals (refine at1 5 rfl rfl rfl rfl (fun w' hq => pv_ian (tS rfl) rfl rfl (by omega)) ?_)
          all_goals (refine at1 6 rfl rfl rfl rfl (fun w' hq => pv_fa (tF rfl) rfl) ?_)
          all_goals (refine at1 7 rfl rfl rfl rfl (fun w' hq => pv_load (t1 rfl) rfl (by first | exact SlR.ld (HP.mono hq) hxk rfl | exact SlR.ld1 (HP.mono hq) hxk rfl | exact PT.ld0 (HA.mono hq) rfl | exact PT.ld (HA.mono hq) rfl)) ?_)
          all_goals (refine at1 8 rfl rfl rfl rfl (fun w' hq => pv_fa (tF rfl) rfl) ?_)
          all_goals (refine at1 9 rfl rfl rfl rfl (fun w' hq => pv_load (t1 rfl) rfl (by first | exact SlR.ld (HP.mono hq) hxk rfl | exact SlR.ld1 (HP.mono hq) hxk rfl | exact PT.ld0 (HA.mono hq) rfl | exact PT.ld (HA.mono hq) rfl)) ?_)
          all_goals (refine at1 10 rfl rfl rfl rfl (fun w' hq => pv_gtr rfl rfl) ?_)
          all_goals (refine at1 11 rfl rfl rfl rfl (fun w' hq => pv_move rfl) ?_)
          all_goals (refine at2 12 rfl rfl rfl (fun w' hq => pv_move rfl) ?_)
          all_goals (refine at2 13 rfl rfl rfl (fun w' hq => pv_move rfl) ?_)
          all_goals (refine at2 14 rfl rfl rfl (fun w' hq => pv_ian (tS rfl) rfl rfl (by omega)) ?_)
          all_goals (refine at2 15 rfl rfl rfl (fun w' hq => pv_fa (tF rfl) rfl) ?_)
          all_goals (refine at2 16 rfl rfl rfl (fun w' hq => pv_load (t1 rfl) rfl (by first | exact SlR.ld (HP.mono hq) hxk rfl | exact SlR.ld1 (HP.mono hq) hxk rfl | exact PT.ld0 (HA.mono hq) rfl | exact PT.ld (HA.mono hq) rfl)) ?_)
          all_goals (refine at2 17 rfl rfl rfl (fun w' hq => pv_fa (tF rfl) rfl) ?_)
          all_goals (refine at2 18 rfl rfl rfl (fun w' hq => pv_load (t1 rfl) rfl (by first | exact SlR.ld (HP.mono hq) hxk rfl | exact SlR.ld1 (HP.mono hq) hxk rfl | exact PT.ld0 (HA.mono hq) rfl | exact PT.ld (HA.mono hq) rfl)) ?_)
          all_goals (refine at2 19 rfl rfl rfl (fun w' hq => pv_eql rfl rfl) ?_)
          all_goals (refine at2 20 rfl rfl rfl (fun w' hq => pv_move rfl) ?_)
          all_goals (refine an2 21 rfl rfl rfl ?_)
          all_goals (refine an2 22 rfl rfl rfl ?_)
          all_goals (refine an2 23 rfl rfl rfl ?_)
          all_goals (refine an2 24 rfl rfl rfl ?_)
          all_goals (refine an2 25 rfl rfl rfl ?_)
          all_goals (refine an2 26 rfl rfl rfl ?_)
          all_goals (refine an2 27 rfl rfl rfl ?_)
          all_goals (refine an2 28 rfl rfl rfl ?_)
          all_goals (refine at2 29 rfl rfl rfl (fun w' hq => pv_pick_f rfl (by first | assumption | exact decide_eq_false (by omega) | exact dec_notF (by omega)) rfl) ?_)
          all_goals (refine at1 30 rfl rfl rfl rfl (fun w' hq => pv_pick_f rfl (by first | assumption | exact decide_eq_false (by omega) | exact dec_notF (by omega)) rfl) ?_)
          all_goals (refine at0 31 rfl (fun w' hq => pv_pick_t rfl rfl rfl) ?_)
          all_goals (refine aw_done (by kernel_rfl) ?_; replace hw := hS; clear hS hNP)
          repeat' (first | (refine lw_pure rfl (pv_move rfl) ?_) | (refine is_cw ?_; first | (refine cw_region ?_) | (refine cw_false rfl rfl ?_) | (refine cw_skip ?_)) | (refine is_qw ?_; first | (with_reducible refine qw_then ?_)) | ((refine is_load ?_; first | (refine lw_pure rfl (pv_loada (tA rfl) rfl (by first | exact SlR.lda (HP.mono hw) hxk | exact PT.lda (HA.mono hw)) (by rfl)) ?_))) | ((refine is_ia ?_; first | (refine lw_pure rfl (pv_ian (tS rfl) rfl rfl (by omega)) ?_))))
          refine lw_bs (vs := [.agg (encP x).toArray]) (cs := encP x) elemP rfl rfl rfl (by omega) (by omega) rfl (by simp [Value.cells, encP]) ?_; intro wb HB hb hz9
          refine lw_app elemP encP_len encP_one rfl rfl rfl ((hO1).mono hb) (HB.slR (xs := [x]) encP_len rfl (by omega)) rfl (Nat.le_trans hw.size hb.size) (by simp; omega) (by simp [maxLen]; omega) ?_; intro v2 wc hO2 hg9 hb9
          replace hw := (grow_trans hw hb).trans hb9; clear hb hb9 hz9 HB hg9
          repeat' (first | (refine lw_pure rfl (pv_move rfl) ?_) | (refine lw_pure rfl (pv_assign rfl) ?_) | (refine is_cw ?_; first | (refine cw_region ?_)) | (refine is_qw ?_; first | (with_reducible refine qw_then ?_) | (with_reducible refine qw_in ?_)) | (refine lw_nil ?_) | ((refine is_bin ?_; first | (refine lw_pure rfl (pv_inc rfl rfl (by omega)) ?_))))
          exact qw_round (k + 1, v2, false, L ++ [x]) (by repeat' (first | exact trivial | refine ⟨rfl, ?_⟩)) ⟨by show k + 1 ≤ _; omega, hw, hO2, hI.yet hxk hkey⟩ (by show p.length - (k + 1) < p.length - k; omega)
  · have hkl : k = p.length := by omega
    subst hkl
    cases d with
    | true =>
      repeat' (first | (refine lw_pure rfl (pv_move rfl) ?_) | (refine lw_pure rfl (pv_assign rfl) ?_) | (refine is_cw ?_; first | (refine cw_seq ?_) | (refine cw_region ?_) | (refine cw_false rfl rfl ?_) | (refine cw_false rfl (by first | assumption | exact decide_eq_false (by omega) | exact dec_notF (by omega)) ?_) | (refine cw_skip ?_) | (refine cw_exit ?_) | (refine cw_ret ?_)) | (refine is_qw ?_; first | (with_reducible refine qw_then ?_) | (with_reducible refine qw_in_hit ?_) | (with_reducible refine qw_then_exit ?_)) | (refine lw_nil ?_) | ((refine is_bin ?_; first | (refine lw_pure rfl (pv_lss rfl rfl) ?_))) | ((refine is_un ?_; first | (refine lw_pure rfl (pv_not rfl) ?_))) | ((refine is_bi ?_; first | (refine lw_pure rfl (pv_lenl (tS rfl) rfl) ?_))))
      refine qw_ret1 rfl rfl ⟨⟨_, rfl, ?_⟩, (hE.mono hw).b⟩
      rw [← hI.end_t]; exact hO.weaken hE.le
    | false =>
      repeat' (first | (refine lw_pure rfl (pv_move rfl) ?_) | (refine is_cw ?_; first | (refine cw_seq ?_) | (refine cw_region ?_) | (refine cw_true rfl rfl ?_) | (refine cw_false rfl (by first | assumption | exact decide_eq_false (by omega) | exact dec_notF (by omega)) ?_) | (refine cw_exit ?_)) | (refine is_qw ?_; first | (with_reducible refine qw_then ?_) | (with_reducible refine qw_in_hit ?_) | (with_reducible refine qw_then_exit ?_)) | (refine lw_nil ?_) | ((refine is_bin ?_; first | (refine lw_pure rfl (pv_lss rfl rfl) ?_))) | ((refine is_load ?_; first | (refine lw_pure rfl (pv_loada (tA rfl) rfl (by first | exact PT.lda (HA.mono hw)) (by rfl)) ?_))) | ((refine is_un ?_; first | (refine lw_pure rfl (pv_not rfl) ?_))) | ((refine is_bi ?_; first | (refine lw_pure rfl (pv_lenl (tS rfl) rfl) ?_))))
      refine lw_bs (vs := [.agg (encP o).toArray]) (cs := encP o) elemP rfl rfl rfl (by omega) (by omega) rfl (by simp [Value.cells, encP]) ?_; intro wb HB hb hz9
      refine lw_app elemP encP_len encP_one rfl rfl rfl ((hO).mono hb) (HB.slR (xs := [o]) encP_len rfl (by omega)) rfl (Nat.le_trans hw.size hb.size) (by simp; omega) (by simp [maxLen]; omega) ?_; intro v2 wc hO2 hg9 hb9
      replace hw := (grow_trans hw hb).trans hb9; clear hb hb9 hz9 HB hg9
      repeat' (first | (refine lw_pure rfl (pv_move rfl) ?_) | (refine lw_pure rfl (pv_assign rfl) ?_) | (refine is_cw ?_; first | (refine cw_seq ?_) | (refine cw_region ?_) | (refine cw_ret ?_)) | (refine is_qw ?_; first | (with_reducible refine qw_then ?_)) | (refine lw_nil ?_))
      refine qw_ret1 rfl rfl ⟨⟨_, rfl, ?_⟩, (hE.mono hw).b⟩
      rw [← hI.end_f]; exact hO2.weaken hE.le
theorem less_take {p : List Opn} {k : Nat} {x : Opn} (id q : Int) (h : p[k]? = some x) : lessP (p.take (k + 1)) id q = lessP (p.take k) id q ++ if 0 < (cutP id q x).left then [cutP id q x] else [] := by
  unfold lessP
  rw [take_snoc h, List.map_append, List.filter_append]
  congr 1
  by_cases hl : 0 < (cutP id q x).left <;> simp [hl]
theorem less_len (p : List Opn) (id q : Int) : (lessP p id q).length ≤ p.length := by
  unfold lessP
  exact Nat.le_trans (List.length_filter_le _ _) (by simp)
set_option maxRecDepth 20000 in
set_option maxHeartbeats 4000000 in
theorem less_c {p : List Opn} {m : Nat} {a : Option Addr} {ca : Nat} {w : World} (id q : Int) (hm : p.length = m) (HP : SlR encP 6 w a ca p) (hlp : p.length ≤ 1048576) (hq : ∀ x ∈ p, (0 ≤ x.left ∧ x.left ≤ 1048576)) (hq2 : 0 ≤ q ∧ q ≤ 1048576) : Calls Tryz.prog 63 #[.slice a m ca, .int .i64 id, .int .i64 q] w fun e w' => (∃ v, e = .returned v ∧ Own encP 6 49 w.heap.size w' v (lessP p id q)) ∧ Below w.heap.size w w' := by
  subst hm
  have hca := HP.le
  have hcm := HP.max
  refine fn_enter 37 Tryz.func63 rfl rfl rfl ?_
  have hw := Below.refl w.heap.size w
  repeat' (first | (refine lw_pure rfl (pv_assign rfl) ?_) | (refine is_cw ?_; first | (refine cw_seq ?_) | (refine cw_region ?_) | (refine cw_block ?_)) | (refine is_qw ?_; first | (with_reducible refine qw_then ?_)) | (refine lw_nil ?_))
  refine cw_loop (σ := Nat × Value) (fun s => [(0, .slice a p.length ca), (1, .int .i64 id), (2, .int .i64 q), (7, s.2), (8, .int .i64 (s.1 : Nat))]) (fun s wr => s.1 ≤ p.length ∧ Below w.heap.size w wr ∧ Own encP 6 49 w.heap.size wr s.2 (lessP (p.take s.1) id q)) (fun s => p.length - s.1) (0, .slice none 0 0) (by repeat' (first | exact trivial | refine ⟨rfl, ?_⟩)) ⟨Nat.zero_le _, hw, Own.nil _⟩ ?_
  clear hw
  rintro ⟨k, v⟩ wr ⟨hk, hW, hO⟩
  dsimp only at hk hO
  change CW _ _ _ _ [(0, .slice a p.length ca), (1, .int .i64 id), (2, .int .i64 q), (7, v), (8, .int .i64 (k : Nat))] wr
  have hLl := less_len (p.take k) id q
  have htl : (p.take k).length ≤ k := by rw [List.length_take]; omega
  by_cases hlt : k < p.length
  · have hxk : p[k]? = some p[k] := List.getElem?_eq_getElem hlt
    have hxq := hq _ (List.getElem_mem hlt)
    obtain ⟨ab, ao, rfl, -, -⟩ := HP.at (by intro h; rw [h] at hlt; simp at hlt)
    generalize p[k] = x at hxk hxq
    have hrec := less_take id q hxk
    have hw := hW
    have hNE := Own.lt hO
    have hwr := Nat.le_refl wr.heap.size
    repeat' (first | (refine lw_pure rfl (pv_move rfl) ?_) | (refine is_cw ?_; first | (refine cw_seq ?_) | (refine cw_region ?_) | (refine cw_true rfl (by first | assumption | exact decide_eq_true (by omega) | exact dec_notT (by omega)) ?_) | (refine cw_skip ?_) | (refine cw_block ?_)) | (refine is_qw ?_; first | (with_reducible refine qw_then ?_)) | (refine lw_nil ?_) | ((refine is_bin ?_; first | (refine lw_pure rfl (pv_lss rfl rfl) ?_))) | ((refine is_load ?_; first | (refine lw_pure rfl (pv_loada (tA rfl) rfl (by first | exact SlR.lda (HP.mono hw) hxk) (by rfl)) ?_))) | ((refine is_ia ?_; first | (refine lw_pure rfl (pv_ian (tS rfl) rfl rfl (by omega)) ?_))) | ((refine is_bi ?_; first | (refine lw_pure rfl (pv_lenl (tS rfl) rfl) ?_))))
    refine lw_varN rfl (by first | exact tyv_27 | exact tyv_28 | exact tyv_38 | exact tyv_39 | exact tyv_48 | exact tyv_49 | exact tyv_52 | exact tyv_53 | exact tyv_68 | exact tyv_69 | exact tyv_79 | exact tyv_80 | exact tyv_94 | exact tyv_95 | exact tyv_131 | exact tyv_132) rfl (tZ rfl) (fun _ => rfl) rfl rfl ?_; intro N wn hN HX hb
    have hNv : v.ownBlock = none ∨ v.ownBlock ≠ some N := Or.inr (fun e => by have := (hNE N e).2; omega)
    have hNw : w.heap.size ≤ N := by have := hw.size; omega
    replace hO := hO.mono hb
    replace hw := grow_trans hw hb
    clear hb hNE hwr hN hW
    generalize lessP (p.take k) id q = L at *
    have hB := hw
    clear hw
    have hw := Below.refl wn.heap.size wn
    by_cases hid : x.id = id
    · obtain ⟨y, hy⟩ : ∃ y : Opn, y = { x with left := x.left - q } := ⟨_, rfl⟩
      have hcy : cutP id q x = y := by unfold cutP; rw [if_pos hid, hy]
      have hyl : y.left = x.left - q := by rw [hy]
      repeat' (first | (refine lw_pure rfl (pv_move rfl) ?_) | (refine is_cw ?_; first | (refine cw_seq ?_) | (refine cw_region ?_) | (refine cw_true rfl (by first | assumption | exact decide_eq_true (by omega) | exact dec_notT (by omega)) ?_)) | (refine is_qw ?_; first | (with_reducible refine qw_then ?_)) | (refine lw_nil ?_) | ((refine is_bin ?_; first | (refine lw_pure rfl (pv_eql rfl rfl) ?_) | (refine lw_pure rfl (pv_sub rfl rfl (by omega)) ?_))) | ((refine is_load ?_; first | (refine lw_pure rfl (pv_load (t1 rfl) rfl (by first | exact PT.ld0 (HX.mono hw) rfl | exact PT.ld (HX.mono hw) rfl)) ?_))) | ((refine is_fa ?_; first | (refine lw_pure rfl (pv_fa (tF rfl) rfl) ?_))))
      refine lw_store HX (tZ rfl) rfl rfl rfl (by simp [encP]) ?_; intro wz HXz hg hz
      replace hO := hO.kept hg hNv
      replace hB := st_hw hB hg hNw
      have HY : PT wz N 49 (encP y) := by rw [hy]; exact HXz
      clear HX HXz hg hz hw
      have hw := Below.refl wz.heap.size wz
      rw [hcy] at hrec
      by_cases hpos : 0 < y.left
      · rw [if_pos hpos] at hrec
        repeat' (first | (refine lw_pure rfl (pv_move rfl) ?_) | (refine is_cw ?_; first | (refine cw_seq ?_) | (refine cw_region ?_) | (refine cw_true rfl (by first | assumption | exact decide_eq_true (by omega) | exact dec_notT (by omega)) ?_)) | (refine is_qw ?_; first | (with_reducible refine qw_then ?_)) | (refine lw_nil ?_) | ((refine is_bin ?_; first | (refine lw_pure rfl (pv_gtr rfl rfl) ?_))) | ((refine is_load ?_; first | (refine lw_pure rfl (pv_load (t1 rfl) rfl (by first | exact PT.ld0 (HY.mono hw) rfl | exact PT.ld (HY.mono hw) rfl)) ?_) | (refine lw_pure rfl (pv_loada (tA rfl) rfl (by first | exact PT.lda (HY.mono hw)) (by rfl)) ?_))) | ((refine is_fa ?_; first | (refine lw_pure rfl (pv_fa (tF rfl) rfl) ?_))))
        refine lw_bs (vs := [.agg (encP y).toArray]) (cs := encP y) elemP rfl rfl rfl (by omega) (by omega) rfl (by simp [Value.cells, encP]) ?_; intro wb HB hb hz9
        refine lw_app elemP encP_len encP_one rfl rfl rfl ((hO).mono hb) (HB.slR (xs := [y]) encP_len rfl (by omega)) rfl (Nat.le_trans hB.size hb.size) (by simp; omega) (by simp [maxLen]; omega) ?_; intro v2 wc hO2 hg9 hb9
        have hWs := (grow_trans hB hb).trans hb9; clear hw hb hb9 hz9 HB hg9; have hw := Below.refl wc.heap.size wc
        repeat' (first | (refine lw_pure rfl (pv_move rfl) ?_) | (refine lw_pure rfl (pv_assign rfl) ?_) | (refine is_cw ?_; first | (refine cw_region ?_)) | (refine is_qw ?_; first | (with_reducible refine qw_then ?_) | (with_reducible refine qw_in ?_)) | (refine lw_nil ?_) | ((refine is_bin ?_; first | (refine lw_pure rfl (pv_inc rfl rfl (by omega)) ?_))))
        exact qw_round (k + 1, v2) (by repeat' (first | exact trivial | refine ⟨rfl, ?_⟩)) ⟨by show k + 1 ≤ _; omega, hWs, by rw [hrec]; exact hO2⟩ (by show p.length - (k + 1) < p.length - k; omega)
      · rw [if_neg hpos, List.append_nil] at hrec
        repeat' (first | (refine lw_pure rfl (pv_move rfl) ?_) | (refine lw_pure rfl (pv_assign rfl) ?_) | (refine is_cw ?_; first | (refine cw_seq ?_) | (refine cw_region ?_) | (refine cw_false rfl (by first | assumption | exact decide_eq_false (by omega) | exact dec_notF (by omega)) ?_) | (refine cw_skip ?_)) | (refine is_qw ?_; first | (with_reducible refine qw_then ?_) | (with_reducible refine qw_in ?_)) | (refine lw_nil ?_) | ((refine is_bin ?_; first | (refine lw_pure rfl (pv_gtr rfl rfl) ?_) | (refine lw_pure rfl (pv_inc rfl rfl (by omega)) ?_))) | ((refine is_load ?_; first | (refine lw_pure rfl (pv_load (t1 rfl) rfl (by first | exact PT.ld0 (HY.mono hw) rfl | exact PT.ld (HY.mono hw) rfl)) ?_))) | ((refine is_fa ?_; first | (refine lw_pure rfl (pv_fa (tF rfl) rfl) ?_))))
        exact qw_round (k + 1, v) (by repeat' (first | exact trivial | refine ⟨rfl, ?_⟩)) ⟨by show k + 1 ≤ _; omega, hB, by rw [hrec]; exact hO⟩ (by show p.length - (k + 1) < p.length - k; omega)
    · have hcy : cutP id q x = x := by unfold cutP; rw [if_neg hid]
      rw [hcy] at hrec
      by_cases hpos : 0 < x.left
      · rw [if_pos hpos] at hrec
        repeat' (first | (refine lw_pure rfl (pv_move rfl) ?_) | (refine is_cw ?_; first | (refine cw_seq ?_) | (refine cw_region ?_) | (refine cw_true rfl (by first | assumption | exact decide_eq_true (by omega) | exact dec_notT (by omega)) ?_) | (refine cw_false rfl (by first | assumption | exact decide_eq_false (by omega) | exact dec_notF (by omega)) ?_) | (refine cw_skip ?_)) | (refine is_qw ?_; first | (with_reducible refine qw_then ?_)) | (refine lw_nil ?_) | ((refine is_bin ?_; first | (refine lw_pure rfl (pv_eql rfl rfl) ?_) | (refine lw_pure rfl (pv_gtr rfl rfl) ?_))) | ((refine is_load ?_; first | (refine lw_pure rfl (pv_load (t1 rfl) rfl (by first | exact PT.ld0 (HX.mono hw) rfl | exact PT.ld (HX.mono hw) rfl)) ?_) | (refine lw_pure rfl (pv_loada (tA rfl) rfl (by first | exact PT.lda (HX.mono hw)) (by rfl)) ?_))) | ((refine is_fa ?_; first | (refine lw_pure rfl (pv_fa (tF rfl) rfl) ?_))))
        refine lw_bs (vs := [.agg (encP x).toArray]) (cs := encP x) elemP rfl rfl rfl (by omega) (by omega) rfl (by simp [Value.cells, encP]) ?_; intro wb HB hb hz9
        refine lw_app elemP encP_len encP_one rfl rfl rfl ((hO).mono hb) (HB.slR (xs := [x]) encP_len rfl (by omega)) rfl (Nat.le_trans hB.size hb.size) (by simp; omega) (by simp [maxLen]; omega) ?_; intro v2 wc hO2 hg9 hb9
        have hWs := (grow_trans hB hb).trans hb9; clear hw hb hb9 hz9 HB hg9; have hw := Below.refl wc.heap.size wc
        repeat' (first | (refine lw_pure rfl (pv_move rfl) ?_) | (refine lw_pure rfl (pv_assign rfl) ?_) | (refine is_cw ?_; first | (refine cw_region ?_)) | (refine is_qw ?_; first | (with_reducible refine qw_then ?_) | (with_reducible refine qw_in ?_)) | (refine lw_nil ?_) | ((refine is_bin ?_; first | (refine lw_pure rfl (pv_inc rfl rfl (by omega)) ?_))))
        exact qw_round (k + 1, v2) (by repeat' (first | exact trivial | refine ⟨rfl, ?_⟩)) ⟨by show k + 1 ≤ _; omega, hWs, by rw [hrec]; exact hO2⟩ (by show p.length - (k + 1) < p.length - k; omega)
      · rw [if_neg hpos, List.append_nil] at hrec
        repeat' (first | (refine lw_pure rfl (pv_move rfl) ?_) | (refine lw_pure rfl (pv_assign rfl) ?_) | (refine is_cw ?_; first | (refine cw_seq ?_) | (refine cw_region ?_) | (refine cw_false rfl (by first | assumption | exact decide_eq_false (by omega) | exact dec_notF (by omega)) ?_) | (refine cw_skip ?_)) | (refine is_qw ?_; first | (with_reducible refine qw_then ?_) | (with_reducible refine qw_in ?_)) | (refine lw_nil ?_) | ((refine is_bin ?_; first | (refine lw_pure rfl (pv_eql rfl rfl) ?_) | (refine lw_pure rfl (pv_gtr rfl rfl) ?_) | (refine lw_pure rfl (pv_inc rfl rfl (by omega)) ?_))) | ((refine is_load ?_; first | (refine lw_pure rfl (pv_load (t1 rfl) rfl (by first | exact PT.ld0 (HX.mono hw) rfl | exact PT.ld (HX.mono hw) rfl)) ?_))) | ((refine is_fa ?_; first | (refine lw_pure rfl (pv_fa (tF rfl) rfl) ?_))))
        exact qw_round (k + 1, v) (by repeat' (first | exact trivial | refine ⟨rfl, ?_⟩)) ⟨by show k + 1 ≤ _; omega, hB, by rw [hrec]; exact hO⟩ (by show p.length - (k + 1) < p.length - k; omega)
  · have hkl : k = p.length := by omega
    subst hkl
    rw [List.take_length] at hO
    have hw := hW
    repeat' (first | (refine lw_pure rfl (pv_move rfl) ?_) | (refine lw_pure rfl (pv_assign rfl) ?_) | (refine is_cw ?_; first | (refine cw_seq ?_) | (refine cw_region ?_) | (refine cw_false rfl (by first | assumption | exact decide_eq_false (by omega) | exact dec_notF (by omega)) ?_) | (refine cw_exit ?_) | (refine cw_ret ?_)) | (refine is_qw ?_; first | (with_reducible refine qw_then ?_) | (with_reducible refine qw_in_hit ?_) | (with_reducible refine qw_then_exit ?_)) | (refine lw_nil ?_) | ((refine is_bin ?_; first | (refine lw_pure rfl (pv_lss rfl rfl) ?_))) | ((refine is_bi ?_; first | (refine lw_pure rfl (pv_lenl (tS rfl) rfl) ?_))))
    exact qw_ret1 rfl rfl ⟨⟨_, rfl, hO⟩, hw⟩
end Go.Proofs.YtemngicaoacfaaaGreatDoor
namespace Go.Proofs.YtemngicaoacfaaaGreatDoor
open Go.RowKit Go.PlainAid

theorem pw_take {α : Type} {R : α → α → Prop} {l : List α} {k : Nat} {x : α} (hp : (l.take k).Pairwise R) (hx : l[k]? = some x) (h : ∀ i, i < k → ∀ y, l[i]? = some y → R y x) : (l.take (k + 1)).Pairwise R := by
  rw [take_snoc hx, List.pairwise_append]
  refine ⟨hp, by simp, fun y hy z hz => ?_⟩
  simp at hz; subst hz
  obtain ⟨i, hi, he⟩ := List.mem_iff_getElem.1 hy
  rw [List.length_take] at hi
  exact h i (by omega) y (by rw [List.getElem_take] at he; rw [← he]; exact List.getElem?_eq_getElem _)
def keyN (y x : Opn) : Prop := keyO y x ∧ y.id ≠ x.id
theorem keyN_o {p : List Opn} (h : p.Pairwise keyN) : p.Pairwise keyO := h.imp fun h => h.1
theorem keyN_n {p : List Opn} (h : p.Pairwise keyN) : (p.map (·.id)).Nodup := List.pairwise_map.2 (h.imp fun h => h.2)
theorem keyN_get {p : List Opn} {t : List Lt} (h : MayV p t) {i j : Nat} {y x : Opn} (hij : i < j) (hy : p[i]? = some y) (hx : p[j]? = some x) : keyN y x :=
  ⟨pwg_get h.2.1 hij hy hx, pwg_get (R := fun a b : Opn => a.id ≠ b.id) (List.pairwise_map.1 h.2.2.2.2.1) hij hy hx⟩
theorem rbtw_d (n m : Int) (w : World) : Calls Tryz.prog 93 #[.int .i64 n, .int .i64 m] w fun e w' => e = .returned (.bool (decide (1 ≤ n ∧ n ≤ m))) ∧ Below w.heap.size w w' := rbtw_c n m w
theorem rbtw_e {n m : Int} {b : Bool} (h : decide (1 ≤ n ∧ n ≤ m) = b) (w : World) : Calls Tryz.prog 93 #[.int .i64 n, .int .i64 m] w fun e w' => e = .returned (.bool b) ∧ Below w.heap.size w w' := by subst h; exact rbtw_c n m w
set_option maxRecDepth 20000 in
set_option maxHeartbeats 4000000 in
theorem rmayV_c {p : List Opn} {t : List Lt} {m n : Nat} {a b : Option Addr} {ca cb : Nat} {w : World} (hm : p.length = m) (hn : t.length = n) (HP : SlR encP 6 w a ca p) (HL : SlR encL 4 w b cb t) : Calls Tryz.prog 60 #[.slice a m ca, .slice b n cb] w fun e w' => e = .returned (.bool (mayV p t)) ∧ Below w.heap.size w w' := by
  subst hm hn
  have hw := Below.refl w.heap.size w
  have hca := HP.le
  have hcm := HP.max
  have hcb := HL.le
  have hcn := HL.max
  refine fn_enter 156 Tryz.func60 rfl rfl rfl ?_
  repeat' ((fail_if_success (refine is_seqb ?_)); (fail_if_success (refine is_blk ?_)); first | (refine lw_pure rfl (pv_move rfl) ?_) | (refine lw_pure rfl (pv_assign rfl) ?_) | (refine is_cw ?_; first | (refine cw_seq ?_) | (refine cw_region ?_) | (refine cw_true rfl rfl ?_) | (refine cw_skip ?_) | (refine cw_ret ?_)) | (refine is_qw ?_; first | (with_reducible refine qw_then ?_) | (with_reducible refine qw_then_ret ?_)) | (refine lw_nil ?_) | (refine is_guarded ?_; first | (refine lw_on rfl rfl (by first | assumption | exact decide_eq_true (by omega) | exact decide_eq_false (by omega) | exact dec_notT (by omega) | exact dec_notF (by omega)) ?_) | (refine lw_not rfl rfl rfl (by first | assumption | exact decide_eq_true (by omega) | exact decide_eq_false (by omega) | exact dec_notT (by omega) | exact dec_notF (by omega)) ?_) | (refine lw_gs_f rfl rfl rfl (fun hc => ?_) (fun hc => ?_) <;> (first | replace hc := of_decide_eq_true hc | replace hc := of_decide_eq_false hc | replace hc := dec_nT hc | replace hc := dec_nF hc | skip) <;> (try (exfalso; omega)))) | ((refine is_bin ?_; first | (refine lw_pure rfl (pv_gtr rfl rfl) ?_))) | ((refine is_bi ?_; first | (refine lw_pure rfl (pv_lenl (tS rfl) rfl) ?_))) | (refine lw_pure rfl (pv_pick_t rfl (by first | assumption | exact decide_eq_true (by omega) | exact dec_notT (by omega)) rfl) ?_) | (refine lw_pure rfl (pv_pick_f rfl (by first | assumption | exact decide_eq_false (by omega) | exact dec_notF (by omega)) rfl) ?_) | (refine is_cw ?_; refine cw_split rfl (fun hc => ?_) (fun hc => ?_) <;> (first | replace hc := of_decide_eq_true hc | replace hc := of_decide_eq_false hc | replace hc := dec_nT hc | replace hc := dec_nF hc | skip) <;> (try (exfalso; omega))))
  all_goals first | (refine qw_ret1 rfl rfl ⟨may_not ?_, hw⟩; rintro ⟨h1, -⟩; omega) | skip
  have hl : p.length ≤ 128 := by omega
  have h32 : t.length ≤ 32 := by omega
  repeat' (first | (refine is_cw ?_; first | (refine cw_block ?_)))
  refine cw_loop (σ := Nat) (fun k => [(0, .slice a p.length ca), (1, .slice b t.length cb), (5, .int .i64 (k : Nat))]) (fun k wr => k ≤ p.length ∧ Below w.heap.size w wr ∧ (∀ j, j < k → ∀ x, p[j]? = some x → MayO x) ∧ (p.take k).Pairwise keyN) (fun k => p.length - k) 0 (by repeat' (first | exact trivial | refine ⟨rfl, ?_⟩)) ⟨Nat.zero_le _, hw, by omega, by simp⟩ ?_
  clear hw
  rintro k wr ⟨hk, hW, hn, hp⟩
  by_cases hlt : k < p.length
  · have hxk : p[k]? = some p[k] := List.getElem?_eq_getElem hlt
    obtain ⟨ab, ao, rfl, -, -⟩ := HP.at (by intro h; rw [h] at hlt; simp at hlt)
    generalize p[k] = x at hxk
    have HS := HP.mono hW
    have hw := Below.refl wr.heap.size wr
    repeat' (first | (refine lw_pure rfl (pv_move rfl) ?_) | (refine is_cw ?_; first | (refine cw_seq ?_) | (refine cw_region ?_) | (refine cw_true rfl (by first | assumption | exact decide_eq_true (by omega) | exact dec_notT (by omega)) ?_) | (refine cw_skip ?_) | (refine cw_block ?_)) | (refine is_qw ?_; first | (with_reducible refine qw_then ?_)) | (refine lw_nil ?_) | ((refine is_bin ?_; first | (refine lw_pure rfl (pv_lss rfl rfl) ?_))) | ((refine is_load ?_; first | (refine lw_pure rfl (pv_loada (tA rfl) rfl (by first | exact SlR.lda (HS.mono hw) hxk) (by rfl)) ?_))) | ((refine is_ia ?_; first | (refine lw_pure rfl (pv_ian (tS rfl) rfl rfl (by omega)) ?_))) | ((refine is_bi ?_; first | (refine lw_pure rfl (pv_lenl (tS rfl) rfl) ?_))))
    refine lw_varN rfl (by first | exact tyv_27 | exact tyv_28 | exact tyv_38 | exact tyv_39 | exact tyv_48 | exact tyv_49 | exact tyv_52 | exact tyv_53 | exact tyv_68 | exact tyv_69 | exact tyv_79 | exact tyv_80 | exact tyv_94 | exact tyv_95 | exact tyv_131 | exact tyv_132) rfl (tZ rfl) (fun _ => rfl) rfl rfl ?_; intro N wn hN HX hb; replace hN := Nat.le_trans hw.size hN; replace hw := grow_trans hw hb; clear hb
    have hW2 := grow_trans hW hw
    replace HS := HS.mono hw
    clear hW hN hw
    have hw := Below.refl wn.heap.size wn
    refine lw_nil ?_; (with_reducible refine qw_then ?_)
    refine cw_cut (σ := Unit) (fun _ => [(0, .slice (some ⟨ab, ao, none⟩) p.length ca), (1, .slice b t.length cb), (5, .int .i64 (k : Nat)), (6, .pointer (some ⟨N, 0, none⟩))]) (fun _ w' => Below wn.heap.size wn w' ∧ (MayO x)) ?_ ?_
    · repeat' (first | (refine lw_pure rfl (pv_move rfl) ?_) | (refine lw_pure rfl (pv_assign rfl) ?_) | (refine lw_call (f := 93) (by kernel_rfl) rfl rfl (rbtw_d _ _ _) ?_; rintro e w1 ⟨rfl, hb⟩; refine ⟨_, rfl, ?_⟩; replace hw := grow_trans hw hb; clear hb) | (refine is_cw ?_; first | (refine cw_seq ?_) | (refine cw_region ?_) | (refine cw_true rfl rfl ?_) | (refine cw_skip ?_) | (refine cw_ret ?_)) | (refine is_qw ?_; first | (with_reducible refine qw_then ?_) | (with_reducible refine qw_then_ret ?_) | (with_reducible refine qw_in_ret ?_)) | (refine lw_nil ?_) | (refine is_guarded ?_; first | (refine lw_not rfl rfl rfl rfl ?_) | (refine lw_not_u rfl rfl rfl ?_) | (refine lw_on rfl rfl rfl ?_) | (refine lw_on rfl rfl (by first | assumption | exact decide_eq_true (by omega) | exact decide_eq_false (by omega) | exact dec_notT (by omega) | exact dec_notF (by omega)) ?_) | (refine lw_not rfl rfl rfl (by first | assumption | exact decide_eq_true (by omega) | exact decide_eq_false (by omega) | exact dec_notT (by omega) | exact dec_notF (by omega)) ?_) | (refine lw_gs_t rfl rfl rfl (fun hc => ?_) (fun hc => ?_) <;> (first | replace hc := of_decide_eq_true hc | replace hc := of_decide_eq_false hc | replace hc := dec_nT hc | replace hc := dec_nF hc | skip) <;> (try (exfalso; omega))) | (refine lw_gs_f rfl rfl rfl (fun hc => ?_) (fun hc => ?_) <;> (first | replace hc := of_decide_eq_true hc | replace hc := of_decide_eq_false hc | replace hc := dec_nT hc | replace hc := dec_nF hc | skip) <;> (try (exfalso; omega)))) | ((refine is_bin ?_; first | (refine lw_pure rfl (pv_neq rfl rfl) ?_))) | ((refine is_load ?_; first | (refine lw_pure rfl (pv_load (t1 rfl) rfl (by first | exact PT.ld0 (HX.mono hw) rfl | exact PT.ld (HX.mono hw) rfl)) ?_))) | ((refine is_fa ?_; first | (refine lw_pure rfl (pv_fa (tF rfl) rfl) ?_))) | ((refine is_un ?_; first | (refine lw_pure rfl (pv_not rfl) ?_))) | (refine lw_pure rfl (pv_pick_t rfl rfl rfl) ?_) | (refine lw_pure rfl (pv_pick_f rfl rfl rfl) ?_) | (refine lw_pure rfl (pv_pick_t rfl (by first | assumption | exact decide_eq_true (by omega) | exact dec_notT (by omega)) rfl) ?_) | (refine lw_pure rfl (pv_pick_f rfl (by first | assumption | exact decide_eq_false (by omega) | exact dec_notF (by omega)) rfl) ?_) | (refine is_cw ?_; refine cw_split rfl (fun hc => ?_) (fun hc => ?_) <;> (first | replace hc := of_decide_eq_true hc | replace hc := of_decide_eq_false hc | replace hc := dec_nT hc | replace hc := dec_nF hc | skip) <;> (try (exfalso; omega))))
      all_goals first | (refine qw_join () (by repeat' (first | exact trivial | refine ⟨rfl, ?_⟩)) ⟨hw, ?_⟩; unfold MayO; omega) | (refine qw_ret1 rfl rfl ⟨may_not (fun hM => ?_), grow_trans hW2 hw⟩; have h9 := hM.2.2.2.1 x (List.mem_of_getElem? hxk); unfold MayO at h9; omega)
    rintro - w1 ⟨hw, hx⟩
    repeat' (first | (refine lw_pure rfl (pv_assign rfl) ?_) | (refine is_cw ?_; first | (refine cw_seq ?_) | (refine cw_region ?_) | (refine cw_block ?_)) | (refine is_qw ?_; first | (with_reducible refine qw_then ?_)) | (refine lw_nil ?_))
    refine cw_loop (σ := Nat) (fun j => [(0, .slice (some ⟨ab, ao, none⟩) p.length ca), (1, .slice b t.length cb), (5, .int .i64 (k : Nat)), (6, .pointer (some ⟨N, 0, none⟩))] ++ [(7, .int .i64 (j : Nat))]) (fun j w2 => j ≤ k ∧ Below wn.heap.size wn w2 ∧ ∀ i, i < j → ∀ y, p[i]? = some y → keyN y x) (fun j => k - j) 0 (by repeat' (first | exact trivial | refine ⟨rfl, ?_⟩)) ⟨Nat.zero_le _, hw, by omega⟩ ?_
    clear hw
    rintro j w2 ⟨hj, hw, hi⟩
    simp only [List.cons_append, List.nil_append]
    by_cases hjk : j < k
    · obtain ⟨y, hyj⟩ : ∃ y, p[j]? = some y := ⟨_, List.getElem?_eq_getElem (by omega)⟩
      have hbad : ¬ keyN y x → Ending.returned (.bool false) = .returned (.bool (mayV p t)) := fun h => may_not fun hM => h (keyN_get hM hjk hyj hxk)
      have hjl : j < p.length := by omega
      have hnx : keyN y x → ∀ i, i < j + 1 → ∀ z, p[i]? = some z → keyN z x := fun h9 i hi9 z hz => by
        by_cases hij : i = j
        · subst hij; rw [hyj] at hz; injection hz with hz; subst hz; exact h9
        · exact hi i (by omega) z hz
      repeat' (first | (refine lw_pure rfl (pv_move rfl) ?_) | (refine is_cw ?_; first | (refine cw_seq ?_) | (refine cw_region ?_) | (refine cw_true rfl (by first | assumption | exact decide_eq_true (by omega) | exact dec_notT (by omega)) ?_) | (refine cw_skip ?_) | (refine cw_block ?_)) | (refine is_qw ?_; first | (with_reducible refine qw_then ?_)) | (refine lw_nil ?_) | ((refine is_bin ?_; first | (refine lw_pure rfl (pv_lss rfl rfl) ?_))))
      refine cw_drawn (fun w' => Below wn.heap.size wn w') (by kernel_rfl) (by repeat (first | exact NoPanic.body | with_reducible refine NoPanic.then ?_ | with_reducible refine NoPanic.inBlock ?_)) (fun hNP => ?_)
      have hS := hw.drew
      all_goals (refine at0 0 rfl (fun w' hq => pv_move rfl) ?_)
      all_goals (refine at0 1 rfl (fun w' hq => pv_move rfl) ?_)
      all_goals (refine at0 2 rfl (fun w' hq => pv_ian (tS rfl) rfl rfl (by omega)) ?_)
      all_goals (refine at0 3 rfl (fun w' hq => pv_fa (tF rfl) rfl) ?_)
      all_goals (refine at0 4 rfl (fun w' hq => pv_load (t1 rfl) rfl (by first | exact SlR.ld (HS.mono hq) hyj rfl | exact SlR.ld1 (HS.mono hq) hyj rfl | exact PT.ld0 (HX.mono hq) rfl | exact PT.ld (HX.mono hq) rfl)) ?_)
      all_goals (refine at0 5 rfl (fun w' hq => pv_fa (tF rfl) rfl) ?_)
      all_goals (refine at0 6 rfl (fun w' hq => pv_load (t1 rfl) rfl (by first | exact SlR.ld (HS.mono hq) hyj rfl | exact SlR.ld1 (HS.mono hq) hyj rfl | exact PT.ld0 (HX.mono hq) rfl | exact PT.ld (HX.mono hq) rfl)) ?_)
      all_goals (refine at0 7 rfl (fun w' hq => pv_eql rfl rfl) ?_)
      all_goals (refine at0 8 rfl (fun w' hq => pv_move rfl) ?_)
      all_goals (refine aw_gs 9 rfl rfl rfl (by kernel_rfl) (by kernel_rfl) (by kernel_rfl) hNP hS rfl (fun hc w' hq => pv_move rfl) (fun hc => ?_) (fun hc => ?_) <;> (first | replace hc := of_decide_eq_true hc | replace hc := of_decide_eq_false hc | replace hc := dec_nT hc | replace hc := dec_nF hc | skip) <;> (try (exfalso; omega)))
      all_goals first | (refine an2 10 rfl rfl rfl ?_) | (refine at2 10 rfl rfl rfl (fun w' hq => pv_move rfl) ?_)
      all_goals first | (refine an2 11 rfl rfl rfl ?_) | (refine at2 11 rfl rfl rfl (fun w' hq => pv_ian (tS rfl) rfl rfl (by omega)) ?_)
      all_goals first | (refine an2 12 rfl rfl rfl ?_) | (refine at2 12 rfl rfl rfl (fun w' hq => pv_fa (tF rfl) rfl) ?_)
      all_goals first | (refine an2 13 rfl rfl rfl ?_) | (refine at2 13 rfl rfl rfl (fun w' hq => pv_load (t1 rfl) rfl (by first | exact SlR.ld (HS.mono hq) hyj rfl | exact SlR.ld1 (HS.mono hq) hyj rfl | exact PT.ld0 (HX.mono hq) rfl | exact PT.ld (HX.mono hq) rfl)) ?_)
      all_goals first | (refine an2 14 rfl rfl rfl ?_) | (refine at2 14 rfl rfl rfl (fun w' hq => pv_fa (tF rfl) rfl) ?_)
      all_goals first | (refine an2 15 rfl rfl rfl ?_) | (refine at2 15 rfl rfl rfl (fun w' hq => pv_load (t1 rfl) rfl (by first | exact SlR.ld (HS.mono hq) hyj rfl | exact SlR.ld1 (HS.mono hq) hyj rfl | exact PT.ld0 (HX.mono hq) rfl | exact PT.ld (HX.mono hq) rfl)) ?_)
      all_goals first | (refine an2 16 rfl rfl rfl ?_) | (refine at2 16 rfl rfl rfl (fun w' hq => pv_gtr rfl rfl) ?_)
      all_goals first | (refine at0 17 rfl (fun w' hq => pv_pick_t rfl (by first | assumption | exact decide_eq_true (by omega) | exact dec_notT (by omega)) rfl) ?_) | (refine at0 17 rfl (fun w' hq => pv_pick_f rfl (by first | assumption | exact decide_eq_false (by omega) | exact dec_notF (by omega)) rfl) ?_)
      all_goals (refine at0 18 rfl (fun w' hq => pv_move rfl) ?_)
      all_goals first | (refine an1 19 rfl rfl rfl rfl ?_) | (refine aw_gs 19 rfl rfl rfl (by kernel_rfl) (by kernel_rfl) (by kernel_rfl) hNP hS rfl (fun hc w' hq => pv_move rfl) (fun hc => ?_) (fun hc => ?_) <;> (first | replace hc := of_decide_eq_true hc | replace hc := of_decide_eq_false hc | replace hc := dec_nT hc | replace hc := dec_nF hc | skip) <;> (try (exfalso; omega)))
      all_goals first | (refine an1 20 rfl rfl rfl rfl ?_) | (refine an2 20 rfl rfl rfl ?_) | (refine at2 20 rfl rfl rfl (fun w' hq => pv_move rfl) ?_)
      all_goals first | (refine an1 21 rfl rfl rfl rfl ?_) | (refine an2 21 rfl rfl rfl ?_) | (refine at2 21 rfl rfl rfl (fun w' hq => pv_ian (tS rfl) rfl rfl (by omega)) ?_)
      all_goals first | (refine an1 22 rfl rfl rfl rfl ?_) | (refine an2 22 rfl rfl rfl ?_) | (refine at2 22 rfl rfl rfl (fun w' hq => pv_fa (tF rfl) rfl) ?_)
      all_goals first | (refine an1 23 rfl rfl rfl rfl ?_) | (refine an2 23 rfl rfl rfl ?_) | (refine at2 23 rfl rfl rfl (fun w' hq => pv_load (t1 rfl) rfl (by first | exact SlR.ld (HS.mono hq) hyj rfl | exact SlR.ld1 (HS.mono hq) hyj rfl | exact PT.ld0 (HX.mono hq) rfl | exact PT.ld (HX.mono hq) rfl)) ?_)
      all_goals first | (refine an1 24 rfl rfl rfl rfl ?_) | (refine an2 24 rfl rfl rfl ?_) | (refine at2 24 rfl rfl rfl (fun w' hq => pv_fa (tF rfl) rfl) ?_)
      all_goals first | (refine an1 25 rfl rfl rfl rfl ?_) | (refine an2 25 rfl rfl rfl ?_) | (refine at2 25 rfl rfl rfl (fun w' hq => pv_load (t1 rfl) rfl (by first | exact SlR.ld (HS.mono hq) hyj rfl | exact SlR.ld1 (HS.mono hq) hyj rfl | exact PT.ld0 (HX.mono hq) rfl | exact PT.ld (HX.mono hq) rfl)) ?_)
      all_goals first | (refine an1 26 rfl rfl rfl rfl ?_) | (refine an2 26 rfl rfl rfl ?_) | (refine at2 26 rfl rfl rfl (fun w' hq => pv_eql rfl rfl) ?_)
      all_goals first | (refine an1 27 rfl rfl rfl rfl ?_) | (refine an2 27 rfl rfl rfl ?_) | (refine at2 27 rfl rfl rfl (fun w' hq => pv_move rfl) ?_)
      all_goals first | (refine an0 28 rfl rfl rfl ?_) | (refine aw_gs 28 rfl rfl rfl (by kernel_rfl) (by kernel_rfl) (by kernel_rfl) hNP hS rfl (fun hc w' hq => pv_move rfl) (fun hc => ?_) (fun hc => ?_) <;> (first | replace hc := of_decide_eq_true hc | replace hc := of_decide_eq_false hc | replace hc := dec_nT hc | replace hc := dec_nF hc | skip) <;> (try (exfalso; omega)))
      all_goals first | (refine an0 29 rfl rfl rfl ?_) | (refine an2 29 rfl rfl rfl ?_) | (refine at2 29 rfl rfl rfl (fun w' hq => pv_move rfl) ?_)
      all_goals first | (refine an0 30 rfl rfl rfl ?_) | (refine an2 30 rfl rfl rfl ?_) | (refine at2 30 rfl rfl rfl (fun w' hq => pv_ian (tS rfl) rfl rfl (by omega)) ?_)
      all_goals first | (refine an0 31 rfl rfl rfl ?_) | (refine an2 31 rfl rfl rfl ?_) | (refine at2 31 rfl rfl rfl (fun w' hq => pv_fa (tF rfl) rfl) ?_)
      all_goals first | (refine an0 32 rfl rfl rfl ?_) | (refine an2 32 rfl rfl rfl ?_) | (refine at2 32 rfl rfl rfl (fun w' hq => pv_load (t1 rfl) rfl (by first | exact SlR.ld (HS.mono hq) hyj rfl | exact SlR.ld1 (HS.mono hq) hyj rfl | exact PT.ld0 (HX.mono hq) rfl | exact PT.ld (HX.mono hq) rfl)) ?_)
      all_goals first | (refine an0 33 rfl rfl rfl ?_) | (refine an2 33 rfl rfl rfl ?_) | (refine at2 33 rfl rfl rfl (fun w' hq => pv_fa (tF rfl) rfl) ?_)
      all_goals first | (refine an0 34 rfl rfl rfl ?_) | (refine an2 34 rfl rfl rfl ?_) | (refine at2 34 rfl rfl rfl (fun w' hq => pv_load (t1 rfl) rfl (by first | exact SlR.ld (HS.mono hq) hyj rfl | exact SlR.ld1 (HS.mono hq) hyj rfl | exact PT.ld0 (HX.mono hq) rfl | exact PT.ld (HX.mono hq) rfl)) ?_)
      all_goals first | (refine an0 35 rfl rfl rfl ?_) | (refine an2 35 rfl rfl rfl ?_) | (refine at2 35 rfl rfl rfl (fun w' hq => pv_gtr rfl rfl) ?_)
      all_goals first | (refine an1 36 rfl rfl rfl rfl ?_) | (refine an2 36 rfl rfl rfl ?_) | (refine at2 36 rfl rfl rfl (fun w' hq => pv_pick_t rfl (by first | assumption | exact decide_eq_true (by omega) | exact dec_notT (by omega)) rfl) ?_) | (refine at2 36 rfl rfl rfl (fun w' hq => pv_pick_f rfl (by first | assumption | exact decide_eq_false (by omega) | exact dec_notF (by omega)) rfl) ?_)
      all_goals first | (refine at0 37 rfl (fun w' hq => pv_pick_t rfl rfl rfl) ?_) | (refine at0 37 rfl (fun w' hq => pv_pick_t rfl (by first | assumption | exact decide_eq_true (by omega) | exact dec_notT (by omega)) rfl) ?_) | (refine at0 37 rfl (fun w' hq => pv_pick_f rfl (by first | assumption | exact decide_eq_false (by omega) | exact dec_notF (by omega)) rfl) ?_)
      all_goals (refine aw_done (by kernel_rfl) ?_; replace hw := hS; clear hS hNP)
      repeat' (first | (refine lw_pure rfl (pv_move rfl) ?_) | (refine lw_pure rfl (pv_assign rfl) ?_) | (refine is_cw ?_; first | (refine cw_seq ?_) | (refine cw_region ?_) | (refine cw_true rfl rfl ?_) | (refine cw_false rfl rfl ?_) | (refine cw_skip ?_) | (refine cw_ret ?_)) | (refine is_qw ?_; first | (with_reducible refine qw_then ?_) | (with_reducible refine qw_in ?_) | (with_reducible refine qw_then_ret ?_) | (with_reducible refine qw_in_ret ?_)) | (refine lw_nil ?_) | ((refine is_bin ?_; first | (refine lw_pure rfl (pv_inc rfl rfl (by omega)) ?_))) | (refine is_cw ?_; refine cw_split rfl (fun hc => ?_) (fun hc => ?_) <;> (first | replace hc := of_decide_eq_true hc | replace hc := of_decide_eq_false hc | replace hc := dec_nT hc | replace hc := dec_nF hc | skip) <;> (try (exfalso; omega))))
      all_goals first | (refine qw_ret1 rfl rfl ⟨hbad ?_, grow_trans hW2 hw⟩; unfold keyN keyO; omega) | (refine qw_round (j + 1) (by repeat' (first | exact trivial | refine ⟨rfl, ?_⟩)) ⟨by omega, hw, hnx ?_⟩ (by omega); unfold keyN keyO; omega)
    · have hje : j = k := by omega
      subst hje
      repeat' (first | (refine lw_pure rfl (pv_move rfl) ?_) | (refine lw_pure rfl (pv_assign rfl) ?_) | (refine is_cw ?_; first | (refine cw_seq ?_) | (refine cw_region ?_) | (refine cw_false rfl (by first | assumption | exact decide_eq_false (by omega) | exact dec_notF (by omega)) ?_) | (refine cw_exit ?_)) | (refine is_qw ?_; first | (with_reducible refine qw_then ?_) | (with_reducible refine qw_in ?_) | (with_reducible refine qw_in_hit ?_) | (with_reducible refine qw_then_exit ?_)) | (refine lw_nil ?_) | ((refine is_bin ?_; first | (refine lw_pure rfl (pv_lss rfl rfl) ?_) | (refine lw_pure rfl (pv_inc rfl rfl (by omega)) ?_))))
      refine qw_round (j + 1) (by repeat' (first | exact trivial | refine ⟨rfl, ?_⟩)) ⟨by omega, grow_trans hW2 hw, ?_, pw_take hp hxk hi⟩ (by omega)
      intro i h9 z hz
      by_cases hij : i = j
      · subst hij; rw [hxk] at hz; injection hz with hz; subst hz; exact hx
      · exact hn i (by omega) z hz
  · have hkl : k = p.length := by omega
    subst hkl
    rw [List.take_length] at hp
    have hMO := all_of_get hn
    clear hn
    have hw := hW
    repeat' (first | (refine lw_pure rfl (pv_move rfl) ?_) | (refine lw_pure rfl (pv_assign rfl) ?_) | (refine is_cw ?_; first | (refine cw_seq ?_) | (refine cw_region ?_) | (refine cw_false rfl (by first | assumption | exact decide_eq_false (by omega) | exact dec_notF (by omega)) ?_) | (refine cw_block ?_) | (refine cw_exit ?_)) | (refine is_qw ?_; first | (with_reducible refine qw_then ?_) | (with_reducible refine qw_in_hit ?_) | (with_reducible refine qw_then_exit ?_)) | (refine lw_nil ?_) | ((refine is_bin ?_; first | (refine lw_pure rfl (pv_lss rfl rfl) ?_))) | ((refine is_bi ?_; first | (refine lw_pure rfl (pv_lenl (tS rfl) rfl) ?_))))
    refine cw_loop (σ := Nat) (fun k => [(0, .slice a p.length ca), (1, .slice b t.length cb), (8, .int .i64 (k : Nat))]) (fun k wr => k ≤ t.length ∧ Below w.heap.size w wr ∧ (∀ j, j < k → ∀ x, t[j]? = some x → MayL x) ∧ (t.take k).Pairwise keyT) (fun k => t.length - k) 0 (by repeat' (first | exact trivial | refine ⟨rfl, ?_⟩)) ⟨Nat.zero_le _, hw, by omega, by simp⟩ ?_
    clear hw hW
    rintro k wr ⟨hk, hW, hn, ht⟩
    by_cases hlt : k < t.length
    · have hxk : t[k]? = some t[k] := List.getElem?_eq_getElem hlt
      have hxj : t[k - 1]? = some (t[k - 1]'(by omega)) := List.getElem?_eq_getElem _
      have hidx : ((k : Int) - 1) = ((k - 1 : Nat) : Int) ∨ k = 0 := by omega
      obtain ⟨ab, ao, rfl, -, -⟩ := HL.at (by intro h; rw [h] at hlt; simp at hlt)
      generalize t[k] = x at hxk
      generalize t[k - 1] = y at hxj
      have hlt1 : k - 1 < t.length := by omega
      have HS := HL.mono hW
      have hw := Below.refl wr.heap.size wr
      repeat' (first | (refine lw_pure rfl (pv_move rfl) ?_) | (refine is_cw ?_; first | (refine cw_seq ?_) | (refine cw_region ?_) | (refine cw_true rfl (by first | assumption | exact decide_eq_true (by omega) | exact dec_notT (by omega)) ?_) | (refine cw_skip ?_) | (refine cw_block ?_)) | (refine is_qw ?_; first | (with_reducible refine qw_then ?_)) | (refine lw_nil ?_) | ((refine is_bin ?_; first | (refine lw_pure rfl (pv_lss rfl rfl) ?_))) | ((refine is_load ?_; first | (refine lw_pure rfl (pv_loada (tA rfl) rfl (by first | exact SlR.lda (HS.mono hw) hxk) (by rfl)) ?_))) | ((refine is_ia ?_; first | (refine lw_pure rfl (pv_ian (tS rfl) rfl rfl (by omega)) ?_))) | ((refine is_bi ?_; first | (refine lw_pure rfl (pv_lenl (tS rfl) rfl) ?_))))
      refine lw_varN rfl (by first | exact tyv_27 | exact tyv_28 | exact tyv_38 | exact tyv_39 | exact tyv_48 | exact tyv_49 | exact tyv_52 | exact tyv_53 | exact tyv_68 | exact tyv_69 | exact tyv_79 | exact tyv_80 | exact tyv_94 | exact tyv_95 | exact tyv_131 | exact tyv_132) rfl (tZ rfl) (fun _ => rfl) rfl rfl ?_; intro N wn hN HX hb; replace hN := Nat.le_trans hw.size hN; replace hw := grow_trans hw hb; clear hb
      have hW2 := grow_trans hW hw
      replace HS := HS.mono hw
      clear hW hN hw
      have hw := Below.refl wn.heap.size wn
      have hbad : ¬ MayL x → Ending.returned (.bool false) = .returned (.bool (mayV p t)) := fun h => may_not fun hM => h (hM.2.2.2.2.2 x (List.mem_of_getElem? hxk))
      have hnext : MayL x → ∀ j, j < k + 1 → ∀ z, t[j]? = some z → MayL z := fun hx j hj z hz => by
        by_cases hjk : j = k
        · subst hjk; rw [hxk] at hz; injection hz with hz; subst hz; exact hx
        · exact hn j (by omega) z hz
      obtain ⟨b1, hb1⟩ : ∃ b, decide (1 ≤ x.id ∧ x.id ≤ 1099511627776) = b := ⟨_, rfl⟩
      obtain ⟨b2, hb2⟩ : ∃ b, decide (1 ≤ x.seller ∧ x.seller ≤ 64) = b := ⟨_, rfl⟩
      obtain ⟨b3, hb3⟩ : ∃ b, decide (1 ≤ x.inst ∧ x.inst ≤ 16) = b := ⟨_, rfl⟩
      obtain ⟨b4, hb4⟩ : ∃ b, decide (1 ≤ x.qty ∧ x.qty ≤ 1048576) = b := ⟨_, rfl⟩
      by_cases hk0 : 0 < k
      · have hidx : ((k : Int) - 1) = ((k - 1 : Nat) : Int) := by omega
        have hbad2 : ¬ y.id < x.id → Ending.returned (.bool false) = .returned (.bool (mayV p t)) := fun h => may_not fun hM => h (pwg_get hM.2.2.1 (by omega) hxj hxk)
        have hcs : b1 = false ∨ (b1 = true ∧ b2 = false) ∨ (b1 = true ∧ b2 = true ∧ b3 = false) ∨ (b1 = true ∧ b2 = true ∧ b3 = true ∧ b4 = false) ∨ (b1 = true ∧ b2 = true ∧ b3 = true ∧ b4 = true ∧ ¬ y.id < x.id) ∨ (b1 = true ∧ b2 = true ∧ b3 = true ∧ b4 = true ∧ y.id < x.id) := by
          cases b1 <;> cases b2 <;> cases b3 <;> cases b4 <;> simp
          omega
        repeat' (first | (refine is_cw ?_; first | (refine cw_seq ?_)) | (refine is_qw ?_; first | (with_reducible refine qw_then ?_)) | (refine lw_nil ?_))
        refine cw_drawn (fun w' => Below wn.heap.size wn w') (by kernel_rfl) (by repeat (first | exact NoPanic.body | with_reducible refine NoPanic.then ?_ | with_reducible refine NoPanic.inBlock ?_)) (fun hNP => ?_)
        have hS := hw.drew
        all_goals (refine at0 0 rfl (fun w' hq => pv_fa (tF rfl) rfl) ?_)
        all_goals (refine at0 1 rfl (fun w' hq => pv_load (t1 rfl) rfl (by first | exact PT.ld0 (HX.mono hq) rfl | exact PT.ld (HX.mono hq) rfl | exact SlR.ld (HS.mono hq) hxj rfl | exact SlR.ld1 (HS.mono hq) hxj rfl)) ?_)
        all_goals (refine aw_act 2 (by kernel_rfl) rfl rfl rfl ?_; rcases hcs with rfl | ⟨rfl, rfl⟩ | ⟨rfl, rfl, rfl⟩ | ⟨rfl, rfl, rfl, rfl⟩ | ⟨rfl, rfl, rfl, rfl, hcs⟩ | ⟨rfl, rfl, rfl, rfl, hcs⟩ <;> (refine act_call (f := 93) (by kernel_rfl) rfl (rbtw_e hb1 _) ?_; rintro e w1 ⟨rfl, hb⟩; refine ⟨_, rfl, grow_trans hS hb, fun hS => ?_⟩))
        all_goals (refine at0 3 rfl (fun w' hq => pv_not rfl) ?_)
        all_goals (refine at0 4 rfl (fun w' hq => pv_move rfl) ?_)
        all_goals first | (refine an1 5 rfl rfl rfl rfl ?_) | (refine at1 5 rfl rfl rfl rfl (fun w' hq => pv_fa (tF rfl) rfl) ?_)
        all_goals first | (refine an1 6 rfl rfl rfl rfl ?_) | (refine at1 6 rfl rfl rfl rfl (fun w' hq => pv_load (t1 rfl) rfl (by first | exact PT.ld0 (HX.mono hq) rfl | exact PT.ld (HX.mono hq) rfl | exact SlR.ld (HS.mono hq) hxj rfl | exact SlR.ld1 (HS.mono hq) hxj rfl)) ?_)
        all_goals first | (refine an3 7 rfl rfl rfl ?_) | (refine an0 7 rfl rfl rfl ?_) | (refine aw_act_g 7 (by kernel_rfl) rfl rfl rfl (by first | rfl | assumption | exact decide_eq_true (by omega) | exact decide_eq_false (by omega) | exact dec_notT (by omega) | exact dec_notF (by omega)) rfl ?_; refine act_call (f := 93) (by kernel_rfl) rfl (rbtw_e hb2 _) ?_; rintro e w1 ⟨rfl, hb⟩; refine ⟨_, rfl, grow_trans hS hb, fun hS => ?_⟩)
        all_goals first | (refine an1 8 rfl rfl rfl rfl ?_) | (refine at1 8 rfl rfl rfl rfl (fun w' hq => pv_not rfl) ?_)
        all_goals first | (refine at0 9 rfl (fun w' hq => pv_pick_t rfl rfl rfl) ?_) | (refine at0 9 rfl (fun w' hq => pv_pick_f rfl rfl rfl) ?_)
        all_goals (refine at0 10 rfl (fun w' hq => pv_move rfl) ?_)
        all_goals first | (refine an1 11 rfl rfl rfl rfl ?_) | (refine at1 11 rfl rfl rfl rfl (fun w' hq => pv_fa (tF rfl) rfl) ?_)
        all_goals first | (refine an1 12 rfl rfl rfl rfl ?_) | (refine at1 12 rfl rfl rfl rfl (fun w' hq => pv_load (t1 rfl) rfl (by first | exact PT.ld0 (HX.mono hq) rfl | exact PT.ld (HX.mono hq) rfl | exact SlR.ld (HS.mono hq) hxj rfl | exact SlR.ld1 (HS.mono hq) hxj rfl)) ?_)
        all_goals first | (refine an3 13 rfl rfl rfl ?_) | (refine an0 13 rfl rfl rfl ?_) | (refine aw_act_g 13 (by kernel_rfl) rfl rfl rfl (by first | rfl | assumption | exact decide_eq_true (by omega) | exact decide_eq_false (by omega) | exact dec_notT (by omega) | exact dec_notF (by omega)) rfl ?_; refine act_call (f := 93) (by kernel_rfl) rfl (rbtw_e hb3 _) ?_; rintro e w1 ⟨rfl, hb⟩; refine ⟨_, rfl, grow_trans hS hb, fun hS => ?_⟩)
        all_goals first | (refine an1 14 rfl rfl rfl rfl ?_) | (refine at1 14 rfl rfl rfl rfl (fun w' hq => pv_not rfl) ?_)
        all_goals first | (refine at0 15 rfl (fun w' hq => pv_pick_t rfl rfl rfl) ?_) | (refine at0 15 rfl (fun w' hq => pv_pick_f rfl rfl rfl) ?_)
        all_goals (refine at0 16 rfl (fun w' hq => pv_move rfl) ?_)
        all_goals first | (refine an1 17 rfl rfl rfl rfl ?_) | (refine at1 17 rfl rfl rfl rfl (fun w' hq => pv_fa (tF rfl) rfl) ?_)
        all_goals first | (refine an1 18 rfl rfl rfl rfl ?_) | (refine at1 18 rfl rfl rfl rfl (fun w' hq => pv_load (t1 rfl) rfl (by first | exact PT.ld0 (HX.mono hq) rfl | exact PT.ld (HX.mono hq) rfl | exact SlR.ld (HS.mono hq) hxj rfl | exact SlR.ld1 (HS.mono hq) hxj rfl)) ?_)
        all_goals first | (refine an3 19 rfl rfl rfl ?_) | (refine an0 19 rfl rfl rfl ?_) | (refine aw_act_g 19 (by kernel_rfl) rfl rfl rfl (by first | rfl | assumption | exact decide_eq_true (by omega) | exact decide_eq_false (by omega) | exact dec_notT (by omega) | exact dec_notF (by omega)) rfl ?_; refine act_call (f := 93) (by kernel_rfl) rfl (rbtw_e hb4 _) ?_; rintro e w1 ⟨rfl, hb⟩; refine ⟨_, rfl, grow_trans hS hb, fun hS => ?_⟩)
        all_goals first | (refine an1 20 rfl rfl rfl rfl ?_) | (refine at1 20 rfl rfl rfl rfl (fun w' hq => pv_not rfl) ?_)
        all_goals first | (refine at0 21 rfl (fun w' hq => pv_pick_t rfl rfl rfl) ?_) | (refine at0 21 rfl (fun w' hq => pv_pick_f rfl rfl rfl) ?_)
        all_goals (refine at0 22 rfl (fun w' hq => pv_move rfl) ?_)
        all_goals first | (refine an1 23 rfl rfl rfl rfl ?_) | (refine at1 23 rfl rfl rfl rfl (fun w' hq => pv_move rfl) ?_)
        all_goals first | (refine an1 24 rfl rfl rfl rfl ?_) | (refine at1 24 rfl rfl rfl rfl (fun w' hq => pv_gtr rfl rfl) ?_)
        all_goals first | (refine an1 25 rfl rfl rfl rfl ?_) | (refine at1 25 rfl rfl rfl rfl (fun w' hq => pv_move rfl) ?_)
        all_goals first | (refine an0 26 rfl rfl rfl ?_) | (refine at2 26 rfl rfl rfl (fun w' hq => pv_fa (tF rfl) rfl) ?_)
        all_goals first | (refine an0 27 rfl rfl rfl ?_) | (refine at2 27 rfl rfl rfl (fun w' hq => pv_load (t1 rfl) rfl (by first | exact PT.ld0 (HX.mono hq) rfl | exact PT.ld (HX.mono hq) rfl | exact SlR.ld (HS.mono hq) hxj rfl | exact SlR.ld1 (HS.mono hq) hxj rfl)) ?_)
        all_goals first | (refine an0 28 rfl rfl rfl ?_) | (refine at2 28 rfl rfl rfl (fun w' hq => pv_move rfl) ?_)
        all_goals first | (refine an0 29 rfl rfl rfl ?_) | (refine at2 29 rfl rfl rfl (fun w' hq => pv_move rfl) ?_)
        all_goals first | (refine an0 30 rfl rfl rfl ?_) | (refine at2 30 rfl rfl rfl (fun w' hq => pv_sub rfl rfl (by omega)) ?_)
        all_goals first | (refine an0 31 rfl rfl rfl ?_) | (refine at2 31 rfl rfl rfl (fun w' hq => pv_iap hidx (tS rfl) rfl rfl hlt1) ?_)
        all_goals first | (refine an0 32 rfl rfl rfl ?_) | (refine at2 32 rfl rfl rfl (fun w' hq => pv_fa (tF rfl) rfl) ?_)
        all_goals first | (refine an0 33 rfl rfl rfl ?_) | (refine at2 33 rfl rfl rfl (fun w' hq => pv_load (t1 rfl) rfl (by first | exact PT.ld0 (HX.mono hq) rfl | exact PT.ld (HX.mono hq) rfl | exact SlR.ld (HS.mono hq) hxj rfl | exact SlR.ld1 (HS.mono hq) hxj rfl)) ?_)
        all_goals first | (refine an0 34 rfl rfl rfl ?_) | (refine at2 34 rfl rfl rfl (fun w' hq => pv_leq rfl rfl) ?_)
        all_goals first | (refine an1 35 rfl rfl rfl rfl ?_) | (refine at1 35 rfl rfl rfl rfl (fun w' hq => pv_pick_t rfl (by first | assumption | exact decide_eq_true (by omega) | exact dec_notT (by omega)) rfl) ?_)
        all_goals first | (refine at0 36 rfl (fun w' hq => pv_pick_t rfl rfl rfl) ?_) | (refine at0 36 rfl (fun w' hq => pv_pick_f rfl rfl rfl) ?_)
        all_goals (refine aw_done (by kernel_rfl) ?_; replace hw := hS; clear hS hNP)
        repeat' (first | (refine lw_pure rfl (pv_move rfl) ?_) | (refine lw_pure rfl (pv_assign rfl) ?_) | (refine is_cw ?_; first | (refine cw_seq ?_) | (refine cw_region ?_) | (refine cw_true rfl rfl ?_) | (refine cw_true rfl (by first | assumption | exact decide_eq_true (by omega) | exact dec_notT (by omega)) ?_) | (refine cw_false rfl (by first | assumption | exact decide_eq_false (by omega) | exact dec_notF (by omega)) ?_) | (refine cw_skip ?_) | (refine cw_ret ?_)) | (refine is_qw ?_; first | (with_reducible refine qw_then ?_) | (with_reducible refine qw_in ?_) | (with_reducible refine qw_then_ret ?_) | (with_reducible refine qw_in_ret ?_)) | (refine lw_nil ?_) | ((refine is_bin ?_; first | (refine lw_pure rfl (pv_inc rfl rfl (by omega)) ?_))))
        all_goals (simp only [decide_eq_true_eq, decide_eq_false_iff_not] at hb1 hb2 hb3 hb4)
        all_goals first | (refine qw_ret1 rfl rfl ⟨hbad ?_, grow_trans hW2 hw⟩; unfold MayL; omega) | (refine qw_ret1 rfl rfl ⟨hbad2 ?_, grow_trans hW2 hw⟩; omega) | (refine qw_round (k + 1) (by repeat' (first | exact trivial | refine ⟨rfl, ?_⟩)) ⟨by omega, grow_trans hW2 hw, hnext (by unfold MayL; omega), pwg_snoc (R := keyT) (fun _ _ _ h g => keyT_trans h g) ht hxk (Or.inr ⟨y, hxj, by unfold keyT; omega⟩)⟩ (by omega))
      · have hk00 : k = 0 := by omega
        subst hk00
        have hcs : b1 = false ∨ (b1 = true ∧ b2 = false) ∨ (b1 = true ∧ b2 = true ∧ b3 = false) ∨ (b1 = true ∧ b2 = true ∧ b3 = true ∧ b4 = false) ∨ (b1 = true ∧ b2 = true ∧ b3 = true ∧ b4 = true) := by
          cases b1 <;> cases b2 <;> cases b3 <;> cases b4 <;> simp
        repeat' (first | (refine is_cw ?_; first | (refine cw_seq ?_)) | (refine is_qw ?_; first | (with_reducible refine qw_then ?_)) | (refine lw_nil ?_))
        refine cw_drawn (fun w' => Below wn.heap.size wn w') (by kernel_rfl) (by repeat (first | exact NoPanic.body | with_reducible refine NoPanic.then ?_ | with_reducible refine NoPanic.inBlock ?_)) (fun hNP => ?_)
        have hS := hw.drew
        all_goals (refine at0 0 rfl (fun w' hq => pv_fa (tF rfl) rfl) ?_)
        all_goals (refine at0 1 rfl (fun w' hq => pv_load (t1 rfl) rfl (by first | exact PT.ld0 (HX.mono hq) rfl | exact PT.ld (HX.mono hq) rfl | exact SlR.ld (HS.mono hq) hxj rfl | exact SlR.ld1 (HS.mono hq) hxj rfl)) ?_)
        all_goals (refine aw_act 2 (by kernel_rfl) rfl rfl rfl ?_; rcases hcs with rfl | ⟨rfl, rfl⟩ | ⟨rfl, rfl, rfl⟩ | ⟨rfl, rfl, rfl, rfl⟩ | ⟨rfl, rfl, rfl, rfl⟩ <;> (refine act_call (f := 93) (by kernel_rfl) rfl (rbtw_e hb1 _) ?_; rintro e w1 ⟨rfl, hb⟩; refine ⟨_, rfl, grow_trans hS hb, fun hS => ?_⟩))
        all_goals (refine at0 3 rfl (fun w' hq => pv_not rfl) ?_)
        all_goals (refine at0 4 rfl (fun w' hq => pv_move rfl) ?_)
        all_goals first | (refine an1 5 rfl rfl rfl rfl ?_) | (refine at1 5 rfl rfl rfl rfl (fun w' hq => pv_fa (tF rfl) rfl) ?_)
        all_goals first | (refine an1 6 rfl rfl rfl rfl ?_) | (refine at1 6 rfl rfl rfl rfl (fun w' hq => pv_load (t1 rfl) rfl (by first | exact PT.ld0 (HX.mono hq) rfl | exact PT.ld (HX.mono hq) rfl | exact SlR.ld (HS.mono hq) hxj rfl | exact SlR.ld1 (HS.mono hq) hxj rfl)) ?_)
        all_goals first | (refine an3 7 rfl rfl rfl ?_) | (refine an0 7 rfl rfl rfl ?_) | (refine aw_act_g 7 (by kernel_rfl) rfl rfl rfl (by first | rfl | assumption | exact decide_eq_true (by omega) | exact decide_eq_false (by omega) | exact dec_notT (by omega) | exact dec_notF (by omega)) rfl ?_; refine act_call (f := 93) (by kernel_rfl) rfl (rbtw_e hb2 _) ?_; rintro e w1 ⟨rfl, hb⟩; refine ⟨_, rfl, grow_trans hS hb, fun hS => ?_⟩)
        all_goals first | (refine an1 8 rfl rfl rfl rfl ?_) | (refine at1 8 rfl rfl rfl rfl (fun w' hq => pv_not rfl) ?_)
        all_goals first | (refine at0 9 rfl (fun w' hq => pv_pick_t rfl rfl rfl) ?_) | (refine at0 9 rfl (fun w' hq => pv_pick_f rfl rfl rfl) ?_)
        all_goals (refine at0 10 rfl (fun w' hq => pv_move rfl) ?_)
        all_goals first | (refine an1 11 rfl rfl rfl rfl ?_) | (refine at1 11 rfl rfl rfl rfl (fun w' hq => pv_fa (tF rfl) rfl) ?_)
        all_goals first | (refine an1 12 rfl rfl rfl rfl ?_) | (refine at1 12 rfl rfl rfl rfl (fun w' hq => pv_load (t1 rfl) rfl (by first | exact PT.ld0 (HX.mono hq) rfl | exact PT.ld (HX.mono hq) rfl | exact SlR.ld (HS.mono hq) hxj rfl | exact SlR.ld1 (HS.mono hq) hxj rfl)) ?_)
        all_goals first | (refine an3 13 rfl rfl rfl ?_) | (refine an0 13 rfl rfl rfl ?_) | (refine aw_act_g 13 (by kernel_rfl) rfl rfl rfl (by first | rfl | assumption | exact decide_eq_true (by omega) | exact decide_eq_false (by omega) | exact dec_notT (by omega) | exact dec_notF (by omega)) rfl ?_; refine act_call (f := 93) (by kernel_rfl) rfl (rbtw_e hb3 _) ?_; rintro e w1 ⟨rfl, hb⟩; refine ⟨_, rfl, grow_trans hS hb, fun hS => ?_⟩)
        all_goals first | (refine an1 14 rfl rfl rfl rfl ?_) | (refine at1 14 rfl rfl rfl rfl (fun w' hq => pv_not rfl) ?_)
        all_goals first | (refine at0 15 rfl (fun w' hq => pv_pick_t rfl rfl rfl) ?_) | (refine at0 15 rfl (fun w' hq => pv_pick_f rfl rfl rfl) ?_)
        all_goals (refine at0 16 rfl (fun w' hq => pv_move rfl) ?_)
        all_goals first | (refine an1 17 rfl rfl rfl rfl ?_) | (refine at1 17 rfl rfl rfl rfl (fun w' hq => pv_fa (tF rfl) rfl) ?_)
        all_goals first | (refine an1 18 rfl rfl rfl rfl ?_) | (refine at1 18 rfl rfl rfl rfl (fun w' hq => pv_load (t1 rfl) rfl (by first | exact PT.ld0 (HX.mono hq) rfl | exact PT.ld (HX.mono hq) rfl | exact SlR.ld (HS.mono hq) hxj rfl | exact SlR.ld1 (HS.mono hq) hxj rfl)) ?_)
        all_goals first | (refine an3 19 rfl rfl rfl ?_) | (refine an0 19 rfl rfl rfl ?_) | (refine aw_act_g 19 (by kernel_rfl) rfl rfl rfl (by first | rfl | assumption | exact decide_eq_true (by omega) | exact decide_eq_false (by omega) | exact dec_notT (by omega) | exact dec_notF (by omega)) rfl ?_; refine act_call (f := 93) (by kernel_rfl) rfl (rbtw_e hb4 _) ?_; rintro e w1 ⟨rfl, hb⟩; refine ⟨_, rfl, grow_trans hS hb, fun hS => ?_⟩)
        all_goals first | (refine an1 20 rfl rfl rfl rfl ?_) | (refine at1 20 rfl rfl rfl rfl (fun w' hq => pv_not rfl) ?_)
        all_goals first | (refine at0 21 rfl (fun w' hq => pv_pick_t rfl rfl rfl) ?_) | (refine at0 21 rfl (fun w' hq => pv_pick_f rfl rfl rfl) ?_)
        all_goals (refine at0 22 rfl (fun w' hq => pv_move rfl) ?_)
        all_goals first | (refine an1 23 rfl rfl rfl rfl ?_) | (refine at1 23 rfl rfl rfl rfl (fun w' hq => pv_move rfl) ?_)
        all_goals first | (refine an1 24 rfl rfl rfl rfl ?_) | (refine at1 24 rfl rfl rfl rfl (fun w' hq => pv_gtr rfl rfl) ?_)
        all_goals first | (refine an1 25 rfl rfl rfl rfl ?_) | (refine at1 25 rfl rfl rfl rfl (fun w' hq => pv_move rfl) ?_)
        all_goals first | (refine an1 26 rfl rfl rfl rfl ?_) | (refine an0 26 rfl rfl rfl ?_)
        all_goals first | (refine an1 27 rfl rfl rfl rfl ?_) | (refine an0 27 rfl rfl rfl ?_)
        all_goals first | (refine an1 28 rfl rfl rfl rfl ?_) | (refine an0 28 rfl rfl rfl ?_)
        all_goals first | (refine an1 29 rfl rfl rfl rfl ?_) | (refine an0 29 rfl rfl rfl ?_)
        all_goals first | (refine an1 30 rfl rfl rfl rfl ?_) | (refine an0 30 rfl rfl rfl ?_)
        all_goals first | (refine an1 31 rfl rfl rfl rfl ?_) | (refine an0 31 rfl rfl rfl ?_)
        all_goals first | (refine an1 32 rfl rfl rfl rfl ?_) | (refine an0 32 rfl rfl rfl ?_)
        all_goals first | (refine an1 33 rfl rfl rfl rfl ?_) | (refine an0 33 rfl rfl rfl ?_)
        all_goals first | (refine an1 34 rfl rfl rfl rfl ?_) | (refine an0 34 rfl rfl rfl ?_)
        all_goals first | (refine an1 35 rfl rfl rfl rfl ?_) | (refine at1 35 rfl rfl rfl rfl (fun w' hq => pv_pick_f rfl rfl rfl) ?_)
        all_goals first | (refine at0 36 rfl (fun w' hq => pv_pick_t rfl rfl rfl) ?_) | (refine at0 36 rfl (fun w' hq => pv_pick_f rfl rfl rfl) ?_)
        all_goals (refine aw_done (by kernel_rfl) ?_; replace hw := hS; clear hS hNP)
        repeat' (first | (refine lw_pure rfl (pv_move rfl) ?_) | (refine lw_pure rfl (pv_assign rfl) ?_) | (refine is_cw ?_; first | (refine cw_seq ?_) | (refine cw_region ?_) | (refine cw_true rfl rfl ?_) | (refine cw_false rfl rfl ?_) | (refine cw_skip ?_) | (refine cw_ret ?_)) | (refine is_qw ?_; first | (with_reducible refine qw_then ?_) | (with_reducible refine qw_in ?_) | (with_reducible refine qw_then_ret ?_) | (with_reducible refine qw_in_ret ?_)) | (refine lw_nil ?_) | ((refine is_bin ?_; first | (refine lw_pure rfl (pv_inc rfl rfl (by omega)) ?_))))
        all_goals (simp only [decide_eq_true_eq, decide_eq_false_iff_not] at hb1 hb2 hb3 hb4)
        all_goals first | (refine qw_ret1 rfl rfl ⟨hbad ?_, grow_trans hW2 hw⟩; unfold MayL; omega) | (refine qw_round 1 (by repeat' (first | exact trivial | refine ⟨rfl, ?_⟩)) ⟨by omega, grow_trans hW2 hw, hnext (by unfold MayL; omega), pwg_snoc (R := keyT) (fun _ _ _ h g => keyT_trans h g) ht hxk (Or.inl rfl)⟩ (by omega))
    · have hkl : k = t.length := by omega
      subst hkl
      rw [List.take_length] at ht
      have hw := hW
      repeat' (first | (refine lw_pure rfl (pv_move rfl) ?_) | (refine lw_pure rfl (pv_assign rfl) ?_) | (refine is_cw ?_; first | (refine cw_seq ?_) | (refine cw_region ?_) | (refine cw_false rfl (by first | assumption | exact decide_eq_false (by omega) | exact dec_notF (by omega)) ?_) | (refine cw_exit ?_) | (refine cw_ret ?_)) | (refine is_qw ?_; first | (with_reducible refine qw_then ?_) | (with_reducible refine qw_in_hit ?_) | (with_reducible refine qw_then_exit ?_)) | (refine lw_nil ?_) | ((refine is_bin ?_; first | (refine lw_pure rfl (pv_lss rfl rfl) ?_))) | ((refine is_bi ?_; first | (refine lw_pure rfl (pv_lenl (tS rfl) rfl) ?_))))
      exact qw_ret1 rfl rfl ⟨ret_bool (mayV_iff.2 ⟨⟨hl, h32⟩, keyN_o hp, ht, hMO, keyN_n hp, all_of_get hn⟩).symm, hw⟩
end Go.Proofs.YtemngicaoacfaaaGreatDoor
namespace Go.Proofs.YtemngicaoacfaaaGreatDoor
open Go.RowKit Go.PlainAid

theorem rmayV_e {p : List Opn} {t : List Lt} {m n : Nat} {a b : Option Addr} {ca cb : Nat} {r : Bool} {w : World} (h : mayV p t = r) (hm : p.length = m) (hn : t.length = n) (HP : SlR encP 6 w a ca p) (HL : SlR encL 4 w b cb t) : Calls Tryz.prog 60 #[.slice a m ca, .slice b n cb] w fun e w' => e = .returned (.bool r) ∧ Below w.heap.size w w' := by
  subst h; exact rmayV_c hm hn HP HL
theorem rmayE_e {e : Evt} {m n : Nat} {a b : Option Addr} {ca cb : Nat} {r : Bool} {w : World} (h : mayE e = r) (hm : e.nums.length = m) (hn : e.texts.length = n) (HN : SlR encI 1 w a ca e.nums) (HT : SlR encT 1 w b cb e.texts) (hT : TxtIn e.texts) : Calls Tryz.prog 61 #[.agg #[.int .u8 e.v, .int .u8 e.kind, .slice a m ca, .slice b n cb]] w fun e1 w' => e1 = .returned (.bool r) ∧ Below w.heap.size w w' := by
  subst h; exact rmayE_c hm hn HN HT hT
theorem rfindP_e {p : List Opn} {m : Nat} {a : Option Addr} {ca : Nat} {w : World} {id : Int} {f : Option Opn} (h : findP p id = f) (hm : p.length = m) (HP : SlR encP 6 w a ca p) : Calls Tryz.prog 41 #[.slice a m ca, .int .i64 id] w fun e w' => e = .returned (.tuple #[.agg (encP (f.getD oZ)).toArray, .bool f.isSome]) ∧ Below w.heap.size w w' := by subst h; exact rfind_P id hm HP
theorem rfindT_e {p : List Lt} {m : Nat} {a : Option Addr} {ca : Nat} {w : World} {id : Int} {f : Option Lt} (h : findT p id = f) (hm : p.length = m) (HP : SlR encL 4 w a ca p) : Calls Tryz.prog 43 #[.slice a m ca, .int .i64 id] w fun e w' => e = .returned (.tuple #[.agg (encL (f.getD lZ)).toArray, .bool f.isSome]) ∧ Below w.heap.size w w' := by subst h; exact rfind_L id hm HP
theorem rfindP_s {p : List Opn} {m : Nat} {a : Option Addr} {ca : Nat} {w : World} {id : Int} {r : Opn} (h : findP p id = some r) (hm : p.length = m) (HP : SlR encP 6 w a ca p) : Calls Tryz.prog 41 #[.slice a m ca, .int .i64 id] w fun e w' => e = .returned (.tuple #[.agg (encP r).toArray, .bool true]) ∧ Below w.heap.size w w' := rfindP_e h hm HP
def RefR (w' : World) (e1 : Ending) (R : List Opn × List Lt × Int) : Prop := ∃ a c b d, e1 = .returned (.tuple #[.slice a R.1.length c, .slice b R.2.1.length d, .int .i64 R.2.2]) ∧ SlR encP 6 w' a c R.1 ∧ SlR encL 4 w' b d R.2.1
theorem nilP (w : World) : SlR encP 6 w none 0 [] := by
  obtain ⟨a, c, hv, hs, -⟩ := Own.slR encP_len (Own.nil (enc := encP) (k := 6) (T := 49) (base := 0) w)
  injection hv with h1 _ h3; subst h1 h3; exact hs
theorem nilL (w : World) : SlR encL 4 w none 0 [] := by
  obtain ⟨a, c, hv, hs, -⟩ := Own.slR encL_len (Own.nil (enc := encL) (k := 4) (T := 53) (base := 0) w)
  injection hv with h1 _ h3; subst h1 h3; exact hs
theorem ref_nil (w : World) (c : Int) : RefR w (.returned (.tuple #[.slice none 0 0, .slice none 0 0, .int .i64 c])) ([], [], c) := ⟨_, _, _, _, rfl, nilP w, nilL w⟩
theorem at_of {e : Evt} {ns : List Int} (h : e.nums = ns) {i : Nat} {n : Int} (hx : ns[i]? = some n) : e.nums[i]? = some n := by rw [h]; exact hx
theorem nth_of {e : Evt} {i : Nat} {n : Int} (hx : e.nums[i]? = some n) : nth e i = n := nth_eq rfl hx
set_option maxRecDepth 20000 in
set_option maxHeartbeats 8000000 in
theorem rev11_c {p : List Opn} {t : List Lt} {e : Evt} {mp mt mn mx : Nat} {ap at_ an ax : Option Addr} {cp ct cn cx : Nat} {w : World} (hmp : p.length = mp) (hmt : t.length = mt) (hmn : e.nums.length = mn) (hmx : e.texts.length = mx) (HP : SlR encP 6 w ap cp p) (HL : SlR encL 4 w at_ ct t) (HN : SlR encI 1 w an cn e.nums) (HX : SlR encT 1 w ax cx e.texts) (hT : TxtIn e.texts) (hg1 : mayV p t = true) (hg2 : e.v = 3) (hg3 : mayE e = true) (hk : e.kind = 11) : Calls Tryz.prog 39 #[.slice ap mp cp, .slice at_ mt ct, .agg #[.int .u8 e.v, .int .u8 e.kind, .slice an mn cn, .slice ax mx cx]] w fun e1 w' => RefR w' e1 (placedR p t e) ∧ Below w.heap.size w w' := by
  obtain ⟨n0, n1, n2, n3, n4, n5, hev, h0, h1, h2, h3, h4, h5⟩ := nums11 hg3 hg2 hk
  have hM := mayV_iff.1 hg1
  have hl1 := hM.1
  have hx0 := at_of (i := 0) hev rfl
  have hx1 := at_of (i := 1) hev rfl
  have hx2 := at_of (i := 2) hev rfl
  have hx3 := at_of (i := 3) hev rfl
  have hx4 := at_of (i := 4) hev rfl
  have hx5 := at_of (i := 5) hev rfl
  have hlen : e.nums.length = 6 := by rw [hev]; rfl
  have hR : placedR p t e = if (findP p n0).isSome then ([], [], 6) else if p.length = 128 then ([], [], 40) else (insP p ⟨n1, n0, n2, n3, n4, n5⟩, t, 0) := by unfold placedR; rw [nth_of hx0, nth_of hx1, nth_of hx2, nth_of hx3, nth_of hx4, nth_of hx5]
  rw [hR]
  clear hR hev hM
  obtain ⟨ab, ao, rfl, -, -⟩ := HN.at (by intro h; rw [h] at hlen; cases hlen)
  subst hmp hmt hmn hmx
  have hw := Below.refl w.heap.size w
  have hcn := HN.le
  have hcm := HN.max
  have hcp := HP.le
  have hcpm := HP.max
  have hct := HL.le
  have hctm := HL.max
  refine fn_enter 270 Tryz.func39 rfl rfl rfl ?_
  repeat' (first | (refine is_cw ?_; first | (refine cw_seq ?_) | (refine cw_region ?_)))
  refine lw_boxN rfl rfl (cs := [.int .u8 e.v, .int .u8 e.kind, .slice ((some ⟨ab, ao, none⟩)) e.nums.length cn, .slice ax e.texts.length cx]) rfl ?_; intro NE wE hNE H hb
  replace hw := grow_trans hw hb
  replace HP := HP.mono hw
  replace HL := HL.mono hw
  replace HN := HN.mono hw
  replace HX := HX.mono hw
  have hw0 := hw
  clear hw hb
  have hw := Below.refl wE.heap.size wE
  repeat' (first | (refine lw_pure rfl (pv_move rfl) ?_) | (refine lw_pure rfl (pv_assign rfl) ?_) | (refine lw_call (f := 60) (by kernel_rfl) rfl rfl (rmayV_e hg1 rfl rfl (HP.mono hw) (HL.mono hw)) ?_; rintro e w1 ⟨rfl, hb⟩; refine ⟨_, rfl, ?_⟩; replace hw := grow_trans hw hb; clear hb) | (refine lw_call (f := 61) (by kernel_rfl) rfl rfl (rmayE_e hg3 rfl rfl (HN.mono hw) (HX.mono hw) hT) ?_; rintro e w1 ⟨rfl, hb⟩; refine ⟨_, rfl, ?_⟩; replace hw := grow_trans hw hb; clear hb) | (refine is_cw ?_; first | (refine cw_seq ?_) | (refine cw_region ?_) | (refine cw_false rfl rfl ?_) | (refine cw_true rfl (by first | assumption | exact decide_eq_true (by omega) | exact dec_notT (by omega)) ?_) | (refine cw_skip ?_) | (refine cw_block ?_)) | (refine is_qw ?_; first | (with_reducible refine qw_then ?_)) | (refine lw_nil ?_) | (refine is_guarded ?_; first | (refine lw_on rfl rfl rfl ?_) | (refine lw_on rfl rfl (by first | assumption | exact decide_eq_true (by omega) | exact decide_eq_false (by omega) | exact dec_notT (by omega) | exact dec_notF (by omega)) ?_)) | ((refine is_bin ?_; first | (refine lw_pure rfl (pv_eql rfl rfl) ?_) | (refine lw_pure rfl (pv_neq rfl rfl) ?_))) | ((refine is_load ?_; first | (refine lw_pure rfl (pv_load (t1 rfl) rfl (by first | exact PT.ld0 (H.mono hw) rfl | exact PT.ld (H.mono hw) rfl)) ?_) | (refine lw_pure rfl (pv_loada (tA rfl) rfl (by first | exact PT.lda (H.mono hw)) (by rfl)) ?_))) | ((refine is_fa ?_; first | (refine lw_pure rfl (pv_fa (tF rfl) rfl) ?_))) | ((refine is_ia ?_; first | (refine lw_pure rfl (pv_ia (tS rfl) rfl rfl (by omega)) ?_))) | ((refine is_un ?_; first | (refine lw_pure rfl (pv_not rfl) ?_))) | (refine lw_pure rfl (pv_pick_f rfl rfl rfl) ?_) | (refine lw_pure rfl (pv_pick_f rfl (by first | assumption | exact decide_eq_false (by omega) | exact dec_notF (by omega)) rfl) ?_))
  cases hf : findP p n0 with
  | some r =>
    repeat' (first | (refine lw_pure rfl (pv_move rfl) ?_) | (refine lw_call (f := 41) (by kernel_rfl) rfl rfl (rfindP_e hf rfl (HP.mono hw)) ?_; rintro e w1 ⟨rfl, hb⟩; refine ⟨_, rfl, ?_⟩; replace hw := grow_trans hw hb; clear hb) | ((refine is_load ?_; first | (refine lw_pure rfl (pv_load (t1 rfl) rfl (by first | exact PT.ld0 (H.mono hw) rfl | exact PT.ld (H.mono hw) rfl | exact SlR.ld (HN.mono hw) hx0 rfl | exact SlR.ld1 (HN.mono hw) hx0 rfl)) ?_))) | (refine lw_pure rfl (pv_extract rfl rfl) ?_))
    refine lw_varN rfl (by first | exact tyv_27 | exact tyv_28 | exact tyv_38 | exact tyv_39 | exact tyv_48 | exact tyv_49 | exact tyv_52 | exact tyv_53 | exact tyv_68 | exact tyv_69 | exact tyv_79 | exact tyv_80 | exact tyv_94 | exact tyv_95 | exact tyv_131 | exact tyv_132) rfl (tZ rfl) (fun _ => rfl) rfl rfl ?_; intro N1 wn hN1 HF hb; replace hw := grow_trans hw hb; clear hb
    repeat' (first | (refine lw_pure rfl (pv_move rfl) ?_) | (refine lw_pure rfl (pv_assign rfl) ?_) | (refine is_cw ?_; first | (refine cw_seq ?_) | (refine cw_region ?_) | (refine cw_true rfl rfl ?_) | (refine cw_ret ?_)) | (refine is_qw ?_; first | (with_reducible refine qw_then ?_) | (with_reducible refine qw_then_ret ?_) | (with_reducible refine qw_in_ret ?_)) | (refine lw_nil ?_))
    exact qw_ret3 rfl rfl rfl rfl ⟨by rw [if_pos (by rfl)]; exact ref_nil _ _, grow_trans hw0 hw⟩
  | none =>
    repeat' (first | (refine lw_pure rfl (pv_move rfl) ?_) | (refine lw_call (f := 41) (by kernel_rfl) rfl rfl (rfindP_e hf rfl (HP.mono hw)) ?_; rintro e w1 ⟨rfl, hb⟩; refine ⟨_, rfl, ?_⟩; replace hw := grow_trans hw hb; clear hb) | ((refine is_load ?_; first | (refine lw_pure rfl (pv_load (t1 rfl) rfl (by first | exact PT.ld0 (H.mono hw) rfl | exact PT.ld (H.mono hw) rfl | exact SlR.ld (HN.mono hw) hx0 rfl | exact SlR.ld1 (HN.mono hw) hx0 rfl)) ?_))) | (refine lw_pure rfl (pv_extract rfl rfl) ?_))
    refine lw_varN rfl (by first | exact tyv_27 | exact tyv_28 | exact tyv_38 | exact tyv_39 | exact tyv_48 | exact tyv_49 | exact tyv_52 | exact tyv_53 | exact tyv_68 | exact tyv_69 | exact tyv_79 | exact tyv_80 | exact tyv_94 | exact tyv_95 | exact tyv_131 | exact tyv_132) rfl (tZ rfl) (fun _ => rfl) rfl rfl ?_; intro N1 wn hN1 HF hb; replace hw := grow_trans hw hb; clear hb
    by_cases h128 : p.length = 128
    · repeat' (first | (refine lw_pure rfl (pv_move rfl) ?_) | (refine lw_pure rfl (pv_assign rfl) ?_) | (refine is_cw ?_; first | (refine cw_seq ?_) | (refine cw_region ?_) | (refine cw_false rfl rfl ?_) | (refine cw_true rfl (by first | assumption | exact decide_eq_true (by omega) | exact dec_notT (by omega)) ?_) | (refine cw_skip ?_) | (refine cw_ret ?_)) | (refine is_qw ?_; first | (with_reducible refine qw_then ?_) | (with_reducible refine qw_then_ret ?_) | (with_reducible refine qw_in_ret ?_)) | (refine lw_nil ?_) | ((refine is_bin ?_; first | (refine lw_pure rfl (pv_eql rfl rfl) ?_))) | ((refine is_bi ?_; first | (refine lw_pure rfl (pv_lenl (tS rfl) rfl) ?_))))
      exact qw_ret3 rfl rfl rfl rfl ⟨by rw [if_neg (by simp), if_pos h128]; exact ref_nil _ _, grow_trans hw0 hw⟩
    · have hs8 : 0 ≤ n3 ∧ n3 ≤ 255 := by omega
      repeat' (first | (refine lw_pure rfl (pv_move rfl) ?_) | (refine lw_pure rfl (pv_assign rfl) ?_) | (refine is_cw ?_; first | (refine cw_seq ?_) | (refine cw_region ?_) | (refine cw_false rfl rfl ?_) | (refine cw_false rfl (by first | assumption | exact decide_eq_false (by omega) | exact dec_notF (by omega)) ?_) | (refine cw_skip ?_)) | (refine is_qw ?_; first | (with_reducible refine qw_then ?_)) | (refine lw_nil ?_) | ((refine is_bin ?_; first | (refine lw_pure rfl (pv_eql rfl rfl) ?_))) | ((refine is_bi ?_; first | (refine lw_pure rfl (pv_lenl (tS rfl) rfl) ?_))))
      refine cw_drawn (fun w' => Below wE.heap.size wE w') (by kernel_rfl) (by repeat (first | exact NoPanic.body | with_reducible refine NoPanic.then ?_ | with_reducible refine NoPanic.inBlock ?_)) (fun hNP => ?_)
      have hS := hw.drew
      (refine at0 0 rfl (fun w' hq => pv_move rfl) ?_)
      (refine at0 1 rfl (fun w' hq => pv_move rfl) ?_)
      (refine at0 2 rfl (fun w' hq => pv_ia (tS rfl) rfl rfl (by omega)) ?_)
      (refine at0 3 rfl (fun w' hq => pv_load (t1 rfl) rfl (by first | exact SlR.ld (HN.mono hq) hx0 rfl | exact SlR.ld1 (HN.mono hq) hx0 rfl | exact SlR.ld (HN.mono hq) hx1 rfl | exact SlR.ld1 (HN.mono hq) hx1 rfl | exact SlR.ld (HN.mono hq) hx2 rfl | exact SlR.ld1 (HN.mono hq) hx2 rfl | exact SlR.ld (HN.mono hq) hx3 rfl | exact SlR.ld1 (HN.mono hq) hx3 rfl | exact SlR.ld (HN.mono hq) hx4 rfl | exact SlR.ld1 (HN.mono hq) hx4 rfl | exact SlR.ld (HN.mono hq) hx5 rfl | exact SlR.ld1 (HN.mono hq) hx5 rfl)) ?_)
      (refine at0 4 rfl (fun w' hq => pv_move rfl) ?_)
      (refine at0 5 rfl (fun w' hq => pv_ia (tS rfl) rfl rfl (by omega)) ?_)
      (refine at0 6 rfl (fun w' hq => pv_load (t1 rfl) rfl (by first | exact SlR.ld (HN.mono hq) hx0 rfl | exact SlR.ld1 (HN.mono hq) hx0 rfl | exact SlR.ld (HN.mono hq) hx1 rfl | exact SlR.ld1 (HN.mono hq) hx1 rfl | exact SlR.ld (HN.mono hq) hx2 rfl | exact SlR.ld1 (HN.mono hq) hx2 rfl | exact SlR.ld (HN.mono hq) hx3 rfl | exact SlR.ld1 (HN.mono hq) hx3 rfl | exact SlR.ld (HN.mono hq) hx4 rfl | exact SlR.ld1 (HN.mono hq) hx4 rfl | exact SlR.ld (HN.mono hq) hx5 rfl | exact SlR.ld1 (HN.mono hq) hx5 rfl)) ?_)
      (refine at0 7 rfl (fun w' hq => pv_move rfl) ?_)
      (refine at0 8 rfl (fun w' hq => pv_ia (tS rfl) rfl rfl (by omega)) ?_)
      (refine at0 9 rfl (fun w' hq => pv_load (t1 rfl) rfl (by first | exact SlR.ld (HN.mono hq) hx0 rfl | exact SlR.ld1 (HN.mono hq) hx0 rfl | exact SlR.ld (HN.mono hq) hx1 rfl | exact SlR.ld1 (HN.mono hq) hx1 rfl | exact SlR.ld (HN.mono hq) hx2 rfl | exact SlR.ld1 (HN.mono hq) hx2 rfl | exact SlR.ld (HN.mono hq) hx3 rfl | exact SlR.ld1 (HN.mono hq) hx3 rfl | exact SlR.ld (HN.mono hq) hx4 rfl | exact SlR.ld1 (HN.mono hq) hx4 rfl | exact SlR.ld (HN.mono hq) hx5 rfl | exact SlR.ld1 (HN.mono hq) hx5 rfl)) ?_)
      (refine at0 10 rfl (fun w' hq => pv_move rfl) ?_)
      (refine at0 11 rfl (fun w' hq => pv_ia (tS rfl) rfl rfl (by omega)) ?_)
      (refine at0 12 rfl (fun w' hq => pv_load (t1 rfl) rfl (by first | exact SlR.ld (HN.mono hq) hx0 rfl | exact SlR.ld1 (HN.mono hq) hx0 rfl | exact SlR.ld (HN.mono hq) hx1 rfl | exact SlR.ld1 (HN.mono hq) hx1 rfl | exact SlR.ld (HN.mono hq) hx2 rfl | exact SlR.ld1 (HN.mono hq) hx2 rfl | exact SlR.ld (HN.mono hq) hx3 rfl | exact SlR.ld1 (HN.mono hq) hx3 rfl | exact SlR.ld (HN.mono hq) hx4 rfl | exact SlR.ld1 (HN.mono hq) hx4 rfl | exact SlR.ld (HN.mono hq) hx5 rfl | exact SlR.ld1 (HN.mono hq) hx5 rfl)) ?_)
      (refine at0 13 rfl (fun w' hq => pv_conv8 (tCv rfl rfl) rfl hs8) ?_)
      (refine at0 14 rfl (fun w' hq => pv_move rfl) ?_)
      (refine at0 15 rfl (fun w' hq => pv_ia (tS rfl) rfl rfl (by omega)) ?_)
      (refine at0 16 rfl (fun w' hq => pv_load (t1 rfl) rfl (by first | exact SlR.ld (HN.mono hq) hx0 rfl | exact SlR.ld1 (HN.mono hq) hx0 rfl | exact SlR.ld (HN.mono hq) hx1 rfl | exact SlR.ld1 (HN.mono hq) hx1 rfl | exact SlR.ld (HN.mono hq) hx2 rfl | exact SlR.ld1 (HN.mono hq) hx2 rfl | exact SlR.ld (HN.mono hq) hx3 rfl | exact SlR.ld1 (HN.mono hq) hx3 rfl | exact SlR.ld (HN.mono hq) hx4 rfl | exact SlR.ld1 (HN.mono hq) hx4 rfl | exact SlR.ld (HN.mono hq) hx5 rfl | exact SlR.ld1 (HN.mono hq) hx5 rfl)) ?_)
      (refine at0 17 rfl (fun w' hq => pv_move rfl) ?_)
      (refine at0 18 rfl (fun w' hq => pv_ia (tS rfl) rfl rfl (by omega)) ?_)
      (refine at0 19 rfl (fun w' hq => pv_load (t1 rfl) rfl (by first | exact SlR.ld (HN.mono hq) hx0 rfl | exact SlR.ld1 (HN.mono hq) hx0 rfl | exact SlR.ld (HN.mono hq) hx1 rfl | exact SlR.ld1 (HN.mono hq) hx1 rfl | exact SlR.ld (HN.mono hq) hx2 rfl | exact SlR.ld1 (HN.mono hq) hx2 rfl | exact SlR.ld (HN.mono hq) hx3 rfl | exact SlR.ld1 (HN.mono hq) hx3 rfl | exact SlR.ld (HN.mono hq) hx4 rfl | exact SlR.ld1 (HN.mono hq) hx4 rfl | exact SlR.ld (HN.mono hq) hx5 rfl | exact SlR.ld1 (HN.mono hq) hx5 rfl)) ?_)
      (refine at0 20 rfl (fun w' hq => tyB_49 rfl rfl rfl) ?_)
      (refine at0 22 rfl (fun w' hq => pv_move rfl) ?_)
      refine aw_act 21 (by kernel_rfl) rfl rfl rfl ?_
      refine act_call (f := 62) (by kernel_rfl) rfl (put_c ⟨n1, n0, n2, n3, n4, n5⟩ rfl (HP.mono hS) (by omega)) ?_; rintro e1 w5 ⟨⟨v, rfl, hO⟩, hb⟩; obtain ⟨va, vc, rfl, hV, -⟩ := Own.slR encP_len hO; clear hO; refine ⟨_, rfl, grow_trans hS hb, fun hS => ?_⟩
      (refine at0 23 rfl (fun w' hq => pv_assign rfl) ?_)
      (refine at0 24 rfl (fun w' hq => pv_assign rfl) ?_)
      (refine at0 25 rfl (fun w' hq => pv_assign rfl) ?_)
      refine aw_done (by kernel_rfl) ?_
      replace hw := hS; clear hS hNP
      repeat' (first | (refine is_cw ?_; first | (refine cw_ret ?_)) | (refine is_qw ?_; first | (with_reducible refine qw_then ?_) | (with_reducible refine qw_then_ret ?_) | (with_reducible refine qw_in_ret ?_)))
      exact qw_ret3 rfl rfl rfl rfl ⟨by rw [if_neg (by simp), if_neg h128]; exact ⟨_, _, _, _, rfl, hV, HL.mono hw⟩, grow_trans hw0 hw⟩
theorem left_in {p : List Opn} {t : List Lt} (h : MayV p t) : ∀ x ∈ p, 0 ≤ x.left ∧ x.left ≤ 1048576 := fun x hx => by
  have h1 := (h.2.2.2.1 x hx).2.2.2.2.2
  omega
theorem less_in {p : List Opn} {id q : Int} (hq : 0 ≤ q) (h : ∀ x ∈ p, 0 ≤ x.left ∧ x.left ≤ 1048576) : ∀ x ∈ lessP p id q, 0 ≤ x.left ∧ x.left ≤ 1048576 := fun x hx => by
  unfold lessP at hx
  obtain ⟨h1, h2⟩ := List.mem_filter.1 hx
  obtain ⟨y, hy, he⟩ := List.mem_map.1 h1
  have h3 := h y hy
  have h4 := of_decide_eq_true h2
  subst he
  unfold cutP at h4 ⊢
  split
  · rename_i hid
    rw [if_pos hid] at h4
    dsimp only at h4 ⊢
    omega
  · exact h3
set_option maxRecDepth 20000 in
set_option maxHeartbeats 8000000 in
theorem rev12_c {p : List Opn} {t : List Lt} {e : Evt} {mp mt mn mx : Nat} {ap at_ an ax : Option Addr} {cp ct cn cx : Nat} {w : World} (hmp : p.length = mp) (hmt : t.length = mt) (hmn : e.nums.length = mn) (hmx : e.texts.length = mx) (HP : SlR encP 6 w ap cp p) (HL : SlR encL 4 w at_ ct t) (HN : SlR encI 1 w an cn e.nums) (HX : SlR encT 1 w ax cx e.texts) (hT : TxtIn e.texts) (hg1 : mayV p t = true) (hg2 : e.v = 3) (hg3 : mayE e = true) (hk : e.kind = 12) : Calls Tryz.prog 39 #[.slice ap mp cp, .slice at_ mt ct, .agg #[.int .u8 e.v, .int .u8 e.kind, .slice an mn cn, .slice ax mx cx]] w fun e1 w' => RefR w' e1 (cancelR p t e) ∧ Below w.heap.size w w' := by
  obtain ⟨n0, hev, h0⟩ := nums12 hg3 hg2 hk
  have hM := mayV_iff.1 hg1
  have hl1 := hM.1
  have hlf := left_in hM
  have hx0 := at_of (i := 0) hev rfl
  have hlen : e.nums.length = 1 := by rw [hev]; rfl
  have hn0 := nth_of hx0
  clear hev
  obtain ⟨ab, ao, rfl, -, -⟩ := HN.at (by intro h; rw [h] at hlen; cases hlen)
  subst hmp hmt hmn hmx
  have hw := Below.refl w.heap.size w
  have hcn := HN.le
  have hcm := HN.max
  have hcp := HP.le
  have hcpm := HP.max
  have hct := HL.le
  have hctm := HL.max
  refine fn_enter 270 Tryz.func39 rfl rfl rfl ?_
  repeat' (first | (refine is_cw ?_; first | (refine cw_seq ?_) | (refine cw_region ?_)))
  refine lw_boxN rfl rfl (cs := [.int .u8 e.v, .int .u8 e.kind, .slice ((some ⟨ab, ao, none⟩)) e.nums.length cn, .slice ax e.texts.length cx]) rfl ?_; intro NE wE hNE H hb
  replace hw := grow_trans hw hb
  replace HP := HP.mono hw
  replace HL := HL.mono hw
  replace HN := HN.mono hw
  replace HX := HX.mono hw
  have hw0 := hw
  clear hw hb
  have hw := Below.refl wE.heap.size wE
  repeat' (first | (refine lw_pure rfl (pv_move rfl) ?_) | (refine lw_pure rfl (pv_assign rfl) ?_) | (refine lw_call (f := 60) (by kernel_rfl) rfl rfl (rmayV_e hg1 rfl rfl (HP.mono hw) (HL.mono hw)) ?_; rintro e w1 ⟨rfl, hb⟩; refine ⟨_, rfl, ?_⟩; replace hw := grow_trans hw hb; clear hb) | (refine lw_call (f := 61) (by kernel_rfl) rfl rfl (rmayE_e hg3 rfl rfl (HN.mono hw) (HX.mono hw) hT) ?_; rintro e w1 ⟨rfl, hb⟩; refine ⟨_, rfl, ?_⟩; replace hw := grow_trans hw hb; clear hb) | (refine is_cw ?_; first | (refine cw_seq ?_) | (refine cw_region ?_) | (refine cw_false rfl rfl ?_) | (refine cw_true rfl (by first | assumption | exact decide_eq_true (by omega) | exact dec_notT (by omega)) ?_) | (refine cw_false rfl (by first | assumption | exact decide_eq_false (by omega) | exact dec_notF (by omega)) ?_) | (refine cw_skip ?_) | (refine cw_block ?_)) | (refine is_qw ?_; first | (with_reducible refine qw_then ?_)) | (refine lw_nil ?_) | (refine is_guarded ?_; first | (refine lw_on rfl rfl rfl ?_) | (refine lw_on rfl rfl (by first | assumption | exact decide_eq_true (by omega) | exact decide_eq_false (by omega) | exact dec_notT (by omega) | exact dec_notF (by omega)) ?_)) | ((refine is_bin ?_; first | (refine lw_pure rfl (pv_eql rfl rfl) ?_) | (refine lw_pure rfl (pv_neq rfl rfl) ?_))) | ((refine is_load ?_; first | (refine lw_pure rfl (pv_load (t1 rfl) rfl (by first | exact PT.ld0 (H.mono hw) rfl | exact PT.ld (H.mono hw) rfl)) ?_) | (refine lw_pure rfl (pv_loada (tA rfl) rfl (by first | exact PT.lda (H.mono hw)) (by rfl)) ?_))) | ((refine is_fa ?_; first | (refine lw_pure rfl (pv_fa (tF rfl) rfl) ?_))) | ((refine is_ia ?_; first | (refine lw_pure rfl (pv_ia (tS rfl) rfl rfl (by omega)) ?_))) | ((refine is_un ?_; first | (refine lw_pure rfl (pv_not rfl) ?_))) | (refine lw_pure rfl (pv_pick_f rfl rfl rfl) ?_) | (refine lw_pure rfl (pv_pick_f rfl (by first | assumption | exact decide_eq_false (by omega) | exact dec_notF (by omega)) rfl) ?_))
  cases hf : findP p n0 with
  | none =>
    have hR : cancelR p t e = ([], [], 5) := by unfold cancelR; rw [hn0, hf]
    rw [hR]
    repeat' (first | (refine lw_pure rfl (pv_move rfl) ?_) | (refine lw_call (f := 41) (by kernel_rfl) rfl rfl (rfindP_e hf rfl (HP.mono hw)) ?_; rintro e w1 ⟨rfl, hb⟩; refine ⟨_, rfl, ?_⟩; replace hw := grow_trans hw hb; clear hb) | ((refine is_load ?_; first | (refine lw_pure rfl (pv_load (t1 rfl) rfl (by first | exact PT.ld0 (H.mono hw) rfl | exact PT.ld (H.mono hw) rfl | exact SlR.ld (HN.mono hw) hx0 rfl | exact SlR.ld1 (HN.mono hw) hx0 rfl)) ?_))) | (refine lw_pure rfl (pv_extract rfl rfl) ?_))
    refine lw_varN rfl (by first | exact tyv_27 | exact tyv_28 | exact tyv_38 | exact tyv_39 | exact tyv_48 | exact tyv_49 | exact tyv_52 | exact tyv_53 | exact tyv_68 | exact tyv_69 | exact tyv_79 | exact tyv_80 | exact tyv_94 | exact tyv_95 | exact tyv_131 | exact tyv_132) rfl (tZ rfl) (fun _ => rfl) rfl rfl ?_; intro N1 wn hN1 HF hb; replace hw := grow_trans hw hb; clear hb
    repeat' (first | (refine lw_pure rfl (pv_move rfl) ?_) | (refine lw_pure rfl (pv_assign rfl) ?_) | (refine is_cw ?_; first | (refine cw_seq ?_) | (refine cw_region ?_) | (refine cw_true rfl rfl ?_) | (refine cw_ret ?_)) | (refine is_qw ?_; first | (with_reducible refine qw_then ?_) | (with_reducible refine qw_then_ret ?_) | (with_reducible refine qw_in_ret ?_)) | (refine lw_nil ?_) | ((refine is_un ?_; first | (refine lw_pure rfl (pv_not rfl) ?_))))
    exact qw_ret3 rfl rfl rfl rfl ⟨ref_nil _ _, grow_trans hw0 hw⟩
  | some r =>
    have hR : cancelR p t e = (lessP p n0 r.left, t, 0) := by unfold cancelR; rw [hn0, hf]
    have hrl := hlf r (List.mem_of_find?_eq_some hf)
    rw [hR]
    repeat' (first | (refine lw_pure rfl (pv_move rfl) ?_) | (refine lw_call (f := 41) (by kernel_rfl) rfl rfl (rfindP_s hf rfl (HP.mono hw)) ?_; rintro e w1 ⟨rfl, hb⟩; refine ⟨_, rfl, ?_⟩; replace hw := grow_trans hw hb; clear hb) | ((refine is_load ?_; first | (refine lw_pure rfl (pv_load (t1 rfl) rfl (by first | exact PT.ld0 (H.mono hw) rfl | exact PT.ld (H.mono hw) rfl | exact SlR.ld (HN.mono hw) hx0 rfl | exact SlR.ld1 (HN.mono hw) hx0 rfl)) ?_))) | (refine lw_pure rfl (pv_extract rfl rfl) ?_))
    refine lw_varN rfl (by first | exact tyv_27 | exact tyv_28 | exact tyv_38 | exact tyv_39 | exact tyv_48 | exact tyv_49 | exact tyv_52 | exact tyv_53 | exact tyv_68 | exact tyv_69 | exact tyv_79 | exact tyv_80 | exact tyv_94 | exact tyv_95 | exact tyv_131 | exact tyv_132) rfl (tZ rfl) (fun _ => rfl) rfl rfl ?_; intro N1 wn hN1 HF hb; replace hw := grow_trans hw hb; clear hb
    repeat' (first | (refine lw_pure rfl (pv_move rfl) ?_) | (refine lw_pure rfl (pv_assign rfl) ?_) | (refine is_cw ?_; first | (refine cw_seq ?_) | (refine cw_region ?_) | (refine cw_false rfl rfl ?_) | (refine cw_skip ?_)) | (refine is_qw ?_; first | (with_reducible refine qw_then ?_)) | (refine lw_nil ?_) | ((refine is_un ?_; first | (refine lw_pure rfl (pv_not rfl) ?_))))
    have hwE := grow_trans hw0 hw
    replace HN := HN.mono hw
    replace HP := HP.mono hw
    replace HL := HL.mono hw
    clear hw
    have hw := Below.refl wn.heap.size wn
    refine cw_drawn (fun w' => Below wn.heap.size wn w') (by kernel_rfl) (by repeat (first | exact NoPanic.body | with_reducible refine NoPanic.then ?_ | with_reducible refine NoPanic.inBlock ?_)) (fun hNP => ?_)
    have hS := hw.drew
    (refine at0 0 rfl (fun w' hq => pv_move rfl) ?_)
    (refine at0 1 rfl (fun w' hq => pv_move rfl) ?_)
    (refine at0 2 rfl (fun w' hq => pv_ia (tS rfl) rfl rfl (by omega)) ?_)
    (refine at0 3 rfl (fun w' hq => pv_load (t1 rfl) rfl (by first | exact SlR.ld (HN.mono hq) hx0 rfl | exact SlR.ld1 (HN.mono hq) hx0 rfl | exact PT.ld0 (HF.mono hq) rfl | exact PT.ld (HF.mono hq) rfl)) ?_)
    (refine at0 4 rfl (fun w' hq => pv_fa (tF rfl) rfl) ?_)
    (refine at0 5 rfl (fun w' hq => pv_load (t1 rfl) rfl (by first | exact SlR.ld (HN.mono hq) hx0 rfl | exact SlR.ld1 (HN.mono hq) hx0 rfl | exact PT.ld0 (HF.mono hq) rfl | exact PT.ld (HF.mono hq) rfl)) ?_)
    (refine at0 7 rfl (fun w' hq => pv_move rfl) ?_)
    refine aw_act 6 (by kernel_rfl) rfl rfl rfl ?_
    refine act_call (f := 63) (by kernel_rfl) rfl (less_c n0 r.left rfl (HP.mono hS) (by omega) hlf hrl) ?_; rintro e1 w5 ⟨⟨v, rfl, hO⟩, hb⟩; obtain ⟨va, vc, rfl, hV, -⟩ := Own.slR encP_len hO; clear hO; refine ⟨_, rfl, grow_trans hS hb, fun hS => ?_⟩
    (refine at0 8 rfl (fun w' hq => pv_assign rfl) ?_)
    (refine at0 9 rfl (fun w' hq => pv_assign rfl) ?_)
    (refine at0 10 rfl (fun w' hq => pv_assign rfl) ?_)
    refine aw_done (by kernel_rfl) ?_
    replace hw := hS; clear hS hNP
    repeat' (first | (refine is_cw ?_; first | (refine cw_ret ?_)) | (refine is_qw ?_; first | (with_reducible refine qw_then ?_) | (with_reducible refine qw_then_ret ?_) | (with_reducible refine qw_in_ret ?_)))
    exact qw_ret3 rfl rfl rfl rfl ⟨⟨_, _, _, _, rfl, hV, HL.mono hw⟩, grow_trans hwE hw⟩
set_option maxRecDepth 20000 in
set_option maxHeartbeats 8000000 in
theorem rev13_c {p : List Opn} {t : List Lt} {e : Evt} {mp mt mn mx : Nat} {ap at_ an ax : Option Addr} {cp ct cn cx : Nat} {w : World} (hmp : p.length = mp) (hmt : t.length = mt) (hmn : e.nums.length = mn) (hmx : e.texts.length = mx) (HP : SlR encP 6 w ap cp p) (HL : SlR encL 4 w at_ ct t) (HN : SlR encI 1 w an cn e.nums) (HX : SlR encT 1 w ax cx e.texts) (hT : TxtIn e.texts) (hg1 : mayV p t = true) (hg2 : e.v = 3) (hg3 : mayE e = true) (hk : e.kind = 13) : Calls Tryz.prog 39 #[.slice ap mp cp, .slice at_ mt ct, .agg #[.int .u8 e.v, .int .u8 e.kind, .slice an mn cn, .slice ax mx cx]] w fun e1 w' => RefR w' e1 (tradedR p t e) ∧ Below w.heap.size w w' := by
  obtain ⟨n0, n1, n2, n3, n4, hev, h0, h1, h2, h3, h4⟩ := nums13 hg3 hg2 hk
  have hM := mayV_iff.1 hg1
  have hl1 := hM.1
  have hlf := left_in hM
  have hx0 := at_of (i := 0) hev rfl
  have hx1 := at_of (i := 1) hev rfl
  have hx3 := at_of (i := 3) hev rfl
  have hlen : e.nums.length = 5 := by rw [hev]; rfl
  have hn0 := nth_of hx0
  have hn1 := nth_of hx1
  have hn3 := nth_of hx3
  clear hev
  obtain ⟨ab, ao, rfl, -, -⟩ := HN.at (by intro h; rw [h] at hlen; cases hlen)
  subst hmp hmt hmn hmx
  have hw := Below.refl w.heap.size w
  have hcn := HN.le
  have hcm := HN.max
  have hcp := HP.le
  have hcpm := HP.max
  have hct := HL.le
  have hctm := HL.max
  refine fn_enter 270 Tryz.func39 rfl rfl rfl ?_
  repeat' (first | (refine is_cw ?_; first | (refine cw_seq ?_) | (refine cw_region ?_)))
  refine lw_boxN rfl rfl (cs := [.int .u8 e.v, .int .u8 e.kind, .slice ((some ⟨ab, ao, none⟩)) e.nums.length cn, .slice ax e.texts.length cx]) rfl ?_; intro NE wE hNE H hb
  replace hw := grow_trans hw hb
  replace HP := HP.mono hw
  replace HL := HL.mono hw
  replace HN := HN.mono hw
  replace HX := HX.mono hw
  have hw0 := hw
  clear hw hb
  have hw := Below.refl wE.heap.size wE
  repeat' (first | (refine lw_pure rfl (pv_move rfl) ?_) | (refine lw_pure rfl (pv_assign rfl) ?_) | (refine lw_call (f := 60) (by kernel_rfl) rfl rfl (rmayV_e hg1 rfl rfl (HP.mono hw) (HL.mono hw)) ?_; rintro e w1 ⟨rfl, hb⟩; refine ⟨_, rfl, ?_⟩; replace hw := grow_trans hw hb; clear hb) | (refine lw_call (f := 61) (by kernel_rfl) rfl rfl (rmayE_e hg3 rfl rfl (HN.mono hw) (HX.mono hw) hT) ?_; rintro e w1 ⟨rfl, hb⟩; refine ⟨_, rfl, ?_⟩; replace hw := grow_trans hw hb; clear hb) | (refine is_cw ?_; first | (refine cw_seq ?_) | (refine cw_region ?_) | (refine cw_false rfl rfl ?_) | (refine cw_true rfl (by first | assumption | exact decide_eq_true (by omega) | exact dec_notT (by omega)) ?_) | (refine cw_false rfl (by first | assumption | exact decide_eq_false (by omega) | exact dec_notF (by omega)) ?_) | (refine cw_skip ?_) | (refine cw_block ?_)) | (refine is_qw ?_; first | (with_reducible refine qw_then ?_)) | (refine lw_nil ?_) | (refine is_guarded ?_; first | (refine lw_on rfl rfl rfl ?_) | (refine lw_on rfl rfl (by first | assumption | exact decide_eq_true (by omega) | exact decide_eq_false (by omega) | exact dec_notT (by omega) | exact dec_notF (by omega)) ?_)) | ((refine is_bin ?_; first | (refine lw_pure rfl (pv_eql rfl rfl) ?_) | (refine lw_pure rfl (pv_neq rfl rfl) ?_))) | ((refine is_load ?_; first | (refine lw_pure rfl (pv_load (t1 rfl) rfl (by first | exact PT.ld0 (H.mono hw) rfl | exact PT.ld (H.mono hw) rfl)) ?_) | (refine lw_pure rfl (pv_loada (tA rfl) rfl (by first | exact PT.lda (H.mono hw)) (by rfl)) ?_))) | ((refine is_fa ?_; first | (refine lw_pure rfl (pv_fa (tF rfl) rfl) ?_))) | ((refine is_ia ?_; first | (refine lw_pure rfl (pv_ia (tS rfl) rfl rfl (by omega)) ?_))) | ((refine is_un ?_; first | (refine lw_pure rfl (pv_not rfl) ?_))) | (refine lw_pure rfl (pv_pick_f rfl rfl rfl) ?_) | (refine lw_pure rfl (pv_pick_f rfl (by first | assumption | exact decide_eq_false (by omega) | exact dec_notF (by omega)) rfl) ?_))
  cases hf : findP p n0 with
  | none =>
    have hR : tradedR p t e = ([], [], 5) := by unfold tradedR; rw [hn0, hf]
    rw [hR]
    obtain ⟨g, hg⟩ : ∃ g, findP p n1 = g := ⟨_, rfl⟩
    repeat' (first | (refine lw_pure rfl (pv_move rfl) ?_) | (refine lw_call (f := 41) (by kernel_rfl) rfl rfl (rfindP_e hf rfl (HP.mono hw)) ?_; rintro e w1 ⟨rfl, hb⟩; refine ⟨_, rfl, ?_⟩; replace hw := grow_trans hw hb; clear hb) | ((refine is_load ?_; first | (refine lw_pure rfl (pv_load (t1 rfl) rfl (by first | exact PT.ld0 (H.mono hw) rfl | exact PT.ld (H.mono hw) rfl | exact SlR.ld (HN.mono hw) hx0 rfl | exact SlR.ld1 (HN.mono hw) hx0 rfl)) ?_))) | (refine lw_pure rfl (pv_extract rfl rfl) ?_))
    refine lw_varN rfl (by first | exact tyv_27 | exact tyv_28 | exact tyv_38 | exact tyv_39 | exact tyv_48 | exact tyv_49 | exact tyv_52 | exact tyv_53 | exact tyv_68 | exact tyv_69 | exact tyv_79 | exact tyv_80 | exact tyv_94 | exact tyv_95 | exact tyv_131 | exact tyv_132) rfl (tZ rfl) (fun _ => rfl) rfl rfl ?_; intro N1 wn hN1 HF hb; replace hw := grow_trans hw hb; clear hb
    repeat' (first | (refine lw_pure rfl (pv_move rfl) ?_) | (refine lw_pure rfl (pv_assign rfl) ?_) | (refine lw_call (f := 41) (by kernel_rfl) rfl rfl (rfindP_e hg rfl (HP.mono hw)) ?_; rintro e w1 ⟨rfl, hb⟩; refine ⟨_, rfl, ?_⟩; replace hw := grow_trans hw hb; clear hb) | (refine is_cw ?_; first | (refine cw_seq ?_) | (refine cw_region ?_)) | (refine is_qw ?_; first | (with_reducible refine qw_then ?_)) | (refine lw_nil ?_) | ((refine is_load ?_; first | (refine lw_pure rfl (pv_load (t1 rfl) rfl (by first | exact SlR.ld (HN.mono hw) hx1 rfl | exact SlR.ld1 (HN.mono hw) hx1 rfl)) ?_))) | ((refine is_ia ?_; first | (refine lw_pure rfl (pv_ia (tS rfl) rfl rfl (by omega)) ?_))) | (refine lw_pure rfl (pv_extract rfl rfl) ?_))
    refine lw_varN rfl (by first | exact tyv_27 | exact tyv_28 | exact tyv_38 | exact tyv_39 | exact tyv_48 | exact tyv_49 | exact tyv_52 | exact tyv_53 | exact tyv_68 | exact tyv_69 | exact tyv_79 | exact tyv_80 | exact tyv_94 | exact tyv_95 | exact tyv_131 | exact tyv_132) rfl (tZ rfl) (fun _ => rfl) rfl rfl ?_; intro N2 wn hN2 HG hb; replace hw := grow_trans hw hb; clear hb
    repeat' (first | (refine lw_pure rfl (pv_move rfl) ?_) | (refine lw_pure rfl (pv_assign rfl) ?_) | (refine is_cw ?_; first | (refine cw_seq ?_) | (refine cw_region ?_) | (refine cw_true rfl rfl ?_) | (refine cw_ret ?_)) | (refine is_qw ?_; first | (with_reducible refine qw_then ?_) | (with_reducible refine qw_then_ret ?_) | (with_reducible refine qw_in_ret ?_)) | (refine lw_nil ?_) | (refine is_guarded ?_; first | (refine lw_not rfl rfl rfl rfl ?_)) | ((refine is_un ?_; first | (refine lw_pure rfl (pv_not rfl) ?_))) | (refine lw_pure rfl (pv_pick_t rfl rfl rfl) ?_))
    exact qw_ret3 rfl rfl rfl rfl ⟨ref_nil _ _, grow_trans hw0 hw⟩
  | some r =>
    cases hg : findP p n1 with
    | none =>
      have hR : tradedR p t e = ([], [], 5) := by unfold tradedR; rw [hn0, hn1, hf, hg]
      rw [hR]
      repeat' (first | (refine lw_pure rfl (pv_move rfl) ?_) | (refine lw_call (f := 41) (by kernel_rfl) rfl rfl (rfindP_e hf rfl (HP.mono hw)) ?_; rintro e w1 ⟨rfl, hb⟩; refine ⟨_, rfl, ?_⟩; replace hw := grow_trans hw hb; clear hb) | ((refine is_load ?_; first | (refine lw_pure rfl (pv_load (t1 rfl) rfl (by first | exact PT.ld0 (H.mono hw) rfl | exact PT.ld (H.mono hw) rfl | exact SlR.ld (HN.mono hw) hx0 rfl | exact SlR.ld1 (HN.mono hw) hx0 rfl)) ?_))) | (refine lw_pure rfl (pv_extract rfl rfl) ?_))
      refine lw_varN rfl (by first | exact tyv_27 | exact tyv_28 | exact tyv_38 | exact tyv_39 | exact tyv_48 | exact tyv_49 | exact tyv_52 | exact tyv_53 | exact tyv_68 | exact tyv_69 | exact tyv_79 | exact tyv_80 | exact tyv_94 | exact tyv_95 | exact tyv_131 | exact tyv_132) rfl (tZ rfl) (fun _ => rfl) rfl rfl ?_; intro N1 wn hN1 HF hb; replace hw := grow_trans hw hb; clear hb
      repeat' (first | (refine lw_pure rfl (pv_move rfl) ?_) | (refine lw_pure rfl (pv_assign rfl) ?_) | (refine lw_call (f := 41) (by kernel_rfl) rfl rfl (rfindP_e hg rfl (HP.mono hw)) ?_; rintro e w1 ⟨rfl, hb⟩; refine ⟨_, rfl, ?_⟩; replace hw := grow_trans hw hb; clear hb) | (refine is_cw ?_; first | (refine cw_seq ?_) | (refine cw_region ?_)) | (refine is_qw ?_; first | (with_reducible refine qw_then ?_)) | (refine lw_nil ?_) | ((refine is_load ?_; first | (refine lw_pure rfl (pv_load (t1 rfl) rfl (by first | exact SlR.ld (HN.mono hw) hx1 rfl | exact SlR.ld1 (HN.mono hw) hx1 rfl)) ?_))) | ((refine is_ia ?_; first | (refine lw_pure rfl (pv_ia (tS rfl) rfl rfl (by omega)) ?_))) | (refine lw_pure rfl (pv_extract rfl rfl) ?_))
      refine lw_varN rfl (by first | exact tyv_27 | exact tyv_28 | exact tyv_38 | exact tyv_39 | exact tyv_48 | exact tyv_49 | exact tyv_52 | exact tyv_53 | exact tyv_68 | exact tyv_69 | exact tyv_79 | exact tyv_80 | exact tyv_94 | exact tyv_95 | exact tyv_131 | exact tyv_132) rfl (tZ rfl) (fun _ => rfl) rfl rfl ?_; intro N2 wn hN2 HG hb; replace hw := grow_trans hw hb; clear hb
      repeat' (first | (refine lw_pure rfl (pv_move rfl) ?_) | (refine lw_pure rfl (pv_assign rfl) ?_) | (refine is_cw ?_; first | (refine cw_seq ?_) | (refine cw_region ?_) | (refine cw_true rfl rfl ?_) | (refine cw_ret ?_)) | (refine is_qw ?_; first | (with_reducible refine qw_then ?_) | (with_reducible refine qw_then_ret ?_) | (with_reducible refine qw_in_ret ?_)) | (refine lw_nil ?_) | (refine is_guarded ?_; first | (refine lw_on rfl rfl rfl ?_)) | ((refine is_un ?_; first | (refine lw_pure rfl (pv_not rfl) ?_))) | (refine lw_pure rfl (pv_pick_f rfl rfl rfl) ?_))
      exact qw_ret3 rfl rfl rfl rfl ⟨ref_nil _ _, grow_trans hw0 hw⟩
    | some s =>
      have hR : tradedR p t e = if n0 = n1 ∨ r.left < n3 ∨ s.left < n3 then ([], [], 1) else (lessP (lessP p n0 n3) n1 n3, t, 0) := by unfold tradedR; rw [hn0, hn1, hn3, hf, hg]
      rw [hR]
      clear hR
      have hlp := less_len p n0 n3
      have hlf2 := less_in (id := n0) (q := n3) (by omega) hlf
      repeat' (first | (refine lw_pure rfl (pv_move rfl) ?_) | (refine lw_call (f := 41) (by kernel_rfl) rfl rfl (rfindP_s hf rfl (HP.mono hw)) ?_; rintro e w1 ⟨rfl, hb⟩; refine ⟨_, rfl, ?_⟩; replace hw := grow_trans hw hb; clear hb) | ((refine is_load ?_; first | (refine lw_pure rfl (pv_load (t1 rfl) rfl (by first | exact PT.ld0 (H.mono hw) rfl | exact PT.ld (H.mono hw) rfl | exact SlR.ld (HN.mono hw) hx0 rfl | exact SlR.ld1 (HN.mono hw) hx0 rfl)) ?_))) | (refine lw_pure rfl (pv_extract rfl rfl) ?_))
      refine lw_varN rfl (by first | exact tyv_27 | exact tyv_28 | exact tyv_38 | exact tyv_39 | exact tyv_48 | exact tyv_49 | exact tyv_52 | exact tyv_53 | exact tyv_68 | exact tyv_69 | exact tyv_79 | exact tyv_80 | exact tyv_94 | exact tyv_95 | exact tyv_131 | exact tyv_132) rfl (tZ rfl) (fun _ => rfl) rfl rfl ?_; intro N1 wn hN1 HF hb; replace hw := grow_trans hw hb; clear hb
      have hwE := grow_trans hw0 hw
      replace HN := HN.mono hw
      replace HP := HP.mono hw
      replace HL := HL.mono hw
      clear hw
      have hw := Below.refl wn.heap.size wn
      clear hw0
      have hw0 := hwE
      clear hwE
      repeat' (first | (refine lw_pure rfl (pv_move rfl) ?_) | (refine lw_pure rfl (pv_assign rfl) ?_) | (refine lw_call (f := 41) (by kernel_rfl) rfl rfl (rfindP_s hg rfl (HP.mono hw)) ?_; rintro e w1 ⟨rfl, hb⟩; refine ⟨_, rfl, ?_⟩; replace hw := grow_trans hw hb; clear hb) | (refine is_cw ?_; first | (refine cw_seq ?_) | (refine cw_region ?_)) | (refine is_qw ?_; first | (with_reducible refine qw_then ?_)) | (refine lw_nil ?_) | ((refine is_load ?_; first | (refine lw_pure rfl (pv_load (t1 rfl) rfl (by first | exact SlR.ld (HN.mono hw) hx1 rfl | exact SlR.ld1 (HN.mono hw) hx1 rfl)) ?_))) | ((refine is_ia ?_; first | (refine lw_pure rfl (pv_ia (tS rfl) rfl rfl (by omega)) ?_))) | (refine lw_pure rfl (pv_extract rfl rfl) ?_))
      refine lw_varN rfl (by first | exact tyv_27 | exact tyv_28 | exact tyv_38 | exact tyv_39 | exact tyv_48 | exact tyv_49 | exact tyv_52 | exact tyv_53 | exact tyv_68 | exact tyv_69 | exact tyv_79 | exact tyv_80 | exact tyv_94 | exact tyv_95 | exact tyv_131 | exact tyv_132) rfl (tZ rfl) (fun _ => rfl) rfl rfl ?_; intro N2 wn hN2 HG hb; replace hw := grow_trans hw hb; clear hb
      replace HF := HF.mono hw
      have hwE := grow_trans hw0 hw
      replace HN := HN.mono hw
      replace HP := HP.mono hw
      replace HL := HL.mono hw
      clear hw
      have hw := Below.refl wn.heap.size wn
      repeat' (first | (refine lw_pure rfl (pv_move rfl) ?_) | (refine lw_pure rfl (pv_assign rfl) ?_) | (refine is_cw ?_; first | (refine cw_seq ?_) | (refine cw_region ?_) | (refine cw_false rfl rfl ?_) | (refine cw_skip ?_)) | (refine is_qw ?_; first | (with_reducible refine qw_then ?_)) | (refine lw_nil ?_) | (refine is_guarded ?_; first | (refine lw_on rfl rfl rfl ?_)) | ((refine is_un ?_; first | (refine lw_pure rfl (pv_not rfl) ?_))) | (refine lw_pure rfl (pv_pick_f rfl rfl rfl) ?_))
      refine cw_drawn (fun w' => Below wn.heap.size wn w') (by kernel_rfl) (by repeat (first | exact NoPanic.body | with_reducible refine NoPanic.then ?_ | with_reducible refine NoPanic.inBlock ?_)) (fun hNP => ?_)
      have hS := hw.drew
      all_goals (refine at0 0 rfl (fun w' hq => pv_move rfl) ?_)
      all_goals (refine at0 1 rfl (fun w' hq => pv_ia (tS rfl) rfl rfl (by omega)) ?_)
      all_goals (refine at0 2 rfl (fun w' hq => pv_load (t1 rfl) rfl (by first | exact SlR.ld (HN.mono hq) hx0 rfl | exact SlR.ld1 (HN.mono hq) hx0 rfl | exact SlR.ld (HN.mono hq) hx1 rfl | exact SlR.ld1 (HN.mono hq) hx1 rfl | exact SlR.ld (HN.mono hq) hx3 rfl | exact SlR.ld1 (HN.mono hq) hx3 rfl | exact PT.ld0 (HF.mono hq) rfl | exact PT.ld (HF.mono hq) rfl | exact PT.ld0 (HG.mono hq) rfl | exact PT.ld (HG.mono hq) rfl)) ?_)
      all_goals (refine at0 3 rfl (fun w' hq => pv_move rfl) ?_)
      all_goals (refine at0 4 rfl (fun w' hq => pv_ia (tS rfl) rfl rfl (by omega)) ?_)
      all_goals (refine at0 5 rfl (fun w' hq => pv_load (t1 rfl) rfl (by first | exact SlR.ld (HN.mono hq) hx0 rfl | exact SlR.ld1 (HN.mono hq) hx0 rfl | exact SlR.ld (HN.mono hq) hx1 rfl | exact SlR.ld1 (HN.mono hq) hx1 rfl | exact SlR.ld (HN.mono hq) hx3 rfl | exact SlR.ld1 (HN.mono hq) hx3 rfl | exact PT.ld0 (HF.mono hq) rfl | exact PT.ld (HF.mono hq) rfl | exact PT.ld0 (HG.mono hq) rfl | exact PT.ld (HG.mono hq) rfl)) ?_)
      all_goals (refine at0 6 rfl (fun w' hq => pv_eql rfl rfl) ?_)
      all_goals (refine at0 7 rfl (fun w' hq => pv_move rfl) ?_)
      all_goals (refine aw_gs 8 rfl rfl rfl (by kernel_rfl) (by kernel_rfl) (by kernel_rfl) hNP hS rfl (fun hc w' hq => pv_move rfl) (fun hc => ?_) (fun hc => ?_) <;> (first | replace hc := of_decide_eq_true hc | replace hc := of_decide_eq_false hc | replace hc := dec_nT hc | replace hc := dec_nF hc | skip) <;> (try (exfalso; omega)))
      all_goals first | (refine an2 9 rfl rfl rfl ?_) | (refine at2 9 rfl rfl rfl (fun w' hq => pv_ia (tS rfl) rfl rfl (by omega)) ?_)
      all_goals first | (refine an2 10 rfl rfl rfl ?_) | (refine at2 10 rfl rfl rfl (fun w' hq => pv_load (t1 rfl) rfl (by first | exact SlR.ld (HN.mono hq) hx0 rfl | exact SlR.ld1 (HN.mono hq) hx0 rfl | exact SlR.ld (HN.mono hq) hx1 rfl | exact SlR.ld1 (HN.mono hq) hx1 rfl | exact SlR.ld (HN.mono hq) hx3 rfl | exact SlR.ld1 (HN.mono hq) hx3 rfl | exact PT.ld0 (HF.mono hq) rfl | exact PT.ld (HF.mono hq) rfl | exact PT.ld0 (HG.mono hq) rfl | exact PT.ld (HG.mono hq) rfl)) ?_)
      all_goals first | (refine an2 11 rfl rfl rfl ?_) | (refine at2 11 rfl rfl rfl (fun w' hq => pv_fa (tF rfl) rfl) ?_)
      all_goals first | (refine an2 12 rfl rfl rfl ?_) | (refine at2 12 rfl rfl rfl (fun w' hq => pv_load (t1 rfl) rfl (by first | exact SlR.ld (HN.mono hq) hx0 rfl | exact SlR.ld1 (HN.mono hq) hx0 rfl | exact SlR.ld (HN.mono hq) hx1 rfl | exact SlR.ld1 (HN.mono hq) hx1 rfl | exact SlR.ld (HN.mono hq) hx3 rfl | exact SlR.ld1 (HN.mono hq) hx3 rfl | exact PT.ld0 (HF.mono hq) rfl | exact PT.ld (HF.mono hq) rfl | exact PT.ld0 (HG.mono hq) rfl | exact PT.ld (HG.mono hq) rfl)) ?_)
      all_goals first | (refine an2 13 rfl rfl rfl ?_) | (refine at2 13 rfl rfl rfl (fun w' hq => pv_gtr rfl rfl) ?_)
      all_goals first | (refine at0 14 rfl (fun w' hq => pv_pick_t rfl (by first | assumption | exact decide_eq_true (by omega) | exact dec_notT (by omega)) rfl) ?_) | (refine at0 14 rfl (fun w' hq => pv_pick_f rfl (by first | assumption | exact decide_eq_false (by omega) | exact dec_notF (by omega)) rfl) ?_)
      all_goals (refine at0 15 rfl (fun w' hq => pv_move rfl) ?_)
      all_goals first | (refine an1 16 rfl rfl rfl rfl ?_) | (refine aw_gs 16 rfl rfl rfl (by kernel_rfl) (by kernel_rfl) (by kernel_rfl) hNP hS rfl (fun hc w' hq => pv_move rfl) (fun hc => ?_) (fun hc => ?_) <;> (first | replace hc := of_decide_eq_true hc | replace hc := of_decide_eq_false hc | replace hc := dec_nT hc | replace hc := dec_nF hc | skip) <;> (try (exfalso; omega)))
      all_goals first | (refine an1 17 rfl rfl rfl rfl ?_) | (refine an2 17 rfl rfl rfl ?_) | (refine at2 17 rfl rfl rfl (fun w' hq => pv_ia (tS rfl) rfl rfl (by omega)) ?_)
      all_goals first | (refine an1 18 rfl rfl rfl rfl ?_) | (refine an2 18 rfl rfl rfl ?_) | (refine at2 18 rfl rfl rfl (fun w' hq => pv_load (t1 rfl) rfl (by first | exact SlR.ld (HN.mono hq) hx0 rfl | exact SlR.ld1 (HN.mono hq) hx0 rfl | exact SlR.ld (HN.mono hq) hx1 rfl | exact SlR.ld1 (HN.mono hq) hx1 rfl | exact SlR.ld (HN.mono hq) hx3 rfl | exact SlR.ld1 (HN.mono hq) hx3 rfl | exact PT.ld0 (HF.mono hq) rfl | exact PT.ld (HF.mono hq) rfl | exact PT.ld0 (HG.mono hq) rfl | exact PT.ld (HG.mono hq) rfl)) ?_)
      all_goals first | (refine an1 19 rfl rfl rfl rfl ?_) | (refine an2 19 rfl rfl rfl ?_) | (refine at2 19 rfl rfl rfl (fun w' hq => pv_fa (tF rfl) rfl) ?_)
      all_goals first | (refine an1 20 rfl rfl rfl rfl ?_) | (refine an2 20 rfl rfl rfl ?_) | (refine at2 20 rfl rfl rfl (fun w' hq => pv_load (t1 rfl) rfl (by first | exact SlR.ld (HN.mono hq) hx0 rfl | exact SlR.ld1 (HN.mono hq) hx0 rfl | exact SlR.ld (HN.mono hq) hx1 rfl | exact SlR.ld1 (HN.mono hq) hx1 rfl | exact SlR.ld (HN.mono hq) hx3 rfl | exact SlR.ld1 (HN.mono hq) hx3 rfl | exact PT.ld0 (HF.mono hq) rfl | exact PT.ld (HF.mono hq) rfl | exact PT.ld0 (HG.mono hq) rfl | exact PT.ld (HG.mono hq) rfl)) ?_)
      all_goals first | (refine an1 21 rfl rfl rfl rfl ?_) | (refine an2 21 rfl rfl rfl ?_) | (refine at2 21 rfl rfl rfl (fun w' hq => pv_gtr rfl rfl) ?_)
      all_goals first | (refine at0 22 rfl (fun w' hq => pv_pick_t rfl rfl rfl) ?_) | (refine at0 22 rfl (fun w' hq => pv_pick_t rfl (by first | assumption | exact decide_eq_true (by omega) | exact dec_notT (by omega)) rfl) ?_) | (refine at0 22 rfl (fun w' hq => pv_pick_f rfl (by first | assumption | exact decide_eq_false (by omega) | exact dec_notF (by omega)) rfl) ?_)
      all_goals (refine aw_done (by kernel_rfl) ?_; replace hw := hS; clear hS hNP)
      repeat' (first | (refine lw_pure rfl (pv_assign rfl) ?_) | (refine is_cw ?_; first | (refine cw_seq ?_) | (refine cw_region ?_) | (refine cw_true rfl rfl ?_) | (refine cw_skip ?_) | (refine cw_ret ?_)) | (refine is_qw ?_; first | (with_reducible refine qw_then ?_) | (with_reducible refine qw_then_ret ?_) | (with_reducible refine qw_in_ret ?_)) | (refine lw_nil ?_) | (refine is_cw ?_; refine cw_split rfl (fun hc => ?_) (fun hc => ?_) <;> (first | replace hc := of_decide_eq_true hc | replace hc := of_decide_eq_false hc | replace hc := dec_nT hc | replace hc := dec_nF hc | skip) <;> (try (exfalso; omega))))
      all_goals first | (exact qw_ret3 rfl rfl rfl rfl ⟨by rw [if_pos (by omega)]; exact ref_nil _ _, grow_trans hwE hw⟩) | skip
      rw [if_neg (by omega)]
      refine cw_drawn (fun w' => Below wn.heap.size wn w') (by kernel_rfl) (by repeat (first | exact NoPanic.body | with_reducible refine NoPanic.then ?_ | with_reducible refine NoPanic.inBlock ?_)) (fun hNP => ?_)
      have hS := hw.drew
      (refine at0 0 rfl (fun w' hq => pv_move rfl) ?_)
      (refine at0 1 rfl (fun w' hq => pv_move rfl) ?_)
      (refine at0 2 rfl (fun w' hq => pv_ia (tS rfl) rfl rfl (by omega)) ?_)
      (refine at0 3 rfl (fun w' hq => pv_load (t1 rfl) rfl (by first | exact SlR.ld (HN.mono hq) hx0 rfl | exact SlR.ld1 (HN.mono hq) hx0 rfl | exact SlR.ld (HN.mono hq) hx1 rfl | exact SlR.ld1 (HN.mono hq) hx1 rfl | exact SlR.ld (HN.mono hq) hx3 rfl | exact SlR.ld1 (HN.mono hq) hx3 rfl)) ?_)
      (refine at0 4 rfl (fun w' hq => pv_move rfl) ?_)
      (refine at0 5 rfl (fun w' hq => pv_ia (tS rfl) rfl rfl (by omega)) ?_)
      (refine at0 6 rfl (fun w' hq => pv_load (t1 rfl) rfl (by first | exact SlR.ld (HN.mono hq) hx0 rfl | exact SlR.ld1 (HN.mono hq) hx0 rfl | exact SlR.ld (HN.mono hq) hx1 rfl | exact SlR.ld1 (HN.mono hq) hx1 rfl | exact SlR.ld (HN.mono hq) hx3 rfl | exact SlR.ld1 (HN.mono hq) hx3 rfl)) ?_)
      (refine at0 8 rfl (fun w' hq => pv_move rfl) ?_)
      (refine at0 9 rfl (fun w' hq => pv_ia (tS rfl) rfl rfl (by omega)) ?_)
      (refine at0 10 rfl (fun w' hq => pv_load (t1 rfl) rfl (by first | exact SlR.ld (HN.mono hq) hx0 rfl | exact SlR.ld1 (HN.mono hq) hx0 rfl | exact SlR.ld (HN.mono hq) hx1 rfl | exact SlR.ld1 (HN.mono hq) hx1 rfl | exact SlR.ld (HN.mono hq) hx3 rfl | exact SlR.ld1 (HN.mono hq) hx3 rfl)) ?_)
      (refine at0 11 rfl (fun w' hq => pv_move rfl) ?_)
      (refine at0 12 rfl (fun w' hq => pv_ia (tS rfl) rfl rfl (by omega)) ?_)
      (refine at0 13 rfl (fun w' hq => pv_load (t1 rfl) rfl (by first | exact SlR.ld (HN.mono hq) hx0 rfl | exact SlR.ld1 (HN.mono hq) hx0 rfl | exact SlR.ld (HN.mono hq) hx1 rfl | exact SlR.ld1 (HN.mono hq) hx1 rfl | exact SlR.ld (HN.mono hq) hx3 rfl | exact SlR.ld1 (HN.mono hq) hx3 rfl)) ?_)
      (refine at0 15 rfl (fun w' hq => pv_move rfl) ?_)
      refine aw_act 7 (by kernel_rfl) rfl rfl rfl ?_
      refine act_call (f := 63) (by kernel_rfl) rfl (less_c n0 n3 rfl (HP.mono hS) (by omega) hlf (by omega)) ?_; rintro e1 w5 ⟨⟨v, rfl, hO⟩, hb⟩; obtain ⟨va, vc, rfl, hV, -⟩ := Own.slR encP_len hO; clear hO; refine ⟨_, rfl, grow_trans hS hb, fun hS => ?_⟩
      refine aw_act 14 (by kernel_rfl) rfl rfl rfl ?_
      refine act_call (f := 63) (by kernel_rfl) rfl (less_c n1 n3 rfl hV (by omega) hlf2 (by omega)) ?_; clear hV; rintro e1 w5 ⟨⟨v, rfl, hO⟩, hb⟩; obtain ⟨va, vc, rfl, hV, -⟩ := Own.slR encP_len hO; clear hO; refine ⟨_, rfl, grow_trans hS hb, fun hS => ?_⟩
      (refine at0 16 rfl (fun w' hq => pv_assign rfl) ?_)
      (refine at0 17 rfl (fun w' hq => pv_assign rfl) ?_)
      (refine at0 18 rfl (fun w' hq => pv_assign rfl) ?_)
      refine aw_done (by kernel_rfl) ?_
      replace hw := hS; clear hS hNP
      repeat' (first | (refine is_cw ?_; first | (refine cw_ret ?_)) | (refine is_qw ?_; first | (with_reducible refine qw_then ?_) | (with_reducible refine qw_then_ret ?_) | (with_reducible refine qw_in_ret ?_)))
      exact qw_ret3 rfl rfl rfl rfl ⟨⟨_, _, _, _, rfl, hV, HL.mono hw⟩, grow_trans hwE hw⟩
end Go.Proofs.YtemngicaoacfaaaGreatDoor
namespace Go.Proofs.YtemngicaoacfaaaGreatDoor
open Go.RowKit Go.PlainAid

theorem gone_take {t : List Lt} {k : Nat} {x : Lt} (id : Int) (h : t[k]? = some x) : gone (t.take (k + 1)) id = gone (t.take k) id ++ if x.id = id then [] else [x] := by
  unfold gone
  rw [take_snoc h, List.filter_append]
  congr 1
  by_cases hl : x.id = id <;> simp [hl]
theorem gone_len (t : List Lt) (id : Int) : (gone t id).length ≤ t.length := List.length_filter_le _ _
set_option maxRecDepth 20000 in
set_option maxHeartbeats 8000000 in
theorem rev14_c {p : List Opn} {t : List Lt} {e : Evt} {mp mt mn mx : Nat} {ap at_ an ax : Option Addr} {cp ct cn cx : Nat} {w : World} (hmp : p.length = mp) (hmt : t.length = mt) (hmn : e.nums.length = mn) (hmx : e.texts.length = mx) (HP : SlR encP 6 w ap cp p) (HL : SlR encL 4 w at_ ct t) (HN : SlR encI 1 w an cn e.nums) (HX : SlR encT 1 w ax cx e.texts) (hT : TxtIn e.texts) (hg1 : mayV p t = true) (hg2 : e.v = 3) (hg3 : mayE e = true) (hk : e.kind = 14) : Calls Tryz.prog 39 #[.slice ap mp cp, .slice at_ mt ct, .agg #[.int .u8 e.v, .int .u8 e.kind, .slice an mn cn, .slice ax mx cx]] w fun e1 w' => RefR w' e1 (openedR p t e) ∧ Below w.heap.size w w' := by
  obtain ⟨n0, n1, n2, n3, rs, hev, h0, h1, h2, h3⟩ := nums14 hg3 hg2 (Or.inl hk)
  have hM := mayV_iff.1 hg1
  have hl1 := hM.1
  have hx0 := at_of (i := 0) hev rfl
  have hx1 := at_of (i := 1) hev rfl
  have hx2 := at_of (i := 2) hev rfl
  have hx3 := at_of (i := 3) hev rfl
  have hlen : 3 < e.nums.length := by rw [hev]; simp
  have hn0 := nth_of hx0
  have hn1 := nth_of hx1
  have hn2 := nth_of hx2
  have hn3 := nth_of hx3
  clear hev hM
  obtain ⟨ab, ao, rfl, -, -⟩ := HN.at (by intro h; rw [h] at hlen; simp at hlen)
  subst hmp hmt hmn hmx
  have hw := Below.refl w.heap.size w
  have hcn := HN.le
  have hcm := HN.max
  have hcp := HP.le
  have hcpm := HP.max
  have hct := HL.le
  have hctm := HL.max
  refine fn_enter 270 Tryz.func39 rfl rfl rfl ?_
  repeat' (first | (refine is_cw ?_; first | (refine cw_seq ?_) | (refine cw_region ?_)))
  refine lw_boxN rfl rfl (cs := [.int .u8 e.v, .int .u8 e.kind, .slice ((some ⟨ab, ao, none⟩)) e.nums.length cn, .slice ax e.texts.length cx]) rfl ?_; intro NE wE hNE H hb
  replace hw := grow_trans hw hb
  replace HP := HP.mono hw
  replace HL := HL.mono hw
  replace HN := HN.mono hw
  replace HX := HX.mono hw
  have hw0 := hw
  clear hw hb
  have hw := Below.refl wE.heap.size wE
  repeat' (first | (refine lw_pure rfl (pv_move rfl) ?_) | (refine lw_pure rfl (pv_assign rfl) ?_) | (refine lw_call (f := 60) (by kernel_rfl) rfl rfl (rmayV_e hg1 rfl rfl (HP.mono hw) (HL.mono hw)) ?_; rintro e w1 ⟨rfl, hb⟩; refine ⟨_, rfl, ?_⟩; replace hw := grow_trans hw hb; clear hb) | (refine lw_call (f := 61) (by kernel_rfl) rfl rfl (rmayE_e hg3 rfl rfl (HN.mono hw) (HX.mono hw) hT) ?_; rintro e w1 ⟨rfl, hb⟩; refine ⟨_, rfl, ?_⟩; replace hw := grow_trans hw hb; clear hb) | (refine is_cw ?_; first | (refine cw_seq ?_) | (refine cw_region ?_) | (refine cw_false rfl rfl ?_) | (refine cw_true rfl (by first | assumption | exact decide_eq_true (by omega) | exact dec_notT (by omega)) ?_) | (refine cw_false rfl (by first | assumption | exact decide_eq_false (by omega) | exact dec_notF (by omega)) ?_) | (refine cw_skip ?_) | (refine cw_block ?_)) | (refine is_qw ?_; first | (with_reducible refine qw_then ?_)) | (refine lw_nil ?_) | (refine is_guarded ?_; first | (refine lw_on rfl rfl rfl ?_) | (refine lw_on rfl rfl (by first | assumption | exact decide_eq_true (by omega) | exact decide_eq_false (by omega) | exact dec_notT (by omega) | exact dec_notF (by omega)) ?_)) | ((refine is_bin ?_; first | (refine lw_pure rfl (pv_eql rfl rfl) ?_) | (refine lw_pure rfl (pv_neq rfl rfl) ?_))) | ((refine is_load ?_; first | (refine lw_pure rfl (pv_load (t1 rfl) rfl (by first | exact PT.ld0 (H.mono hw) rfl | exact PT.ld (H.mono hw) rfl)) ?_) | (refine lw_pure rfl (pv_loada (tA rfl) rfl (by first | exact PT.lda (H.mono hw)) (by rfl)) ?_))) | ((refine is_fa ?_; first | (refine lw_pure rfl (pv_fa (tF rfl) rfl) ?_))) | ((refine is_ia ?_; first | (refine lw_pure rfl (pv_ia (tS rfl) rfl rfl (by omega)) ?_))) | ((refine is_un ?_; first | (refine lw_pure rfl (pv_not rfl) ?_))) | (refine lw_pure rfl (pv_pick_f rfl rfl rfl) ?_) | (refine lw_pure rfl (pv_pick_f rfl (by first | assumption | exact decide_eq_false (by omega) | exact dec_notF (by omega)) rfl) ?_))
  cases hf : findT t n0 with
  | some r =>
    have hR : openedR p t e = ([], [], 6) := by unfold openedR; rw [hn0, hf, if_pos (by rfl)]
    rw [hR]
    repeat' (first | (refine lw_pure rfl (pv_move rfl) ?_) | (refine lw_call (f := 43) (by kernel_rfl) rfl rfl (rfindT_e hf rfl (HL.mono hw)) ?_; rintro e w1 ⟨rfl, hb⟩; refine ⟨_, rfl, ?_⟩; replace hw := grow_trans hw hb; clear hb) | ((refine is_load ?_; first | (refine lw_pure rfl (pv_load (t1 rfl) rfl (by first | exact PT.ld0 (H.mono hw) rfl | exact PT.ld (H.mono hw) rfl | exact SlR.ld (HN.mono hw) hx0 rfl | exact SlR.ld1 (HN.mono hw) hx0 rfl)) ?_))) | (refine lw_pure rfl (pv_extract rfl rfl) ?_))
    refine lw_varN rfl (by first | exact tyv_27 | exact tyv_28 | exact tyv_38 | exact tyv_39 | exact tyv_48 | exact tyv_49 | exact tyv_52 | exact tyv_53 | exact tyv_68 | exact tyv_69 | exact tyv_79 | exact tyv_80 | exact tyv_94 | exact tyv_95 | exact tyv_131 | exact tyv_132) rfl (tZ rfl) (fun _ => rfl) rfl rfl ?_; intro N1 wn hN1 HF hb; replace hw := grow_trans hw hb; clear hb
    repeat' (first | (refine lw_pure rfl (pv_move rfl) ?_) | (refine lw_pure rfl (pv_assign rfl) ?_) | (refine is_cw ?_; first | (refine cw_seq ?_) | (refine cw_region ?_) | (refine cw_true rfl rfl ?_) | (refine cw_ret ?_)) | (refine is_qw ?_; first | (with_reducible refine qw_then ?_) | (with_reducible refine qw_then_ret ?_) | (with_reducible refine qw_in_ret ?_)) | (refine lw_nil ?_))
    exact qw_ret3 rfl rfl rfl rfl ⟨ref_nil _ _, grow_trans hw0 hw⟩
  | none =>
    have hR : openedR p t e = if t.length = 32 then ([], [], 40) else (p, insT t ⟨n0, n1, n2, n3⟩, 0) := by unfold openedR; rw [hn0, hn1, hn2, hn3, hf, if_neg (by simp)]
    rw [hR]
    clear hR
    repeat' (first | (refine lw_pure rfl (pv_move rfl) ?_) | (refine lw_call (f := 43) (by kernel_rfl) rfl rfl (rfindT_e hf rfl (HL.mono hw)) ?_; rintro e w1 ⟨rfl, hb⟩; refine ⟨_, rfl, ?_⟩; replace hw := grow_trans hw hb; clear hb) | ((refine is_load ?_; first | (refine lw_pure rfl (pv_load (t1 rfl) rfl (by first | exact PT.ld0 (H.mono hw) rfl | exact PT.ld (H.mono hw) rfl | exact SlR.ld (HN.mono hw) hx0 rfl | exact SlR.ld1 (HN.mono hw) hx0 rfl)) ?_))) | (refine lw_pure rfl (pv_extract rfl rfl) ?_))
    refine lw_varN rfl (by first | exact tyv_27 | exact tyv_28 | exact tyv_38 | exact tyv_39 | exact tyv_48 | exact tyv_49 | exact tyv_52 | exact tyv_53 | exact tyv_68 | exact tyv_69 | exact tyv_79 | exact tyv_80 | exact tyv_94 | exact tyv_95 | exact tyv_131 | exact tyv_132) rfl (tZ rfl) (fun _ => rfl) rfl rfl ?_; intro N1 wn hN1 HF hb; replace hw := grow_trans hw hb; clear hb
    by_cases h32 : t.length = 32
    · rw [if_pos h32]
      repeat' (first | (refine lw_pure rfl (pv_move rfl) ?_) | (refine lw_pure rfl (pv_assign rfl) ?_) | (refine is_cw ?_; first | (refine cw_seq ?_) | (refine cw_region ?_) | (refine cw_false rfl rfl ?_) | (refine cw_true rfl (by first | assumption | exact decide_eq_true (by omega) | exact dec_notT (by omega)) ?_) | (refine cw_skip ?_) | (refine cw_ret ?_)) | (refine is_qw ?_; first | (with_reducible refine qw_then ?_) | (with_reducible refine qw_then_ret ?_) | (with_reducible refine qw_in_ret ?_)) | (refine lw_nil ?_) | ((refine is_bin ?_; first | (refine lw_pure rfl (pv_eql rfl rfl) ?_))) | ((refine is_bi ?_; first | (refine lw_pure rfl (pv_lenl (tS rfl) rfl) ?_))))
      exact qw_ret3 rfl rfl rfl rfl ⟨ref_nil _ _, grow_trans hw0 hw⟩
    · rw [if_neg h32]
      repeat' (first | (refine lw_pure rfl (pv_move rfl) ?_) | (refine lw_pure rfl (pv_assign rfl) ?_) | (refine is_cw ?_; first | (refine cw_seq ?_) | (refine cw_region ?_) | (refine cw_false rfl rfl ?_) | (refine cw_false rfl (by first | assumption | exact decide_eq_false (by omega) | exact dec_notF (by omega)) ?_) | (refine cw_skip ?_)) | (refine is_qw ?_; first | (with_reducible refine qw_then ?_)) | (refine lw_nil ?_) | ((refine is_bin ?_; first | (refine lw_pure rfl (pv_eql rfl rfl) ?_))) | ((refine is_bi ?_; first | (refine lw_pure rfl (pv_lenl (tS rfl) rfl) ?_))))
      have hwE := grow_trans hw0 hw
      replace HN := HN.mono hw
      replace HP := HP.mono hw
      replace HL := HL.mono hw
      clear hw
      have hw := Below.refl wn.heap.size wn
      refine cw_drawn (fun w' => Below wn.heap.size wn w') (by kernel_rfl) (by repeat (first | exact NoPanic.body | with_reducible refine NoPanic.then ?_ | with_reducible refine NoPanic.inBlock ?_)) (fun hNP => ?_)
      have hS := hw.drew
      (refine at0 0 rfl (fun w' hq => pv_move rfl) ?_)
      (refine at0 1 rfl (fun w' hq => pv_ia (tS rfl) rfl rfl (by omega)) ?_)
      (refine at0 2 rfl (fun w' hq => pv_load (t1 rfl) rfl (by first | exact SlR.ld (HN.mono hq) hx0 rfl | exact SlR.ld1 (HN.mono hq) hx0 rfl | exact SlR.ld (HN.mono hq) hx1 rfl | exact SlR.ld1 (HN.mono hq) hx1 rfl | exact SlR.ld (HN.mono hq) hx2 rfl | exact SlR.ld1 (HN.mono hq) hx2 rfl | exact SlR.ld (HN.mono hq) hx3 rfl | exact SlR.ld1 (HN.mono hq) hx3 rfl)) ?_)
      (refine at0 3 rfl (fun w' hq => pv_move rfl) ?_)
      (refine at0 4 rfl (fun w' hq => pv_ia (tS rfl) rfl rfl (by omega)) ?_)
      (refine at0 5 rfl (fun w' hq => pv_load (t1 rfl) rfl (by first | exact SlR.ld (HN.mono hq) hx0 rfl | exact SlR.ld1 (HN.mono hq) hx0 rfl | exact SlR.ld (HN.mono hq) hx1 rfl | exact SlR.ld1 (HN.mono hq) hx1 rfl | exact SlR.ld (HN.mono hq) hx2 rfl | exact SlR.ld1 (HN.mono hq) hx2 rfl | exact SlR.ld (HN.mono hq) hx3 rfl | exact SlR.ld1 (HN.mono hq) hx3 rfl)) ?_)
      (refine at0 6 rfl (fun w' hq => pv_move rfl) ?_)
      (refine at0 7 rfl (fun w' hq => pv_ia (tS rfl) rfl rfl (by omega)) ?_)
      (refine at0 8 rfl (fun w' hq => pv_load (t1 rfl) rfl (by first | exact SlR.ld (HN.mono hq) hx0 rfl | exact SlR.ld1 (HN.mono hq) hx0 rfl | exact SlR.ld (HN.mono hq) hx1 rfl | exact SlR.ld1 (HN.mono hq) hx1 rfl | exact SlR.ld (HN.mono hq) hx2 rfl | exact SlR.ld1 (HN.mono hq) hx2 rfl | exact SlR.ld (HN.mono hq) hx3 rfl | exact SlR.ld1 (HN.mono hq) hx3 rfl)) ?_)
      (refine at0 9 rfl (fun w' hq => pv_move rfl) ?_)
      (refine at0 10 rfl (fun w' hq => pv_ian (tS rfl) rfl rfl (by omega)) ?_)
      (refine at0 11 rfl (fun w' hq => pv_load (t1 rfl) rfl (by first | exact SlR.ld (HN.mono hq) hx0 rfl | exact SlR.ld1 (HN.mono hq) hx0 rfl | exact SlR.ld (HN.mono hq) hx1 rfl | exact SlR.ld1 (HN.mono hq) hx1 rfl | exact SlR.ld (HN.mono hq) hx2 rfl | exact SlR.ld1 (HN.mono hq) hx2 rfl | exact SlR.ld (HN.mono hq) hx3 rfl | exact SlR.ld1 (HN.mono hq) hx3 rfl)) ?_)
      (refine at0 12 rfl (fun w' hq => tyB_53 rfl rfl rfl) ?_)
      refine aw_act 13 (by kernel_rfl) rfl rfl rfl ?_
      refine act_alloc (by first | exact tyv_27 | exact tyv_28 | exact tyv_38 | exact tyv_39 | exact tyv_48 | exact tyv_49 | exact tyv_52 | exact tyv_53 | exact tyv_68 | exact tyv_69 | exact tyv_79 | exact tyv_80 | exact tyv_94 | exact tyv_95 | exact tyv_131 | exact tyv_132) rfl ?_; intro N w5 hN HA hb; have hNn := Nat.le_trans hS.size hN; refine ⟨grow_trans hS hb, fun hS => ?_⟩
      refine aw_act 14 (by kernel_rfl) rfl rfl rfl ?_
      refine act_storea HA (tZ rfl) rfl rfl rfl rfl (encL_one ⟨n0, n1, n2, n3⟩) ?_; intro w6 HB hg hz; refine ⟨st_hw hS hg hNn, fun hS => ?_⟩
      refine aw_done (by kernel_rfl) ?_
      replace hw := hS; clear hS hNP
      have hwF := grow_trans hwE hw
      replace HP := HP.mono hw
      replace HL := HL.mono hw
      clear hw HA hg hz hb
      have hw := Below.refl w6.heap.size w6
      obtain ⟨o, ho⟩ : ∃ o : Lt, o = ⟨n0, n1, n2, n3⟩ := ⟨_, rfl⟩
      have HA : PT w6 N 53 (encL o) := by rw [ho]; exact HB
      rw [← ho]
      clear HB
      repeat' (first | (refine lw_pure rfl (pv_assign rfl) ?_) | (refine is_cw ?_; first | (refine cw_seq ?_) | (refine cw_region ?_) | (refine cw_block ?_)) | (refine is_qw ?_; first | (with_reducible refine qw_then ?_)) | (refine lw_nil ?_))
      refine cw_loop (σ := Nat × Value × Bool × List Lt) (fun s => [(0, .slice ap p.length cp), (1, .slice at_ t.length ct), (20, s.2.1), (21, .pointer (some ⟨N, 0, none⟩)), (22, .bool s.2.2.1), (23, .int .i64 (s.1 : Nat))]) (fun s wr => s.1 ≤ t.length ∧ Below w6.heap.size w6 wr ∧ Own encL 4 53 w6.heap.size wr s.2.1 s.2.2.2 ∧ putJ t o s.1 s.2.2.1 s.2.2.2) (fun s => t.length - s.1) (0, .slice none 0 0, false, []) (by repeat' (first | exact trivial | refine ⟨rfl, ?_⟩)) ⟨Nat.zero_le _, hw, Own.nil _, Or.inl ⟨rfl, by simp, by simp⟩⟩ ?_
      clear hw
      rintro ⟨k, v, d, L⟩ wr ⟨hk, hw, hO, hI⟩
      dsimp only at hk hO hI
      change CW _ _ _ _ [(0, .slice ap p.length cp), (1, .slice at_ t.length ct), (20, v), (21, .pointer (some ⟨N, 0, none⟩)), (22, .bool d), (23, .int .i64 (k : Nat))] wr
      have hLl := hI.len
      by_cases hlt : k < t.length
      · have hxk : t[k]? = some t[k] := List.getElem?_eq_getElem hlt
        obtain ⟨tb, to, rfl, -, -⟩ := HL.at (by intro h; rw [h] at hlt; simp at hlt)
        generalize t[k] = x at hxk
        cases d with
        | true =>
          repeat' (first | (refine lw_pure rfl (pv_move rfl) ?_) | (refine is_cw ?_; first | (refine cw_seq ?_) | (refine cw_region ?_) | (refine cw_true rfl (by first | assumption | exact decide_eq_true (by omega) | exact dec_notT (by omega)) ?_) | (refine cw_skip ?_) | (refine cw_block ?_)) | (refine is_qw ?_; first | (with_reducible refine qw_then ?_)) | (refine lw_nil ?_) | ((refine is_bin ?_; first | (refine lw_pure rfl (pv_lss rfl rfl) ?_))) | ((refine is_bi ?_; first | (refine lw_pure rfl (pv_lenl (tS rfl) rfl) ?_))))
          have hO1 := hO.mono (below_drew _)
          refine cw_drawn (fun w' => Below w6.heap.size w6 w') (by kernel_rfl) (by repeat (first | exact NoPanic.body | with_reducible refine NoPanic.then ?_ | with_reducible refine NoPanic.inBlock ?_)) (fun hNP => ?_)
          have hS := hw.drew
          all_goals (refine at0 0 rfl (fun w' hq => pv_move rfl) ?_)
          all_goals (refine at0 1 rfl (fun w' hq => pv_not rfl) ?_)
          all_goals (refine at0 2 rfl (fun w' hq => pv_move rfl) ?_)
          all_goals (refine an1 3 rfl rfl rfl rfl ?_)
          all_goals (refine an1 4 rfl rfl rfl rfl ?_)
          all_goals (refine an1 5 rfl rfl rfl rfl ?_)
          all_goals (refine an1 6 rfl rfl rfl rfl ?_)
          all_goals (refine an1 7 rfl rfl rfl rfl ?_)
          all_goals (refine an1 8 rfl rfl rfl rfl ?_)
          all_goals (refine an1 9 rfl rfl rfl rfl ?_)
          all_goals (refine an1 10 rfl rfl rfl rfl ?_)
          all_goals (refine at0 11 rfl (fun w' hq => pv_pick_f rfl rfl rfl) ?_)
          all_goals (refine aw_done (by kernel_rfl) ?_; replace hw := hS; clear hS hNP)
          repeat' (first | (refine lw_pure rfl (pv_move rfl) ?_) | (refine is_cw ?_; first | (refine cw_region ?_) | (refine cw_false rfl rfl ?_) | (refine cw_skip ?_)) | (refine is_qw ?_; first | (with_reducible refine qw_then ?_)) | ((refine is_load ?_; first | (refine lw_pure rfl (pv_loada (tA rfl) rfl (by first | exact SlR.lda (HL.mono hw) hxk | exact PT.lda (HA.mono hw)) (by rfl)) ?_))) | ((refine is_ia ?_; first | (refine lw_pure rfl (pv_ian (tS rfl) rfl rfl (by omega)) ?_))))
          refine lw_bs (vs := [.agg (encL x).toArray]) (cs := encL x) elemL rfl rfl rfl (by omega) (by omega) rfl (by simp [Value.cells, encL]) ?_; intro wb HB hb hz9
          refine lw_app elemL encL_len encL_one rfl rfl rfl ((hO1).mono hb) (HB.slR (xs := [x]) encL_len rfl (by omega)) rfl (Nat.le_trans hw.size hb.size) (by simp; omega) (by simp [maxLen]; omega) ?_; intro v2 wc hO2 hg9 hb9
          replace hw := (grow_trans hw hb).trans hb9; clear hb hb9 hz9 HB hg9
          repeat' (first | (refine lw_pure rfl (pv_move rfl) ?_) | (refine lw_pure rfl (pv_assign rfl) ?_) | (refine is_cw ?_; first | (refine cw_region ?_)) | (refine is_qw ?_; first | (with_reducible refine qw_then ?_) | (with_reducible refine qw_in ?_)) | (refine lw_nil ?_) | ((refine is_bin ?_; first | (refine lw_pure rfl (pv_inc rfl rfl (by omega)) ?_))))
          exact qw_round (k + 1, v2, true, L ++ [x]) (by repeat' (first | exact trivial | refine ⟨rfl, ?_⟩)) ⟨by show k + 1 ≤ _; omega, hw, hO2, hI.past hxk⟩ (by show t.length - (k + 1) < t.length - k; omega)
        | false =>
          by_cases hkey : keyT o x
          · have c1 : o.id < x.id := hkey
            repeat' (first | (refine lw_pure rfl (pv_move rfl) ?_) | (refine is_cw ?_; first | (refine cw_seq ?_) | (refine cw_region ?_) | (refine cw_true rfl (by first | assumption | exact decide_eq_true (by omega) | exact dec_notT (by omega)) ?_) | (refine cw_skip ?_) | (refine cw_block ?_)) | (refine is_qw ?_; first | (with_reducible refine qw_then ?_)) | (refine lw_nil ?_) | ((refine is_bin ?_; first | (refine lw_pure rfl (pv_lss rfl rfl) ?_))) | ((refine is_bi ?_; first | (refine lw_pure rfl (pv_lenl (tS rfl) rfl) ?_))))
            have hO1 := hO.mono (below_drew _)
            refine cw_drawn (fun w' => Below w6.heap.size w6 w') (by kernel_rfl) (by repeat (first | exact NoPanic.body | with_reducible refine NoPanic.then ?_ | with_reducible refine NoPanic.inBlock ?_)) (fun hNP => ?_)
            have hS := hw.drew
            all_goals (refine at0 0 rfl (fun w' hq => pv_move rfl) ?_)
            all_goals (refine at0 1 rfl (fun w' hq => pv_not rfl) ?_)
            all_goals (refine at0 2 rfl (fun w' hq => pv_move rfl) ?_)
            all_goals (refine at1 3 rfl rfl rfl rfl (fun w' hq => pv_move rfl) ?_)
            all_goals (refine at1 4 rfl rfl rfl rfl (fun w' hq => pv_move rfl) ?_)
            all_goals (refine at1 5 rfl rfl rfl rfl (fun w' hq => pv_ian (tS rfl) rfl rfl (by omega)) ?_)
            all_goals (refine at1 6 rfl rfl rfl rfl (fun w' hq => pv_fa (tF rfl) rfl) ?_)
            all_goals (refine at1 7 rfl rfl rfl rfl (fun w' hq => pv_load (t1 rfl) rfl (by first | exact SlR.ld (HL.mono hq) hxk rfl | exact SlR.ld1 (HL.mono hq) hxk rfl | exact PT.ld0 (HA.mono hq) rfl | exact PT.ld (HA.mono hq) rfl)) ?_)
            all_goals (refine at1 8 rfl rfl rfl rfl (fun w' hq => pv_fa (tF rfl) rfl) ?_)
            all_goals (refine at1 9 rfl rfl rfl rfl (fun w' hq => pv_load (t1 rfl) rfl (by first | exact SlR.ld (HL.mono hq) hxk rfl | exact SlR.ld1 (HL.mono hq) hxk rfl | exact PT.ld0 (HA.mono hq) rfl | exact PT.ld (HA.mono hq) rfl)) ?_)
            all_goals (refine at1 10 rfl rfl rfl rfl (fun w' hq => pv_gtr rfl rfl) ?_)
            all_goals (refine at0 11 rfl (fun w' hq => pv_pick_t rfl rfl rfl) ?_)
            all_goals (refine aw_done (by kernel_rfl) ?_; replace hw := hS; clear hS hNP)
            repeat' (first | (refine lw_pure rfl (pv_move rfl) ?_) | (refine is_cw ?_; first | (refine cw_seq ?_) | (refine cw_region ?_) | (refine cw_true rfl (by first | assumption | exact decide_eq_true (by omega) | exact dec_notT (by omega)) ?_)) | (refine is_qw ?_; first | (with_reducible refine qw_then ?_)) | ((refine is_load ?_; first | (refine lw_pure rfl (pv_loada (tA rfl) rfl (by first | exact SlR.lda (HL.mono hw) hxk | exact PT.lda (HA.mono hw)) (by rfl)) ?_))))
            refine lw_bs (vs := [.agg (encL o).toArray]) (cs := encL o) elemL rfl rfl rfl (by omega) (by omega) rfl (by simp [Value.cells, encL]) ?_; intro wb HB hb hz9
            refine lw_app elemL encL_len encL_one rfl rfl rfl ((hO1).mono hb) (HB.slR (xs := [o]) encL_len rfl (by omega)) rfl (Nat.le_trans hw.size hb.size) (by simp; omega) (by simp [maxLen]; omega) ?_; intro v2 wc hO2 hg9 hb9
            replace hw := (grow_trans hw hb).trans hb9; clear hb hb9 hz9 HB hg9
            repeat' (first | (refine lw_pure rfl (pv_move rfl) ?_) | (refine lw_pure rfl (pv_assign rfl) ?_) | (refine is_cw ?_; first | (refine cw_region ?_)) | (refine is_qw ?_; first | (with_reducible refine qw_then ?_)) | (refine lw_nil ?_) | ((refine is_load ?_; first | (refine lw_pure rfl (pv_loada (tA rfl) rfl (by first | exact SlR.lda (HL.mono hw) hxk | exact PT.lda (HA.mono hw)) (by rfl)) ?_))) | ((refine is_ia ?_; first | (refine lw_pure rfl (pv_ian (tS rfl) rfl rfl (by omega)) ?_))))
            refine lw_bs (vs := [.agg (encL x).toArray]) (cs := encL x) elemL rfl rfl rfl (by omega) (by omega) rfl (by simp [Value.cells, encL]) ?_; intro wb HB hb hz9
            refine lw_app elemL encL_len encL_one rfl rfl rfl ((hO2).mono hb) (HB.slR (xs := [x]) encL_len rfl (by omega)) rfl (Nat.le_trans hw.size hb.size) (by simp; omega) (by simp [maxLen]; omega) ?_; intro v3 wc hO3 hg9 hb9
            replace hw := (grow_trans hw hb).trans hb9; clear hb hb9 hz9 HB hg9
            repeat' (first | (refine lw_pure rfl (pv_move rfl) ?_) | (refine lw_pure rfl (pv_assign rfl) ?_) | (refine is_cw ?_; first | (refine cw_region ?_)) | (refine is_qw ?_; first | (with_reducible refine qw_then ?_) | (with_reducible refine qw_in ?_)) | (refine lw_nil ?_) | ((refine is_bin ?_; first | (refine lw_pure rfl (pv_inc rfl rfl (by omega)) ?_))))
            exact qw_round (k + 1, v3, true, L ++ [o] ++ [x]) (by repeat' (first | exact trivial | refine ⟨rfl, ?_⟩)) ⟨by show k + 1 ≤ _; omega, hw, hO3, hI.here hxk hkey⟩ (by show t.length - (k + 1) < t.length - k; omega)
          · have c1 : ¬ o.id < x.id := hkey
            repeat' (first | (refine lw_pure rfl (pv_move rfl) ?_) | (refine is_cw ?_; first | (refine cw_seq ?_) | (refine cw_region ?_) | (refine cw_true rfl (by first | assumption | exact decide_eq_true (by omega) | exact dec_notT (by omega)) ?_) | (refine cw_skip ?_) | (refine cw_block ?_)) | (refine is_qw ?_; first | (with_reducible refine qw_then ?_)) | (refine lw_nil ?_) | ((refine is_bin ?_; first | (refine lw_pure rfl (pv_lss rfl rfl) ?_))) | ((refine is_bi ?_; first | (refine lw_pure rfl (pv_lenl (tS rfl) rfl) ?_))))
            have hO1 := hO.mono (below_drew _)
            refine cw_drawn (fun w' => Below w6.heap.size w6 w') (by kernel_rfl) (by repeat (first | exact NoPanic.body | with_reducible refine NoPanic.then ?_ | with_reducible refine NoPanic.inBlock ?_)) (fun hNP => ?_)
            have hS := hw.drew
            all_goals (refine at0 0 rfl (fun w' hq => pv_move rfl) ?_)
            all_goals (refine at0 1 rfl (fun w' hq => pv_not rfl) ?_)
            all_goals (refine at0 2 rfl (fun w' hq => pv_move rfl) ?_)
            all_goals (refine at1 3 rfl rfl rfl rfl (fun w' hq => pv_move rfl) ?_)
            all_goals (refine at1 4 rfl rfl rfl rfl (fun w' hq => pv_move rfl) ?_)
            all_goals (refine at1 5 rfl rfl rfl rfl (fun w' hq => pv_ian (tS rfl) rfl rfl (by omega)) ?_)
            all_goals (refine at1 6 rfl rfl rfl rfl (fun w' hq => pv_fa (tF rfl) rfl) ?_)
            all_goals (refine at1 7 rfl rfl rfl rfl (fun w' hq => pv_load (t1 rfl) rfl (by first | exact SlR.ld (HL.mono hq) hxk rfl | exact SlR.ld1 (HL.mono hq) hxk rfl | exact PT.ld0 (HA.mono hq) rfl | exact PT.ld (HA.mono hq) rfl)) ?_)
            all_goals (refine at1 8 rfl rfl rfl rfl (fun w' hq => pv_fa (tF rfl) rfl) ?_)
            all_goals (refine at1 9 rfl rfl rfl rfl (fun w' hq => pv_load (t1 rfl) rfl (by first | exact SlR.ld (HL.mono hq) hxk rfl | exact SlR.ld1 (HL.mono hq) hxk rfl | exact PT.ld0 (HA.mono hq) rfl | exact PT.ld (HA.mono hq) rfl)) ?_)
            all_goals (refine at1 10 rfl rfl rfl rfl (fun w' hq => pv_gtr rfl rfl) ?_)
            all_goals (refine at0 11 rfl (fun w' hq => pv_pick_t rfl rfl rfl) ?_)
            all_goals (refine aw_done (by kernel_rfl) ?_; replace hw := hS; clear hS hNP)
            repeat' (first | (refine lw_pure rfl (pv_move rfl) ?_) | (refine is_cw ?_; first | (refine cw_region ?_) | (refine cw_false rfl (by first | assumption | exact decide_eq_false (by omega) | exact dec_notF (by omega)) ?_) | (refine cw_skip ?_)) | (refine is_qw ?_; first | (with_reducible refine qw_then ?_)) | ((refine is_load ?_; first | (refine lw_pure rfl (pv_loada (tA rfl) rfl (by first | exact SlR.lda (HL.mono hw) hxk | exact PT.lda (HA.mono hw)) (by rfl)) ?_))) | ((refine is_ia ?_; first | (refine lw_pure rfl (pv_ian (tS rfl) rfl rfl (by omega)) ?_))))
            refine lw_bs (vs := [.agg (encL x).toArray]) (cs := encL x) elemL rfl rfl rfl (by omega) (by omega) rfl (by simp [Value.cells, encL]) ?_; intro wb HB hb hz9
            refine lw_app elemL encL_len encL_one rfl rfl rfl ((hO1).mono hb) (HB.slR (xs := [x]) encL_len rfl (by omega)) rfl (Nat.le_trans hw.size hb.size) (by simp; omega) (by simp [maxLen]; omega) ?_; intro v2 wc hO2 hg9 hb9
            replace hw := (grow_trans hw hb).trans hb9; clear hb hb9 hz9 HB hg9
            repeat' (first | (refine lw_pure rfl (pv_move rfl) ?_) | (refine lw_pure rfl (pv_assign rfl) ?_) | (refine is_cw ?_; first | (refine cw_region ?_)) | (refine is_qw ?_; first | (with_reducible refine qw_then ?_) | (with_reducible refine qw_in ?_)) | (refine lw_nil ?_) | ((refine is_bin ?_; first | (refine lw_pure rfl (pv_inc rfl rfl (by omega)) ?_))))
            exact qw_round (k + 1, v2, false, L ++ [x]) (by repeat' (first | exact trivial | refine ⟨rfl, ?_⟩)) ⟨by show k + 1 ≤ _; omega, hw, hO2, hI.yet hxk hkey⟩ (by show t.length - (k + 1) < t.length - k; omega)
      · have hkl : k = t.length := by omega
        subst hkl
        cases d with
        | true =>
          have hie := hI.end_t
          subst hie
          obtain ⟨va, vc, rfl, hV, -⟩ := Own.slR encL_len hO
          repeat' (first | (refine lw_pure rfl (pv_move rfl) ?_) | (refine lw_pure rfl (pv_assign rfl) ?_) | (refine is_cw ?_; first | (refine cw_seq ?_) | (refine cw_region ?_) | (refine cw_false rfl rfl ?_) | (refine cw_false rfl (by first | assumption | exact decide_eq_false (by omega) | exact dec_notF (by omega)) ?_) | (refine cw_skip ?_) | (refine cw_exit ?_) | (refine cw_ret ?_)) | (refine is_qw ?_; first | (with_reducible refine qw_then ?_) | (with_reducible refine qw_in_hit ?_) | (with_reducible refine qw_then_exit ?_) | (with_reducible refine qw_then_ret ?_) | (with_reducible refine qw_in_ret ?_)) | (refine lw_nil ?_) | ((refine is_bin ?_; first | (refine lw_pure rfl (pv_lss rfl rfl) ?_))) | ((refine is_un ?_; first | (refine lw_pure rfl (pv_not rfl) ?_))) | ((refine is_bi ?_; first | (refine lw_pure rfl (pv_lenl (tS rfl) rfl) ?_))))
          exact qw_ret3 rfl rfl rfl rfl ⟨⟨_, _, _, _, rfl, HP.mono hw, hV⟩, grow_trans hwF hw⟩
        | false =>
          repeat' (first | (refine lw_pure rfl (pv_move rfl) ?_) | (refine is_cw ?_; first | (refine cw_seq ?_) | (refine cw_region ?_) | (refine cw_true rfl rfl ?_) | (refine cw_false rfl (by first | assumption | exact decide_eq_false (by omega) | exact dec_notF (by omega)) ?_) | (refine cw_exit ?_)) | (refine is_qw ?_; first | (with_reducible refine qw_then ?_) | (with_reducible refine qw_in_hit ?_) | (with_reducible refine qw_then_exit ?_)) | (refine lw_nil ?_) | ((refine is_bin ?_; first | (refine lw_pure rfl (pv_lss rfl rfl) ?_))) | ((refine is_load ?_; first | (refine lw_pure rfl (pv_loada (tA rfl) rfl (by first | exact PT.lda (HA.mono hw)) (by rfl)) ?_))) | ((refine is_un ?_; first | (refine lw_pure rfl (pv_not rfl) ?_))) | ((refine is_bi ?_; first | (refine lw_pure rfl (pv_lenl (tS rfl) rfl) ?_))))
          refine lw_bs (vs := [.agg (encL o).toArray]) (cs := encL o) elemL rfl rfl rfl (by omega) (by omega) rfl (by simp [Value.cells, encL]) ?_; intro wb HB hb hz9
          refine lw_app elemL encL_len encL_one rfl rfl rfl ((hO).mono hb) (HB.slR (xs := [o]) encL_len rfl (by omega)) rfl (Nat.le_trans hw.size hb.size) (by simp; omega) (by simp [maxLen]; omega) ?_; intro v2 wc hO2 hg9 hb9
          replace hw := (grow_trans hw hb).trans hb9; clear hb hb9 hz9 HB hg9
          rw [hI.end_f] at hO2
          obtain ⟨va, vc, rfl, hV, -⟩ := Own.slR encL_len hO2
          repeat' (first | (refine lw_pure rfl (pv_move rfl) ?_) | (refine lw_pure rfl (pv_assign rfl) ?_) | (refine is_cw ?_; first | (refine cw_seq ?_) | (refine cw_region ?_) | (refine cw_ret ?_)) | (refine is_qw ?_; first | (with_reducible refine qw_then ?_) | (with_reducible refine qw_then_ret ?_) | (with_reducible refine qw_in_ret ?_)) | (refine lw_nil ?_))
          exact qw_ret3 rfl rfl rfl rfl ⟨⟨_, _, _, _, rfl, HP.mono hw, hV⟩, grow_trans hwF hw⟩

set_option maxRecDepth 20000 in
set_option maxHeartbeats 8000000 in
theorem rev16_c {p : List Opn} {t : List Lt} {e : Evt} {mp mt mn mx : Nat} {ap at_ an ax : Option Addr} {cp ct cn cx : Nat} {w : World} (hmp : p.length = mp) (hmt : t.length = mt) (hmn : e.nums.length = mn) (hmx : e.texts.length = mx) (HP : SlR encP 6 w ap cp p) (HL : SlR encL 4 w at_ ct t) (HN : SlR encI 1 w an cn e.nums) (HX : SlR encT 1 w ax cx e.texts) (hT : TxtIn e.texts) (hg1 : mayV p t = true) (hg2 : e.v = 3) (hg3 : mayE e = true) (hk : e.kind = 16) : Calls Tryz.prog 39 #[.slice ap mp cp, .slice at_ mt ct, .agg #[.int .u8 e.v, .int .u8 e.kind, .slice an mn cn, .slice ax mx cx]] w fun e1 w' => RefR w' e1 (openedR p t e) ∧ Below w.heap.size w w' := by
  obtain ⟨n0, n1, n2, n3, rs, hev, h0, h1, h2, h3⟩ := nums14 hg3 hg2 (Or.inr hk)
  have hM := mayV_iff.1 hg1
  have hl1 := hM.1
  have hx0 := at_of (i := 0) hev rfl
  have hx1 := at_of (i := 1) hev rfl
  have hx2 := at_of (i := 2) hev rfl
  have hx3 := at_of (i := 3) hev rfl
  have hlen : 3 < e.nums.length := by rw [hev]; simp
  have hn0 := nth_of hx0
  have hn1 := nth_of hx1
  have hn2 := nth_of hx2
  have hn3 := nth_of hx3
  clear hev hM
  obtain ⟨ab, ao, rfl, -, -⟩ := HN.at (by intro h; rw [h] at hlen; simp at hlen)
  subst hmp hmt hmn hmx
  have hw := Below.refl w.heap.size w
  have hcn := HN.le
  have hcm := HN.max
  have hcp := HP.le
  have hcpm := HP.max
  have hct := HL.le
  have hctm := HL.max
  refine fn_enter 270 Tryz.func39 rfl rfl rfl ?_
  repeat' (first | (refine is_cw ?_; first | (refine cw_seq ?_) | (refine cw_region ?_)))
  refine lw_boxN rfl rfl (cs := [.int .u8 e.v, .int .u8 e.kind, .slice ((some ⟨ab, ao, none⟩)) e.nums.length cn, .slice ax e.texts.length cx]) rfl ?_; intro NE wE hNE H hb
  replace hw := grow_trans hw hb
  replace HP := HP.mono hw
  replace HL := HL.mono hw
  replace HN := HN.mono hw
  replace HX := HX.mono hw
  have hw0 := hw
  clear hw hb
  have hw := Below.refl wE.heap.size wE
  repeat' (first | (refine lw_pure rfl (pv_move rfl) ?_) | (refine lw_pure rfl (pv_assign rfl) ?_) | (refine lw_call (f := 60) (by kernel_rfl) rfl rfl (rmayV_e hg1 rfl rfl (HP.mono hw) (HL.mono hw)) ?_; rintro e w1 ⟨rfl, hb⟩; refine ⟨_, rfl, ?_⟩; replace hw := grow_trans hw hb; clear hb) | (refine lw_call (f := 61) (by kernel_rfl) rfl rfl (rmayE_e hg3 rfl rfl (HN.mono hw) (HX.mono hw) hT) ?_; rintro e w1 ⟨rfl, hb⟩; refine ⟨_, rfl, ?_⟩; replace hw := grow_trans hw hb; clear hb) | (refine is_cw ?_; first | (refine cw_seq ?_) | (refine cw_region ?_) | (refine cw_false rfl rfl ?_) | (refine cw_true rfl (by first | assumption | exact decide_eq_true (by omega) | exact dec_notT (by omega)) ?_) | (refine cw_false rfl (by first | assumption | exact decide_eq_false (by omega) | exact dec_notF (by omega)) ?_) | (refine cw_skip ?_) | (refine cw_block ?_)) | (refine is_qw ?_; first | (with_reducible refine qw_then ?_)) | (refine lw_nil ?_) | (refine is_guarded ?_; first | (refine lw_on rfl rfl rfl ?_) | (refine lw_on rfl rfl (by first | assumption | exact decide_eq_true (by omega) | exact decide_eq_false (by omega) | exact dec_notT (by omega) | exact dec_notF (by omega)) ?_)) | ((refine is_bin ?_; first | (refine lw_pure rfl (pv_eql rfl rfl) ?_) | (refine lw_pure rfl (pv_neq rfl rfl) ?_))) | ((refine is_load ?_; first | (refine lw_pure rfl (pv_load (t1 rfl) rfl (by first | exact PT.ld0 (H.mono hw) rfl | exact PT.ld (H.mono hw) rfl)) ?_) | (refine lw_pure rfl (pv_loada (tA rfl) rfl (by first | exact PT.lda (H.mono hw)) (by rfl)) ?_))) | ((refine is_fa ?_; first | (refine lw_pure rfl (pv_fa (tF rfl) rfl) ?_))) | ((refine is_ia ?_; first | (refine lw_pure rfl (pv_ia (tS rfl) rfl rfl (by omega)) ?_))) | ((refine is_un ?_; first | (refine lw_pure rfl (pv_not rfl) ?_))) | (refine lw_pure rfl (pv_pick_f rfl rfl rfl) ?_) | (refine lw_pure rfl (pv_pick_f rfl (by first | assumption | exact decide_eq_false (by omega) | exact dec_notF (by omega)) rfl) ?_))
  cases hf : findT t n0 with
  | some r =>
    have hR : openedR p t e = ([], [], 6) := by unfold openedR; rw [hn0, hf, if_pos (by rfl)]
    rw [hR]
    repeat' (first | (refine lw_pure rfl (pv_move rfl) ?_) | (refine lw_call (f := 43) (by kernel_rfl) rfl rfl (rfindT_e hf rfl (HL.mono hw)) ?_; rintro e w1 ⟨rfl, hb⟩; refine ⟨_, rfl, ?_⟩; replace hw := grow_trans hw hb; clear hb) | ((refine is_load ?_; first | (refine lw_pure rfl (pv_load (t1 rfl) rfl (by first | exact PT.ld0 (H.mono hw) rfl | exact PT.ld (H.mono hw) rfl | exact SlR.ld (HN.mono hw) hx0 rfl | exact SlR.ld1 (HN.mono hw) hx0 rfl)) ?_))) | (refine lw_pure rfl (pv_extract rfl rfl) ?_))
    refine lw_varN rfl (by first | exact tyv_27 | exact tyv_28 | exact tyv_38 | exact tyv_39 | exact tyv_48 | exact tyv_49 | exact tyv_52 | exact tyv_53 | exact tyv_68 | exact tyv_69 | exact tyv_79 | exact tyv_80 | exact tyv_94 | exact tyv_95 | exact tyv_131 | exact tyv_132) rfl (tZ rfl) (fun _ => rfl) rfl rfl ?_; intro N1 wn hN1 HF hb; replace hw := grow_trans hw hb; clear hb
    repeat' (first | (refine lw_pure rfl (pv_move rfl) ?_) | (refine lw_pure rfl (pv_assign rfl) ?_) | (refine is_cw ?_; first | (refine cw_seq ?_) | (refine cw_region ?_) | (refine cw_true rfl rfl ?_) | (refine cw_ret ?_)) | (refine is_qw ?_; first | (with_reducible refine qw_then ?_) | (with_reducible refine qw_then_ret ?_) | (with_reducible refine qw_in_ret ?_)) | (refine lw_nil ?_))
    exact qw_ret3 rfl rfl rfl rfl ⟨ref_nil _ _, grow_trans hw0 hw⟩
  | none =>
    have hR : openedR p t e = if t.length = 32 then ([], [], 40) else (p, insT t ⟨n0, n1, n2, n3⟩, 0) := by unfold openedR; rw [hn0, hn1, hn2, hn3, hf, if_neg (by simp)]
    rw [hR]
    clear hR
    repeat' (first | (refine lw_pure rfl (pv_move rfl) ?_) | (refine lw_call (f := 43) (by kernel_rfl) rfl rfl (rfindT_e hf rfl (HL.mono hw)) ?_; rintro e w1 ⟨rfl, hb⟩; refine ⟨_, rfl, ?_⟩; replace hw := grow_trans hw hb; clear hb) | ((refine is_load ?_; first | (refine lw_pure rfl (pv_load (t1 rfl) rfl (by first | exact PT.ld0 (H.mono hw) rfl | exact PT.ld (H.mono hw) rfl | exact SlR.ld (HN.mono hw) hx0 rfl | exact SlR.ld1 (HN.mono hw) hx0 rfl)) ?_))) | (refine lw_pure rfl (pv_extract rfl rfl) ?_))
    refine lw_varN rfl (by first | exact tyv_27 | exact tyv_28 | exact tyv_38 | exact tyv_39 | exact tyv_48 | exact tyv_49 | exact tyv_52 | exact tyv_53 | exact tyv_68 | exact tyv_69 | exact tyv_79 | exact tyv_80 | exact tyv_94 | exact tyv_95 | exact tyv_131 | exact tyv_132) rfl (tZ rfl) (fun _ => rfl) rfl rfl ?_; intro N1 wn hN1 HF hb; replace hw := grow_trans hw hb; clear hb
    by_cases h32 : t.length = 32
    · rw [if_pos h32]
      repeat' (first | (refine lw_pure rfl (pv_move rfl) ?_) | (refine lw_pure rfl (pv_assign rfl) ?_) | (refine is_cw ?_; first | (refine cw_seq ?_) | (refine cw_region ?_) | (refine cw_false rfl rfl ?_) | (refine cw_true rfl (by first | assumption | exact decide_eq_true (by omega) | exact dec_notT (by omega)) ?_) | (refine cw_skip ?_) | (refine cw_ret ?_)) | (refine is_qw ?_; first | (with_reducible refine qw_then ?_) | (with_reducible refine qw_then_ret ?_) | (with_reducible refine qw_in_ret ?_)) | (refine lw_nil ?_) | ((refine is_bin ?_; first | (refine lw_pure rfl (pv_eql rfl rfl) ?_))) | ((refine is_bi ?_; first | (refine lw_pure rfl (pv_lenl (tS rfl) rfl) ?_))))
      exact qw_ret3 rfl rfl rfl rfl ⟨ref_nil _ _, grow_trans hw0 hw⟩
    · rw [if_neg h32]
      repeat' (first | (refine lw_pure rfl (pv_move rfl) ?_) | (refine lw_pure rfl (pv_assign rfl) ?_) | (refine is_cw ?_; first | (refine cw_seq ?_) | (refine cw_region ?_) | (refine cw_false rfl rfl ?_) | (refine cw_false rfl (by first | assumption | exact decide_eq_false (by omega) | exact dec_notF (by omega)) ?_) | (refine cw_skip ?_)) | (refine is_qw ?_; first | (with_reducible refine qw_then ?_)) | (refine lw_nil ?_) | ((refine is_bin ?_; first | (refine lw_pure rfl (pv_eql rfl rfl) ?_))) | ((refine is_bi ?_; first | (refine lw_pure rfl (pv_lenl (tS rfl) rfl) ?_))))
      have hwE := grow_trans hw0 hw
      replace HN := HN.mono hw
      replace HP := HP.mono hw
      replace HL := HL.mono hw
      clear hw
      have hw := Below.refl wn.heap.size wn
      refine cw_drawn (fun w' => Below wn.heap.size wn w') (by kernel_rfl) (by repeat (first | exact NoPanic.body | with_reducible refine NoPanic.then ?_ | with_reducible refine NoPanic.inBlock ?_)) (fun hNP => ?_)
      have hS := hw.drew
      (refine at0 0 rfl (fun w' hq => pv_move rfl) ?_)
      (refine at0 1 rfl (fun w' hq => pv_ia (tS rfl) rfl rfl (by omega)) ?_)
      (refine at0 2 rfl (fun w' hq => pv_load (t1 rfl) rfl (by first | exact SlR.ld (HN.mono hq) hx0 rfl | exact SlR.ld1 (HN.mono hq) hx0 rfl | exact SlR.ld (HN.mono hq) hx1 rfl | exact SlR.ld1 (HN.mono hq) hx1 rfl | exact SlR.ld (HN.mono hq) hx2 rfl | exact SlR.ld1 (HN.mono hq) hx2 rfl | exact SlR.ld (HN.mono hq) hx3 rfl | exact SlR.ld1 (HN.mono hq) hx3 rfl)) ?_)
      (refine at0 3 rfl (fun w' hq => pv_move rfl) ?_)
      (refine at0 4 rfl (fun w' hq => pv_ia (tS rfl) rfl rfl (by omega)) ?_)
      (refine at0 5 rfl (fun w' hq => pv_load (t1 rfl) rfl (by first | exact SlR.ld (HN.mono hq) hx0 rfl | exact SlR.ld1 (HN.mono hq) hx0 rfl | exact SlR.ld (HN.mono hq) hx1 rfl | exact SlR.ld1 (HN.mono hq) hx1 rfl | exact SlR.ld (HN.mono hq) hx2 rfl | exact SlR.ld1 (HN.mono hq) hx2 rfl | exact SlR.ld (HN.mono hq) hx3 rfl | exact SlR.ld1 (HN.mono hq) hx3 rfl)) ?_)
      (refine at0 6 rfl (fun w' hq => pv_move rfl) ?_)
      (refine at0 7 rfl (fun w' hq => pv_ia (tS rfl) rfl rfl (by omega)) ?_)
      (refine at0 8 rfl (fun w' hq => pv_load (t1 rfl) rfl (by first | exact SlR.ld (HN.mono hq) hx0 rfl | exact SlR.ld1 (HN.mono hq) hx0 rfl | exact SlR.ld (HN.mono hq) hx1 rfl | exact SlR.ld1 (HN.mono hq) hx1 rfl | exact SlR.ld (HN.mono hq) hx2 rfl | exact SlR.ld1 (HN.mono hq) hx2 rfl | exact SlR.ld (HN.mono hq) hx3 rfl | exact SlR.ld1 (HN.mono hq) hx3 rfl)) ?_)
      (refine at0 9 rfl (fun w' hq => pv_move rfl) ?_)
      (refine at0 10 rfl (fun w' hq => pv_ian (tS rfl) rfl rfl (by omega)) ?_)
      (refine at0 11 rfl (fun w' hq => pv_load (t1 rfl) rfl (by first | exact SlR.ld (HN.mono hq) hx0 rfl | exact SlR.ld1 (HN.mono hq) hx0 rfl | exact SlR.ld (HN.mono hq) hx1 rfl | exact SlR.ld1 (HN.mono hq) hx1 rfl | exact SlR.ld (HN.mono hq) hx2 rfl | exact SlR.ld1 (HN.mono hq) hx2 rfl | exact SlR.ld (HN.mono hq) hx3 rfl | exact SlR.ld1 (HN.mono hq) hx3 rfl)) ?_)
      (refine at0 12 rfl (fun w' hq => tyB_53 rfl rfl rfl) ?_)
      refine aw_act 13 (by kernel_rfl) rfl rfl rfl ?_
      refine act_alloc (by first | exact tyv_27 | exact tyv_28 | exact tyv_38 | exact tyv_39 | exact tyv_48 | exact tyv_49 | exact tyv_52 | exact tyv_53 | exact tyv_68 | exact tyv_69 | exact tyv_79 | exact tyv_80 | exact tyv_94 | exact tyv_95 | exact tyv_131 | exact tyv_132) rfl ?_; intro N w5 hN HA hb; have hNn := Nat.le_trans hS.size hN; refine ⟨grow_trans hS hb, fun hS => ?_⟩
      refine aw_act 14 (by kernel_rfl) rfl rfl rfl ?_
      refine act_storea HA (tZ rfl) rfl rfl rfl rfl (encL_one ⟨n0, n1, n2, n3⟩) ?_; intro w6 HB hg hz; refine ⟨st_hw hS hg hNn, fun hS => ?_⟩
      refine aw_done (by kernel_rfl) ?_
      replace hw := hS; clear hS hNP
      have hwF := grow_trans hwE hw
      replace HP := HP.mono hw
      replace HL := HL.mono hw
      clear hw HA hg hz hb
      have hw := Below.refl w6.heap.size w6
      obtain ⟨o, ho⟩ : ∃ o : Lt, o = ⟨n0, n1, n2, n3⟩ := ⟨_, rfl⟩
      have HA : PT w6 N 53 (encL o) := by rw [ho]; exact HB
      rw [← ho]
      clear HB
      repeat' (first | (refine lw_pure rfl (pv_assign rfl) ?_) | (refine is_cw ?_; first | (refine cw_seq ?_) | (refine cw_region ?_) | (refine cw_block ?_)) | (refine is_qw ?_; first | (with_reducible refine qw_then ?_)) | (refine lw_nil ?_))
      refine cw_loop (σ := Nat × Value × Bool × List Lt) (fun s => [(0, .slice ap p.length cp), (1, .slice at_ t.length ct), (20, s.2.1), (21, .pointer (some ⟨N, 0, none⟩)), (22, .bool s.2.2.1), (23, .int .i64 (s.1 : Nat))]) (fun s wr => s.1 ≤ t.length ∧ Below w6.heap.size w6 wr ∧ Own encL 4 53 w6.heap.size wr s.2.1 s.2.2.2 ∧ putJ t o s.1 s.2.2.1 s.2.2.2) (fun s => t.length - s.1) (0, .slice none 0 0, false, []) (by repeat' (first | exact trivial | refine ⟨rfl, ?_⟩)) ⟨Nat.zero_le _, hw, Own.nil _, Or.inl ⟨rfl, by simp, by simp⟩⟩ ?_
      clear hw
      rintro ⟨k, v, d, L⟩ wr ⟨hk, hw, hO, hI⟩
      dsimp only at hk hO hI
      change CW _ _ _ _ [(0, .slice ap p.length cp), (1, .slice at_ t.length ct), (20, v), (21, .pointer (some ⟨N, 0, none⟩)), (22, .bool d), (23, .int .i64 (k : Nat))] wr
      have hLl := hI.len
      by_cases hlt : k < t.length
      · have hxk : t[k]? = some t[k] := List.getElem?_eq_getElem hlt
        obtain ⟨tb, to, rfl, -, -⟩ := HL.at (by intro h; rw [h] at hlt; simp at hlt)
        generalize t[k] = x at hxk
        cases d with
        | true =>
          repeat' (first | (refine lw_pure rfl (pv_move rfl) ?_) | (refine is_cw ?_; first | (refine cw_seq ?_) | (refine cw_region ?_) | (refine cw_true rfl (by first | assumption | exact decide_eq_true (by omega) | exact dec_notT (by omega)) ?_) | (refine cw_skip ?_) | (refine cw_block ?_)) | (refine is_qw ?_; first | (with_reducible refine qw_then ?_)) | (refine lw_nil ?_) | ((refine is_bin ?_; first | (refine lw_pure rfl (pv_lss rfl rfl) ?_))) | ((refine is_bi ?_; first | (refine lw_pure rfl (pv_lenl (tS rfl) rfl) ?_))))
          have hO1 := hO.mono (below_drew _)
          refine cw_drawn (fun w' => Below w6.heap.size w6 w') (by kernel_rfl) (by repeat (first | exact NoPanic.body | with_reducible refine NoPanic.then ?_ | with_reducible refine NoPanic.inBlock ?_)) (fun hNP => ?_)
          have hS := hw.drew
          all_goals (refine at0 0 rfl (fun w' hq => pv_move rfl) ?_)
          all_goals (refine at0 1 rfl (fun w' hq => pv_not rfl) ?_)
          all_goals (refine at0 2 rfl (fun w' hq => pv_move rfl) ?_)
          all_goals (refine an1 3 rfl rfl rfl rfl ?_)
          all_goals (refine an1 4 rfl rfl rfl rfl ?_)
          all_goals (refine an1 5 rfl rfl rfl rfl ?_)
          all_goals (refine an1 6 rfl rfl rfl rfl ?_)
          all_goals (refine an1 7 rfl rfl rfl rfl ?_)
          all_goals (refine an1 8 rfl rfl rfl rfl ?_)
          all_goals (refine an1 9 rfl rfl rfl rfl ?_)
          all_goals (refine an1 10 rfl rfl rfl rfl ?_)
          all_goals (refine at0 11 rfl (fun w' hq => pv_pick_f rfl rfl rfl) ?_)
          all_goals (refine aw_done (by kernel_rfl) ?_; replace hw := hS; clear hS hNP)
          repeat' (first | (refine lw_pure rfl (pv_move rfl) ?_) | (refine is_cw ?_; first | (refine cw_region ?_) | (refine cw_false rfl rfl ?_) | (refine cw_skip ?_)) | (refine is_qw ?_; first | (with_reducible refine qw_then ?_)) | ((refine is_load ?_; first | (refine lw_pure rfl (pv_loada (tA rfl) rfl (by first | exact SlR.lda (HL.mono hw) hxk | exact PT.lda (HA.mono hw)) (by rfl)) ?_))) | ((refine is_ia ?_; first | (refine lw_pure rfl (pv_ian (tS rfl) rfl rfl (by omega)) ?_))))
          refine lw_bs (vs := [.agg (encL x).toArray]) (cs := encL x) elemL rfl rfl rfl (by omega) (by omega) rfl (by simp [Value.cells, encL]) ?_; intro wb HB hb hz9
          refine lw_app elemL encL_len encL_one rfl rfl rfl ((hO1).mono hb) (HB.slR (xs := [x]) encL_len rfl (by omega)) rfl (Nat.le_trans hw.size hb.size) (by simp; omega) (by simp [maxLen]; omega) ?_; intro v2 wc hO2 hg9 hb9
          replace hw := (grow_trans hw hb).trans hb9; clear hb hb9 hz9 HB hg9
          repeat' (first | (refine lw_pure rfl (pv_move rfl) ?_) | (refine lw_pure rfl (pv_assign rfl) ?_) | (refine is_cw ?_; first | (refine cw_region ?_)) | (refine is_qw ?_; first | (with_reducible refine qw_then ?_) | (with_reducible refine qw_in ?_)) | (refine lw_nil ?_) | ((refine is_bin ?_; first | (refine lw_pure rfl (pv_inc rfl rfl (by omega)) ?_))))
          exact qw_round (k + 1, v2, true, L ++ [x]) (by repeat' (first | exact trivial | refine ⟨rfl, ?_⟩)) ⟨by show k + 1 ≤ _; omega, hw, hO2, hI.past hxk⟩ (by show t.length - (k + 1) < t.length - k; omega)
        | false =>
          by_cases hkey : keyT o x
          · have c1 : o.id < x.id := hkey
            repeat' (first | (refine lw_pure rfl (pv_move rfl) ?_) | (refine is_cw ?_; first | (refine cw_seq ?_) | (refine cw_region ?_) | (refine cw_true rfl (by first | assumption | exact decide_eq_true (by omega) | exact dec_notT (by omega)) ?_) | (refine cw_skip ?_) | (refine cw_block ?_)) | (refine is_qw ?_; first | (with_reducible refine qw_then ?_)) | (refine lw_nil ?_) | ((refine is_bin ?_; first | (refine lw_pure rfl (pv_lss rfl rfl) ?_))) | ((refine is_bi ?_; first | (refine lw_pure rfl (pv_lenl (tS rfl) rfl) ?_))))
            have hO1 := hO.mono (below_drew _)
            refine cw_drawn (fun w' => Below w6.heap.size w6 w') (by kernel_rfl) (by repeat (first | exact NoPanic.body | with_reducible refine NoPanic.then ?_ | with_reducible refine NoPanic.inBlock ?_)) (fun hNP => ?_)
            have hS := hw.drew
            all_goals (refine at0 0 rfl (fun w' hq => pv_move rfl) ?_)
            all_goals (refine at0 1 rfl (fun w' hq => pv_not rfl) ?_)
            all_goals (refine at0 2 rfl (fun w' hq => pv_move rfl) ?_)
            all_goals (refine at1 3 rfl rfl rfl rfl (fun w' hq => pv_move rfl) ?_)
            all_goals (refine at1 4 rfl rfl rfl rfl (fun w' hq => pv_move rfl) ?_)
            all_goals (refine at1 5 rfl rfl rfl rfl (fun w' hq => pv_ian (tS rfl) rfl rfl (by omega)) ?_)
            all_goals (refine at1 6 rfl rfl rfl rfl (fun w' hq => pv_fa (tF rfl) rfl) ?_)
            all_goals (refine at1 7 rfl rfl rfl rfl (fun w' hq => pv_load (t1 rfl) rfl (by first | exact SlR.ld (HL.mono hq) hxk rfl | exact SlR.ld1 (HL.mono hq) hxk rfl | exact PT.ld0 (HA.mono hq) rfl | exact PT.ld (HA.mono hq) rfl)) ?_)
            all_goals (refine at1 8 rfl rfl rfl rfl (fun w' hq => pv_fa (tF rfl) rfl) ?_)
            all_goals (refine at1 9 rfl rfl rfl rfl (fun w' hq => pv_load (t1 rfl) rfl (by first | exact SlR.ld (HL.mono hq) hxk rfl | exact SlR.ld1 (HL.mono hq) hxk rfl | exact PT.ld0 (HA.mono hq) rfl | exact PT.ld (HA.mono hq) rfl)) ?_)
            all_goals (refine at1 10 rfl rfl rfl rfl (fun w' hq => pv_gtr rfl rfl) ?_)
            all_goals (refine at0 11 rfl (fun w' hq => pv_pick_t rfl rfl rfl) ?_)
            all_goals (refine aw_done (by kernel_rfl) ?_; replace hw := hS; clear hS hNP)
            repeat' (first | (refine lw_pure rfl (pv_move rfl) ?_) | (refine is_cw ?_; first | (refine cw_seq ?_) | (refine cw_region ?_) | (refine cw_true rfl (by first | assumption | exact decide_eq_true (by omega) | exact dec_notT (by omega)) ?_)) | (refine is_qw ?_; first | (with_reducible refine qw_then ?_)) | ((refine is_load ?_; first | (refine lw_pure rfl (pv_loada (tA rfl) rfl (by first | exact SlR.lda (HL.mono hw) hxk | exact PT.lda (HA.mono hw)) (by rfl)) ?_))))
            refine lw_bs (vs := [.agg (encL o).toArray]) (cs := encL o) elemL rfl rfl rfl (by omega) (by omega) rfl (by simp [Value.cells, encL]) ?_; intro wb HB hb hz9
            refine lw_app elemL encL_len encL_one rfl rfl rfl ((hO1).mono hb) (HB.slR (xs := [o]) encL_len rfl (by omega)) rfl (Nat.le_trans hw.size hb.size) (by simp; omega) (by simp [maxLen]; omega) ?_; intro v2 wc hO2 hg9 hb9
            replace hw := (grow_trans hw hb).trans hb9; clear hb hb9 hz9 HB hg9
            repeat' (first | (refine lw_pure rfl (pv_move rfl) ?_) | (refine lw_pure rfl (pv_assign rfl) ?_) | (refine is_cw ?_; first | (refine cw_region ?_)) | (refine is_qw ?_; first | (with_reducible refine qw_then ?_)) | (refine lw_nil ?_) | ((refine is_load ?_; first | (refine lw_pure rfl (pv_loada (tA rfl) rfl (by first | exact SlR.lda (HL.mono hw) hxk | exact PT.lda (HA.mono hw)) (by rfl)) ?_))) | ((refine is_ia ?_; first | (refine lw_pure rfl (pv_ian (tS rfl) rfl rfl (by omega)) ?_))))
            refine lw_bs (vs := [.agg (encL x).toArray]) (cs := encL x) elemL rfl rfl rfl (by omega) (by omega) rfl (by simp [Value.cells, encL]) ?_; intro wb HB hb hz9
            refine lw_app elemL encL_len encL_one rfl rfl rfl ((hO2).mono hb) (HB.slR (xs := [x]) encL_len rfl (by omega)) rfl (Nat.le_trans hw.size hb.size) (by simp; omega) (by simp [maxLen]; omega) ?_; intro v3 wc hO3 hg9 hb9
            replace hw := (grow_trans hw hb).trans hb9; clear hb hb9 hz9 HB hg9
            repeat' (first | (refine lw_pure rfl (pv_move rfl) ?_) | (refine lw_pure rfl (pv_assign rfl) ?_) | (refine is_cw ?_; first | (refine cw_region ?_)) | (refine is_qw ?_; first | (with_reducible refine qw_then ?_) | (with_reducible refine qw_in ?_)) | (refine lw_nil ?_) | ((refine is_bin ?_; first | (refine lw_pure rfl (pv_inc rfl rfl (by omega)) ?_))))
            exact qw_round (k + 1, v3, true, L ++ [o] ++ [x]) (by repeat' (first | exact trivial | refine ⟨rfl, ?_⟩)) ⟨by show k + 1 ≤ _; omega, hw, hO3, hI.here hxk hkey⟩ (by show t.length - (k + 1) < t.length - k; omega)
          · have c1 : ¬ o.id < x.id := hkey
            repeat' (first | (refine lw_pure rfl (pv_move rfl) ?_) | (refine is_cw ?_; first | (refine cw_seq ?_) | (refine cw_region ?_) | (refine cw_true rfl (by first | assumption | exact decide_eq_true (by omega) | exact dec_notT (by omega)) ?_) | (refine cw_skip ?_) | (refine cw_block ?_)) | (refine is_qw ?_; first | (with_reducible refine qw_then ?_)) | (refine lw_nil ?_) | ((refine is_bin ?_; first | (refine lw_pure rfl (pv_lss rfl rfl) ?_))) | ((refine is_bi ?_; first | (refine lw_pure rfl (pv_lenl (tS rfl) rfl) ?_))))
            have hO1 := hO.mono (below_drew _)
            refine cw_drawn (fun w' => Below w6.heap.size w6 w') (by kernel_rfl) (by repeat (first | exact NoPanic.body | with_reducible refine NoPanic.then ?_ | with_reducible refine NoPanic.inBlock ?_)) (fun hNP => ?_)
            have hS := hw.drew
            all_goals (refine at0 0 rfl (fun w' hq => pv_move rfl) ?_)
            all_goals (refine at0 1 rfl (fun w' hq => pv_not rfl) ?_)
            all_goals (refine at0 2 rfl (fun w' hq => pv_move rfl) ?_)
            all_goals (refine at1 3 rfl rfl rfl rfl (fun w' hq => pv_move rfl) ?_)
            all_goals (refine at1 4 rfl rfl rfl rfl (fun w' hq => pv_move rfl) ?_)
            all_goals (refine at1 5 rfl rfl rfl rfl (fun w' hq => pv_ian (tS rfl) rfl rfl (by omega)) ?_)
            all_goals (refine at1 6 rfl rfl rfl rfl (fun w' hq => pv_fa (tF rfl) rfl) ?_)
            all_goals (refine at1 7 rfl rfl rfl rfl (fun w' hq => pv_load (t1 rfl) rfl (by first | exact SlR.ld (HL.mono hq) hxk rfl | exact SlR.ld1 (HL.mono hq) hxk rfl | exact PT.ld0 (HA.mono hq) rfl | exact PT.ld (HA.mono hq) rfl)) ?_)
            all_goals (refine at1 8 rfl rfl rfl rfl (fun w' hq => pv_fa (tF rfl) rfl) ?_)
            all_goals (refine at1 9 rfl rfl rfl rfl (fun w' hq => pv_load (t1 rfl) rfl (by first | exact SlR.ld (HL.mono hq) hxk rfl | exact SlR.ld1 (HL.mono hq) hxk rfl | exact PT.ld0 (HA.mono hq) rfl | exact PT.ld (HA.mono hq) rfl)) ?_)
            all_goals (refine at1 10 rfl rfl rfl rfl (fun w' hq => pv_gtr rfl rfl) ?_)
            all_goals (refine at0 11 rfl (fun w' hq => pv_pick_t rfl rfl rfl) ?_)
            all_goals (refine aw_done (by kernel_rfl) ?_; replace hw := hS; clear hS hNP)
            repeat' (first | (refine lw_pure rfl (pv_move rfl) ?_) | (refine is_cw ?_; first | (refine cw_region ?_) | (refine cw_false rfl (by first | assumption | exact decide_eq_false (by omega) | exact dec_notF (by omega)) ?_) | (refine cw_skip ?_)) | (refine is_qw ?_; first | (with_reducible refine qw_then ?_)) | ((refine is_load ?_; first | (refine lw_pure rfl (pv_loada (tA rfl) rfl (by first | exact SlR.lda (HL.mono hw) hxk | exact PT.lda (HA.mono hw)) (by rfl)) ?_))) | ((refine is_ia ?_; first | (refine lw_pure rfl (pv_ian (tS rfl) rfl rfl (by omega)) ?_))))
            refine lw_bs (vs := [.agg (encL x).toArray]) (cs := encL x) elemL rfl rfl rfl (by omega) (by omega) rfl (by simp [Value.cells, encL]) ?_; intro wb HB hb hz9
            refine lw_app elemL encL_len encL_one rfl rfl rfl ((hO1).mono hb) (HB.slR (xs := [x]) encL_len rfl (by omega)) rfl (Nat.le_trans hw.size hb.size) (by simp; omega) (by simp [maxLen]; omega) ?_; intro v2 wc hO2 hg9 hb9
            replace hw := (grow_trans hw hb).trans hb9; clear hb hb9 hz9 HB hg9
            repeat' (first | (refine lw_pure rfl (pv_move rfl) ?_) | (refine lw_pure rfl (pv_assign rfl) ?_) | (refine is_cw ?_; first | (refine cw_region ?_)) | (refine is_qw ?_; first | (with_reducible refine qw_then ?_) | (with_reducible refine qw_in ?_)) | (refine lw_nil ?_) | ((refine is_bin ?_; first | (refine lw_pure rfl (pv_inc rfl rfl (by omega)) ?_))))
            exact qw_round (k + 1, v2, false, L ++ [x]) (by repeat' (first | exact trivial | refine ⟨rfl, ?_⟩)) ⟨by show k + 1 ≤ _; omega, hw, hO2, hI.yet hxk hkey⟩ (by show t.length - (k + 1) < t.length - k; omega)
      · have hkl : k = t.length := by omega
        subst hkl
        cases d with
        | true =>
          have hie := hI.end_t
          subst hie
          obtain ⟨va, vc, rfl, hV, -⟩ := Own.slR encL_len hO
          repeat' (first | (refine lw_pure rfl (pv_move rfl) ?_) | (refine lw_pure rfl (pv_assign rfl) ?_) | (refine is_cw ?_; first | (refine cw_seq ?_) | (refine cw_region ?_) | (refine cw_false rfl rfl ?_) | (refine cw_false rfl (by first | assumption | exact decide_eq_false (by omega) | exact dec_notF (by omega)) ?_) | (refine cw_skip ?_) | (refine cw_exit ?_) | (refine cw_ret ?_)) | (refine is_qw ?_; first | (with_reducible refine qw_then ?_) | (with_reducible refine qw_in_hit ?_) | (with_reducible refine qw_then_exit ?_) | (with_reducible refine qw_then_ret ?_) | (with_reducible refine qw_in_ret ?_)) | (refine lw_nil ?_) | ((refine is_bin ?_; first | (refine lw_pure rfl (pv_lss rfl rfl) ?_))) | ((refine is_un ?_; first | (refine lw_pure rfl (pv_not rfl) ?_))) | ((refine is_bi ?_; first | (refine lw_pure rfl (pv_lenl (tS rfl) rfl) ?_))))
          exact qw_ret3 rfl rfl rfl rfl ⟨⟨_, _, _, _, rfl, HP.mono hw, hV⟩, grow_trans hwF hw⟩
        | false =>
          repeat' (first | (refine lw_pure rfl (pv_move rfl) ?_) | (refine is_cw ?_; first | (refine cw_seq ?_) | (refine cw_region ?_) | (refine cw_true rfl rfl ?_) | (refine cw_false rfl (by first | assumption | exact decide_eq_false (by omega) | exact dec_notF (by omega)) ?_) | (refine cw_exit ?_)) | (refine is_qw ?_; first | (with_reducible refine qw_then ?_) | (with_reducible refine qw_in_hit ?_) | (with_reducible refine qw_then_exit ?_)) | (refine lw_nil ?_) | ((refine is_bin ?_; first | (refine lw_pure rfl (pv_lss rfl rfl) ?_))) | ((refine is_load ?_; first | (refine lw_pure rfl (pv_loada (tA rfl) rfl (by first | exact PT.lda (HA.mono hw)) (by rfl)) ?_))) | ((refine is_un ?_; first | (refine lw_pure rfl (pv_not rfl) ?_))) | ((refine is_bi ?_; first | (refine lw_pure rfl (pv_lenl (tS rfl) rfl) ?_))))
          refine lw_bs (vs := [.agg (encL o).toArray]) (cs := encL o) elemL rfl rfl rfl (by omega) (by omega) rfl (by simp [Value.cells, encL]) ?_; intro wb HB hb hz9
          refine lw_app elemL encL_len encL_one rfl rfl rfl ((hO).mono hb) (HB.slR (xs := [o]) encL_len rfl (by omega)) rfl (Nat.le_trans hw.size hb.size) (by simp; omega) (by simp [maxLen]; omega) ?_; intro v2 wc hO2 hg9 hb9
          replace hw := (grow_trans hw hb).trans hb9; clear hb hb9 hz9 HB hg9
          rw [hI.end_f] at hO2
          obtain ⟨va, vc, rfl, hV, -⟩ := Own.slR encL_len hO2
          repeat' (first | (refine lw_pure rfl (pv_move rfl) ?_) | (refine lw_pure rfl (pv_assign rfl) ?_) | (refine is_cw ?_; first | (refine cw_seq ?_) | (refine cw_region ?_) | (refine cw_ret ?_)) | (refine is_qw ?_; first | (with_reducible refine qw_then ?_) | (with_reducible refine qw_then_ret ?_) | (with_reducible refine qw_in_ret ?_)) | (refine lw_nil ?_))
          exact qw_ret3 rfl rfl rfl rfl ⟨⟨_, _, _, _, rfl, HP.mono hw, hV⟩, grow_trans hwF hw⟩

set_option maxRecDepth 20000 in
set_option maxHeartbeats 8000000 in
theorem rev18_c {p : List Opn} {t : List Lt} {e : Evt} {mp mt mn mx : Nat} {ap at_ an ax : Option Addr} {cp ct cn cx : Nat} {w : World} (hmp : p.length = mp) (hmt : t.length = mt) (hmn : e.nums.length = mn) (hmx : e.texts.length = mx) (HP : SlR encP 6 w ap cp p) (HL : SlR encL 4 w at_ ct t) (HN : SlR encI 1 w an cn e.nums) (HX : SlR encT 1 w ax cx e.texts) (hT : TxtIn e.texts) (hg1 : mayV p t = true) (hg2 : e.v = 3) (hg3 : mayE e = true) (hk : e.kind = 18) : Calls Tryz.prog 39 #[.slice ap mp cp, .slice at_ mt ct, .agg #[.int .u8 e.v, .int .u8 e.kind, .slice an mn cn, .slice ax mx cx]] w fun e1 w' => RefR w' e1 (goneR p t e) ∧ Below w.heap.size w w' := by
  obtain ⟨n0, n1, n2, n3, hev, h0, -⟩ := nums18 hg3 hg2 hk
  have hM := mayV_iff.1 hg1
  have hl1 := hM.1
  have hx0 := at_of (i := 0) hev rfl
  have hlen : 0 < e.nums.length := by rw [hev]; simp
  have hn0 := nth_of hx0
  clear hev hM
  obtain ⟨ab, ao, rfl, -, -⟩ := HN.at (by intro h; rw [h] at hlen; simp at hlen)
  subst hmp hmt hmn hmx
  have hw := Below.refl w.heap.size w
  have hcn := HN.le
  have hcm := HN.max
  have hcp := HP.le
  have hcpm := HP.max
  have hct := HL.le
  have hctm := HL.max
  refine fn_enter 270 Tryz.func39 rfl rfl rfl ?_
  repeat' (first | (refine is_cw ?_; first | (refine cw_seq ?_) | (refine cw_region ?_)))
  refine lw_boxN rfl rfl (cs := [.int .u8 e.v, .int .u8 e.kind, .slice ((some ⟨ab, ao, none⟩)) e.nums.length cn, .slice ax e.texts.length cx]) rfl ?_; intro NE wE hNE H hb
  replace hw := grow_trans hw hb
  replace HP := HP.mono hw
  replace HL := HL.mono hw
  replace HN := HN.mono hw
  replace HX := HX.mono hw
  have hw0 := hw
  clear hw hb
  have hw := Below.refl wE.heap.size wE
  repeat' (first | (refine lw_pure rfl (pv_move rfl) ?_) | (refine lw_pure rfl (pv_assign rfl) ?_) | (refine lw_call (f := 60) (by kernel_rfl) rfl rfl (rmayV_e hg1 rfl rfl (HP.mono hw) (HL.mono hw)) ?_; rintro e w1 ⟨rfl, hb⟩; refine ⟨_, rfl, ?_⟩; replace hw := grow_trans hw hb; clear hb) | (refine lw_call (f := 61) (by kernel_rfl) rfl rfl (rmayE_e hg3 rfl rfl (HN.mono hw) (HX.mono hw) hT) ?_; rintro e w1 ⟨rfl, hb⟩; refine ⟨_, rfl, ?_⟩; replace hw := grow_trans hw hb; clear hb) | (refine is_cw ?_; first | (refine cw_seq ?_) | (refine cw_region ?_) | (refine cw_false rfl rfl ?_) | (refine cw_true rfl (by first | assumption | exact decide_eq_true (by omega) | exact dec_notT (by omega)) ?_) | (refine cw_false rfl (by first | assumption | exact decide_eq_false (by omega) | exact dec_notF (by omega)) ?_) | (refine cw_skip ?_) | (refine cw_block ?_)) | (refine is_qw ?_; first | (with_reducible refine qw_then ?_)) | (refine lw_nil ?_) | (refine is_guarded ?_; first | (refine lw_on rfl rfl rfl ?_) | (refine lw_on rfl rfl (by first | assumption | exact decide_eq_true (by omega) | exact decide_eq_false (by omega) | exact dec_notT (by omega) | exact dec_notF (by omega)) ?_)) | ((refine is_bin ?_; first | (refine lw_pure rfl (pv_eql rfl rfl) ?_) | (refine lw_pure rfl (pv_neq rfl rfl) ?_))) | ((refine is_load ?_; first | (refine lw_pure rfl (pv_load (t1 rfl) rfl (by first | exact PT.ld0 (H.mono hw) rfl | exact PT.ld (H.mono hw) rfl)) ?_) | (refine lw_pure rfl (pv_loada (tA rfl) rfl (by first | exact PT.lda (H.mono hw)) (by rfl)) ?_))) | ((refine is_fa ?_; first | (refine lw_pure rfl (pv_fa (tF rfl) rfl) ?_))) | ((refine is_ia ?_; first | (refine lw_pure rfl (pv_ian (tS rfl) rfl rfl (by omega)) ?_))) | ((refine is_un ?_; first | (refine lw_pure rfl (pv_not rfl) ?_))) | (refine lw_pure rfl (pv_pick_f rfl rfl rfl) ?_) | (refine lw_pure rfl (pv_pick_f rfl (by first | assumption | exact decide_eq_false (by omega) | exact dec_notF (by omega)) rfl) ?_))
  cases hf : findT t n0 with
  | none =>
    have hR : goneR p t e = ([], [], 5) := by unfold goneR; rw [hn0, hf, if_neg (by simp)]
    rw [hR]
    repeat' (first | (refine lw_pure rfl (pv_move rfl) ?_) | (refine lw_call (f := 43) (by kernel_rfl) rfl rfl (rfindT_e hf rfl (HL.mono hw)) ?_; rintro e w1 ⟨rfl, hb⟩; refine ⟨_, rfl, ?_⟩; replace hw := grow_trans hw hb; clear hb) | ((refine is_load ?_; first | (refine lw_pure rfl (pv_load (t1 rfl) rfl (by first | exact PT.ld0 (H.mono hw) rfl | exact PT.ld (H.mono hw) rfl | exact SlR.ld (HN.mono hw) hx0 rfl | exact SlR.ld1 (HN.mono hw) hx0 rfl)) ?_))) | (refine lw_pure rfl (pv_extract rfl rfl) ?_))
    refine lw_varN rfl (by first | exact tyv_27 | exact tyv_28 | exact tyv_38 | exact tyv_39 | exact tyv_48 | exact tyv_49 | exact tyv_52 | exact tyv_53 | exact tyv_68 | exact tyv_69 | exact tyv_79 | exact tyv_80 | exact tyv_94 | exact tyv_95 | exact tyv_131 | exact tyv_132) rfl (tZ rfl) (fun _ => rfl) rfl rfl ?_; intro N1 wn hN1 HF hb; replace hw := grow_trans hw hb; clear hb
    repeat' (first | (refine lw_pure rfl (pv_move rfl) ?_) | (refine lw_pure rfl (pv_assign rfl) ?_) | (refine is_cw ?_; first | (refine cw_seq ?_) | (refine cw_region ?_) | (refine cw_true rfl rfl ?_) | (refine cw_ret ?_)) | (refine is_qw ?_; first | (with_reducible refine qw_then ?_) | (with_reducible refine qw_then_ret ?_) | (with_reducible refine qw_in_ret ?_)) | (refine lw_nil ?_) | ((refine is_un ?_; first | (refine lw_pure rfl (pv_not rfl) ?_))))
    exact qw_ret3 rfl rfl rfl rfl ⟨ref_nil _ _, grow_trans hw0 hw⟩
  | some r =>
    have hR : goneR p t e = (p, gone t n0, 0) := by unfold goneR; rw [hn0, hf, if_pos (by rfl)]
    rw [hR]
    clear hR
    repeat' (first | (refine lw_pure rfl (pv_move rfl) ?_) | (refine lw_call (f := 43) (by kernel_rfl) rfl rfl (rfindT_e hf rfl (HL.mono hw)) ?_; rintro e w1 ⟨rfl, hb⟩; refine ⟨_, rfl, ?_⟩; replace hw := grow_trans hw hb; clear hb) | ((refine is_load ?_; first | (refine lw_pure rfl (pv_load (t1 rfl) rfl (by first | exact PT.ld0 (H.mono hw) rfl | exact PT.ld (H.mono hw) rfl | exact SlR.ld (HN.mono hw) hx0 rfl | exact SlR.ld1 (HN.mono hw) hx0 rfl)) ?_))) | (refine lw_pure rfl (pv_extract rfl rfl) ?_))
    refine lw_varN rfl (by first | exact tyv_27 | exact tyv_28 | exact tyv_38 | exact tyv_39 | exact tyv_48 | exact tyv_49 | exact tyv_52 | exact tyv_53 | exact tyv_68 | exact tyv_69 | exact tyv_79 | exact tyv_80 | exact tyv_94 | exact tyv_95 | exact tyv_131 | exact tyv_132) rfl (tZ rfl) (fun _ => rfl) rfl rfl ?_; intro N1 wn hN1 HF hb; replace hw := grow_trans hw hb; clear hb
    repeat' (first | (refine lw_pure rfl (pv_move rfl) ?_) | (refine lw_pure rfl (pv_assign rfl) ?_) | (refine is_cw ?_; first | (refine cw_seq ?_) | (refine cw_region ?_) | (refine cw_false rfl rfl ?_) | (refine cw_skip ?_) | (refine cw_block ?_)) | (refine is_qw ?_; first | (with_reducible refine qw_then ?_)) | (refine lw_nil ?_) | ((refine is_un ?_; first | (refine lw_pure rfl (pv_not rfl) ?_))))
    have hwE := grow_trans hw0 hw
    replace HN := HN.mono hw
    replace HP := HP.mono hw
    replace HL := HL.mono hw
    clear hw
    have hw := Below.refl wn.heap.size wn
    refine cw_loop (σ := Nat × Value) (fun s => [(0, .slice ap p.length cp), (1, .slice at_ t.length ct), (9, .slice (some ⟨ab, ao, none⟩) e.nums.length cn), (26, s.2), (27, .int .i64 (s.1 : Nat))]) (fun s wr => s.1 ≤ t.length ∧ Below wn.heap.size wn wr ∧ Own encL 4 53 wn.heap.size wr s.2 (gone (t.take s.1) n0)) (fun s => t.length - s.1) (0, .slice none 0 0) (by repeat' (first | exact trivial | refine ⟨rfl, ?_⟩)) ⟨Nat.zero_le _, hw, Own.nil _⟩ ?_
    clear hw
    rintro ⟨k, v⟩ wr ⟨hk, hw, hO⟩
    dsimp only at hk hO
    change CW _ _ _ _ [(0, .slice ap p.length cp), (1, .slice at_ t.length ct), (9, .slice (some ⟨ab, ao, none⟩) e.nums.length cn), (26, v), (27, .int .i64 (k : Nat))] wr
    have hLl := gone_len (t.take k) n0
    have htl : (t.take k).length ≤ k := by rw [List.length_take]; omega
    by_cases hlt : k < t.length
    · have hxk : t[k]? = some t[k] := List.getElem?_eq_getElem hlt
      obtain ⟨tb, to, rfl, -, -⟩ := HL.at (by intro h; rw [h] at hlt; simp at hlt)
      generalize t[k] = x at hxk
      have hst := gone_take n0 hxk
      generalize gone (t.take k) n0 = L at *
      by_cases hid : x.id = n0
      · rw [if_pos hid, List.append_nil] at hst
        repeat' (first | (refine lw_pure rfl (pv_move rfl) ?_) | (refine is_cw ?_; first | (refine cw_seq ?_) | (refine cw_region ?_) | (refine cw_true rfl (by first | assumption | exact decide_eq_true (by omega) | exact dec_notT (by omega)) ?_) | (refine cw_skip ?_) | (refine cw_block ?_)) | (refine is_qw ?_; first | (with_reducible refine qw_then ?_)) | (refine lw_nil ?_) | ((refine is_bin ?_; first | (refine lw_pure rfl (pv_lss rfl rfl) ?_))) | ((refine is_bi ?_; first | (refine lw_pure rfl (pv_lenl (tS rfl) rfl) ?_))))
        have hO1 := hO.mono (below_drew _)
        refine cw_drawn (fun w' => Below wn.heap.size wn w') (by kernel_rfl) (by repeat (first | exact NoPanic.body | with_reducible refine NoPanic.then ?_ | with_reducible refine NoPanic.inBlock ?_)) (fun hNP => ?_)
        have hS := hw.drew
        (refine at0 0 rfl (fun w' hq => pv_move rfl) ?_)
        (refine at0 1 rfl (fun w' hq => pv_move rfl) ?_)
        (refine at0 2 rfl (fun w' hq => pv_ian (tS rfl) rfl rfl (by omega)) ?_)
        (refine at0 3 rfl (fun w' hq => pv_fa (tF rfl) rfl) ?_)
        (refine at0 4 rfl (fun w' hq => pv_load (t1 rfl) rfl (by first | exact SlR.ld (HL.mono hq) hxk rfl | exact SlR.ld1 (HL.mono hq) hxk rfl | exact SlR.ld (HN.mono hq) hx0 rfl | exact SlR.ld1 (HN.mono hq) hx0 rfl)) ?_)
        (refine at0 5 rfl (fun w' hq => pv_move rfl) ?_)
        (refine at0 6 rfl (fun w' hq => pv_ian (tS rfl) rfl rfl (by omega)) ?_)
        (refine at0 7 rfl (fun w' hq => pv_load (t1 rfl) rfl (by first | exact SlR.ld (HL.mono hq) hxk rfl | exact SlR.ld1 (HL.mono hq) hxk rfl | exact SlR.ld (HN.mono hq) hx0 rfl | exact SlR.ld1 (HN.mono hq) hx0 rfl)) ?_)
        (refine at0 8 rfl (fun w' hq => pv_neq rfl rfl) ?_)
        refine aw_done (by kernel_rfl) ?_
        replace hw := hS; clear hS hNP
        repeat' (first | (refine lw_pure rfl (pv_move rfl) ?_) | (refine lw_pure rfl (pv_assign rfl) ?_) | (refine is_cw ?_; first | (refine cw_region ?_) | (refine cw_false rfl (by first | assumption | exact decide_eq_false (by omega) | exact dec_notF (by omega)) ?_) | (refine cw_skip ?_)) | (refine is_qw ?_; first | (with_reducible refine qw_then ?_) | (with_reducible refine qw_in ?_)) | (refine lw_nil ?_) | ((refine is_bin ?_; first | (refine lw_pure rfl (pv_inc rfl rfl (by omega)) ?_))))
        exact qw_round (k + 1, v) (by repeat' (first | exact trivial | refine ⟨rfl, ?_⟩)) ⟨by show k + 1 ≤ _; omega, hw, by rw [hst]; exact hO1⟩ (by show t.length - (k + 1) < t.length - k; omega)
      · rw [if_neg hid] at hst
        repeat' (first | (refine lw_pure rfl (pv_move rfl) ?_) | (refine is_cw ?_; first | (refine cw_seq ?_) | (refine cw_region ?_) | (refine cw_true rfl (by first | assumption | exact decide_eq_true (by omega) | exact dec_notT (by omega)) ?_) | (refine cw_skip ?_) | (refine cw_block ?_)) | (refine is_qw ?_; first | (with_reducible refine qw_then ?_)) | (refine lw_nil ?_) | ((refine is_bin ?_; first | (refine lw_pure rfl (pv_lss rfl rfl) ?_))) | ((refine is_bi ?_; first | (refine lw_pure rfl (pv_lenl (tS rfl) rfl) ?_))))
        have hO1 := hO.mono (below_drew _)
        refine cw_drawn (fun w' => Below wn.heap.size wn w') (by kernel_rfl) (by repeat (first | exact NoPanic.body | with_reducible refine NoPanic.then ?_ | with_reducible refine NoPanic.inBlock ?_)) (fun hNP => ?_)
        have hS := hw.drew
        (refine at0 0 rfl (fun w' hq => pv_move rfl) ?_)
        (refine at0 1 rfl (fun w' hq => pv_move rfl) ?_)
        (refine at0 2 rfl (fun w' hq => pv_ian (tS rfl) rfl rfl (by omega)) ?_)
        (refine at0 3 rfl (fun w' hq => pv_fa (tF rfl) rfl) ?_)
        (refine at0 4 rfl (fun w' hq => pv_load (t1 rfl) rfl (by first | exact SlR.ld (HL.mono hq) hxk rfl | exact SlR.ld1 (HL.mono hq) hxk rfl | exact SlR.ld (HN.mono hq) hx0 rfl | exact SlR.ld1 (HN.mono hq) hx0 rfl)) ?_)
        (refine at0 5 rfl (fun w' hq => pv_move rfl) ?_)
        (refine at0 6 rfl (fun w' hq => pv_ian (tS rfl) rfl rfl (by omega)) ?_)
        (refine at0 7 rfl (fun w' hq => pv_load (t1 rfl) rfl (by first | exact SlR.ld (HL.mono hq) hxk rfl | exact SlR.ld1 (HL.mono hq) hxk rfl | exact SlR.ld (HN.mono hq) hx0 rfl | exact SlR.ld1 (HN.mono hq) hx0 rfl)) ?_)
        (refine at0 8 rfl (fun w' hq => pv_neq rfl rfl) ?_)
        refine aw_done (by kernel_rfl) ?_
        replace hw := hS; clear hS hNP
        repeat' (first | (refine lw_pure rfl (pv_move rfl) ?_) | (refine is_cw ?_; first | (refine cw_region ?_) | (refine cw_true rfl (by first | assumption | exact decide_eq_true (by omega) | exact dec_notT (by omega)) ?_)) | (refine is_qw ?_; first | (with_reducible refine qw_then ?_)) | ((refine is_load ?_; first | (refine lw_pure rfl (pv_loada (tA rfl) rfl (by first | exact SlR.lda (HL.mono hw) hxk) (by rfl)) ?_))) | ((refine is_ia ?_; first | (refine lw_pure rfl (pv_ian (tS rfl) rfl rfl (by omega)) ?_))))
        refine lw_bs (vs := [.agg (encL x).toArray]) (cs := encL x) elemL rfl rfl rfl (by omega) (by omega) rfl (by simp [Value.cells, encL]) ?_; intro wb HB hb hz9
        refine lw_app elemL encL_len encL_one rfl rfl rfl ((hO1).mono hb) (HB.slR (xs := [x]) encL_len rfl (by omega)) rfl (Nat.le_trans hw.size hb.size) (by simp; omega) (by simp [maxLen]; omega) ?_; intro v2 wc hO2 hg9 hb9
        replace hw := (grow_trans hw hb).trans hb9; clear hb hb9 hz9 HB hg9
        repeat' (first | (refine lw_pure rfl (pv_move rfl) ?_) | (refine lw_pure rfl (pv_assign rfl) ?_) | (refine is_cw ?_; first | (refine cw_region ?_)) | (refine is_qw ?_; first | (with_reducible refine qw_then ?_) | (with_reducible refine qw_in ?_)) | (refine lw_nil ?_) | ((refine is_bin ?_; first | (refine lw_pure rfl (pv_inc rfl rfl (by omega)) ?_))))
        exact qw_round (k + 1, v2) (by repeat' (first | exact trivial | refine ⟨rfl, ?_⟩)) ⟨by show k + 1 ≤ _; omega, hw, by rw [hst]; exact hO2⟩ (by show t.length - (k + 1) < t.length - k; omega)
    · have hkl : k = t.length := by omega
      subst hkl
      rw [List.take_length] at hO
      obtain ⟨va, vc, rfl, hV, -⟩ := Own.slR encL_len hO
      repeat' (first | (refine lw_pure rfl (pv_move rfl) ?_) | (refine lw_pure rfl (pv_assign rfl) ?_) | (refine is_cw ?_; first | (refine cw_seq ?_) | (refine cw_region ?_) | (refine cw_false rfl (by first | assumption | exact decide_eq_false (by omega) | exact dec_notF (by omega)) ?_) | (refine cw_exit ?_) | (refine cw_ret ?_)) | (refine is_qw ?_; first | (with_reducible refine qw_then ?_) | (with_reducible refine qw_in_hit ?_) | (with_reducible refine qw_then_exit ?_) | (with_reducible refine qw_then_ret ?_) | (with_reducible refine qw_in_ret ?_)) | (refine lw_nil ?_) | ((refine is_bin ?_; first | (refine lw_pure rfl (pv_lss rfl rfl) ?_))) | ((refine is_bi ?_; first | (refine lw_pure rfl (pv_lenl (tS rfl) rfl) ?_))))
      exact qw_ret3 rfl rfl rfl rfl ⟨⟨_, _, _, _, rfl, HP.mono hw, hV⟩, grow_trans hwE hw⟩

set_option maxRecDepth 20000 in
set_option maxHeartbeats 8000000 in
theorem rev19_c {p : List Opn} {t : List Lt} {e : Evt} {mp mt mn mx : Nat} {ap at_ an ax : Option Addr} {cp ct cn cx : Nat} {w : World} (hmp : p.length = mp) (hmt : t.length = mt) (hmn : e.nums.length = mn) (hmx : e.texts.length = mx) (HP : SlR encP 6 w ap cp p) (HL : SlR encL 4 w at_ ct t) (HN : SlR encI 1 w an cn e.nums) (HX : SlR encT 1 w ax cx e.texts) (hT : TxtIn e.texts) (hg1 : mayV p t = true) (hg2 : e.v = 3) (hg3 : mayE e = true) (hk : e.kind = 19) : Calls Tryz.prog 39 #[.slice ap mp cp, .slice at_ mt ct, .agg #[.int .u8 e.v, .int .u8 e.kind, .slice an mn cn, .slice ax mx cx]] w fun e1 w' => RefR w' e1 (goneR p t e) ∧ Below w.heap.size w w' := by
  obtain ⟨n0, hev, h0⟩ := nums19 hg3 hg2 hk
  have hM := mayV_iff.1 hg1
  have hl1 := hM.1
  have hx0 := at_of (i := 0) hev rfl
  have hlen : 0 < e.nums.length := by rw [hev]; simp
  have hn0 := nth_of hx0
  clear hev hM
  obtain ⟨ab, ao, rfl, -, -⟩ := HN.at (by intro h; rw [h] at hlen; simp at hlen)
  subst hmp hmt hmn hmx
  have hw := Below.refl w.heap.size w
  have hcn := HN.le
  have hcm := HN.max
  have hcp := HP.le
  have hcpm := HP.max
  have hct := HL.le
  have hctm := HL.max
  refine fn_enter 270 Tryz.func39 rfl rfl rfl ?_
  repeat' (first | (refine is_cw ?_; first | (refine cw_seq ?_) | (refine cw_region ?_)))
  refine lw_boxN rfl rfl (cs := [.int .u8 e.v, .int .u8 e.kind, .slice ((some ⟨ab, ao, none⟩)) e.nums.length cn, .slice ax e.texts.length cx]) rfl ?_; intro NE wE hNE H hb
  replace hw := grow_trans hw hb
  replace HP := HP.mono hw
  replace HL := HL.mono hw
  replace HN := HN.mono hw
  replace HX := HX.mono hw
  have hw0 := hw
  clear hw hb
  have hw := Below.refl wE.heap.size wE
  repeat' (first | (refine lw_pure rfl (pv_move rfl) ?_) | (refine lw_pure rfl (pv_assign rfl) ?_) | (refine lw_call (f := 60) (by kernel_rfl) rfl rfl (rmayV_e hg1 rfl rfl (HP.mono hw) (HL.mono hw)) ?_; rintro e w1 ⟨rfl, hb⟩; refine ⟨_, rfl, ?_⟩; replace hw := grow_trans hw hb; clear hb) | (refine lw_call (f := 61) (by kernel_rfl) rfl rfl (rmayE_e hg3 rfl rfl (HN.mono hw) (HX.mono hw) hT) ?_; rintro e w1 ⟨rfl, hb⟩; refine ⟨_, rfl, ?_⟩; replace hw := grow_trans hw hb; clear hb) | (refine is_cw ?_; first | (refine cw_seq ?_) | (refine cw_region ?_) | (refine cw_false rfl rfl ?_) | (refine cw_true rfl (by first | assumption | exact decide_eq_true (by omega) | exact dec_notT (by omega)) ?_) | (refine cw_false rfl (by first | assumption | exact decide_eq_false (by omega) | exact dec_notF (by omega)) ?_) | (refine cw_skip ?_) | (refine cw_block ?_)) | (refine is_qw ?_; first | (with_reducible refine qw_then ?_)) | (refine lw_nil ?_) | (refine is_guarded ?_; first | (refine lw_on rfl rfl rfl ?_) | (refine lw_on rfl rfl (by first | assumption | exact decide_eq_true (by omega) | exact decide_eq_false (by omega) | exact dec_notT (by omega) | exact dec_notF (by omega)) ?_)) | ((refine is_bin ?_; first | (refine lw_pure rfl (pv_eql rfl rfl) ?_) | (refine lw_pure rfl (pv_neq rfl rfl) ?_))) | ((refine is_load ?_; first | (refine lw_pure rfl (pv_load (t1 rfl) rfl (by first | exact PT.ld0 (H.mono hw) rfl | exact PT.ld (H.mono hw) rfl)) ?_) | (refine lw_pure rfl (pv_loada (tA rfl) rfl (by first | exact PT.lda (H.mono hw)) (by rfl)) ?_))) | ((refine is_fa ?_; first | (refine lw_pure rfl (pv_fa (tF rfl) rfl) ?_))) | ((refine is_ia ?_; first | (refine lw_pure rfl (pv_ian (tS rfl) rfl rfl (by omega)) ?_))) | ((refine is_un ?_; first | (refine lw_pure rfl (pv_not rfl) ?_))) | (refine lw_pure rfl (pv_pick_f rfl rfl rfl) ?_) | (refine lw_pure rfl (pv_pick_f rfl (by first | assumption | exact decide_eq_false (by omega) | exact dec_notF (by omega)) rfl) ?_))
  cases hf : findT t n0 with
  | none =>
    have hR : goneR p t e = ([], [], 5) := by unfold goneR; rw [hn0, hf, if_neg (by simp)]
    rw [hR]
    repeat' (first | (refine lw_pure rfl (pv_move rfl) ?_) | (refine lw_call (f := 43) (by kernel_rfl) rfl rfl (rfindT_e hf rfl (HL.mono hw)) ?_; rintro e w1 ⟨rfl, hb⟩; refine ⟨_, rfl, ?_⟩; replace hw := grow_trans hw hb; clear hb) | ((refine is_load ?_; first | (refine lw_pure rfl (pv_load (t1 rfl) rfl (by first | exact PT.ld0 (H.mono hw) rfl | exact PT.ld (H.mono hw) rfl | exact SlR.ld (HN.mono hw) hx0 rfl | exact SlR.ld1 (HN.mono hw) hx0 rfl)) ?_))) | (refine lw_pure rfl (pv_extract rfl rfl) ?_))
    refine lw_varN rfl (by first | exact tyv_27 | exact tyv_28 | exact tyv_38 | exact tyv_39 | exact tyv_48 | exact tyv_49 | exact tyv_52 | exact tyv_53 | exact tyv_68 | exact tyv_69 | exact tyv_79 | exact tyv_80 | exact tyv_94 | exact tyv_95 | exact tyv_131 | exact tyv_132) rfl (tZ rfl) (fun _ => rfl) rfl rfl ?_; intro N1 wn hN1 HF hb; replace hw := grow_trans hw hb; clear hb
    repeat' (first | (refine lw_pure rfl (pv_move rfl) ?_) | (refine lw_pure rfl (pv_assign rfl) ?_) | (refine is_cw ?_; first | (refine cw_seq ?_) | (refine cw_region ?_) | (refine cw_true rfl rfl ?_) | (refine cw_ret ?_)) | (refine is_qw ?_; first | (with_reducible refine qw_then ?_) | (with_reducible refine qw_then_ret ?_) | (with_reducible refine qw_in_ret ?_)) | (refine lw_nil ?_) | ((refine is_un ?_; first | (refine lw_pure rfl (pv_not rfl) ?_))))
    exact qw_ret3 rfl rfl rfl rfl ⟨ref_nil _ _, grow_trans hw0 hw⟩
  | some r =>
    have hR : goneR p t e = (p, gone t n0, 0) := by unfold goneR; rw [hn0, hf, if_pos (by rfl)]
    rw [hR]
    clear hR
    repeat' (first | (refine lw_pure rfl (pv_move rfl) ?_) | (refine lw_call (f := 43) (by kernel_rfl) rfl rfl (rfindT_e hf rfl (HL.mono hw)) ?_; rintro e w1 ⟨rfl, hb⟩; refine ⟨_, rfl, ?_⟩; replace hw := grow_trans hw hb; clear hb) | ((refine is_load ?_; first | (refine lw_pure rfl (pv_load (t1 rfl) rfl (by first | exact PT.ld0 (H.mono hw) rfl | exact PT.ld (H.mono hw) rfl | exact SlR.ld (HN.mono hw) hx0 rfl | exact SlR.ld1 (HN.mono hw) hx0 rfl)) ?_))) | (refine lw_pure rfl (pv_extract rfl rfl) ?_))
    refine lw_varN rfl (by first | exact tyv_27 | exact tyv_28 | exact tyv_38 | exact tyv_39 | exact tyv_48 | exact tyv_49 | exact tyv_52 | exact tyv_53 | exact tyv_68 | exact tyv_69 | exact tyv_79 | exact tyv_80 | exact tyv_94 | exact tyv_95 | exact tyv_131 | exact tyv_132) rfl (tZ rfl) (fun _ => rfl) rfl rfl ?_; intro N1 wn hN1 HF hb; replace hw := grow_trans hw hb; clear hb
    repeat' (first | (refine lw_pure rfl (pv_move rfl) ?_) | (refine lw_pure rfl (pv_assign rfl) ?_) | (refine is_cw ?_; first | (refine cw_seq ?_) | (refine cw_region ?_) | (refine cw_false rfl rfl ?_) | (refine cw_skip ?_) | (refine cw_block ?_)) | (refine is_qw ?_; first | (with_reducible refine qw_then ?_)) | (refine lw_nil ?_) | ((refine is_un ?_; first | (refine lw_pure rfl (pv_not rfl) ?_))))
    have hwE := grow_trans hw0 hw
    replace HN := HN.mono hw
    replace HP := HP.mono hw
    replace HL := HL.mono hw
    clear hw
    have hw := Below.refl wn.heap.size wn
    refine cw_loop (σ := Nat × Value) (fun s => [(0, .slice ap p.length cp), (1, .slice at_ t.length ct), (9, .slice (some ⟨ab, ao, none⟩) e.nums.length cn), (26, s.2), (27, .int .i64 (s.1 : Nat))]) (fun s wr => s.1 ≤ t.length ∧ Below wn.heap.size wn wr ∧ Own encL 4 53 wn.heap.size wr s.2 (gone (t.take s.1) n0)) (fun s => t.length - s.1) (0, .slice none 0 0) (by repeat' (first | exact trivial | refine ⟨rfl, ?_⟩)) ⟨Nat.zero_le _, hw, Own.nil _⟩ ?_
    clear hw
    rintro ⟨k, v⟩ wr ⟨hk, hw, hO⟩
    dsimp only at hk hO
    change CW _ _ _ _ [(0, .slice ap p.length cp), (1, .slice at_ t.length ct), (9, .slice (some ⟨ab, ao, none⟩) e.nums.length cn), (26, v), (27, .int .i64 (k : Nat))] wr
    have hLl := gone_len (t.take k) n0
    have htl : (t.take k).length ≤ k := by rw [List.length_take]; omega
    by_cases hlt : k < t.length
    · have hxk : t[k]? = some t[k] := List.getElem?_eq_getElem hlt
      obtain ⟨tb, to, rfl, -, -⟩ := HL.at (by intro h; rw [h] at hlt; simp at hlt)
      generalize t[k] = x at hxk
      have hst := gone_take n0 hxk
      generalize gone (t.take k) n0 = L at *
      by_cases hid : x.id = n0
      · rw [if_pos hid, List.append_nil] at hst
        repeat' (first | (refine lw_pure rfl (pv_move rfl) ?_) | (refine is_cw ?_; first | (refine cw_seq ?_) | (refine cw_region ?_) | (refine cw_true rfl (by first | assumption | exact decide_eq_true (by omega) | exact dec_notT (by omega)) ?_) | (refine cw_skip ?_) | (refine cw_block ?_)) | (refine is_qw ?_; first | (with_reducible refine qw_then ?_)) | (refine lw_nil ?_) | ((refine is_bin ?_; first | (refine lw_pure rfl (pv_lss rfl rfl) ?_))) | ((refine is_bi ?_; first | (refine lw_pure rfl (pv_lenl (tS rfl) rfl) ?_))))
        have hO1 := hO.mono (below_drew _)
        refine cw_drawn (fun w' => Below wn.heap.size wn w') (by kernel_rfl) (by repeat (first | exact NoPanic.body | with_reducible refine NoPanic.then ?_ | with_reducible refine NoPanic.inBlock ?_)) (fun hNP => ?_)
        have hS := hw.drew
        (refine at0 0 rfl (fun w' hq => pv_move rfl) ?_)
        (refine at0 1 rfl (fun w' hq => pv_move rfl) ?_)
        (refine at0 2 rfl (fun w' hq => pv_ian (tS rfl) rfl rfl (by omega)) ?_)
        (refine at0 3 rfl (fun w' hq => pv_fa (tF rfl) rfl) ?_)
        (refine at0 4 rfl (fun w' hq => pv_load (t1 rfl) rfl (by first | exact SlR.ld (HL.mono hq) hxk rfl | exact SlR.ld1 (HL.mono hq) hxk rfl | exact SlR.ld (HN.mono hq) hx0 rfl | exact SlR.ld1 (HN.mono hq) hx0 rfl)) ?_)
        (refine at0 5 rfl (fun w' hq => pv_move rfl) ?_)
        (refine at0 6 rfl (fun w' hq => pv_ian (tS rfl) rfl rfl (by omega)) ?_)
        (refine at0 7 rfl (fun w' hq => pv_load (t1 rfl) rfl (by first | exact SlR.ld (HL.mono hq) hxk rfl | exact SlR.ld1 (HL.mono hq) hxk rfl | exact SlR.ld (HN.mono hq) hx0 rfl | exact SlR.ld1 (HN.mono hq) hx0 rfl)) ?_)
        (refine at0 8 rfl (fun w' hq => pv_neq rfl rfl) ?_)
        refine aw_done (by kernel_rfl) ?_
        replace hw := hS; clear hS hNP
        repeat' (first | (refine lw_pure rfl (pv_move rfl) ?_) | (refine lw_pure rfl (pv_assign rfl) ?_) | (refine is_cw ?_; first | (refine cw_region ?_) | (refine cw_false rfl (by first | assumption | exact decide_eq_false (by omega) | exact dec_notF (by omega)) ?_) | (refine cw_skip ?_)) | (refine is_qw ?_; first | (with_reducible refine qw_then ?_) | (with_reducible refine qw_in ?_)) | (refine lw_nil ?_) | ((refine is_bin ?_; first | (refine lw_pure rfl (pv_inc rfl rfl (by omega)) ?_))))
        exact qw_round (k + 1, v) (by repeat' (first | exact trivial | refine ⟨rfl, ?_⟩)) ⟨by show k + 1 ≤ _; omega, hw, by rw [hst]; exact hO1⟩ (by show t.length - (k + 1) < t.length - k; omega)
      · rw [if_neg hid] at hst
        repeat' (first | (refine lw_pure rfl (pv_move rfl) ?_) | (refine is_cw ?_; first | (refine cw_seq ?_) | (refine cw_region ?_) | (refine cw_true rfl (by first | assumption | exact decide_eq_true (by omega) | exact dec_notT (by omega)) ?_) | (refine cw_skip ?_) | (refine cw_block ?_)) | (refine is_qw ?_; first | (with_reducible refine qw_then ?_)) | (refine lw_nil ?_) | ((refine is_bin ?_; first | (refine lw_pure rfl (pv_lss rfl rfl) ?_))) | ((refine is_bi ?_; first | (refine lw_pure rfl (pv_lenl (tS rfl) rfl) ?_))))
        have hO1 := hO.mono (below_drew _)
        refine cw_drawn (fun w' => Below wn.heap.size wn w') (by kernel_rfl) (by repeat (first | exact NoPanic.body | with_reducible refine NoPanic.then ?_ | with_reducible refine NoPanic.inBlock ?_)) (fun hNP => ?_)
        have hS := hw.drew
        (refine at0 0 rfl (fun w' hq => pv_move rfl) ?_)
        (refine at0 1 rfl (fun w' hq => pv_move rfl) ?_)
        (refine at0 2 rfl (fun w' hq => pv_ian (tS rfl) rfl rfl (by omega)) ?_)
        (refine at0 3 rfl (fun w' hq => pv_fa (tF rfl) rfl) ?_)
        (refine at0 4 rfl (fun w' hq => pv_load (t1 rfl) rfl (by first | exact SlR.ld (HL.mono hq) hxk rfl | exact SlR.ld1 (HL.mono hq) hxk rfl | exact SlR.ld (HN.mono hq) hx0 rfl | exact SlR.ld1 (HN.mono hq) hx0 rfl)) ?_)
        (refine at0 5 rfl (fun w' hq => pv_move rfl) ?_)
        (refine at0 6 rfl (fun w' hq => pv_ian (tS rfl) rfl rfl (by omega)) ?_)
        (refine at0 7 rfl (fun w' hq => pv_load (t1 rfl) rfl (by first | exact SlR.ld (HL.mono hq) hxk rfl | exact SlR.ld1 (HL.mono hq) hxk rfl | exact SlR.ld (HN.mono hq) hx0 rfl | exact SlR.ld1 (HN.mono hq) hx0 rfl)) ?_)
        (refine at0 8 rfl (fun w' hq => pv_neq rfl rfl) ?_)
        refine aw_done (by kernel_rfl) ?_
        replace hw := hS; clear hS hNP
        repeat' (first | (refine lw_pure rfl (pv_move rfl) ?_) | (refine is_cw ?_; first | (refine cw_region ?_) | (refine cw_true rfl (by first | assumption | exact decide_eq_true (by omega) | exact dec_notT (by omega)) ?_)) | (refine is_qw ?_; first | (with_reducible refine qw_then ?_)) | ((refine is_load ?_; first | (refine lw_pure rfl (pv_loada (tA rfl) rfl (by first | exact SlR.lda (HL.mono hw) hxk) (by rfl)) ?_))) | ((refine is_ia ?_; first | (refine lw_pure rfl (pv_ian (tS rfl) rfl rfl (by omega)) ?_))))
        refine lw_bs (vs := [.agg (encL x).toArray]) (cs := encL x) elemL rfl rfl rfl (by omega) (by omega) rfl (by simp [Value.cells, encL]) ?_; intro wb HB hb hz9
        refine lw_app elemL encL_len encL_one rfl rfl rfl ((hO1).mono hb) (HB.slR (xs := [x]) encL_len rfl (by omega)) rfl (Nat.le_trans hw.size hb.size) (by simp; omega) (by simp [maxLen]; omega) ?_; intro v2 wc hO2 hg9 hb9
        replace hw := (grow_trans hw hb).trans hb9; clear hb hb9 hz9 HB hg9
        repeat' (first | (refine lw_pure rfl (pv_move rfl) ?_) | (refine lw_pure rfl (pv_assign rfl) ?_) | (refine is_cw ?_; first | (refine cw_region ?_)) | (refine is_qw ?_; first | (with_reducible refine qw_then ?_) | (with_reducible refine qw_in ?_)) | (refine lw_nil ?_) | ((refine is_bin ?_; first | (refine lw_pure rfl (pv_inc rfl rfl (by omega)) ?_))))
        exact qw_round (k + 1, v2) (by repeat' (first | exact trivial | refine ⟨rfl, ?_⟩)) ⟨by show k + 1 ≤ _; omega, hw, by rw [hst]; exact hO2⟩ (by show t.length - (k + 1) < t.length - k; omega)
    · have hkl : k = t.length := by omega
      subst hkl
      rw [List.take_length] at hO
      obtain ⟨va, vc, rfl, hV, -⟩ := Own.slR encL_len hO
      repeat' (first | (refine lw_pure rfl (pv_move rfl) ?_) | (refine lw_pure rfl (pv_assign rfl) ?_) | (refine is_cw ?_; first | (refine cw_seq ?_) | (refine cw_region ?_) | (refine cw_false rfl (by first | assumption | exact decide_eq_false (by omega) | exact dec_notF (by omega)) ?_) | (refine cw_exit ?_) | (refine cw_ret ?_)) | (refine is_qw ?_; first | (with_reducible refine qw_then ?_) | (with_reducible refine qw_in_hit ?_) | (with_reducible refine qw_then_exit ?_) | (with_reducible refine qw_then_ret ?_) | (with_reducible refine qw_in_ret ?_)) | (refine lw_nil ?_) | ((refine is_bin ?_; first | (refine lw_pure rfl (pv_lss rfl rfl) ?_))) | ((refine is_bi ?_; first | (refine lw_pure rfl (pv_lenl (tS rfl) rfl) ?_))))
      exact qw_ret3 rfl rfl rfl rfl ⟨⟨_, _, _, _, rfl, HP.mono hw, hV⟩, grow_trans hwE hw⟩

end Go.Proofs.YtemngicaoacfaaaGreatDoor
namespace Go.Proofs.YtemngicaoacfaaaGreatDoor
open Go.RowKit Go.PlainAid

set_option maxRecDepth 20000 in
set_option maxHeartbeats 8000000 in
theorem revN_c {p : List Opn} {t : List Lt} {e : Evt} {mp mt mn mx : Nat} {ap at_ an ax : Option Addr} {cp ct cn cx : Nat} {w : World} (hmp : p.length = mp) (hmt : t.length = mt) (hmn : e.nums.length = mn) (hmx : e.texts.length = mx) (HP : SlR encP 6 w ap cp p) (HL : SlR encL 4 w at_ ct t) (HN : SlR encI 1 w an cn e.nums) (HX : SlR encT 1 w ax cx e.texts) (hT : TxtIn e.texts) (hg1 : mayV p t = true) (hg2 : e.v = 3) (hg3 : mayE e = true) (k1 : ¬ e.kind = 11) (k2 : ¬ e.kind = 12) (k3 : ¬ e.kind = 13) (k4 : ¬ e.kind = 14) (k5 : ¬ e.kind = 16) (k6 : ¬ e.kind = 18) (k7 : ¬ e.kind = 19) : Calls Tryz.prog 39 #[.slice ap mp cp, .slice at_ mt ct, .agg #[.int .u8 e.v, .int .u8 e.kind, .slice an mn cn, .slice ax mx cx]] w fun e1 w' => RefR w' e1 ((p, t, 0)) ∧ Below w.heap.size w w' := by
  subst hmp hmt hmn hmx
  have hw := Below.refl w.heap.size w
  have hcn := HN.le
  have hcm := HN.max
  have hcp := HP.le
  have hcpm := HP.max
  have hct := HL.le
  have hctm := HL.max
  refine fn_enter 270 Tryz.func39 rfl rfl rfl ?_
  repeat' (first | (refine is_cw ?_; first | (refine cw_seq ?_) | (refine cw_region ?_)))
  refine lw_boxN rfl rfl (cs := [.int .u8 e.v, .int .u8 e.kind, .slice (an) e.nums.length cn, .slice ax e.texts.length cx]) rfl ?_; intro NE wE hNE H hb
  replace hw := grow_trans hw hb
  replace HP := HP.mono hw
  replace HL := HL.mono hw
  replace HN := HN.mono hw
  replace HX := HX.mono hw
  have hw0 := hw
  clear hw hb
  have hw := Below.refl wE.heap.size wE
  repeat' (first | (refine lw_pure rfl (pv_move rfl) ?_) | (refine lw_pure rfl (pv_assign rfl) ?_) | (refine lw_call (f := 60) (by kernel_rfl) rfl rfl (rmayV_e hg1 rfl rfl (HP.mono hw) (HL.mono hw)) ?_; rintro e w1 ⟨rfl, hb⟩; refine ⟨_, rfl, ?_⟩; replace hw := grow_trans hw hb; clear hb) | (refine lw_call (f := 61) (by kernel_rfl) rfl rfl (rmayE_e hg3 rfl rfl (HN.mono hw) (HX.mono hw) hT) ?_; rintro e w1 ⟨rfl, hb⟩; refine ⟨_, rfl, ?_⟩; replace hw := grow_trans hw hb; clear hb) | (refine is_cw ?_; first | (refine cw_seq ?_) | (refine cw_region ?_) | (refine cw_false rfl rfl ?_) | (refine cw_false rfl (by first | assumption | exact decide_eq_false (by omega) | exact dec_notF (by omega)) ?_) | (refine cw_skip ?_) | (refine cw_block ?_) | (refine cw_ret ?_)) | (refine is_qw ?_; first | (with_reducible refine qw_then ?_) | (with_reducible refine qw_in ?_)) | (refine lw_nil ?_) | (refine is_guarded ?_; first | (refine lw_on rfl rfl rfl ?_) | (refine lw_on rfl rfl (by first | assumption | exact decide_eq_true (by omega) | exact decide_eq_false (by omega) | exact dec_notT (by omega) | exact dec_notF (by omega)) ?_)) | ((refine is_bin ?_; first | (refine lw_pure rfl (pv_eql rfl rfl) ?_) | (refine lw_pure rfl (pv_neq rfl rfl) ?_))) | ((refine is_load ?_; first | (refine lw_pure rfl (pv_load (t1 rfl) rfl (by first | exact PT.ld0 (H.mono hw) rfl | exact PT.ld (H.mono hw) rfl)) ?_) | (refine lw_pure rfl (pv_loada (tA rfl) rfl (by first | exact PT.lda (H.mono hw)) (by rfl)) ?_))) | ((refine is_fa ?_; first | (refine lw_pure rfl (pv_fa (tF rfl) rfl) ?_))) | ((refine is_un ?_; first | (refine lw_pure rfl (pv_not rfl) ?_))) | (refine lw_pure rfl (pv_pick_f rfl rfl rfl) ?_) | (refine lw_pure rfl (pv_pick_f rfl (by first | assumption | exact decide_eq_false (by omega) | exact dec_notF (by omega)) rfl) ?_))
  skip
  exact qw_ret3 rfl rfl rfl rfl ⟨⟨_, _, _, _, rfl, HP.mono hw, HL.mono hw⟩, grow_trans hw0 hw⟩
set_option maxRecDepth 20000 in
set_option maxHeartbeats 8000000 in
theorem revX_c {p : List Opn} {t : List Lt} {e : Evt} {mp mt mn mx : Nat} {ap at_ an ax : Option Addr} {cp ct cn cx : Nat} {w : World} (hmp : p.length = mp) (hmt : t.length = mt) (hmn : e.nums.length = mn) (hmx : e.texts.length = mx) (HP : SlR encP 6 w ap cp p) (HL : SlR encL 4 w at_ ct t) (HN : SlR encI 1 w an cn e.nums) (HX : SlR encT 1 w ax cx e.texts) (hT : TxtIn e.texts) (hg : ¬ (mayV p t = true ∧ e.v = 3 ∧ mayE e = true)) : Calls Tryz.prog 39 #[.slice ap mp cp, .slice at_ mt ct, .agg #[.int .u8 e.v, .int .u8 e.kind, .slice an mn cn, .slice ax mx cx]] w fun e1 w' => RefR w' e1 (([], [], 4)) ∧ Below w.heap.size w w' := by
  subst hmp hmt hmn hmx
  have hw := Below.refl w.heap.size w
  have hcn := HN.le
  have hcm := HN.max
  have hcp := HP.le
  have hcpm := HP.max
  have hct := HL.le
  have hctm := HL.max
  refine fn_enter 270 Tryz.func39 rfl rfl rfl ?_
  repeat' (first | (refine is_cw ?_; first | (refine cw_seq ?_) | (refine cw_region ?_)))
  refine lw_boxN rfl rfl (cs := [.int .u8 e.v, .int .u8 e.kind, .slice (an) e.nums.length cn, .slice ax e.texts.length cx]) rfl ?_; intro NE wE hNE H hb
  replace hw := grow_trans hw hb
  replace HP := HP.mono hw
  replace HL := HL.mono hw
  replace HN := HN.mono hw
  replace HX := HX.mono hw
  have hw0 := hw
  clear hw hb
  have hw := Below.refl wE.heap.size wE
  cases hg1 : mayV p t with
  | false =>
    repeat' (first | (refine lw_pure rfl (pv_move rfl) ?_) | (refine lw_pure rfl (pv_assign rfl) ?_) | (refine lw_call (f := 60) (by kernel_rfl) rfl rfl (rmayV_e hg1 rfl rfl (HP.mono hw) (HL.mono hw)) ?_; rintro e w1 ⟨rfl, hb⟩; refine ⟨_, rfl, ?_⟩; replace hw := grow_trans hw hb; clear hb) | (refine is_cw ?_; first | (refine cw_seq ?_) | (refine cw_region ?_) | (refine cw_true rfl rfl ?_) | (refine cw_ret ?_)) | (refine is_qw ?_; first | (with_reducible refine qw_then ?_) | (with_reducible refine qw_then_ret ?_)) | (refine lw_nil ?_) | (refine is_guarded ?_; first | (refine lw_not rfl rfl rfl rfl ?_)) | ((refine is_un ?_; first | (refine lw_pure rfl (pv_not rfl) ?_))) | (refine lw_pure rfl (pv_pick_t rfl rfl rfl) ?_))
    all_goals exact qw_ret3 rfl rfl rfl rfl ⟨ref_nil _ _, grow_trans hw0 hw⟩
  | true =>
    by_cases hg2 : e.v = 3
    · have hg3 : mayE e = false := by rw [Bool.eq_false_iff]; exact fun h => hg ⟨hg1, hg2, h⟩
      repeat' (first | (refine lw_pure rfl (pv_move rfl) ?_) | (refine lw_pure rfl (pv_assign rfl) ?_) | (refine lw_call (f := 60) (by kernel_rfl) rfl rfl (rmayV_e hg1 rfl rfl (HP.mono hw) (HL.mono hw)) ?_; rintro e w1 ⟨rfl, hb⟩; refine ⟨_, rfl, ?_⟩; replace hw := grow_trans hw hb; clear hb) | (refine lw_call (f := 61) (by kernel_rfl) rfl rfl (rmayE_e hg3 rfl rfl (HN.mono hw) (HX.mono hw) hT) ?_; rintro e w1 ⟨rfl, hb⟩; refine ⟨_, rfl, ?_⟩; replace hw := grow_trans hw hb; clear hb) | (refine is_cw ?_; first | (refine cw_seq ?_) | (refine cw_region ?_) | (refine cw_true rfl rfl ?_) | (refine cw_ret ?_)) | (refine is_qw ?_; first | (with_reducible refine qw_then ?_) | (with_reducible refine qw_then_ret ?_)) | (refine lw_nil ?_) | (refine is_guarded ?_; first | (refine lw_on rfl rfl rfl ?_) | (refine lw_on rfl rfl (by first | assumption | exact decide_eq_true (by omega) | exact decide_eq_false (by omega) | exact dec_notT (by omega) | exact dec_notF (by omega)) ?_)) | ((refine is_bin ?_; first | (refine lw_pure rfl (pv_neq rfl rfl) ?_))) | ((refine is_load ?_; first | (refine lw_pure rfl (pv_load (t1 rfl) rfl (by first | exact PT.ld0 (H.mono hw) rfl | exact PT.ld (H.mono hw) rfl)) ?_) | (refine lw_pure rfl (pv_loada (tA rfl) rfl (by first | exact PT.lda (H.mono hw)) (by rfl)) ?_))) | ((refine is_fa ?_; first | (refine lw_pure rfl (pv_fa (tF rfl) rfl) ?_))) | ((refine is_un ?_; first | (refine lw_pure rfl (pv_not rfl) ?_))) | (refine lw_pure rfl (pv_pick_f rfl rfl rfl) ?_) | (refine lw_pure rfl (pv_pick_f rfl (by first | assumption | exact decide_eq_false (by omega) | exact dec_notF (by omega)) rfl) ?_))
      all_goals exact qw_ret3 rfl rfl rfl rfl ⟨ref_nil _ _, grow_trans hw0 hw⟩
    · repeat' (first | (refine lw_pure rfl (pv_move rfl) ?_) | (refine lw_pure rfl (pv_assign rfl) ?_) | (refine lw_call (f := 60) (by kernel_rfl) rfl rfl (rmayV_e hg1 rfl rfl (HP.mono hw) (HL.mono hw)) ?_; rintro e w1 ⟨rfl, hb⟩; refine ⟨_, rfl, ?_⟩; replace hw := grow_trans hw hb; clear hb) | (refine is_cw ?_; first | (refine cw_seq ?_) | (refine cw_region ?_) | (refine cw_true rfl rfl ?_) | (refine cw_ret ?_)) | (refine is_qw ?_; first | (with_reducible refine qw_then ?_) | (with_reducible refine qw_then_ret ?_)) | (refine lw_nil ?_) | (refine is_guarded ?_; first | (refine lw_on rfl rfl rfl ?_) | (refine lw_not rfl rfl rfl (by first | assumption | exact decide_eq_true (by omega) | exact decide_eq_false (by omega) | exact dec_notT (by omega) | exact dec_notF (by omega)) ?_)) | ((refine is_bin ?_; first | (refine lw_pure rfl (pv_neq rfl rfl) ?_))) | ((refine is_load ?_; first | (refine lw_pure rfl (pv_load (t1 rfl) rfl (by first | exact PT.ld0 (H.mono hw) rfl | exact PT.ld (H.mono hw) rfl)) ?_))) | ((refine is_fa ?_; first | (refine lw_pure rfl (pv_fa (tF rfl) rfl) ?_))) | ((refine is_un ?_; first | (refine lw_pure rfl (pv_not rfl) ?_))) | (refine lw_pure rfl (pv_pick_f rfl rfl rfl) ?_) | (refine lw_pure rfl (pv_pick_t rfl (by first | assumption | exact decide_eq_true (by omega) | exact dec_notT (by omega)) rfl) ?_))
      all_goals exact qw_ret3 rfl rfl rfl rfl ⟨ref_nil _ _, grow_trans hw0 hw⟩
theorem rev_c {p : List Opn} {t : List Lt} {e : Evt} {mp mt mn mx : Nat} {ap at_ an ax : Option Addr} {cp ct cn cx : Nat} {w : World} (hmp : p.length = mp) (hmt : t.length = mt) (hmn : e.nums.length = mn) (hmx : e.texts.length = mx) (HP : SlR encP 6 w ap cp p) (HL : SlR encL 4 w at_ ct t) (HN : SlR encI 1 w an cn e.nums) (HX : SlR encT 1 w ax cx e.texts) (hT : TxtIn e.texts) : Calls Tryz.prog 39 #[.slice ap mp cp, .slice at_ mt ct, .agg #[.int .u8 e.v, .int .u8 e.kind, .slice an mn cn, .slice ax mx cx]] w fun e1 w' => RefR w' e1 (eventR p t e) ∧ Below w.heap.size w w' := by
  by_cases hg : mayV p t = true ∧ e.v = 3 ∧ mayE e = true
  · rw [event_yes hg]
    obtain ⟨hg1, hg2, hg3⟩ := hg
    unfold doneR
    by_cases k1 : e.kind = 11
    · rw [if_pos k1]; exact rev11_c hmp hmt hmn hmx HP HL HN HX hT hg1 hg2 hg3 k1
    rw [if_neg k1]
    by_cases k2 : e.kind = 12
    · rw [if_pos k2]; exact rev12_c hmp hmt hmn hmx HP HL HN HX hT hg1 hg2 hg3 k2
    rw [if_neg k2]
    by_cases k3 : e.kind = 13
    · rw [if_pos k3]; exact rev13_c hmp hmt hmn hmx HP HL HN HX hT hg1 hg2 hg3 k3
    rw [if_neg k3]
    by_cases k4 : e.kind = 14
    · rw [if_pos (Or.inl k4)]; exact rev14_c hmp hmt hmn hmx HP HL HN HX hT hg1 hg2 hg3 k4
    by_cases k5 : e.kind = 16
    · rw [if_pos (Or.inr k5)]; exact rev16_c hmp hmt hmn hmx HP HL HN HX hT hg1 hg2 hg3 k5
    rw [if_neg (by omega)]
    by_cases k6 : e.kind = 18
    · rw [if_pos (Or.inl k6)]; exact rev18_c hmp hmt hmn hmx HP HL HN HX hT hg1 hg2 hg3 k6
    by_cases k7 : e.kind = 19
    · rw [if_pos (Or.inr k7)]; exact rev19_c hmp hmt hmn hmx HP HL HN HX hT hg1 hg2 hg3 k7
    rw [if_neg (by omega)]
    exact revN_c hmp hmt hmn hmx HP HL HN HX hT hg1 hg2 hg3 k1 k2 k3 k4 k5 k6 k7
  · rw [event_no hg]; exact revX_c hmp hmt hmn hmx HP HL HN HX hT hg
end Go.Proofs.YtemngicaoacfaaaGreatDoor
