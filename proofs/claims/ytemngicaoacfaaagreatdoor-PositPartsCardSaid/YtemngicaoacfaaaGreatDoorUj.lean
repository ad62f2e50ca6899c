/-
  Contracts of layer 23's place of a position, put, and a deal. Conditions: the slices read as lists; the positions rise; what each theorem names.
-/
import Derived.Test.YtemngicaoacfaaaGreatDoorUi
namespace Go.Proofs.YtemngicaoacfaaaGreatDoor
open Go.RowKit Go.PlainAid

set_option maxRecDepth 20000 in
set_option maxHeartbeats 4000000 in
theorem search_S {l : List Pos} {m : Nat} {a : Option Addr} {ca : Nat} {w : World} (p : Pos) (hm : l.length = m) (hl : l.length ≤ 65536) (hpw : l.Pairwise keyS) (HS : SlR encS 6 w a ca l) : Calls Tryz.prog 97 #[.slice a m ca, .agg (encS p).toArray, .func (.func 58) #[] #[]] w fun e w' => (∃ (i : Nat) (b : Bool), e = .returned (.tuple #[.int .i64 (i : Nat), .bool b]) ∧ PlaceS l p i ∧ (b = true → ∃ x, l[i]? = some x ∧ sameK x p) ∧ (b = false → ∀ x, l[i]? = some x → ¬ sameK x p)) ∧ Below w.heap.size w w' := by
  subst hm
  have hE := Ext.refl w
  have hw := Below.refl w.heap.size w
  have hca := HS.le
  have hcm := HS.max
  refine fn_enter 49 Tryz.func97 rfl rfl rfl ?_
  repeat' (first | (refine is_cw ?_; first | (refine cw_seq ?_) | (refine cw_region ?_)))
  refine lw_boxN rfl rfl (cs := encS p) rfl ?_; intro N w1 hN HB hb
  replace hw := grow_trans hw hb
  clear hb
  replace hE := hE.mono hw; replace HS := HS.mono hw; clear hw; have hw := Below.refl w1.heap.size w1
  repeat' (first | (refine lw_pure rfl (pv_move rfl) ?_) | (refine lw_pure rfl (pv_assign rfl) ?_) | (refine is_cw ?_; first | (refine cw_seq ?_) | (refine cw_region ?_) | (refine cw_block ?_)) | (refine is_qw ?_; first | (with_reducible refine qw_then ?_)) | (refine lw_nil ?_) | ((refine is_bi ?_; first | (refine lw_pure rfl (pv_lenl (tS rfl) rfl) ?_))))
  refine cw_loop (σ := Nat × Nat) (fun s => [(0, .slice a l.length ca), (2, .func (.func 58) #[] #[]), (4, .pointer (some ⟨N, 0, none⟩)), (8, .int .i64 (l.length : Nat)), (9, .int .i64 (s.1 : Nat)), (10, .int .i64 (s.2 : Nat))]) (fun s wr => (s.1 ≤ s.2 ∧ s.2 ≤ l.length) ∧ Below w1.heap.size w1 wr ∧ (∀ j x, j < s.1 → l[j]? = some x → keyS x p) ∧ (∀ j x, s.2 ≤ j → l[j]? = some x → ¬ keyS x p)) (fun s => s.2 - s.1) (0, l.length) (by repeat' (first | exact trivial | refine ⟨rfl, ?_⟩)) ⟨⟨Nat.zero_le _, Nat.le_refl _⟩, hw, (fun j x hj => absurd hj (Nat.not_lt_zero _)), (fun j x hj hx => by have h1 := (List.getElem?_eq_some_iff.1 hx).1; have h2 : l.length ≤ j := hj; omega)⟩ ?_
  clear hw
  rintro ⟨lo, hi⟩ wr ⟨⟨h1, h2⟩, hw, hlo, hhi⟩
  dsimp only at h1 h2 hlo hhi
  change CW _ _ _ _ [(0, .slice a l.length ca), (2, .func (.func 58) #[] #[]), (4, .pointer (some ⟨N, 0, none⟩)), (8, .int .i64 (l.length : Nat)), (9, .int .i64 (lo : Nat)), (10, .int .i64 (hi : Nat))] wr
  by_cases hlt : lo < hi
  · obtain ⟨q, hq⟩ : ∃ q, (lo + hi) / 2 = q := ⟨_, rfl⟩
    have hq1 : lo ≤ q ∧ q < hi := by omega
    have hlt1 : q < l.length := by omega
    have hxq : l[q]? = some l[q] := List.getElem?_eq_getElem hlt1
    obtain ⟨ab, ao, rfl, -, -⟩ := HS.at (by intro h; rw [h] at hlt1; simp at hlt1)
    generalize l[q] = y at hxq
    repeat' (first | (refine lw_pure rfl (pv_move rfl) ?_) | (refine lw_pure rfl (pv_assign rfl) ?_) | (refine lw_pure rfl (pv_half (m := lo + hi) rfl rfl (by omega) hq (by decide)) ?_) | (refine lw_pure rfl (pv_convu (tCv rfl rfl) rfl (by omega)) ?_) | (refine is_cw ?_; first | (refine cw_seq ?_) | (refine cw_region ?_) | (refine cw_true rfl (by first | assumption | exact decide_eq_true (by omega) | exact dec_notT (by omega)) ?_) | (refine cw_skip ?_) | (refine cw_block ?_)) | (refine is_qw ?_; first | (with_reducible refine qw_then ?_)) | (refine lw_nil ?_) | ((refine is_bin ?_; first | (refine lw_pure rfl (pv_lss rfl rfl) ?_) | (refine lw_pure rfl (pv_add rfl rfl (by omega)) ?_))) | (refine lw_pure rfl (pv_conv (tCv rfl rfl) rfl (by omega)) ?_))
    refine cw_drawn (fun w' => Below w1.heap.size w1 w') (by kernel_rfl) (by repeat (first | exact NoPanic.body | with_reducible refine NoPanic.then ?_ | with_reducible refine NoPanic.inBlock ?_)) (fun hNP => ?_)
    have hS := hw.drew
    (refine aw_take 0 rfl (by kernel_rfl) (by kernel_rfl) (by kernel_rfl) hNP hS rfl (fun w' hq => pv_move rfl) ?_)
    (refine aw_take 1 rfl (by kernel_rfl) (by kernel_rfl) (by kernel_rfl) hNP hS rfl (fun w' hq => pv_move rfl) ?_)
    (refine aw_take 2 rfl (by kernel_rfl) (by kernel_rfl) (by kernel_rfl) hNP hS rfl (fun w' hq => pv_move rfl) ?_)
    (refine aw_take 3 rfl (by kernel_rfl) (by kernel_rfl) (by kernel_rfl) hNP hS rfl (fun w' hq => pv_ian (tS rfl) rfl rfl (by omega)) ?_)
    (refine aw_take 4 rfl (by kernel_rfl) (by kernel_rfl) (by kernel_rfl) hNP hS rfl (fun w' hq => pv_loada (tA rfl) rfl (by first | exact SlR.lda (HS.mono hq) hxq | exact PT.lda (HB.mono hq)) (by rfl)) ?_)
    (refine aw_take 5 rfl (by kernel_rfl) (by kernel_rfl) (by kernel_rfl) hNP hS rfl (fun w' hq => pv_loada (tA rfl) rfl (by first | exact SlR.lda (HS.mono hq) hxq | exact PT.lda (HB.mono hq)) (by rfl)) ?_)
    refine aw_act 6 (by kernel_rfl) rfl rfl rfl ?_
    refine act_callv (f := 58) rfl (by kernel_rfl) rfl (comp_c y p _) ?_; rintro e w2 ⟨rfl, hb⟩; refine ⟨_, rfl, grow_trans hS hb, fun hS => ?_⟩
    (refine aw_take 7 rfl (by kernel_rfl) (by kernel_rfl) (by kernel_rfl) hNP hS rfl (fun w' hq => pv_lss rfl rfl) ?_)
    refine aw_done (by kernel_rfl) ?_
    replace hw := hS; clear hS hNP
    by_cases hy : rowS y p < 0
    · have hyk := rowS_lt.1 hy
      repeat' (first | (refine lw_pure rfl (pv_move rfl) ?_) | (refine lw_pure rfl (pv_assign rfl) ?_) | (refine is_cw ?_; first | (refine cw_region ?_) | (refine cw_true rfl (by first | assumption | exact decide_eq_true (by omega) | exact dec_notT (by omega)) ?_)) | (refine is_qw ?_; first | (with_reducible refine qw_then ?_) | (with_reducible refine qw_in ?_)) | (refine lw_nil ?_) | ((refine is_bin ?_; first | (refine lw_pure rfl (pv_inc rfl rfl (by omega)) ?_))))
      refine qw_round (q + 1, hi) (by repeat' (first | exact trivial | refine ⟨rfl, ?_⟩)) ⟨⟨by show q + 1 ≤ hi; omega, h2⟩, hw, ?_, hhi⟩ (by show hi - (q + 1) < hi - lo; omega)
      intro j x hj hx
      replace hj : j < q + 1 := hj
      by_cases hjq : j = q
      · subst hjq; rw [hxq] at hx; injection hx with hx; subst hx; exact hyk
      · exact keyS_trans (pwg_get hpw (by omega) hx hxq) hyk
    · have hyk : ¬ keyS y p := fun h => hy (rowS_lt.2 h)
      repeat' (first | (refine lw_pure rfl (pv_move rfl) ?_) | (refine lw_pure rfl (pv_assign rfl) ?_) | (refine is_cw ?_; first | (refine cw_region ?_) | (refine cw_false rfl (by first | assumption | exact decide_eq_false (by omega) | exact dec_notF (by omega)) ?_)) | (refine is_qw ?_; first | (with_reducible refine qw_then ?_) | (with_reducible refine qw_in ?_)) | (refine lw_nil ?_))
      refine qw_round (lo, q) (by repeat' (first | exact trivial | refine ⟨rfl, ?_⟩)) ⟨⟨hq1.1, by show q ≤ l.length; omega⟩, hw, hlo, ?_⟩ (by show q - lo < hi - lo; omega)
      intro j x hj hx hk
      replace hj : q ≤ j := hj
      by_cases hjq : j = q
      · subst hjq; rw [hxq] at hx; injection hx with hx; subst hx; exact hyk hk
      · exact hyk (keyS_trans (pwg_get hpw (by omega) hxq hx) hk)
  · obtain rfl : hi = lo := by omega
    have hP : PlaceS l p hi := ⟨h2, hlo, fun j x hj => hhi j x hj⟩
    repeat' (first | (refine lw_pure rfl (pv_move rfl) ?_) | (refine is_cw ?_; first | (refine cw_seq ?_) | (refine cw_region ?_) | (refine cw_false rfl (by first | assumption | exact decide_eq_false (by omega) | exact dec_notF (by omega)) ?_) | (refine cw_exit ?_)) | (refine is_qw ?_; first | (with_reducible refine qw_then ?_) | (with_reducible refine qw_in_hit ?_) | (with_reducible refine qw_then_exit ?_)) | (refine lw_nil ?_) | ((refine is_bin ?_; first | (refine lw_pure rfl (pv_lss rfl rfl) ?_))))
    by_cases hn : hi < l.length
    · have hxq : l[hi]? = some l[hi] := List.getElem?_eq_getElem hn
      obtain ⟨ab, ao, rfl, -, -⟩ := HS.at (by intro h; rw [h] at hn; simp at hn)
      generalize l[hi] = y at hxq
      refine cw_drawn (fun w' => Below w1.heap.size w1 w') (by kernel_rfl) (by repeat (first | exact NoPanic.body | with_reducible refine NoPanic.then ?_ | with_reducible refine NoPanic.inBlock ?_)) (fun hNP => ?_)
      have hS := hw.drew
      all_goals (refine aw_take 0 rfl (by kernel_rfl) (by kernel_rfl) (by kernel_rfl) hNP hS rfl (fun w' hq => pv_move rfl) ?_)
      all_goals (refine aw_take 1 rfl (by kernel_rfl) (by kernel_rfl) (by kernel_rfl) hNP hS rfl (fun w' hq => pv_move rfl) ?_)
      all_goals (refine aw_take 2 rfl (by kernel_rfl) (by kernel_rfl) (by kernel_rfl) hNP hS rfl (fun w' hq => pv_move rfl) ?_)
      all_goals (refine aw_take 3 rfl (by kernel_rfl) (by kernel_rfl) (by kernel_rfl) hNP hS rfl (fun w' hq => pv_lss rfl rfl) ?_)
      all_goals (refine aw_take 4 rfl (by kernel_rfl) (by kernel_rfl) (by kernel_rfl) hNP hS rfl (fun w' hq => pv_move rfl) ?_)
      all_goals (refine aw_take_on 5 rfl rfl rfl (by first | assumption | exact decide_eq_true (by omega) | exact decide_eq_false (by omega) | exact dec_notT (by omega) | exact dec_notF (by omega)) (by kernel_rfl) (by kernel_rfl) (by kernel_rfl) hNP hS rfl (fun w' hq => pv_move rfl) ?_)
      all_goals (refine aw_take_on 6 rfl rfl rfl (by first | assumption | exact decide_eq_true (by omega) | exact decide_eq_false (by omega) | exact dec_notT (by omega) | exact dec_notF (by omega)) (by kernel_rfl) (by kernel_rfl) (by kernel_rfl) hNP hS rfl (fun w' hq => pv_move rfl) ?_)
      all_goals (refine aw_take_on 7 rfl rfl rfl (by first | assumption | exact decide_eq_true (by omega) | exact decide_eq_false (by omega) | exact dec_notT (by omega) | exact dec_notF (by omega)) (by kernel_rfl) (by kernel_rfl) (by kernel_rfl) hNP hS rfl (fun w' hq => pv_move rfl) ?_)
      all_goals (refine aw_take_on 8 rfl rfl rfl (by first | assumption | exact decide_eq_true (by omega) | exact decide_eq_false (by omega) | exact dec_notT (by omega) | exact dec_notF (by omega)) (by kernel_rfl) (by kernel_rfl) (by kernel_rfl) hNP hS rfl (fun w' hq => pv_ian (tS rfl) rfl rfl (by omega)) ?_)
      all_goals (refine aw_take_on 9 rfl rfl rfl (by first | assumption | exact decide_eq_true (by omega) | exact decide_eq_false (by omega) | exact dec_notT (by omega) | exact dec_notF (by omega)) (by kernel_rfl) (by kernel_rfl) (by kernel_rfl) hNP hS rfl (fun w' hq => pv_loada (tA rfl) rfl (by first | exact SlR.lda (HS.mono hq) hxq | exact PT.lda (HB.mono hq)) (by rfl)) ?_)
      all_goals (refine aw_take_on 10 rfl rfl rfl (by first | assumption | exact decide_eq_true (by omega) | exact decide_eq_false (by omega) | exact dec_notT (by omega) | exact dec_notF (by omega)) (by kernel_rfl) (by kernel_rfl) (by kernel_rfl) hNP hS rfl (fun w' hq => pv_loada (tA rfl) rfl (by first | exact SlR.lda (HS.mono hq) hxq | exact PT.lda (HB.mono hq)) (by rfl)) ?_)
      all_goals first | (refine aw_not 11 rfl rfl rfl (by first | rfl | assumption | exact decide_eq_true (by omega) | exact decide_eq_false (by omega) | exact dec_notT (by omega) | exact dec_notF (by omega)) (by kernel_rfl) (by kernel_rfl) (by kernel_rfl) hNP hS rfl ?_) | (refine aw_not_u 11 rfl rfl rfl (by kernel_rfl) (by kernel_rfl) (by kernel_rfl) hNP hS rfl ?_) | (refine aw_act_g 11 (by kernel_rfl) rfl rfl rfl (by first | rfl | assumption | exact decide_eq_true (by omega) | exact decide_eq_false (by omega) | exact dec_notT (by omega) | exact dec_notF (by omega)) rfl ?_; refine act_callv (f := 58) rfl (by kernel_rfl) rfl (comp_c y p _) ?_; rintro e w2 ⟨rfl, hb⟩; refine ⟨_, rfl, grow_trans hS hb, fun hS => ?_⟩)
      all_goals (refine aw_take_on 12 rfl rfl rfl (by first | assumption | exact decide_eq_true (by omega) | exact decide_eq_false (by omega) | exact dec_notT (by omega) | exact dec_notF (by omega)) (by kernel_rfl) (by kernel_rfl) (by kernel_rfl) hNP hS rfl (fun w' hq => pv_eql rfl rfl) ?_)
      all_goals (refine aw_take 13 rfl (by kernel_rfl) (by kernel_rfl) (by kernel_rfl) hNP hS rfl (fun w' hq => pv_pick_t rfl (by first | assumption | exact decide_eq_true (by omega) | exact dec_notT (by omega)) rfl) ?_)
      all_goals (refine aw_take 14 rfl (by kernel_rfl) (by kernel_rfl) (by kernel_rfl) hNP hS rfl (fun w' hq => pv_assign rfl) ?_)
      all_goals (refine aw_take 15 rfl (by kernel_rfl) (by kernel_rfl) (by kernel_rfl) hNP hS rfl (fun w' hq => pv_assign rfl) ?_)
      all_goals (refine aw_done (by kernel_rfl) ?_; replace hw := hS; clear hS hNP)
      repeat' (first | (refine is_cw ?_; first | (refine cw_ret ?_)) | (refine is_qw ?_; first | (with_reducible refine qw_then ?_)))
      refine qw_ret2 rfl rfl rfl ⟨⟨hi, decide (rowS y p = 0), rfl, hP, fun h => ⟨y, hxq, rowS_eq.1 (of_decide_eq_true h)⟩, fun h x hx hs => ?_⟩, (hE.mono hw).b⟩
      rw [hxq] at hx; injection hx with hx; subst hx
      exact (of_decide_eq_false h) (rowS_eq.2 hs)
    · skip
      refine cw_drawn (fun w' => Below w1.heap.size w1 w') (by kernel_rfl) (by repeat (first | exact NoPanic.body | with_reducible refine NoPanic.then ?_ | with_reducible refine NoPanic.inBlock ?_)) (fun hNP => ?_)
      have hS := hw.drew
      all_goals (refine aw_take 0 rfl (by kernel_rfl) (by kernel_rfl) (by kernel_rfl) hNP hS rfl (fun w' hq => pv_move rfl) ?_)
      all_goals (refine aw_take 1 rfl (by kernel_rfl) (by kernel_rfl) (by kernel_rfl) hNP hS rfl (fun w' hq => pv_move rfl) ?_)
      all_goals (refine aw_take 2 rfl (by kernel_rfl) (by kernel_rfl) (by kernel_rfl) hNP hS rfl (fun w' hq => pv_move rfl) ?_)
      all_goals (refine aw_take 3 rfl (by kernel_rfl) (by kernel_rfl) (by kernel_rfl) hNP hS rfl (fun w' hq => pv_lss rfl rfl) ?_)
      all_goals (refine aw_take 4 rfl (by kernel_rfl) (by kernel_rfl) (by kernel_rfl) hNP hS rfl (fun w' hq => pv_move rfl) ?_)
      all_goals (refine aw_not 5 rfl rfl rfl (by first | assumption | exact decide_eq_true (by omega) | exact decide_eq_false (by omega) | exact dec_notT (by omega) | exact dec_notF (by omega)) (by kernel_rfl) (by kernel_rfl) (by kernel_rfl) hNP hS rfl ?_)
      all_goals (refine aw_not 6 rfl rfl rfl (by first | assumption | exact decide_eq_true (by omega) | exact decide_eq_false (by omega) | exact dec_notT (by omega) | exact dec_notF (by omega)) (by kernel_rfl) (by kernel_rfl) (by kernel_rfl) hNP hS rfl ?_)
      all_goals (refine aw_not 7 rfl rfl rfl (by first | assumption | exact decide_eq_true (by omega) | exact decide_eq_false (by omega) | exact dec_notT (by omega) | exact dec_notF (by omega)) (by kernel_rfl) (by kernel_rfl) (by kernel_rfl) hNP hS rfl ?_)
      all_goals (refine aw_not 8 rfl rfl rfl (by first | assumption | exact decide_eq_true (by omega) | exact decide_eq_false (by omega) | exact dec_notT (by omega) | exact dec_notF (by omega)) (by kernel_rfl) (by kernel_rfl) (by kernel_rfl) hNP hS rfl ?_)
      all_goals (refine aw_not 9 rfl rfl rfl (by first | assumption | exact decide_eq_true (by omega) | exact decide_eq_false (by omega) | exact dec_notT (by omega) | exact dec_notF (by omega)) (by kernel_rfl) (by kernel_rfl) (by kernel_rfl) hNP hS rfl ?_)
      all_goals (refine aw_not 10 rfl rfl rfl (by first | assumption | exact decide_eq_true (by omega) | exact decide_eq_false (by omega) | exact dec_notT (by omega) | exact dec_notF (by omega)) (by kernel_rfl) (by kernel_rfl) (by kernel_rfl) hNP hS rfl ?_)
      all_goals first | (refine aw_not 11 rfl rfl rfl (by first | rfl | assumption | exact decide_eq_true (by omega) | exact decide_eq_false (by omega) | exact dec_notT (by omega) | exact dec_notF (by omega)) (by kernel_rfl) (by kernel_rfl) (by kernel_rfl) hNP hS rfl ?_) | (refine aw_not_u 11 rfl rfl rfl (by kernel_rfl) (by kernel_rfl) (by kernel_rfl) hNP hS rfl ?_) | (refine aw_act_g 11 (by kernel_rfl) rfl rfl rfl (by first | rfl | assumption | exact decide_eq_true (by omega) | exact decide_eq_false (by omega) | exact dec_notT (by omega) | exact dec_notF (by omega)) rfl ?_; skip)
      all_goals (refine aw_not 12 rfl rfl rfl (by first | assumption | exact decide_eq_true (by omega) | exact decide_eq_false (by omega) | exact dec_notT (by omega) | exact dec_notF (by omega)) (by kernel_rfl) (by kernel_rfl) (by kernel_rfl) hNP hS rfl ?_)
      all_goals (refine aw_take 13 rfl (by kernel_rfl) (by kernel_rfl) (by kernel_rfl) hNP hS rfl (fun w' hq => pv_pick_f rfl (by first | assumption | exact decide_eq_false (by omega) | exact dec_notF (by omega)) rfl) ?_)
      all_goals (refine aw_take 14 rfl (by kernel_rfl) (by kernel_rfl) (by kernel_rfl) hNP hS rfl (fun w' hq => pv_assign rfl) ?_)
      all_goals (refine aw_take 15 rfl (by kernel_rfl) (by kernel_rfl) (by kernel_rfl) hNP hS rfl (fun w' hq => pv_assign rfl) ?_)
      all_goals (refine aw_done (by kernel_rfl) ?_; replace hw := hS; clear hS hNP)
      repeat' (first | (refine is_cw ?_; first | (refine cw_ret ?_)) | (refine is_qw ?_; first | (with_reducible refine qw_then ?_)))
      exact qw_ret2 rfl rfl rfl ⟨⟨hi, false, rfl, hP, (fun h => by cases h), fun _ x hx _ => absurd (List.getElem?_eq_some_iff.1 hx).1 hn⟩, (hE.mono hw).b⟩
set_option maxRecDepth 20000 in
set_option maxHeartbeats 2000000 in
theorem bought_c {q n : Int} {x : Pos} (a i : Int) (hq : NumS q) (hn : NumS n) (hx : NumS x.bought ∧ NumS x.sold ∧ NumS x.spent ∧ NumS x.got) (w : World) : Calls Tryz.prog 66 #[.agg #[.int .i64 q, .int .i64 n], .agg (encS x).toArray] w fun e w' => e = .returned (.agg (encS (joinS x ⟨a, i, q, 0, n, 0⟩)).toArray) ∧ Below w.heap.size w w' := by
  have hE := Ext.refl w
  have hw := Below.refl w.heap.size w
  have hJ : (((encS x).set 2 (.int .i64 (moreS x.bought q))).set 4 (.int .i64 (moreS x.spent n))) = encS (joinS x ⟨a, i, q, 0, n, 0⟩) := by
    unfold joinS encS
    simp only [more_zero hx.2.1, more_zero hx.2.2.2]
    rfl
  refine fn_enter 18 Tryz.func66 rfl rfl rfl ?_
  repeat' (first | (refine is_cw ?_; first | (refine cw_seq ?_) | (refine cw_region ?_)))
  refine lw_boxN rfl rfl (cs := [.int .i64 q, .int .i64 n]) rfl ?_; intro N2 w2 hN2 HC hb
  replace hw := grow_trans hw hb
  clear hb
  refine lw_boxN rfl rfl (cs := encS x) rfl ?_; intro N3 w3 hN3 HX hb
  replace hN3 : w.heap.size ≤ N3 := Nat.le_trans hw.size hN3
  replace HC := HC.mono hb
  replace hw := grow_trans hw hb
  clear hb
  refine lw_allocN rfl (by first | exact tyv_27 | exact tyv_28 | exact tyv_38 | exact tyv_39 | exact tyv_48 | exact tyv_49 | exact tyv_52 | exact tyv_53 | exact tyv_68 | exact tyv_69 | exact tyv_79 | exact tyv_80 | exact tyv_94 | exact tyv_95 | exact tyv_131 | exact tyv_132) rfl ?_; intro N4 w4 hN4 HZ hb
  have h34 : N3 ≠ N4 := by have := HX.lt; omega
  replace hN4 : w.heap.size ≤ N4 := Nat.le_trans hw.size hN4
  replace HC := HC.mono hb
  replace HX := HX.mono hb
  replace hw := grow_trans hw hb
  clear hb
  replace hE := hE.mono hw; clear hw; have hw := Below.refl w4.heap.size w4
  repeat' (first | (refine is_cw ?_; first | (refine cw_seq ?_)) | (refine is_qw ?_; first | (with_reducible refine qw_then ?_)) | (refine lw_nil ?_))
  refine cw_drawnF 11 (fun w' => Below w4.heap.size w4 w' ∧ PT w' N3 39 (encS x)) (by kernel_rfl) (by repeat (first | exact NoPanic.body | with_reducible refine NoPanic.then ?_ | with_reducible refine NoPanic.inBlock ?_)) (fun hNP => ?_)
  have hU := And.intro hw.drew (HX.mono (below_drew _))
  first | (refine fw_takeT 0 9 rfl (by kernel_rfl) (by kernel_rfl) rfl rfl (by kernel_rfl) (by kernel_rfl) (by kernel_rfl) hNP hU rfl (fun w' hq => pv_fa (tF rfl) rfl) ?_)
  first | (refine fw_takeT 1 9 rfl (by kernel_rfl) (by kernel_rfl) rfl rfl (by kernel_rfl) (by kernel_rfl) (by kernel_rfl) hNP hU rfl (fun w' hq => pv_load (t1 rfl) rfl (by first | exact PT.ld0 hq.2 rfl | exact PT.ld hq.2 rfl)) ?_)
  first | (refine fw_takeT 2 9 rfl (by kernel_rfl) (by kernel_rfl) rfl rfl (by kernel_rfl) (by kernel_rfl) (by kernel_rfl) hNP hU rfl (fun w' hq => pv_fa (tF rfl) rfl) ?_)
  first | (refine fw_takeT 3 9 rfl (by kernel_rfl) (by kernel_rfl) rfl rfl (by kernel_rfl) (by kernel_rfl) (by kernel_rfl) hNP hU rfl (fun w' hq => pv_load (t1 rfl) rfl (by first | exact PT.ld0 (HC.mono hq.1) rfl | exact PT.ld (HC.mono hq.1) rfl)) ?_)
  first | (refine fw_takeT 5 9 rfl (by kernel_rfl) (by kernel_rfl) rfl rfl (by kernel_rfl) (by kernel_rfl) (by kernel_rfl) hNP hU rfl (fun w' hq => pv_fa (tF rfl) rfl) ?_)
  first | (refine fw_takeT 6 9 rfl (by kernel_rfl) (by kernel_rfl) rfl rfl (by kernel_rfl) (by kernel_rfl) (by kernel_rfl) hNP hU rfl (fun w' hq => pv_load (t1 rfl) rfl (by first | exact PT.ld0 hq.2 rfl | exact PT.ld hq.2 rfl)) ?_)
  first | (refine fw_takeT 7 9 rfl (by kernel_rfl) (by kernel_rfl) rfl rfl (by kernel_rfl) (by kernel_rfl) (by kernel_rfl) hNP hU rfl (fun w' hq => pv_fa (tF rfl) rfl) ?_)
  first | (refine fw_takeT 8 9 rfl (by kernel_rfl) (by kernel_rfl) rfl rfl (by kernel_rfl) (by kernel_rfl) (by kernel_rfl) hNP hU rfl (fun w' hq => pv_load (t1 rfl) rfl (by first | exact PT.ld0 (HC.mono hq.1) rfl | exact PT.ld (HC.mono hq.1) rfl)) ?_)
  refine fw_act 4 (by kernel_rfl) rfl rfl rfl ?_
  refine act_call (f := 99) (by kernel_rfl) rfl (cap_c hx.1 hq _) ?_; rintro e w5 ⟨rfl, rfl⟩; refine ⟨_, rfl, hU, fun hU => ?_⟩
  first | (refine fw_takeT 10 9 rfl (by kernel_rfl) (by kernel_rfl) rfl rfl (by kernel_rfl) (by kernel_rfl) (by kernel_rfl) hNP hU rfl (fun w' hq => pv_fa (tF rfl) rfl) ?_)
  refine fw_act 9 (by kernel_rfl) rfl rfl rfl ?_
  refine act_call (f := 99) (by kernel_rfl) rfl (cap_c hx.2.2.1 hn _) ?_; rintro e w5 ⟨rfl, rfl⟩; refine ⟨_, rfl, hU, fun hU => ?_⟩
  obtain ⟨hw, HX⟩ := hU; clear hNP
  refine fw_one 11 (by kernel_rfl) rfl rfl rfl (by kernel_rfl) ?_
  refine act_store HX (tZ rfl) rfl rfl rfl (by simp [encS]) ?_; intro w6 HX2 hg hz
  first | (refine fw_one 12 (by kernel_rfl) rfl rfl rfl (by kernel_rfl) ?_; refine act_pv (pv_fa (tF rfl) rfl) ?_)
  refine fw_one 13 (by kernel_rfl) rfl rfl rfl (by kernel_rfl) ?_
  refine act_store HX2 (tZ rfl) rfl rfl rfl (by simp [encS]) ?_; intro w7 HX3 hg2 hz2
  refine fw_done (by kernel_rfl) ?_
  rw [hJ] at HX3
  replace hE := ((hE.mono hw).grown hg (by intro q hq; injection hq with hq; omega)).grown hg2 (by intro q hq; injection hq with hq; omega)
  replace HZ := ((HZ.mono hw).grown hg (by intro h; injection h with h; exact h34 h)).grown hg2 (by intro h; injection h with h; exact h34 h)
  clear hw
  have hw := Below.refl w7.heap.size w7
  repeat' (first | (refine is_cw ?_; first | (refine cw_seq ?_) | (refine cw_region ?_)) | (refine is_qw ?_; first | (with_reducible refine qw_then ?_)) | ((refine is_load ?_; first | (refine lw_pure rfl (pv_loada (tA rfl) rfl (by first | exact PT.lda (HX3.mono hw)) (by rfl)) ?_))))
  refine lw_storea (vs := encS (joinS x ⟨a, i, q, 0, n, 0⟩)) HZ (tZ rfl) rfl rfl rfl rfl (encS_one _) ?_; intro w8 H8 hg3 hz3
  replace hE := hE.grown hg3 (by intro q hq; injection hq with hq; omega)
  have hw := Below.refl w8.heap.size w8
  repeat' (first | (refine is_cw ?_; first | (refine cw_ret ?_)) | (refine is_qw ?_; first | (with_reducible refine qw_then ?_)) | (refine lw_nil ?_))
  exact qw_retc rfl rfl (agg_ld (tA rfl) rfl (fun i u hu => H8.ld0 hu)) ⟨rfl, hE.b⟩

set_option maxRecDepth 20000 in
set_option maxHeartbeats 2000000 in
theorem sold_c {q n : Int} {x : Pos} (a i : Int) (hq : NumS q) (hn : NumS n) (hx : NumS x.bought ∧ NumS x.sold ∧ NumS x.spent ∧ NumS x.got) (w : World) : Calls Tryz.prog 67 #[.agg #[.int .i64 q, .int .i64 n], .agg (encS x).toArray] w fun e w' => e = .returned (.agg (encS (joinS x ⟨a, i, 0, q, 0, n⟩)).toArray) ∧ Below w.heap.size w w' := by
  have hE := Ext.refl w
  have hw := Below.refl w.heap.size w
  have hJ : (((encS x).set 3 (.int .i64 (moreS x.sold q))).set 5 (.int .i64 (moreS x.got n))) = encS (joinS x ⟨a, i, 0, q, 0, n⟩) := by
    unfold joinS encS
    simp only [more_zero hx.1, more_zero hx.2.2.1]
    rfl
  refine fn_enter 18 Tryz.func67 rfl rfl rfl ?_
  repeat' (first | (refine is_cw ?_; first | (refine cw_seq ?_) | (refine cw_region ?_)))
  refine lw_boxN rfl rfl (cs := [.int .i64 q, .int .i64 n]) rfl ?_; intro N2 w2 hN2 HC hb
  replace hw := grow_trans hw hb
  clear hb
  refine lw_boxN rfl rfl (cs := encS x) rfl ?_; intro N3 w3 hN3 HX hb
  replace hN3 : w.heap.size ≤ N3 := Nat.le_trans hw.size hN3
  replace HC := HC.mono hb
  replace hw := grow_trans hw hb
  clear hb
  refine lw_allocN rfl (by first | exact tyv_27 | exact tyv_28 | exact tyv_38 | exact tyv_39 | exact tyv_48 | exact tyv_49 | exact tyv_52 | exact tyv_53 | exact tyv_68 | exact tyv_69 | exact tyv_79 | exact tyv_80 | exact tyv_94 | exact tyv_95 | exact tyv_131 | exact tyv_132) rfl ?_; intro N4 w4 hN4 HZ hb
  have h34 : N3 ≠ N4 := by have := HX.lt; omega
  replace hN4 : w.heap.size ≤ N4 := Nat.le_trans hw.size hN4
  replace HC := HC.mono hb
  replace HX := HX.mono hb
  replace hw := grow_trans hw hb
  clear hb
  replace hE := hE.mono hw; clear hw; have hw := Below.refl w4.heap.size w4
  repeat' (first | (refine is_cw ?_; first | (refine cw_seq ?_)) | (refine is_qw ?_; first | (with_reducible refine qw_then ?_)) | (refine lw_nil ?_))
  refine cw_drawnF 11 (fun w' => Below w4.heap.size w4 w' ∧ PT w' N3 39 (encS x)) (by kernel_rfl) (by repeat (first | exact NoPanic.body | with_reducible refine NoPanic.then ?_ | with_reducible refine NoPanic.inBlock ?_)) (fun hNP => ?_)
  have hU := And.intro hw.drew (HX.mono (below_drew _))
  first | (refine fw_takeT 0 9 rfl (by kernel_rfl) (by kernel_rfl) rfl rfl (by kernel_rfl) (by kernel_rfl) (by kernel_rfl) hNP hU rfl (fun w' hq => pv_fa (tF rfl) rfl) ?_)
  first | (refine fw_takeT 1 9 rfl (by kernel_rfl) (by kernel_rfl) rfl rfl (by kernel_rfl) (by kernel_rfl) (by kernel_rfl) hNP hU rfl (fun w' hq => pv_load (t1 rfl) rfl (by first | exact PT.ld0 hq.2 rfl | exact PT.ld hq.2 rfl)) ?_)
  first | (refine fw_takeT 2 9 rfl (by kernel_rfl) (by kernel_rfl) rfl rfl (by kernel_rfl) (by kernel_rfl) (by kernel_rfl) hNP hU rfl (fun w' hq => pv_fa (tF rfl) rfl) ?_)
  first | (refine fw_takeT 3 9 rfl (by kernel_rfl) (by kernel_rfl) rfl rfl (by kernel_rfl) (by kernel_rfl) (by kernel_rfl) hNP hU rfl (fun w' hq => pv_load (t1 rfl) rfl (by first | exact PT.ld0 (HC.mono hq.1) rfl | exact PT.ld (HC.mono hq.1) rfl)) ?_)
  first | (refine fw_takeT 5 9 rfl (by kernel_rfl) (by kernel_rfl) rfl rfl (by kernel_rfl) (by kernel_rfl) (by kernel_rfl) hNP hU rfl (fun w' hq => pv_fa (tF rfl) rfl) ?_)
  first | (refine fw_takeT 6 9 rfl (by kernel_rfl) (by kernel_rfl) rfl rfl (by kernel_rfl) (by kernel_rfl) (by kernel_rfl) hNP hU rfl (fun w' hq => pv_load (t1 rfl) rfl (by first | exact PT.ld0 hq.2 rfl | exact PT.ld hq.2 rfl)) ?_)
  first | (refine fw_takeT 7 9 rfl (by kernel_rfl) (by kernel_rfl) rfl rfl (by kernel_rfl) (by kernel_rfl) (by kernel_rfl) hNP hU rfl (fun w' hq => pv_fa (tF rfl) rfl) ?_)
  first | (refine fw_takeT 8 9 rfl (by kernel_rfl) (by kernel_rfl) rfl rfl (by kernel_rfl) (by kernel_rfl) (by kernel_rfl) hNP hU rfl (fun w' hq => pv_load (t1 rfl) rfl (by first | exact PT.ld0 (HC.mono hq.1) rfl | exact PT.ld (HC.mono hq.1) rfl)) ?_)
  refine fw_act 4 (by kernel_rfl) rfl rfl rfl ?_
  refine act_call (f := 99) (by kernel_rfl) rfl (cap_c hx.2.1 hq _) ?_; rintro e w5 ⟨rfl, rfl⟩; refine ⟨_, rfl, hU, fun hU => ?_⟩
  first | (refine fw_takeT 10 9 rfl (by kernel_rfl) (by kernel_rfl) rfl rfl (by kernel_rfl) (by kernel_rfl) (by kernel_rfl) hNP hU rfl (fun w' hq => pv_fa (tF rfl) rfl) ?_)
  refine fw_act 9 (by kernel_rfl) rfl rfl rfl ?_
  refine act_call (f := 99) (by kernel_rfl) rfl (cap_c hx.2.2.2 hn _) ?_; rintro e w5 ⟨rfl, rfl⟩; refine ⟨_, rfl, hU, fun hU => ?_⟩
  obtain ⟨hw, HX⟩ := hU; clear hNP
  refine fw_one 11 (by kernel_rfl) rfl rfl rfl (by kernel_rfl) ?_
  refine act_store HX (tZ rfl) rfl rfl rfl (by simp [encS]) ?_; intro w6 HX2 hg hz
  first | (refine fw_one 12 (by kernel_rfl) rfl rfl rfl (by kernel_rfl) ?_; refine act_pv (pv_fa (tF rfl) rfl) ?_)
  refine fw_one 13 (by kernel_rfl) rfl rfl rfl (by kernel_rfl) ?_
  refine act_store HX2 (tZ rfl) rfl rfl rfl (by simp [encS]) ?_; intro w7 HX3 hg2 hz2
  refine fw_done (by kernel_rfl) ?_
  rw [hJ] at HX3
  replace hE := ((hE.mono hw).grown hg (by intro q hq; injection hq with hq; omega)).grown hg2 (by intro q hq; injection hq with hq; omega)
  replace HZ := ((HZ.mono hw).grown hg (by intro h; injection h with h; exact h34 h)).grown hg2 (by intro h; injection h with h; exact h34 h)
  clear hw
  have hw := Below.refl w7.heap.size w7
  repeat' (first | (refine is_cw ?_; first | (refine cw_seq ?_) | (refine cw_region ?_)) | (refine is_qw ?_; first | (with_reducible refine qw_then ?_)) | ((refine is_load ?_; first | (refine lw_pure rfl (pv_loada (tA rfl) rfl (by first | exact PT.lda (HX3.mono hw)) (by rfl)) ?_))))
  refine lw_storea (vs := encS (joinS x ⟨a, i, 0, q, 0, n⟩)) HZ (tZ rfl) rfl rfl rfl rfl (encS_one _) ?_; intro w8 H8 hg3 hz3
  replace hE := hE.grown hg3 (by intro q hq; injection hq with hq; omega)
  have hw := Below.refl w8.heap.size w8
  repeat' (first | (refine is_cw ?_; first | (refine cw_ret ?_)) | (refine is_qw ?_; first | (with_reducible refine qw_then ?_)) | (refine lw_nil ?_))
  exact qw_retc rfl rfl (agg_ld (tA rfl) rfl (fun i u hu => H8.ld0 hu)) ⟨rfl, hE.b⟩

theorem act_callw {P : Program} {n : Nat} {l : Fr} {w : World} {d : Option Nat} {f : FuncId} {x : Operand} {first cap : Array Value} {args : List Operand} {ts : Array TypeId} {ty : TypeId} {pos : String} {af : Array Edge} {g : Option (Nat × Bool)} {vs : List Value} {R : Ending → World → Prop} {Z : Value → World → Prop} (hx : ev l x = some (.func (.func f) first cap)) (he : entersB P f = true) (hvs : evs l args = some vs)
    (hc : Calls P f (first ++ vs.toArray ++ cap) w R) (h : ∀ e w', R e w' → ∃ v, e = .returned v ∧ Z v w') : Act1 P n l ⟨d, .call ⟨.value x, args.toArray, ts⟩, ty, pos, af, g⟩ w Z := ⟨fun a ha K Q hK => by
  have hr := run_call (P := P) (w := w) (ts := ts) (d := d) (ty := ty) (pos := pos) (af := af) (g := g) he ha hx hvs
  unfold Oper.wp; rw [hr]
  refine Calls.mono hc fun e w' hr => ?_
  obtain ⟨v, rfl, hl⟩ := h e w' hr
  exact hK v w' hl⟩
set_option maxRecDepth 20000 in
set_option maxHeartbeats 4000000 in
theorem put_c {l : List Pos} {m : Nat} {a : Option Addr} {ca : Nat} {w : World} (F : FuncId) (first : Array Value) (p : Pos) (he : entersB Tryz.prog F = true) (hm : l.length = m) (hl : l.length ≤ 65535) (hpw : l.Pairwise keyS) (HS : SlR encS 6 w a ca l)
    (hF : ∀ x : Pos, (x ∈ l ∨ x = zS p.acct p.inst) → ∀ w', Calls Tryz.prog F (first ++ [Value.agg (encS x).toArray].toArray ++ #[]) w' fun e w'' => e = .returned (.agg (encS (joinS x p)).toArray) ∧ Below w'.heap.size w' w'') (hz : joinS (zS p.acct p.inst) p = p) :
    Calls Tryz.prog 65 #[.slice a m ca, .int .i64 p.acct, .int .i64 p.inst, .func (.func F) first #[]] w fun e w' => (∃ v, e = .returned v ∧ Own encS 6 39 w.heap.size w' v (addS l p)) ∧ Below w.heap.size w w' := by
  subst hm
  have hE := Ext.refl w
  have hw := Below.refl w.heap.size w
  have hca := HS.le
  have hcm := HS.max
  have hF0 : ∀ w', Calls Tryz.prog F (first ++ [Value.agg (encS (zS p.acct p.inst)).toArray].toArray ++ #[]) w' fun e w'' => e = .returned (.agg (encS p).toArray) ∧ Below w'.heap.size w' w'' := fun w' => by have h := hF _ (Or.inr rfl) w'; rwa [hz] at h
  refine fn_enter 44 Tryz.func65 rfl rfl rfl ?_
  repeat' (first | (refine lw_pure rfl (pv_move rfl) ?_) | (refine lw_pure rfl (pv_assign rfl) ?_) | (refine is_cw ?_; first | (refine cw_seq ?_) | (refine cw_region ?_)) | (refine is_qw ?_; first | (with_reducible refine qw_then ?_)) | (refine lw_nil ?_) | ((refine is_bd ?_; first | (refine lw_pure rfl (tyB_39 rfl rfl rfl) ?_))))
  refine lw_varN rfl (by first | exact tyv_27 | exact tyv_28 | exact tyv_38 | exact tyv_39 | exact tyv_48 | exact tyv_49 | exact tyv_52 | exact tyv_53 | exact tyv_68 | exact tyv_69 | exact tyv_79 | exact tyv_80 | exact tyv_94 | exact tyv_95 | exact tyv_131 | exact tyv_132) rfl (tZ rfl) (fun _ => rfl) rfl rfl ?_; intro N9 wn hN9 HB hb; replace hN9 := Nat.le_trans hw.size hN9; replace hw := grow_trans hw hb; clear hb
  replace HB : PT wn N9 39 (encS (zS p.acct p.inst)) := HB
  replace hE := hE.mono hw; replace HS := HS.mono hw; clear hw; have hw := Below.refl wn.heap.size wn
  repeat' (first | (refine lw_pure rfl (pv_move rfl) ?_) | (refine is_cw ?_; first | (refine cw_seq ?_) | (refine cw_region ?_)) | (refine is_qw ?_; first | (with_reducible refine qw_then ?_)) | (refine lw_nil ?_) | ((refine is_load ?_; first | (refine lw_pure rfl (pv_loada (tA rfl) rfl (by first | exact PT.lda (HB.mono hw)) (by rfl)) ?_))))
  refine lw_call (f := 97) (by kernel_rfl) rfl rfl (search_S (zS p.acct p.inst) rfl (by omega) hpw HS) ?_; rintro e w1 ⟨⟨i, b, rfl, hP, hb1, hb2⟩, hb⟩; refine ⟨_, rfl, ?_⟩
  replace hE := hE.mono (grow_trans hw hb)
  replace HS := HS.mono (grow_trans hw hb)
  replace HB := HB.mono (grow_trans hw hb)
  clear hb hw
  have hw := Below.refl w1.heap.size w1
  have hP' : PlaceS l p i := ⟨hP.le, hP.lo, hP.hi⟩
  have hle := hP.le
  have hE0 := hE.le
  cases b with
  | false =>
    have hadd := hP'.new hpw (fun x hx => hb2 rfl x hx)
    repeat' (first | (refine lw_pure rfl (pv_move rfl) ?_) | (refine lw_pure rfl (pv_assign rfl) ?_) | (refine is_cw ?_; first | (refine cw_seq ?_) | (refine cw_region ?_) | (refine cw_true rfl rfl ?_)) | (refine is_qw ?_; first | (with_reducible refine qw_then ?_)) | (refine lw_nil ?_) | ((refine is_un ?_; first | (refine lw_pure rfl (pv_not rfl) ?_))) | (refine lw_pure rfl (pv_extract rfl rfl) ?_))
    refine cw_drawn (fun w' => Below w1.heap.size w1 w') (by kernel_rfl) (by repeat (first | exact NoPanic.body | with_reducible refine NoPanic.then ?_ | with_reducible refine NoPanic.inBlock ?_)) (fun hNP => ?_)
    have hS := hw.drew
    (refine aw_take 0 rfl (by kernel_rfl) (by kernel_rfl) (by kernel_rfl) hNP hS rfl (fun w' hq => pv_move rfl) ?_)
    (refine aw_take 2 rfl (by kernel_rfl) (by kernel_rfl) (by kernel_rfl) hNP hS rfl (fun w' hq => pv_move rfl) ?_)
    (refine aw_take 3 rfl (by kernel_rfl) (by kernel_rfl) (by kernel_rfl) hNP hS rfl (fun w' hq => pv_move rfl) ?_)
    (refine aw_take 4 rfl (by kernel_rfl) (by kernel_rfl) (by kernel_rfl) hNP hS rfl (fun w' hq => pv_loada (tA rfl) rfl (by first | exact PT.lda (HB.mono hq)) (by rfl)) ?_)
    refine aw_act 1 (by kernel_rfl) rfl rfl rfl ?_
    refine act_call (f := 44) (by kernel_rfl) rfl (clone_S rfl (HS.mono hS) (by omega)) ?_; rintro e w2 ⟨⟨v2, rfl, hO⟩, hb⟩; refine ⟨_, rfl, grow_trans hS hb, fun hS => ?_⟩
    refine aw_act 5 (by kernel_rfl) rfl rfl rfl ?_
    refine act_callw (f := F) rfl he rfl (hF0 _) ?_; rintro e w3 ⟨rfl, hb⟩; replace hO := hO.mono hb; refine ⟨_, rfl, grow_trans hS hb, fun hS => ?_⟩
    refine aw_act 6 (by kernel_rfl) rfl rfl rfl ?_
    refine act_bs (vs := [.agg (encS p).toArray]) (cs := encS p) elemS rfl rfl (by omega) (by omega) (by simp [Value.cells]) (by simp [Value.cells, encS]) ?_; intro wb HX hb; have hne : v2.ownBlock ≠ some w3.heap.size := fun h => absurd (hO.lt _ h).2 (Nat.lt_irrefl _); replace hO := hO.mono hb; refine ⟨grow_trans hS hb, fun hS => ?_⟩
    refine aw_act 7 (by kernel_rfl) rfl rfl rfl ?_
    refine act_call (f := 98) (by kernel_rfl) rfl (insert_S w1.heap.size i p hle (by omega) hS.size hO HX hne) ?_; rintro e w4 ⟨⟨v4, rfl, hO4⟩, hb⟩; refine ⟨_, rfl, hS.trans hb, fun hS => ?_⟩
    (refine aw_take 8 rfl (by kernel_rfl) (by kernel_rfl) (by kernel_rfl) hNP hS rfl (fun w' hq => pv_assign rfl) ?_)
    refine aw_done (by kernel_rfl) ?_
    replace hw := hS; clear hS hNP
    repeat' (first | (refine is_cw ?_; first | (refine cw_ret ?_)) | (refine is_qw ?_; first | (with_reducible refine qw_then ?_) | (with_reducible refine qw_then_ret ?_)))
    refine qw_ret1 rfl rfl ⟨⟨_, rfl, ?_⟩, (hE.mono hw).b⟩
    rw [hadd]; exact hO4.weaken hE.le
  | true =>
    obtain ⟨x, hx, hsk⟩ := hb1 rfl
    have hadd := hP'.old hx hsk
    have hil : i < l.length := (List.getElem?_eq_some_iff.1 hx).1
    have hmem : x ∈ l := List.mem_of_getElem? hx
    repeat' (first | (refine lw_pure rfl (pv_move rfl) ?_) | (refine lw_pure rfl (pv_assign rfl) ?_) | (refine is_cw ?_; first | (refine cw_seq ?_) | (refine cw_region ?_) | (refine cw_false rfl rfl ?_) | (refine cw_skip ?_)) | (refine is_qw ?_; first | (with_reducible refine qw_then ?_)) | (refine lw_nil ?_) | ((refine is_un ?_; first | (refine lw_pure rfl (pv_not rfl) ?_))) | (refine lw_pure rfl (pv_extract rfl rfl) ?_))
    refine lw_call (f := 44) (by kernel_rfl) rfl rfl (clone_S rfl (HS.mono hw) (by omega)) ?_; rintro e w2 ⟨⟨v2, rfl, hO⟩, hb⟩; refine ⟨_, rfl, ?_⟩
    replace hE := hE.mono (grow_trans hw hb)
    have hsz : w1.heap.size ≤ w2.heap.size := (grow_trans hw hb).size
    clear hb hw
    have hw := Below.refl w2.heap.size w2
    obtain ⟨ad, cap, rfl, HO, hbase⟩ := Own.slR encS_len hO
    obtain ⟨g, rfl⟩ : ∃ g, ad = some ⟨g, 0, none⟩ := by
      cases ad with
      | none => have := (HO.ofNone rfl).1; subst this; simp at hil
      | some a =>
        obtain ⟨b, o, sp⟩ := a
        obtain ⟨h1, _⟩ := HO.ofSome _ rfl (by have := HO.le; omega)
        have h2 := (hbase _ rfl).2
        simp only at h1 h2
        exact ⟨b, by rw [h1, h2]⟩
    have hgb := (hbase _ rfl).1
    have hox := HO.le
    have hom := HO.max
    repeat' (first | (refine lw_pure rfl (pv_move rfl) ?_) | (refine lw_pure rfl (pv_assign rfl) ?_) | (refine is_cw ?_; first | (refine cw_seq ?_) | (refine cw_region ?_)) | (refine is_qw ?_; first | (with_reducible refine qw_then ?_)) | (refine lw_nil ?_) | ((refine is_load ?_; first | (refine lw_pure rfl (pv_loada (tA rfl) rfl (by first | exact SlR.lda (HO.mono hw) hx) (by rfl)) ?_))) | ((refine is_ia ?_; first | (refine lw_pure rfl (pv_ian (tS rfl) rfl rfl (by omega)) ?_))))
    refine lw_callv (f := F) rfl he rfl rfl (hF x (Or.inl hmem) _) ?_; rintro e w3 ⟨rfl, hb⟩; refine ⟨_, rfl, ?_⟩
    replace hO := hO.mono (grow_trans hw hb)
    replace hE := hE.mono (grow_trans hw hb)
    clear hb hw
    have hw := Below.refl w3.heap.size w3
    repeat' (first | ((refine is_ia ?_; first | (refine lw_pure rfl (pv_ian (tS rfl) rfl rfl (by omega)) ?_))))
    refine lw_storeO (u := joinS x p) (i := i) (tZ rfl) encS_len encS_one rfl (by omega) rfl rfl hO hil ?_; intro w4 hO4 hg hz4
    have hgw : w.heap.size ≤ g := Nat.le_trans hE0 hgb
    replace hE := hE.grown hg (by intro q hq; injection hq with hq; omega)
    clear hw
    have hw := Below.refl w4.heap.size w4
    repeat' (first | (refine lw_pure rfl (pv_move rfl) ?_) | (refine lw_pure rfl (pv_assign rfl) ?_) | (refine is_cw ?_; first | (refine cw_seq ?_) | (refine cw_region ?_) | (refine cw_ret ?_)) | (refine is_qw ?_; first | (with_reducible refine qw_then ?_)) | (refine lw_nil ?_))
    refine qw_ret1 rfl rfl ⟨⟨_, rfl, ?_⟩, hE.b⟩
    rw [hadd]
    exact hO4.weaken hE0
end Go.Proofs.YtemngicaoacfaaaGreatDoor
