/-
  StmtRuns: its row and its card: whatever the input: true; the input reads as it did. Conditions: what the row prints (the table of functions reads as the program's text lays it).
-/
import Derived.Test.YtnffmbfdfhokeaaGreatDoorZL3
import Derived.Test.YtnffmbfdfhokeaaGreatDoorTie
import Derived.Test.YtnffmbfdfhokeaaGreatDoorCards
import Derived.SevenTiedAt
namespace Go.Proofs.YtnffmbfdfhokeaaGreatDoor
open Go.RowKit Go.PlainAid

theorem elemV : ElemT Tryz.prog 39 28 4 56 := elem_of Tryz.underlying39 (by kernel_rfl) (by omega)
set_option maxRecDepth 20000 in
set_option maxHeartbeats 4000000 in
theorem heavyL_c {xs : List EvC} {m n q o ca cb cd cc : Nat} {a b d c : Option Addr} {w : World} (hm : m ≤ 9223372036854775807) (hn : n ≤ 9223372036854775807) (hq : q ≤ 9223372036854775807) (ho : xs.length = o) (HV : SlR encV 4 w c cc xs) :
    Calls Tryz.prog 5 #[.slice a m ca, .slice b n cb, .slice d q cd, .slice c o cc] w fun e w' => (∃ r, e = .returned (.bool r) ∧ (r = false → m ≤ 300 ∧ n ≤ 150 ∧ q ≤ 50 ∧ xs.length < 400 ∧ ∀ j, j < xs.length → ∀ x, xs[j]? = some x → x.mn < 400 ∧ x.mx < 400)) ∧ Below w.heap.size w w' := by
  subst ho
  have hcc := HV.le
  have hcm := HV.max
  have hw := Below.refl w.heap.size w
  refine fn_enter 56 Tryz.func5 rfl rfl rfl ?_
  repeat' (first | (refine lw_pure rfl (pv_assign rfl) ?_) | (refine is_cw ?_; first | (refine cw_seq ?_) | (refine cw_region ?_) | (refine cw_block ?_)) | (refine is_qw ?_; first | (with_reducible refine qw_then ?_)) | (refine lw_nil ?_))
  refine cw_loop (σ := Nat × Int) (fun s => [(0, .slice a m ca), (1, .slice b n cb), (2, .slice d q cd), (3, .slice c xs.length cc), (9, .int .i64 s.2), (10, .int .i64 (s.1 : Nat))]) (fun s wr => s.1 ≤ xs.length ∧ Below w.heap.size w wr ∧ (s.1 : Int) ≤ s.2 ∧ s.2 ≤ 1300 ∧ (s.2 < 400 → ∀ j, j < s.1 → ∀ x, xs[j]? = some x → x.mn < 400 ∧ x.mx < 400)) (fun s => xs.length - s.1) (0, 0) (by repeat' (first | exact trivial | refine ⟨rfl, ?_⟩)) ⟨Nat.zero_le _, hw, by simp, by simp, fun _ j hj => absurd hj (by simp)⟩ ?_
  clear hw
  rintro ⟨k, t⟩ wr ⟨hk, hw, ht1, ht2, hI⟩
  dsimp only at hk ht1 ht2 hI
  change CW _ _ _ _ [(0, .slice a m ca), (1, .slice b n cb), (2, .slice d q cd), (3, .slice c xs.length cc), (9, .int .i64 t), (10, .int .i64 (k : Nat))] wr
  by_cases hlt : k < xs.length
  · by_cases h4 : t < 400
    · have hxk : xs[k]? = some xs[k] := List.getElem?_eq_getElem hlt
      obtain ⟨ab, ao, rfl, -, -⟩ := HV.at (by intro h; rw [h] at hlt; simp at hlt)
      generalize xs[k] = x at hxk
      have hc1 := capN_le x.mn
      have hc2 := capN_le x.mx
      repeat' (first | (refine lw_pure rfl (pv_move rfl) ?_) | (refine is_cw ?_; first | (refine cw_seq ?_) | (refine cw_region ?_) | (refine cw_true rfl (by first | assumption | exact decide_eq_true (by omega) | exact dec_notT (by omega)) ?_) | (refine cw_skip ?_) | (refine cw_block ?_)) | (refine is_qw ?_; first | (with_reducible refine qw_then ?_)) | (refine lw_nil ?_) | (refine is_guarded ?_; first | (refine lw_on rfl rfl (by first | assumption | exact decide_eq_true (by omega) | exact decide_eq_false (by omega) | exact dec_notT (by omega) | exact dec_notF (by omega)) ?_)) | ((refine is_bin ?_; first | (refine lw_pure rfl (pv_lss rfl rfl) ?_))) | ((refine is_bi ?_; first | (refine lw_pure rfl (pv_lenl (tS rfl) rfl) ?_))) | (refine lw_pure rfl (pv_pick_t rfl (by first | assumption | exact decide_eq_true (by omega) | exact dec_notT (by omega)) rfl) ?_))
      refine cw_drawn (fun w' => Below w.heap.size w w') (by kernel_rfl) (by repeat (first | exact NoPanic.body | with_reducible refine NoPanic.then ?_ | with_reducible refine NoPanic.inBlock ?_)) (fun hNP => ?_)
      have hS := hw.drew
      (refine at0 0 rfl (fun w' hq => pv_move rfl) ?_)
      (refine at0 1 rfl (fun w' hq => pv_add rfl rfl (by omega)) ?_)
      (refine at0 2 rfl (fun w' hq => pv_move rfl) ?_)
      (refine at0 3 rfl (fun w' hq => pv_move rfl) ?_)
      (refine at0 4 rfl (fun w' hq => pv_ian (tS rfl) rfl rfl (by omega)) ?_)
      (refine at0 5 rfl (fun w' hq => pv_fa (tF rfl) rfl) ?_)
      (refine at0 6 rfl (fun w' hq => pv_load (t1 rfl) rfl (by first | exact SlR.ld (HV.mono hq) hxk rfl | exact SlR.ld1 (HV.mono hq) hxk rfl)) ?_)
      (refine at0 7 rfl (fun w' hq => pv_lenl (tS rfl) rfl) ?_)
      (refine at0 8 rfl (fun w' hq => pv_min rfl rfl) ?_)
      (refine at0 9 rfl (fun w' hq => pv_add rfl rfl (by omega)) ?_)
      (refine at0 10 rfl (fun w' hq => pv_move rfl) ?_)
      (refine at0 11 rfl (fun w' hq => pv_move rfl) ?_)
      (refine at0 12 rfl (fun w' hq => pv_ian (tS rfl) rfl rfl (by omega)) ?_)
      (refine at0 13 rfl (fun w' hq => pv_fa (tF rfl) rfl) ?_)
      (refine at0 14 rfl (fun w' hq => pv_load (t1 rfl) rfl (by first | exact SlR.ld (HV.mono hq) hxk rfl | exact SlR.ld1 (HV.mono hq) hxk rfl)) ?_)
      (refine at0 15 rfl (fun w' hq => pv_lenl (tS rfl) rfl) ?_)
      (refine at0 16 rfl (fun w' hq => pv_min rfl rfl) ?_)
      (refine at0 17 rfl (fun w' hq => pv_add rfl rfl (by omega)) ?_)
      (refine at0 18 rfl (fun w' hq => pv_assign rfl) ?_)
      refine aw_done (by kernel_rfl) ?_
      replace hw := hS; clear hS hNP
      repeat' (first | (refine lw_pure rfl (pv_move rfl) ?_) | (refine lw_pure rfl (pv_assign rfl) ?_) | (refine is_cw ?_; first | (refine cw_region ?_)) | (refine is_qw ?_; first | (with_reducible refine qw_then ?_) | (with_reducible refine qw_in ?_)) | (refine lw_nil ?_) | ((refine is_bin ?_; first | (refine lw_pure rfl (pv_inc rfl rfl (by omega)) ?_))))
      have e1 : (if (x.mn : Int) < 400 then (x.mn : Int) else 400) = capN x.mn := rfl
      have e2 : (if (x.mx : Int) < 400 then (x.mx : Int) else 400) = capN x.mx := rfl
      refine qw_round (k + 1, t + 1 + capN x.mn + capN x.mx) (by repeat' (first | exact trivial | refine ⟨rfl, ?_⟩)) ⟨by show k + 1 ≤ _; omega, hw, by show ((k + 1 : Nat) : Int) ≤ t + 1 + _ + _; omega, by show t + 1 + _ + _ ≤ 1300; omega, ?_⟩ (by show xs.length - (k + 1) < xs.length - k; omega)
      intro hlt4 j hj y hy
      have hlt5 : t + 1 + capN x.mn + capN x.mx < 400 := hlt4
      have hj2 : j < k + 1 := hj
      by_cases hjk : j = k
      · subst hjk; rw [hxk] at hy; injection hy with hy; subst hy
        exact ⟨capN_lt (by omega), capN_lt (by omega)⟩
      · exact hI (by omega) j (by omega) y hy
    · repeat' (first | (refine lw_pure rfl (pv_move rfl) ?_) | (refine lw_pure rfl (pv_assign rfl) ?_) | (refine is_cw ?_; first | (refine cw_seq ?_) | (refine cw_region ?_) | (refine cw_false rfl (by first | assumption | exact decide_eq_false (by omega) | exact dec_notF (by omega)) ?_) | (refine cw_exit ?_) | (refine cw_ret ?_)) | (refine is_qw ?_; first | (with_reducible refine qw_then ?_) | (with_reducible refine qw_in_hit ?_) | (with_reducible refine qw_then_exit ?_)) | (refine lw_nil ?_) | (refine is_guarded ?_; first | (refine lw_not rfl rfl rfl rfl ?_) | (refine lw_on rfl rfl (by first | assumption | exact decide_eq_true (by omega) | exact decide_eq_false (by omega) | exact dec_notT (by omega) | exact dec_notF (by omega)) ?_) | (refine lw_not rfl rfl rfl (by first | assumption | exact decide_eq_true (by omega) | exact decide_eq_false (by omega) | exact dec_notT (by omega) | exact dec_notF (by omega)) ?_) | (refine lw_gs_f rfl rfl rfl (fun hc => ?_) (fun hc => ?_) <;> (first | replace hc := of_decide_eq_true hc | replace hc := of_decide_eq_false hc | replace hc := dec_nT hc | replace hc := dec_nF hc | skip) <;> (try (exfalso; omega)))) | ((refine is_bin ?_; first | (refine lw_pure rfl (pv_lss rfl rfl) ?_) | (refine lw_pure rfl (pv_gtr rfl rfl) ?_) | (refine lw_pure rfl (pv_geq rfl rfl) ?_))) | ((refine is_bi ?_; first | (refine lw_pure rfl (pv_lenl (tS rfl) rfl) ?_))) | (refine lw_pure rfl (pv_pick_t rfl rfl rfl) ?_) | (refine lw_pure rfl (pv_pick_t rfl (by first | assumption | exact decide_eq_true (by omega) | exact dec_notT (by omega)) rfl) ?_) | (refine lw_pure rfl (pv_pick_f rfl (by first | assumption | exact decide_eq_false (by omega) | exact dec_notF (by omega)) rfl) ?_))
      all_goals exact qw_ret1 rfl rfl ⟨⟨_, rfl, fun h => by simp at h; try omega⟩, hw⟩
  · have hkl : k = xs.length := by omega
    subst hkl
    repeat' (first | (refine lw_pure rfl (pv_move rfl) ?_) | (refine lw_pure rfl (pv_assign rfl) ?_) | (refine is_cw ?_; first | (refine cw_seq ?_) | (refine cw_region ?_) | (refine cw_false rfl rfl ?_) | (refine cw_exit ?_) | (refine cw_ret ?_)) | (refine is_qw ?_; first | (with_reducible refine qw_then ?_) | (with_reducible refine qw_in_hit ?_) | (with_reducible refine qw_then_exit ?_)) | (refine lw_nil ?_) | (refine is_guarded ?_; first | (refine lw_not rfl rfl rfl rfl ?_) | (refine lw_on rfl rfl (by first | assumption | exact decide_eq_true (by omega) | exact decide_eq_false (by omega) | exact dec_notT (by omega) | exact dec_notF (by omega)) ?_) | (refine lw_not rfl rfl rfl (by first | assumption | exact decide_eq_true (by omega) | exact decide_eq_false (by omega) | exact dec_notT (by omega) | exact dec_notF (by omega)) ?_) | (refine lw_gs_f rfl rfl rfl (fun hc => ?_) (fun hc => ?_) <;> (first | replace hc := of_decide_eq_true hc | replace hc := of_decide_eq_false hc | replace hc := dec_nT hc | replace hc := dec_nF hc | skip) <;> (try (exfalso; omega)))) | ((refine is_bin ?_; first | (refine lw_pure rfl (pv_lss rfl rfl) ?_) | (refine lw_pure rfl (pv_gtr rfl rfl) ?_) | (refine lw_pure rfl (pv_geq rfl rfl) ?_))) | ((refine is_bi ?_; first | (refine lw_pure rfl (pv_lenl (tS rfl) rfl) ?_))) | (refine lw_pure rfl (pv_pick_t rfl rfl rfl) ?_) | (refine lw_pure rfl (pv_pick_t rfl (by first | assumption | exact decide_eq_true (by omega) | exact dec_notT (by omega)) rfl) ?_) | (refine lw_pure rfl (pv_pick_f rfl (by first | assumption | exact decide_eq_false (by omega) | exact dec_notF (by omega)) rfl) ?_))
    all_goals refine qw_ret1 rfl rfl ⟨⟨_, rfl, fun h => ?_⟩, hw⟩
    all_goals first | (simp at h; done) | (simp only [decide_eq_false_iff_not] at h; exact ⟨by omega, by omega, by omega, by omega, hI (by omega)⟩)
set_option maxRecDepth 20000 in
set_option maxHeartbeats 4000000 in
theorem evnewL_c (k : Int) (a : Option Addr) (m c : Nat) (w : World) :
    Calls Tryz.prog 16 #[.int .u8 k, .slice a m c] w fun e w' => e = .returned (.agg #[.int .u8 3, .int .u8 k, .slice a m c, .slice none 0 0]) ∧ Below w.heap.size w w' := by
  have hE := Ext.refl w
  have hw := Below.refl w.heap.size w
  refine fn_enter 8 Tryz.func16 rfl rfl rfl ?_
  repeat' (first | (refine is_cw ?_; first | (refine cw_seq ?_) | (refine cw_region ?_)))
  refine lw_allocN rfl (by first | exact tyv_27 | exact tyv_28 | exact tyv_36 | exact tyv_37 | exact tyv_68 | exact tyv_69 | exact tyv_72 | exact tyv_73 | exact tyv_79 | exact tyv_80 | exact tyv_117 | exact tyv_118 | exact tyv_130 | exact tyv_131) rfl ?_; intro N w1 hN H hb
  replace hE := hE.mono hb
  clear hb hw
  have hw := Below.refl w1.heap.size w1
  repeat' (first | (refine lw_pure rfl (pv_move rfl) ?_) | (refine is_cw ?_; first | (refine cw_seq ?_) | (refine cw_region ?_)) | (refine is_qw ?_; first | (with_reducible refine qw_then ?_)) | (refine lw_nil ?_) | ((refine is_bd ?_; first | (refine lw_pure rfl (tyB_28 rfl rfl rfl) ?_))))
  refine lw_storea (vs := [.int .u8 3, .int .u8 k, .slice a m c, .slice none 0 0]) (H.mono hw) (tZ rfl) rfl rfl rfl rfl (by intro v hv; simp at hv; rcases hv with rfl | rfl | rfl | rfl <;> rfl) ?_; intro w3 H2 hg hz
  replace hE := (hE.mono hw).grown hg (by intro q hq; injection hq with hq; omega)
  clear hw
  have hw := Below.refl w3.heap.size w3
  repeat' (first | (refine is_cw ?_; first | (refine cw_ret ?_)) | (refine is_qw ?_; first | (with_reducible refine qw_then ?_)) | (refine lw_nil ?_))
  exact qw_retc rfl rfl (agg_ld (tA rfl) rfl (fun i u hu => H2.ld0 hu)) ⟨rfl, hE.b⟩
set_option maxRecDepth 20000 in
set_option maxHeartbeats 4000000 in
theorem line_c (a s k d b : Int) (w : World) :
    Calls Tryz.prog 18 #[.int .i64 a, .int .i64 s, .int .u8 k, .int .i64 d, .int .i64 b] w fun e w' => e = .returned (.agg (encN ⟨a, s, k, d, b⟩).toArray) ∧ Below w.heap.size w w' := by
  have hE := Ext.refl w
  have hw := Below.refl w.heap.size w
  refine fn_enter 17 Tryz.func18 rfl rfl rfl ?_
  repeat' (first | (refine is_cw ?_; first | (refine cw_seq ?_) | (refine cw_region ?_)))
  refine lw_allocN rfl (by first | exact tyv_27 | exact tyv_28 | exact tyv_36 | exact tyv_37 | exact tyv_68 | exact tyv_69 | exact tyv_72 | exact tyv_73 | exact tyv_79 | exact tyv_80 | exact tyv_117 | exact tyv_118 | exact tyv_130 | exact tyv_131) rfl ?_; intro N w1 hN H hb
  replace hE := hE.mono hb
  clear hb hw
  have hw := Below.refl w1.heap.size w1
  repeat' (first | (refine lw_pure rfl (pv_move rfl) ?_) | (refine is_cw ?_; first | (refine cw_seq ?_) | (refine cw_region ?_)) | (refine is_qw ?_; first | (with_reducible refine qw_then ?_)) | (refine lw_nil ?_) | ((refine is_bd ?_; first | (refine lw_pure rfl (tyB_37 rfl rfl rfl) ?_))))
  refine lw_storea (vs := encN ⟨a, s, k, d, b⟩) (H.mono hw) (tZ rfl) rfl rfl rfl rfl (encN_one _) ?_; intro w3 H2 hg hz
  replace hE := (hE.mono hw).grown hg (by intro q hq; injection hq with hq; omega)
  clear hw
  have hw := Below.refl w3.heap.size w3
  repeat' (first | (refine is_cw ?_; first | (refine cw_ret ?_)) | (refine is_qw ?_; first | (with_reducible refine qw_then ?_)) | (refine lw_nil ?_))
  exact qw_retc rfl rfl (agg_ld (tA rfl) rfl (fun i u hu => H2.ld0 hu)) ⟨rfl, hE.b⟩
set_option maxRecDepth 20000 in
theorem lines_c (v : Value) (w : World) : Calls Tryz.prog 17 #[v] w fun e w' => e = .returned v ∧ Below w.heap.size w w' := by
  have hw := Below.refl w.heap.size w
  refine fn_enter 4 Tryz.func17 rfl rfl rfl ?_
  repeat' (first | (refine lw_pure rfl (pv_move rfl) ?_) | (refine lw_pure rfl (pv_assign rfl) ?_) | (refine is_cw ?_; first | (refine cw_seq ?_) | (refine cw_region ?_) | (refine cw_ret ?_)) | (refine is_qw ?_; first | (with_reducible refine qw_then ?_)) | (refine lw_nil ?_))
  exact qw_ret1 rfl rfl ⟨rfl, hw⟩
abbrev smP : List Opn := [⟨2, 1, 1, 1, 10, 9⟩, ⟨3, 5, 1, 2, 10, 9⟩, ⟨4, 6, 1, 2, 10, 9⟩]
abbrev smT : List Lt := [⟨7, 3, 1, 4⟩]
set_option maxRecDepth 20000 in
theorem some_c (w : World) : Calls Tryz.prog 15 #[] w fun e w' => (∃ a c b d, e = .returned (.tuple #[.slice a 3 c, .slice b 1 d]) ∧ SlR encP 6 w' a c smP ∧ SlR encL 4 w' b d smT) ∧ Below w.heap.size w w' := by
  have hw := Below.refl w.heap.size w
  refine fn_enter 8 Tryz.func15 rfl rfl rfl ?_
  repeat' (first | (refine lw_pure rfl (pv_assign rfl) ?_) | (refine is_cw ?_; first | (refine cw_seq ?_) | (refine cw_region ?_)) | (refine is_qw ?_; first | (with_reducible refine qw_then ?_)) | (refine lw_nil ?_) | ((refine is_bd ?_; first | (refine lw_pure rfl (tyB_69 rfl rfl rfl) ?_))))
  refine lw_bsN (vs := [.agg (encP ⟨2, 1, 1, 1, 10, 9⟩).toArray, .agg (encP ⟨3, 5, 1, 2, 10, 9⟩).toArray, .agg (encP ⟨4, 6, 1, 2, 10, 9⟩).toArray]) (cs := smP.flatMap encP) elemP rfl rfl rfl (by omega) (by omega) rfl (by simp [Value.cells, encP]) ?_; intro BA w1 _ HA hb
  replace hw := grow_trans hw hb
  clear hb
  have HP : SlR encP 6 w1 (some ⟨BA, 0, none⟩) 3 smP := HA.slR (xs := smP) encP_len rfl (by simp)
  clear HA
  repeat' (first | ((refine is_bd ?_; first | (refine lw_pure rfl (tyB_73 rfl rfl rfl) ?_))))
  refine lw_bsN (vs := [.agg (encL ⟨7, 3, 1, 4⟩).toArray]) (cs := smT.flatMap encL) elemL rfl rfl rfl (by omega) (by omega) rfl (by simp [Value.cells, encL]) ?_; intro BB w2 _ HB hb
  replace hw := grow_trans hw hb
  replace HP := HP.mono hb
  clear hb
  have HL : SlR encL 4 w2 (some ⟨BB, 0, none⟩) 1 smT := HB.slR (xs := smT) encL_len rfl (by simp)
  repeat' (first | (refine lw_pure rfl (pv_assign rfl) ?_) | (refine is_cw ?_; first | (refine cw_ret ?_)) | (refine is_qw ?_; first | (with_reducible refine qw_then ?_)) | (refine lw_nil ?_))
  exact qw_ret2 rfl rfl rfl ⟨⟨_, _, _, _, rfl, HP, HL⟩, hw⟩

abbrev lnA : Ln := ⟨2, 0, 6, 100, 100⟩
abbrev lnB : Ln := ⟨2, 4, 13, -30, 70⟩
abbrev lnC : Ln := ⟨3, 4, 13, 28, 28⟩
def evsA : Evt := ⟨3, 6, [2, 100], []⟩
def evsB : Evt := ⟨3, 13, [5, 1, 10, 3, 2], []⟩
theorem slk1 : stmtL [] [] [] 0 evsA = (0, [lnA]) := by kernel_rfl
theorem slk2 : stmtL [lnA] smP smT 4 evsB = (0, [lnA, lnB, lnC]) := by kernel_rfl
theorem slk3 : pageL [lnA, lnB, lnC] 2 1 5 = [lnB] := by kernel_rfl
theorem in64_0 : In64N [] := fun x hx => by cases hx
theorem in64_1 : In64N [lnA] := fun x hx => by simp at hx; subst hx; dsimp only; omega
theorem stmt_e {l m : List Ln} {p : List Opn} {t : List Lt} {e : Evt} {seq v k c : Int} {ml mp mt mn mx : Nat} {al ap at_ an ax : Option Addr} {cl cp ct cn cx : Nat} {w : World} (h : stmtL l p t seq e = (c, m)) (hv : e.v = v) (hk : e.kind = k) (h8 : 0 ≤ e.kind ∧ e.kind ≤ 255) (hml : l.length = ml) (hmp : p.length = mp) (hmt : t.length = mt) (hmn : e.nums.length = mn) (hmx : e.texts.length = mx) (HS : SlR encN 5 w al cl l) (hin : In64N l) (hll : l.length ≤ 524288) (HP : SlR encP 6 w ap cp p) (HL : SlR encL 4 w at_ ct t) (HN : SlR encI 1 w an cn e.nums) (HX : SlR encT 1 w ax cx e.texts) (hT : TxtIn e.texts) (hK : KnW w) :
    Calls Tryz.prog 9 #[.slice al ml cl, .slice ap mp cp, .slice at_ mt ct, .int .i64 seq, .agg #[.int .u8 v, .int .u8 k, .slice an mn cn, .slice ax mx cx]] w fun e1 w' => (∃ a q, e1 = .returned (.tuple #[.slice a m.length q, .int .i64 c]) ∧ SlR encN 5 w' a q m) ∧ Below w.heap.size w w' := by
  subst hv hk
  refine (R.stmt_c h8 hml hmp hmt hmn hmx HS hin hll HP HL HN HX hT hK).mono fun e1 w' ⟨⟨x, h1, h2⟩, h3⟩ => ⟨?_, h3⟩
  rw [h] at h1 h2
  obtain ⟨a, q, rfl, h4, -⟩ := Own.slR encN_len h2
  exact ⟨a, q, h1, h4⟩
theorem page_slR {base : Nat} {w : World} {v : Value} {ys : List Ln} (h : PageV base w v ys) : ∃ a c, v = .slice a ys.length c ∧ SlR encN 5 w a c ys := by
  rcases h with ⟨rfl, rfl⟩ | ⟨g, cap, f, all, rfl, hO, h1, h2⟩
  · exact ⟨none, 0, rfl, SlR.nil w⟩
  · obtain ⟨a, c, e, HS, -⟩ := Own.slR encN_len hO
    injection e with e1 e2 e3
    subst e1 e3
    have h3 := HS.tail f (by omega)
    have hle : ys.length ≤ (all.drop f).length := by rw [h1, List.length_take]; omega
    have h4 := h3.head ys.length (cap - f) hle ⟨Nat.le_trans hle h3.le, Nat.le_refl _⟩
    rw [← h1] at h4
    rw [Nat.zero_add] at h4
    exact ⟨_, _, rfl, h4⟩
theorem pageL_e {l ys : List Ln} {m : Nat} {ad : Option Addr} {cap : Nat} {w : World} {a from_ n : Int} (h : pageL l a from_ n = ys) (hm : l.length = m) (HS : SlR encN 5 w ad cap l) (hl : l.length ≤ 1048576) : Calls Tryz.prog 19 #[.slice ad m cap, .int .i64 a, .int .i64 from_, .int .i64 n] w fun e w' => (∃ a1 c1, e = .returned (.slice a1 ys.length c1) ∧ SlR encN 5 w' a1 c1 ys) ∧ Below w.heap.size w w' := by
  subst h
  exact (pageL_c a from_ n hm HS hl).mono fun e w' ⟨⟨v, h1, h2⟩, h3⟩ => ⟨by obtain ⟨a1, c1, rfl, h4⟩ := page_slR h2; exact ⟨a1, c1, h1, h4⟩, h3⟩
theorem balL_e {xs : List Ln} {m c : Nat} {a : Option Addr} {w : World} {acct z : Int} (h : balL xs acct = z) (hm : xs.length = m) (HS : SlR encN 5 w a c xs) : Calls Tryz.prog 14 #[.slice a m c, .int .i64 acct] w fun e w' => e = .returned (.int .i64 z) ∧ Below w.heap.size w w' := by
  subst h; exact R.balance_c acct hm HS
theorem rsameN_t {p : List Ln} {m n : Nat} {a b : Option Addr} {ca cb : Nat} {w : World} (hm : p.length = m) (hn : p.length = n) (HP : SlR encN 5 w a ca p) (HQ : SlR encN 5 w b cb p) : Calls Tryz.prog 11 #[.slice a m ca, .slice b n cb] w fun e w' => e = .returned (.bool true) ∧ Below w.heap.size w w' := by
  have h := rsame_N hm hn HP HQ
  rw [show decide (p = p) = true by simp] at h; exact h
set_option maxRecDepth 20000 in
set_option maxHeartbeats 8000000 in
theorem worksL_c {w : World} (hK : KnW w) : Calls Tryz.prog 6 #[] w fun e w' => e = .returned (.bool true) ∧ Below w.heap.size w w' := by
  have hw := Below.refl w.heap.size w
  have hW := hw
  refine fn_enter 63 Tryz.func6 rfl rfl rfl ?_
  repeat' (first | (refine lw_pure rfl (pv_move rfl) ?_) | (refine lw_pure rfl (pv_assign rfl) ?_) | (refine is_cw ?_; first | (refine cw_seq ?_) | (refine cw_region ?_) | (refine cw_ret ?_)) | (refine is_qw ?_; first | (with_reducible refine qw_then ?_) | (with_reducible refine qw_then_ret ?_)) | (refine lw_nil ?_) | (refine is_guarded ?_; first | (refine lw_not rfl rfl rfl rfl ?_) | (refine lw_not_u rfl rfl rfl ?_) | (refine lw_on rfl rfl rfl ?_)) | ((refine is_bin ?_; first | (refine lw_pure rfl (pv_eql rfl rfl) ?_))) | ((refine is_load ?_; first | (refine lw_pure rfl (pv_load (t1 rfl) rfl (by first | fail)) ?_) | (refine lw_pure rfl (pv_loada (tA rfl) rfl (by first | fail) (by rfl)) ?_))) | ((refine is_ia ?_; first | (refine lw_pure rfl (pv_ian (tS rfl) rfl rfl (by omega)) ?_) | (refine lw_pure rfl (pv_ia (tS rfl) rfl rfl (by omega)) ?_))) | (refine lw_pure rfl (pv_pick_t rfl rfl rfl) ?_) | (refine lw_pure rfl (pv_pick_f rfl rfl rfl) ?_) | (refine lw_pure rfl (pv_pick_t rfl (by first | assumption | exact decide_eq_true (by omega) | exact dec_notT (by omega)) rfl) ?_) | (refine lw_pure rfl (pv_pick_f rfl (by first | assumption | exact decide_eq_false (by omega) | exact dec_notF (by omega)) rfl) ?_) | (refine lw_pure rfl (pv_pick rfl rfl rfl) ?_) | (refine lw_pure rfl (pv_extract rfl rfl) ?_))
  refine lw_call (f := 15) (by kernel_rfl) rfl rfl (some_c _) ?_; rintro e1 w1 ⟨⟨pa, pc, ta, tc, rfl, HP, HL⟩, hb⟩; refine ⟨_, rfl, ?_⟩
  replace hw := grow_trans hw hb; clear hb
  replace hW := grow_trans hW hw; replace hK := hK.mono hw; clear hw; have hw := Below.refl w1.heap.size w1
  repeat' (first | (refine lw_pure rfl (pv_move rfl) ?_) | (refine lw_pure rfl (pv_assign rfl) ?_) | (refine is_cw ?_; first | (refine cw_seq ?_) | (refine cw_region ?_) | (refine cw_ret ?_)) | (refine is_qw ?_; first | (with_reducible refine qw_then ?_) | (with_reducible refine qw_then_ret ?_)) | (refine lw_nil ?_) | (refine is_guarded ?_; first | (refine lw_not rfl rfl rfl rfl ?_) | (refine lw_not_u rfl rfl rfl ?_) | (refine lw_on rfl rfl rfl ?_)) | ((refine is_bin ?_; first | (refine lw_pure rfl (pv_eql rfl rfl) ?_))) | ((refine is_load ?_; first | (refine lw_pure rfl (pv_load (t1 rfl) rfl (by first | fail)) ?_) | (refine lw_pure rfl (pv_loada (tA rfl) rfl (by first | fail) (by rfl)) ?_))) | ((refine is_ia ?_; first | (refine lw_pure rfl (pv_ian (tS rfl) rfl rfl (by omega)) ?_) | (refine lw_pure rfl (pv_ia (tS rfl) rfl rfl (by omega)) ?_))) | (refine lw_pure rfl (pv_pick_t rfl rfl rfl) ?_) | (refine lw_pure rfl (pv_pick_f rfl rfl rfl) ?_) | (refine lw_pure rfl (pv_pick_t rfl (by first | assumption | exact decide_eq_true (by omega) | exact dec_notT (by omega)) rfl) ?_) | (refine lw_pure rfl (pv_pick_f rfl (by first | assumption | exact decide_eq_false (by omega) | exact dec_notF (by omega)) rfl) ?_) | (refine lw_pure rfl (pv_pick rfl rfl rfl) ?_) | (refine lw_pure rfl (pv_extract rfl rfl) ?_))
  refine lw_bsN (vs := [.int .i64 2, .int .i64 100]) (cs := [.int .i64 2, .int .i64 100]) elemI rfl rfl rfl (by omega) (by omega) rfl (by simp [Value.cells]) ?_; intro BA wn _ HX hb
  replace hw := grow_trans hw hb; clear hb
  have HA : SlR encI 1 wn (some ⟨BA, 0, none⟩) 2 evsA.nums := HX.slR (xs := [2, 100]) encI_len rfl (by simp)
  clear HX
  replace hW := grow_trans hW hw; replace hK := hK.mono hw; replace HP := HP.mono hw; replace HL := HL.mono hw; clear hw; have hw := Below.refl wn.heap.size wn
  repeat' (first | (refine lw_pure rfl (pv_move rfl) ?_) | (refine lw_pure rfl (pv_assign rfl) ?_) | (refine lw_call (f := 16) (by kernel_rfl) rfl rfl (evnewL_c 6 _ 2 2 _) ?_; rintro e w1 ⟨rfl, hb⟩; refine ⟨_, rfl, ?_⟩; replace hw := grow_trans hw hb; clear hb) | (refine is_cw ?_; first | (refine cw_seq ?_) | (refine cw_region ?_) | (refine cw_ret ?_)) | (refine is_qw ?_; first | (with_reducible refine qw_then ?_) | (with_reducible refine qw_then_ret ?_)) | (refine lw_nil ?_) | (refine is_guarded ?_; first | (refine lw_not rfl rfl rfl rfl ?_) | (refine lw_not_u rfl rfl rfl ?_) | (refine lw_on rfl rfl rfl ?_)) | ((refine is_bin ?_; first | (refine lw_pure rfl (pv_eql rfl rfl) ?_))) | ((refine is_load ?_; first | (refine lw_pure rfl (pv_load (t1 rfl) rfl (by first | fail)) ?_) | (refine lw_pure rfl (pv_loada (tA rfl) rfl (by first | fail) (by rfl)) ?_))) | ((refine is_ia ?_; first | (refine lw_pure rfl (pv_ian (tS rfl) rfl rfl (by omega)) ?_) | (refine lw_pure rfl (pv_ia (tS rfl) rfl rfl (by omega)) ?_))) | (refine lw_pure rfl (pv_pick_t rfl rfl rfl) ?_) | (refine lw_pure rfl (pv_pick_f rfl rfl rfl) ?_) | (refine lw_pure rfl (pv_pick_t rfl (by first | assumption | exact decide_eq_true (by omega) | exact dec_notT (by omega)) rfl) ?_) | (refine lw_pure rfl (pv_pick_f rfl (by first | assumption | exact decide_eq_false (by omega) | exact dec_notF (by omega)) rfl) ?_) | (refine lw_pure rfl (pv_pick rfl rfl rfl) ?_) | (refine lw_pure rfl (pv_extract rfl rfl) ?_))
  refine lw_call (f := 9) (by kernel_rfl) rfl rfl (stmt_e slk1 rfl rfl (by decide) rfl rfl rfl rfl rfl (SlR.nil _) in64_0 (by simp) (SlR.nil _) (SlR.nil _) (HA.mono hw) (SlR.nil _) tx_nil (hK.mono hw)) ?_; rintro e1 w2 ⟨⟨aa, ac, rfl, HB⟩, hb⟩; refine ⟨_, rfl, ?_⟩
  replace hw := grow_trans hw hb; clear hb
  replace hW := grow_trans hW hw; replace hK := hK.mono hw; replace HP := HP.mono hw; replace HL := HL.mono hw; clear hw; have hw := Below.refl w2.heap.size w2
  repeat' (first | (refine lw_pure rfl (pv_move rfl) ?_) | (refine lw_pure rfl (pv_assign rfl) ?_) | (refine is_cw ?_; first | (refine cw_seq ?_) | (refine cw_region ?_) | (refine cw_ret ?_)) | (refine is_qw ?_; first | (with_reducible refine qw_then ?_) | (with_reducible refine qw_then_ret ?_)) | (refine lw_nil ?_) | (refine is_guarded ?_; first | (refine lw_not rfl rfl rfl rfl ?_) | (refine lw_not_u rfl rfl rfl ?_) | (refine lw_on rfl rfl rfl ?_)) | ((refine is_bin ?_; first | (refine lw_pure rfl (pv_eql rfl rfl) ?_))) | ((refine is_load ?_; first | (refine lw_pure rfl (pv_load (t1 rfl) rfl (by first | fail)) ?_) | (refine lw_pure rfl (pv_loada (tA rfl) rfl (by first | fail) (by rfl)) ?_))) | ((refine is_ia ?_; first | (refine lw_pure rfl (pv_ian (tS rfl) rfl rfl (by omega)) ?_) | (refine lw_pure rfl (pv_ia (tS rfl) rfl rfl (by omega)) ?_))) | (refine lw_pure rfl (pv_pick_t rfl rfl rfl) ?_) | (refine lw_pure rfl (pv_pick_f rfl rfl rfl) ?_) | (refine lw_pure rfl (pv_pick_t rfl (by first | assumption | exact decide_eq_true (by omega) | exact dec_notT (by omega)) rfl) ?_) | (refine lw_pure rfl (pv_pick_f rfl (by first | assumption | exact decide_eq_false (by omega) | exact dec_notF (by omega)) rfl) ?_) | (refine lw_pure rfl (pv_pick rfl rfl rfl) ?_) | (refine lw_pure rfl (pv_extract rfl rfl) ?_))
  refine lw_bsN (vs := [.int .i64 5, .int .i64 1, .int .i64 10, .int .i64 3, .int .i64 2]) (cs := [.int .i64 5, .int .i64 1, .int .i64 10, .int .i64 3, .int .i64 2]) elemI rfl rfl rfl (by omega) (by omega) rfl (by simp [Value.cells]) ?_; intro BB wn _ HX hb
  replace hw := grow_trans hw hb; clear hb
  have HC : SlR encI 1 wn (some ⟨BB, 0, none⟩) 5 evsB.nums := HX.slR (xs := [5, 1, 10, 3, 2]) encI_len rfl (by simp)
  clear HX
  replace hW := grow_trans hW hw; replace hK := hK.mono hw; replace HP := HP.mono hw; replace HL := HL.mono hw; replace HB := HB.mono hw; clear hw; have hw := Below.refl wn.heap.size wn
  repeat' (first | (refine lw_pure rfl (pv_move rfl) ?_) | (refine lw_pure rfl (pv_assign rfl) ?_) | (refine lw_call (f := 16) (by kernel_rfl) rfl rfl (evnewL_c 13 _ 5 5 _) ?_; rintro e w1 ⟨rfl, hb⟩; refine ⟨_, rfl, ?_⟩; replace hw := grow_trans hw hb; clear hb) | (refine is_cw ?_; first | (refine cw_seq ?_) | (refine cw_region ?_) | (refine cw_ret ?_)) | (refine is_qw ?_; first | (with_reducible refine qw_then ?_) | (with_reducible refine qw_then_ret ?_)) | (refine lw_nil ?_) | (refine is_guarded ?_; first | (refine lw_not rfl rfl rfl rfl ?_) | (refine lw_not_u rfl rfl rfl ?_) | (refine lw_on rfl rfl rfl ?_)) | ((refine is_bin ?_; first | (refine lw_pure rfl (pv_eql rfl rfl) ?_))) | ((refine is_load ?_; first | (refine lw_pure rfl (pv_load (t1 rfl) rfl (by first | fail)) ?_) | (refine lw_pure rfl (pv_loada (tA rfl) rfl (by first | fail) (by rfl)) ?_))) | ((refine is_ia ?_; first | (refine lw_pure rfl (pv_ian (tS rfl) rfl rfl (by omega)) ?_) | (refine lw_pure rfl (pv_ia (tS rfl) rfl rfl (by omega)) ?_))) | (refine lw_pure rfl (pv_pick_t rfl rfl rfl) ?_) | (refine lw_pure rfl (pv_pick_f rfl rfl rfl) ?_) | (refine lw_pure rfl (pv_pick_t rfl (by first | assumption | exact decide_eq_true (by omega) | exact dec_notT (by omega)) rfl) ?_) | (refine lw_pure rfl (pv_pick_f rfl (by first | assumption | exact decide_eq_false (by omega) | exact dec_notF (by omega)) rfl) ?_) | (refine lw_pure rfl (pv_pick rfl rfl rfl) ?_) | (refine lw_pure rfl (pv_extract rfl rfl) ?_))
  refine lw_call (f := 9) (by kernel_rfl) rfl rfl (stmt_e slk2 rfl rfl (by decide) rfl rfl rfl rfl rfl (HB.mono hw) in64_1 (by simp) (HP.mono hw) (HL.mono hw) (HC.mono hw) (SlR.nil _) tx_nil (hK.mono hw)) ?_; rintro e1 w3 ⟨⟨ba, bc, rfl, HD⟩, hb⟩; refine ⟨_, rfl, ?_⟩
  replace hw := grow_trans hw hb; clear hb
  clear HA HB HC HP HL
  replace hW := grow_trans hW hw; skip; clear hw; have hw := Below.refl w3.heap.size w3
  repeat' (first | (refine lw_pure rfl (pv_move rfl) ?_) | (refine lw_pure rfl (pv_assign rfl) ?_) | (refine lw_call (f := 18) (by kernel_rfl) rfl rfl (line_c _ _ _ _ _ _) ?_; rintro e w1 ⟨rfl, hb⟩; refine ⟨_, rfl, ?_⟩; replace hw := grow_trans hw hb; clear hb) | (refine is_cw ?_; first | (refine cw_seq ?_) | (refine cw_region ?_) | (refine cw_ret ?_)) | (refine is_qw ?_; first | (with_reducible refine qw_then ?_) | (with_reducible refine qw_then_ret ?_)) | (refine lw_nil ?_) | (refine is_guarded ?_; first | (refine lw_not rfl rfl rfl rfl ?_) | (refine lw_not_u rfl rfl rfl ?_) | (refine lw_on rfl rfl rfl ?_)) | ((refine is_bin ?_; first | (refine lw_pure rfl (pv_eql rfl rfl) ?_))) | ((refine is_load ?_; first | (refine lw_pure rfl (pv_load (t1 rfl) rfl (by first | fail)) ?_) | (refine lw_pure rfl (pv_loada (tA rfl) rfl (by first | fail) (by rfl)) ?_))) | ((refine is_ia ?_; first | (refine lw_pure rfl (pv_ian (tS rfl) rfl rfl (by omega)) ?_) | (refine lw_pure rfl (pv_ia (tS rfl) rfl rfl (by omega)) ?_))) | (refine lw_pure rfl (pv_pick_t rfl rfl rfl) ?_) | (refine lw_pure rfl (pv_pick_f rfl rfl rfl) ?_) | (refine lw_pure rfl (pv_pick_t rfl (by first | assumption | exact decide_eq_true (by omega) | exact dec_notT (by omega)) rfl) ?_) | (refine lw_pure rfl (pv_pick_f rfl (by first | assumption | exact decide_eq_false (by omega) | exact dec_notF (by omega)) rfl) ?_) | (refine lw_pure rfl (pv_pick rfl rfl rfl) ?_) | (refine lw_pure rfl (pv_extract rfl rfl) ?_))
  refine lw_bsN (vs := [.agg (encN lnA).toArray, .agg (encN lnB).toArray, .agg (encN lnC).toArray]) (cs := [lnA, lnB, lnC].flatMap encN) elemLn rfl rfl rfl (by omega) (by omega) rfl (by simp [Value.cells, encN]) ?_; intro BE wn _ HX hb
  replace hw := grow_trans hw hb; clear hb
  have HE : SlR encN 5 wn (some ⟨BE, 0, none⟩) 3 [lnA, lnB, lnC] := HX.slR (xs := [lnA, lnB, lnC]) encN_len rfl (by simp)
  clear HX
  replace hW := grow_trans hW hw; replace HD := HD.mono hw; clear hw; have hw := Below.refl wn.heap.size wn
  repeat' (first | (refine lw_pure rfl (pv_move rfl) ?_) | (refine lw_pure rfl (pv_assign rfl) ?_) | (refine lw_call (f := 17) (by kernel_rfl) rfl rfl (lines_c _ _) ?_; rintro e w1 ⟨rfl, hb⟩; refine ⟨_, rfl, ?_⟩; replace hw := grow_trans hw hb; clear hb) | (refine is_cw ?_; first | (refine cw_seq ?_) | (refine cw_region ?_) | (refine cw_ret ?_)) | (refine is_qw ?_; first | (with_reducible refine qw_then ?_) | (with_reducible refine qw_then_ret ?_)) | (refine lw_nil ?_) | (refine is_guarded ?_; first | (refine lw_not rfl rfl rfl rfl ?_) | (refine lw_not_u rfl rfl rfl ?_) | (refine lw_on rfl rfl rfl ?_)) | ((refine is_bin ?_; first | (refine lw_pure rfl (pv_eql rfl rfl) ?_))) | ((refine is_load ?_; first | (refine lw_pure rfl (pv_load (t1 rfl) rfl (by first | fail)) ?_) | (refine lw_pure rfl (pv_loada (tA rfl) rfl (by first | fail) (by rfl)) ?_))) | ((refine is_ia ?_; first | (refine lw_pure rfl (pv_ian (tS rfl) rfl rfl (by omega)) ?_) | (refine lw_pure rfl (pv_ia (tS rfl) rfl rfl (by omega)) ?_))) | (refine lw_pure rfl (pv_pick_t rfl rfl rfl) ?_) | (refine lw_pure rfl (pv_pick_f rfl rfl rfl) ?_) | (refine lw_pure rfl (pv_pick_t rfl (by first | assumption | exact decide_eq_true (by omega) | exact dec_notT (by omega)) rfl) ?_) | (refine lw_pure rfl (pv_pick_f rfl (by first | assumption | exact decide_eq_false (by omega) | exact dec_notF (by omega)) rfl) ?_) | (refine lw_pure rfl (pv_pick rfl rfl rfl) ?_) | (refine lw_pure rfl (pv_extract rfl rfl) ?_))
  replace HD := HD.mono hw
  replace HE := HE.mono hw
  replace hW := grow_trans hW hw; skip; clear hw; have hw := Below.refl w1.heap.size w1
  have hx1 : [lnA, lnB, lnC][1]? = some lnB := rfl
  refine cw_drawn (fun w' => Below w1.heap.size w1 w') (by kernel_rfl) (by repeat (first | exact NoPanic.body | with_reducible refine NoPanic.then ?_ | with_reducible refine NoPanic.inBlock ?_)) (fun hNP => ?_)
  have hS := hw.drew
  (refine at0 0 rfl (fun w' hq => pv_move rfl) ?_)
  (refine at0 1 rfl (fun w' hq => pv_eql rfl rfl) ?_)
  (refine at0 2 rfl (fun w' hq => pv_move rfl) ?_)
  first | (refine an1 3 rfl rfl rfl rfl ?_) | (refine an0 3 rfl rfl rfl ?_) | (refine at1 3 rfl rfl rfl rfl (fun w' hq => pv_move rfl) ?_)
  first | (refine an1 4 rfl rfl rfl rfl ?_) | (refine an0 4 rfl rfl rfl ?_) | (refine at1 4 rfl rfl rfl rfl (fun w' hq => pv_eql rfl rfl) ?_)
  first | (refine at0 5 rfl (fun w' hq => pv_pick_t rfl rfl rfl) ?_) | (refine at0 5 rfl (fun w' hq => pv_pick_f rfl rfl rfl) ?_) | (refine at0 5 rfl (fun w' hq => pv_pick_t rfl (by first | assumption | exact decide_eq_true (by omega) | exact dec_notT (by omega)) rfl) ?_) | (refine at0 5 rfl (fun w' hq => pv_pick_f rfl (by first | assumption | exact decide_eq_false (by omega) | exact dec_notF (by omega)) rfl) ?_) | (refine at0 5 rfl (fun w' hq => pv_pick rfl rfl rfl) ?_)
  (refine at0 6 rfl (fun w' hq => pv_move rfl) ?_)
  first | (refine an1 7 rfl rfl rfl rfl ?_) | (refine an0 7 rfl rfl rfl ?_) | (refine at1 7 rfl rfl rfl rfl (fun w' hq => pv_move rfl) ?_)
  first | (refine an1 8 rfl rfl rfl rfl ?_) | (refine an0 8 rfl rfl rfl ?_) | (refine at1 8 rfl rfl rfl rfl (fun w' hq => pv_move rfl) ?_)
  refine aw_act 9 (by kernel_rfl) rfl rfl rfl ?_
  refine act_call (f := 11) (by kernel_rfl) rfl (rsameN_t rfl rfl (HD.mono hS) (HE.mono hS)) ?_; rintro e9 w9 ⟨rfl, hb⟩; (try replace HPg := HPg.mono hb); (try replace HY := HY.mono hb); refine ⟨_, rfl, grow_trans hS hb, fun hS => ?_⟩; clear hb
  first | (refine at0 10 rfl (fun w' hq => pv_pick_t rfl rfl rfl) ?_) | (refine at0 10 rfl (fun w' hq => pv_pick_f rfl rfl rfl) ?_) | (refine at0 10 rfl (fun w' hq => pv_pick_t rfl (by first | assumption | exact decide_eq_true (by omega) | exact dec_notT (by omega)) rfl) ?_) | (refine at0 10 rfl (fun w' hq => pv_pick_f rfl (by first | assumption | exact decide_eq_false (by omega) | exact dec_notF (by omega)) rfl) ?_) | (refine at0 10 rfl (fun w' hq => pv_pick rfl rfl rfl) ?_)
  (refine at0 11 rfl (fun w' hq => pv_move rfl) ?_)
  first | (refine an1 12 rfl rfl rfl rfl ?_) | (refine an0 12 rfl rfl rfl ?_) | (refine at1 12 rfl rfl rfl rfl (fun w' hq => pv_move rfl) ?_)
  first | (refine an1 14 rfl rfl rfl rfl ?_) | (refine an0 14 rfl rfl rfl ?_) | (refine at1 14 rfl rfl rfl rfl (fun w' hq => pv_move rfl) ?_)
  first | (refine an1 15 rfl rfl rfl rfl ?_) | (refine an0 15 rfl rfl rfl ?_) | (refine at1 15 rfl rfl rfl rfl (fun w' hq => pv_ian (tS rfl) rfl rfl (by omega)) ?_) | (refine at1 15 rfl rfl rfl rfl (fun w' hq => pv_ia (tS rfl) rfl rfl (by omega)) ?_)
  first | (refine an1 16 rfl rfl rfl rfl ?_) | (refine an0 16 rfl rfl rfl ?_) | (refine at1 16 rfl rfl rfl rfl (fun w' hq => pv_load (t1 rfl) rfl (by first | exact SlR.ld (HE.mono hq) hx1 rfl | exact SlR.ld1 (HE.mono hq) hx1 rfl)) ?_) | (refine at1 16 rfl rfl rfl rfl (fun w' hq => pv_loada (tA rfl) rfl (by first | exact SlR.lda (HE.mono hq) hx1) (by rfl)) ?_)
  refine aw_act2 13 17 (by kernel_rfl) rfl rfl rfl rfl rfl rfl ?_ ?_
  · refine act_call (f := 19) (by kernel_rfl) rfl (pageL_e slk3 rfl (HD.mono hS) (by simp)) ?_; rintro e9 wp ⟨⟨ga, gc, rfl, HPg⟩, hb⟩; (try replace HY := HY.mono hb); refine ⟨_, rfl, grow_trans hS hb, fun hS => ?_⟩; clear hb
    refine aw_act 17 (by kernel_rfl) rfl rfl rfl ?_
    refine act_bs (vs := [.agg (encN lnB).toArray]) (cs := encN lnB) elemLn rfl rfl (by omega) (by omega) rfl (by simp [Value.cells, encN]) ?_; intro wb HB2 hb; have HY := HB2.slR (xs := [lnB]) encN_len rfl (by simp); (try replace HPg := HPg.mono hb); refine ⟨grow_trans hS hb, fun hS => ?_⟩; clear hb
    refine aw_act 18 (by kernel_rfl) rfl rfl rfl ?_
    refine act_call (f := 17) (by kernel_rfl) rfl (lines_c _ _) ?_; rintro e9 wl ⟨rfl, hb⟩; replace HY := HY.mono hb; replace HPg := HPg.mono hb; refine ⟨_, rfl, grow_trans hS hb, fun hS => ?_⟩; clear hb
    refine aw_act 19 (by kernel_rfl) rfl rfl rfl ?_
    refine act_call (f := 11) (by kernel_rfl) rfl (rsameN_t rfl rfl HPg HY) ?_; rintro e9 w9 ⟨rfl, hb⟩; (try replace HPg := HPg.mono hb); (try replace HY := HY.mono hb); refine ⟨_, rfl, grow_trans hS hb, fun hS => ?_⟩; clear hb
    first | (refine at0 20 rfl (fun w' hq => pv_pick_t rfl rfl rfl) ?_) | (refine at0 20 rfl (fun w' hq => pv_pick_f rfl rfl rfl) ?_) | (refine at0 20 rfl (fun w' hq => pv_pick_t rfl (by first | assumption | exact decide_eq_true (by omega) | exact dec_notT (by omega)) rfl) ?_) | (refine at0 20 rfl (fun w' hq => pv_pick_f rfl (by first | assumption | exact decide_eq_false (by omega) | exact dec_notF (by omega)) rfl) ?_) | (refine at0 20 rfl (fun w' hq => pv_pick rfl rfl rfl) ?_)
    (refine at0 21 rfl (fun w' hq => pv_move rfl) ?_)
    first | (refine an1 22 rfl rfl rfl rfl ?_) | (refine an0 22 rfl rfl rfl ?_) | (refine at1 22 rfl rfl rfl rfl (fun w' hq => pv_move rfl) ?_)
    refine aw_act 23 (by kernel_rfl) rfl rfl rfl ?_
    refine act_call (f := 14) (by kernel_rfl) rfl (balL_e (z := 70) (by rfl) rfl (HD.mono hS)) ?_; rintro e9 w9 ⟨rfl, hb⟩; refine ⟨_, rfl, grow_trans hS hb, fun hS => ?_⟩; clear hb
    first | (refine an1 24 rfl rfl rfl rfl ?_) | (refine an0 24 rfl rfl rfl ?_) | (refine at1 24 rfl rfl rfl rfl (fun w' hq => pv_eql rfl rfl) ?_)
    first | (refine at0 25 rfl (fun w' hq => pv_pick_t rfl rfl rfl) ?_) | (refine at0 25 rfl (fun w' hq => pv_pick_f rfl rfl rfl) ?_) | (refine at0 25 rfl (fun w' hq => pv_pick_t rfl (by first | assumption | exact decide_eq_true (by omega) | exact dec_notT (by omega)) rfl) ?_) | (refine at0 25 rfl (fun w' hq => pv_pick_f rfl (by first | assumption | exact decide_eq_false (by omega) | exact dec_notF (by omega)) rfl) ?_) | (refine at0 25 rfl (fun w' hq => pv_pick rfl rfl rfl) ?_)
    (refine at0 26 rfl (fun w' hq => pv_move rfl) ?_)
    first | (refine an1 27 rfl rfl rfl rfl ?_) | (refine an0 27 rfl rfl rfl ?_) | (refine at1 27 rfl rfl rfl rfl (fun w' hq => pv_move rfl) ?_)
    refine aw_act 28 (by kernel_rfl) rfl rfl rfl ?_
    refine act_call (f := 14) (by kernel_rfl) rfl (balL_e (z := 0) (by rfl) rfl (HD.mono hS)) ?_; rintro e9 w9 ⟨rfl, hb⟩; refine ⟨_, rfl, grow_trans hS hb, fun hS => ?_⟩; clear hb
    first | (refine an1 29 rfl rfl rfl rfl ?_) | (refine an0 29 rfl rfl rfl ?_) | (refine at1 29 rfl rfl rfl rfl (fun w' hq => pv_eql rfl rfl) ?_)
    first | (refine at0 30 rfl (fun w' hq => pv_pick_t rfl rfl rfl) ?_) | (refine at0 30 rfl (fun w' hq => pv_pick_f rfl rfl rfl) ?_) | (refine at0 30 rfl (fun w' hq => pv_pick_t rfl (by first | assumption | exact decide_eq_true (by omega) | exact dec_notT (by omega)) rfl) ?_) | (refine at0 30 rfl (fun w' hq => pv_pick_f rfl (by first | assumption | exact decide_eq_false (by omega) | exact dec_notF (by omega)) rfl) ?_) | (refine at0 30 rfl (fun w' hq => pv_pick rfl rfl rfl) ?_)
    (refine at0 31 rfl (fun w' hq => pv_assign rfl) ?_)
    refine aw_done (by kernel_rfl) ?_
    replace hw := hS; clear hS hNP
    (repeat' (first | (refine lw_pure rfl (pv_move rfl) ?_) | (refine lw_pure rfl (pv_assign rfl) ?_) | (refine is_cw ?_; first | (refine cw_seq ?_) | (refine cw_region ?_) | (refine cw_ret ?_)) | (refine is_qw ?_; first | (with_reducible refine qw_then ?_) | (with_reducible refine qw_then_ret ?_)) | (refine lw_nil ?_) | (refine is_guarded ?_; first | (refine lw_not rfl rfl rfl rfl ?_) | (refine lw_not_u rfl rfl rfl ?_) | (refine lw_on rfl rfl rfl ?_)) | ((refine is_bin ?_; first | (refine lw_pure rfl (pv_eql rfl rfl) ?_))) | ((refine is_load ?_; first | (refine lw_pure rfl (pv_load (t1 rfl) rfl (by first | fail)) ?_) | (refine lw_pure rfl (pv_loada (tA rfl) rfl (by first | fail) (by rfl)) ?_))) | ((refine is_ia ?_; first | (refine lw_pure rfl (pv_ian (tS rfl) rfl rfl (by omega)) ?_) | (refine lw_pure rfl (pv_ia (tS rfl) rfl rfl (by omega)) ?_))) | (refine lw_pure rfl (pv_pick_t rfl rfl rfl) ?_) | (refine lw_pure rfl (pv_pick_f rfl rfl rfl) ?_) | (refine lw_pure rfl (pv_pick_t rfl (by first | assumption | exact decide_eq_true (by omega) | exact dec_notT (by omega)) rfl) ?_) | (refine lw_pure rfl (pv_pick_f rfl (by first | assumption | exact decide_eq_false (by omega) | exact dec_notF (by omega)) rfl) ?_) | (refine lw_pure rfl (pv_pick rfl rfl rfl) ?_) | (refine lw_pure rfl (pv_extract rfl rfl) ?_))); exact qw_ret1 rfl rfl ⟨rfl, grow_trans hW hw⟩
  · refine act_bs (vs := [.agg (encN lnB).toArray]) (cs := encN lnB) elemLn rfl rfl (by omega) (by omega) rfl (by simp [Value.cells, encN]) ?_; intro wb HB2 hb; have HY := HB2.slR (xs := [lnB]) encN_len rfl (by simp); (try replace HPg := HPg.mono hb); refine ⟨grow_trans hS hb, fun hS => ?_⟩; clear hb
    refine aw_act 13 (by kernel_rfl) rfl rfl rfl ?_
    refine act_call (f := 19) (by kernel_rfl) rfl (pageL_e slk3 rfl (HD.mono hS) (by simp)) ?_; rintro e9 wp ⟨⟨ga, gc, rfl, HPg⟩, hb⟩; (try replace HY := HY.mono hb); refine ⟨_, rfl, grow_trans hS hb, fun hS => ?_⟩; clear hb
    refine aw_act 18 (by kernel_rfl) rfl rfl rfl ?_
    refine act_call (f := 17) (by kernel_rfl) rfl (lines_c _ _) ?_; rintro e9 wl ⟨rfl, hb⟩; replace HY := HY.mono hb; replace HPg := HPg.mono hb; refine ⟨_, rfl, grow_trans hS hb, fun hS => ?_⟩; clear hb
    refine aw_act 19 (by kernel_rfl) rfl rfl rfl ?_
    refine act_call (f := 11) (by kernel_rfl) rfl (rsameN_t rfl rfl HPg HY) ?_; rintro e9 w9 ⟨rfl, hb⟩; (try replace HPg := HPg.mono hb); (try replace HY := HY.mono hb); refine ⟨_, rfl, grow_trans hS hb, fun hS => ?_⟩; clear hb
    first | (refine at0 20 rfl (fun w' hq => pv_pick_t rfl rfl rfl) ?_) | (refine at0 20 rfl (fun w' hq => pv_pick_f rfl rfl rfl) ?_) | (refine at0 20 rfl (fun w' hq => pv_pick_t rfl (by first | assumption | exact decide_eq_true (by omega) | exact dec_notT (by omega)) rfl) ?_) | (refine at0 20 rfl (fun w' hq => pv_pick_f rfl (by first | assumption | exact decide_eq_false (by omega) | exact dec_notF (by omega)) rfl) ?_) | (refine at0 20 rfl (fun w' hq => pv_pick rfl rfl rfl) ?_)
    (refine at0 21 rfl (fun w' hq => pv_move rfl) ?_)
    first | (refine an1 22 rfl rfl rfl rfl ?_) | (refine an0 22 rfl rfl rfl ?_) | (refine at1 22 rfl rfl rfl rfl (fun w' hq => pv_move rfl) ?_)
    refine aw_act 23 (by kernel_rfl) rfl rfl rfl ?_
    refine act_call (f := 14) (by kernel_rfl) rfl (balL_e (z := 70) (by rfl) rfl (HD.mono hS)) ?_; rintro e9 w9 ⟨rfl, hb⟩; refine ⟨_, rfl, grow_trans hS hb, fun hS => ?_⟩; clear hb
    first | (refine an1 24 rfl rfl rfl rfl ?_) | (refine an0 24 rfl rfl rfl ?_) | (refine at1 24 rfl rfl rfl rfl (fun w' hq => pv_eql rfl rfl) ?_)
    first | (refine at0 25 rfl (fun w' hq => pv_pick_t rfl rfl rfl) ?_) | (refine at0 25 rfl (fun w' hq => pv_pick_f rfl rfl rfl) ?_) | (refine at0 25 rfl (fun w' hq => pv_pick_t rfl (by first | assumption | exact decide_eq_true (by omega) | exact dec_notT (by omega)) rfl) ?_) | (refine at0 25 rfl (fun w' hq => pv_pick_f rfl (by first | assumption | exact decide_eq_false (by omega) | exact dec_notF (by omega)) rfl) ?_) | (refine at0 25 rfl (fun w' hq => pv_pick rfl rfl rfl) ?_)
    (refine at0 26 rfl (fun w' hq => pv_move rfl) ?_)
    first | (refine an1 27 rfl rfl rfl rfl ?_) | (refine an0 27 rfl rfl rfl ?_) | (refine at1 27 rfl rfl rfl rfl (fun w' hq => pv_move rfl) ?_)
    refine aw_act 28 (by kernel_rfl) rfl rfl rfl ?_
    refine act_call (f := 14) (by kernel_rfl) rfl (balL_e (z := 0) (by rfl) rfl (HD.mono hS)) ?_; rintro e9 w9 ⟨rfl, hb⟩; refine ⟨_, rfl, grow_trans hS hb, fun hS => ?_⟩; clear hb
    first | (refine an1 29 rfl rfl rfl rfl ?_) | (refine an0 29 rfl rfl rfl ?_) | (refine at1 29 rfl rfl rfl rfl (fun w' hq => pv_eql rfl rfl) ?_)
    first | (refine at0 30 rfl (fun w' hq => pv_pick_t rfl rfl rfl) ?_) | (refine at0 30 rfl (fun w' hq => pv_pick_f rfl rfl rfl) ?_) | (refine at0 30 rfl (fun w' hq => pv_pick_t rfl (by first | assumption | exact decide_eq_true (by omega) | exact dec_notT (by omega)) rfl) ?_) | (refine at0 30 rfl (fun w' hq => pv_pick_f rfl (by first | assumption | exact decide_eq_false (by omega) | exact dec_notF (by omega)) rfl) ?_) | (refine at0 30 rfl (fun w' hq => pv_pick rfl rfl rfl) ?_)
    (refine at0 31 rfl (fun w' hq => pv_assign rfl) ?_)
    refine aw_done (by kernel_rfl) ?_
    replace hw := hS; clear hS hNP
    (repeat' (first | (refine lw_pure rfl (pv_move rfl) ?_) | (refine lw_pure rfl (pv_assign rfl) ?_) | (refine is_cw ?_; first | (refine cw_seq ?_) | (refine cw_region ?_) | (refine cw_ret ?_)) | (refine is_qw ?_; first | (with_reducible refine qw_then ?_) | (with_reducible refine qw_then_ret ?_)) | (refine lw_nil ?_) | (refine is_guarded ?_; first | (refine lw_not rfl rfl rfl rfl ?_) | (refine lw_not_u rfl rfl rfl ?_) | (refine lw_on rfl rfl rfl ?_)) | ((refine is_bin ?_; first | (refine lw_pure rfl (pv_eql rfl rfl) ?_))) | ((refine is_load ?_; first | (refine lw_pure rfl (pv_load (t1 rfl) rfl (by first | fail)) ?_) | (refine lw_pure rfl (pv_loada (tA rfl) rfl (by first | fail) (by rfl)) ?_))) | ((refine is_ia ?_; first | (refine lw_pure rfl (pv_ian (tS rfl) rfl rfl (by omega)) ?_) | (refine lw_pure rfl (pv_ia (tS rfl) rfl rfl (by omega)) ?_))) | (refine lw_pure rfl (pv_pick_t rfl rfl rfl) ?_) | (refine lw_pure rfl (pv_pick_f rfl rfl rfl) ?_) | (refine lw_pure rfl (pv_pick_t rfl (by first | assumption | exact decide_eq_true (by omega) | exact dec_notT (by omega)) rfl) ?_) | (refine lw_pure rfl (pv_pick_f rfl (by first | assumption | exact decide_eq_false (by omega) | exact dec_notF (by omega)) rfl) ?_) | (refine lw_pure rfl (pv_pick rfl rfl rfl) ?_) | (refine lw_pure rfl (pv_extract rfl rfl) ?_))); exact qw_ret1 rfl rfl ⟨rfl, grow_trans hW hw⟩

def wantR (e : Evt) : Int := if e.kind = 6 then nthI e 1 else if e.kind = 7 then -nthI e 1 else if e.kind = 13 then -nthI e 4 else if e.kind = 18 then -nthI e 3 else 0
theorem rows_sum {p : List Opn} {t : List Lt} {e : Evt} (h0 : (rowsL p t e).1 = 0) : ((rowsL p t e).2.map (·.2)).sum = wantR e := by
  unfold rowsL at h0 ⊢
  unfold wantR
  by_cases k6 : e.kind = 6
  · rw [if_pos k6, if_pos k6]; simp
  rw [if_neg k6] at h0 ⊢; rw [if_neg k6]
  by_cases k7 : e.kind = 7
  · rw [if_pos k7, if_pos k7]; simp
  rw [if_neg k7] at h0 ⊢; rw [if_neg k7]
  by_cases k21 : e.kind = 21
  · rw [if_pos k21, if_neg (by omega), if_neg (by omega)]; simp; omega
  rw [if_neg k21] at h0 ⊢
  by_cases k13 : e.kind = 13
  · rw [if_pos k13] at h0 ⊢; rw [if_pos k13]
    generalize nthI e 2 * nthI e 3 = z at h0 ⊢
    cases hf : findP p (nthI e 0) with
    | none => rw [hf] at h0; simp at h0
    | some a =>
      cases hg : findP p (nthI e 1) with
      | none => rw [hf, hg] at h0; simp at h0
      | some b =>
        rw [hf, hg] at h0
        dsimp only at h0 ⊢
        by_cases hs : a.side = b.side
        · rw [if_pos hs] at h0; simp at h0
        · rw [if_neg hs] at h0 ⊢
          by_cases h2 : a.side = 2
          · rw [if_pos h2]; simp; omega
          · rw [if_neg h2]; simp; omega
  rw [if_neg k13] at h0 ⊢; rw [if_neg k13]
  by_cases k18 : e.kind = 18
  · rw [if_pos k18] at h0 ⊢; rw [if_pos k18]
    cases hf : lotP t (nthI e 0) with
    | none => rw [hf] at h0; simp at h0
    | some x => simp; omega
  rw [if_neg k18] at h0 ⊢; rw [if_neg k18]
  rfl
theorem rows_acct {p : List Opn} {t : List Lt} {e : Evt} (hE : mayE e = true) (hv : e.v = 3) (hV : mayV p t = true) : ∀ r ∈ (rowsL p t e).2, 1 ≤ r.1 ∧ r.1 ≤ 64 := by
  have hM := mayV_iff.1 hV
  unfold rowsL nthI
  by_cases k6 : e.kind = 6
  · obtain ⟨n0, n1, hn, h0, h1⟩ := lnums6 hE hv (Or.inl k6)
    rw [if_pos k6, hn]; intro r hr; simp at hr; subst hr; simp; omega
  rw [if_neg k6]
  by_cases k7 : e.kind = 7
  · obtain ⟨n0, n1, hn, h0, h1⟩ := lnums6 hE hv (Or.inr k7)
    rw [if_pos k7, hn]; intro r hr; simp at hr; subst hr; simp; omega
  rw [if_neg k7]
  by_cases k21 : e.kind = 21
  · obtain ⟨n0, n1, n2, hn, h0, h1, h2⟩ := lnums21 hE hv k21
    rw [if_pos k21, hn]; intro r hr; simp at hr; rcases hr with rfl | rfl <;> simp <;> omega
  rw [if_neg k21]
  by_cases k13 : e.kind = 13
  · rw [if_pos k13]
    cases hf : findP p (e.nums.getD 0 0) with
    | none => intro r hr; simp at hr
    | some a =>
      cases hg : findP p (e.nums.getD 1 0) with
      | none => intro r hr; simp at hr
      | some b =>
        have ha := (hM.2.2.2.1 a (List.mem_of_find?_eq_some hf)).1
        have hb := (hM.2.2.2.1 b (List.mem_of_find?_eq_some hg)).1
        dsimp only
        by_cases hs : a.side = b.side
        · rw [if_pos hs]; intro r hr; simp at hr
        · rw [if_neg hs]
          by_cases h2 : a.side = 2
          · rw [if_pos h2]; intro r hr; simp at hr; rcases hr with rfl | rfl <;> dsimp only <;> omega
          · rw [if_neg h2]; intro r hr; simp at hr; rcases hr with rfl | rfl <;> dsimp only <;> omega
  rw [if_neg k13]
  by_cases k18 : e.kind = 18
  · obtain ⟨n0, n1, n2, n3, hn, h1, h2, h3⟩ := lnums18 hE hv k18
    rw [if_pos k18]
    cases hf : lotP t (e.nums.getD 0 0) with
    | none => intro r hr; simp at hr
    | some x =>
      have hx := (hM.2.2.2.2.2 x (List.mem_of_find?_eq_some hf)).2.1
      rw [hn]; intro r hr; simp at hr; rcases hr with rfl | rfl <;> dsimp only <;> omega
  rw [if_neg k18]
  intro r hr; simp at hr
theorem rows_kind {p : List Opn} {t : List Lt} {e : Evt} (hk : kindB e.kind = false) : (rowsL p t e).2 = [] := by
  have hk2 := of_decide_eq_false hk
  unfold rowsL
  rw [if_neg (by omega), if_neg (by omega), if_neg (by omega), if_neg (by omega), if_neg (by omega)]
theorem form_of {l : List Ln} {p : List Opn} {t : List Lt} {seq : Int} {e : Evt} (h : formL l p t seq e = true) : mayLn l = true ∧ mayV p t = true ∧ e.v = 3 ∧ mayE e = true ∧ (0 ≤ seq ∧ seq < 1048576) ∧ seqL l ≤ seq := by
  unfold formL at h
  simp only [Bool.and_eq_true, decide_eq_true_eq] at h
  exact ⟨h.1.1.1.1.1, h.1.1.1.1.2, h.1.1.1.2, h.1.1.2, h.1.2, h.2⟩
theorem adds_len {seq kind : Int} : ∀ {rs : List (Int × Int)} {l l' : List Ln}, addsL seq kind l rs = some l' → l'.length ≤ l.length + rs.length
  | [], l, l', e => by injection e with e; subst e; simp
  | r :: rs, l, l', e => by
    unfold addsL at e
    cases h1 : addL l seq kind r.1 r.2 with
    | none => rw [h1] at e; cases e
    | some l1 =>
      rw [h1] at e
      have h2 := adds_len (rs := rs) e
      have h3 : l1.length ≤ l.length + 1 := by
        unfold addL at h1
        split at h1
        · injection h1 with h1; subst h1; omega
        · split at h1
          · injection h1 with h1; subst h1; simp
          · cases h1
      rw [List.length_cons]; omega
theorem stmt_yes {l m : List Ln} {p : List Opn} {t : List Lt} {seq : Int} {e : Evt} (h : stmtL l p t seq e = (0, m)) :
    mayE e = true ∧ e.v = 3 ∧ mayLn m = true ∧ m.length ≤ l.length + 2 ∧ ∃ r, m = l ++ r ∧ sumD r = wantR e ∧ ∀ x ∈ r, x.seq = seq ∧ x.kind = e.kind := by
  unfold stmtL at h
  by_cases hf : formL l p t seq e = false
  · rw [if_pos hf] at h; injection h with h _; omega
  rw [if_neg hf] at h
  obtain ⟨g1, g2, g3, g4, g5, g6⟩ := form_of (by simpa using hf)
  by_cases h0 : (rowsL p t e).1 ≠ 0
  · rw [if_pos h0] at h; injection h with h _; exact absurd h h0
  rw [if_neg h0] at h
  have h0' : (rowsL p t e).1 = 0 := by omega
  cases ha : addsL seq e.kind l (rowsL p t e).2 with
  | none => rw [ha] at h; injection h with h _; omega
  | some m' =>
    rw [ha] at h
    injection h with _ h
    subst h
    have hs := rows_sum h0'
    have hln := adds_len ha
    have hfw := R.rows_few p t e
    refine ⟨g4, g3, ?_⟩
    by_cases hk : kindB e.kind = true
    · obtain ⟨k1, r, k2, k3, k4⟩ := addsL_ok g5 hk g1 (rows_acct g4 g3 g2) g6 ha
      exact ⟨k1, by omega, r, k2, by rw [k3, hs], k4⟩
    · have hk : kindB e.kind = false := by simpa using hk
      rw [rows_kind hk] at ha hs
      injection ha with ha
      subst ha
      exact ⟨g1, by omega, [], by simp, hs, by simp⟩
theorem sumD_app (a b : List Ln) : sumD (a ++ b) = sumD a + sumD b := by unfold sumD; rw [List.map_append, List.sum_append]
theorem delta_in {l : List Ln} (h : mayLn l = true) : ∀ x ∈ l, -1125899906842624 ≤ x.delta ∧ x.delta ≤ 1125899906842624 := fun x hx => by
  obtain ⟨i, hi⟩ := List.mem_iff_getElem?.1 hx
  have h1 := mayLn_iff.1 h i x hi
  have h2 := bal_in (mayLn_take h i) x.acct
  have h3 := h1.2.2.2.2.2
  omega
theorem sumD_in : ∀ {l : List Ln}, (∀ x ∈ l, -1125899906842624 ≤ x.delta ∧ x.delta ≤ 1125899906842624) → -1125899906842624 * (l.length : Int) ≤ sumD l ∧ sumD l ≤ 1125899906842624 * (l.length : Int)
  | [], _ => by unfold sumD; simp
  | x :: l, h => by
    have h1 := sumD_in (fun y hy => h y (List.mem_cons_of_mem _ hy))
    have h2 := h x List.mem_cons_self
    have e : sumD (x :: l) = x.delta + sumD l := by unfold sumD; rw [List.map_cons, List.sum_cons]
    rw [e, List.length_cons]
    omega
theorem sumD_take {l : List Ln} (h : ∀ x ∈ l, -1125899906842624 ≤ x.delta ∧ x.delta ≤ 1125899906842624) (k : Nat) (hk : k ≤ l.length) (hl : l.length ≤ 4096) : -4611686018427387904 ≤ sumD (l.take k) ∧ sumD (l.take k) ≤ 4611686018427387904 := by
  have h1 := sumD_in (l := l.take k) (fun x hx => h x (List.mem_of_mem_take hx))
  rw [List.length_take, Nat.min_eq_left hk] at h1
  omega
theorem ofL_mem {l : List Ln} {a : Int} {x : Ln} (h : x ∈ ofL l a) : x ∈ l := (List.mem_filter.1 h).1
theorem ofL_len (l : List Ln) (a : Int) : (ofL l a).length ≤ l.length := List.length_filter_le _ _
theorem in64_may {l : List Ln} (h : mayLn l = true) : ∀ x ∈ l, (0 ≤ x.bal ∧ x.bal ≤ 1125899906842624) ∧ (1 ≤ x.acct ∧ x.acct ≤ 64) ∧ (0 ≤ x.seq ∧ x.seq < 1048576) := fun x hx => by
  obtain ⟨i, hi⟩ := List.mem_iff_getElem?.1 hx
  have h1 := mayLn_iff.1 h i x hi
  exact ⟨h1.2.2.2.2.2.1, h1.1, h1.2.1⟩

set_option maxRecDepth 20000 in
theorem rbal_c {l : List Ln} {m : Nat} {ad : Option Addr} {cap : Nat} {w : World} (acct : Int) (hm : l.length = m) (HS : SlR encN 5 w ad cap l) : Calls Tryz.prog 25 #[.slice ad m cap, .int .i64 acct] w fun e w' => e = .returned (.int .i64 (balL l acct)) ∧ Below w.heap.size w w' := by
  subst hm
  have hw := Below.refl w.heap.size w
  have hla := HS.le
  have hma := HS.max
  refine fn_enter 25 Tryz.func25 rfl rfl rfl ?_
  repeat' (first | (refine lw_pure rfl (pv_move rfl) ?_) | (refine lw_pure rfl (pv_assign rfl) ?_) | (refine is_cw ?_; first | (refine cw_seq ?_) | (refine cw_region ?_) | (refine cw_true rfl rfl ?_) | (refine cw_false rfl rfl ?_) | (refine cw_true rfl (by first | assumption | exact decide_eq_true (by omega) | exact dec_notT (by omega)) ?_) | (refine cw_false rfl (by first | assumption | exact decide_eq_false (by omega) | exact dec_notF (by omega)) ?_) | (refine cw_skip ?_) | (refine cw_block ?_) | (refine cw_exit ?_) | (refine cw_ret ?_)) | (refine is_qw ?_; first | (with_reducible refine qw_then ?_) | (with_reducible refine qw_in ?_) | (with_reducible refine qw_in_hit ?_) | (refine qw_in_miss rfl ?_) | (with_reducible refine qw_then_exit ?_) | (with_reducible refine qw_then_ret ?_) | (with_reducible refine qw_in_ret ?_)) | (refine lw_nil ?_) | ((refine is_bin ?_; first | (refine lw_pure rfl (pv_eql rfl rfl) ?_) | (refine lw_pure rfl (pv_geq rfl rfl) ?_) | (refine lw_pure rfl (pv_sub rfl rfl (by omega)) ?_))) | ((refine is_load ?_; first | (refine lw_pure rfl (pv_load (t1 rfl) rfl (by first | fail)) ?_) | (refine lw_pure rfl (pv_loada (tA rfl) rfl (by first | fail) (by rfl)) ?_))) | ((refine is_fa ?_; first | (refine lw_pure rfl (pv_fa (tF rfl) rfl) ?_))) | ((refine is_ia ?_; first | (refine lw_pure rfl (pv_ian (tS rfl) rfl rfl (by omega)) ?_) | (refine lw_pure rfl (pv_ia (tS rfl) rfl rfl (by omega)) ?_))) | ((refine is_bi ?_; first | (refine lw_pure rfl (pv_lenl (tS rfl) rfl) ?_) | (refine lw_pure rfl (pv_lens (tStr rfl) rfl) ?_))))
  refine cw_loop (σ := Nat) (fun r => [(0, .slice ad l.length cap), (1, .int .i64 acct), (5, .int .i64 ((r : Int) - 1))]) (fun r wr => r ≤ l.length ∧ Below w.heap.size w wr ∧ ∀ x ∈ l.drop r, x.acct ≠ acct) (fun r => r) l.length (by repeat' (first | exact trivial | refine ⟨rfl, ?_⟩)) ⟨Nat.le_refl _, hw, by simp⟩ ?_
  clear hw
  rintro r wr ⟨hr, hw, hn⟩
  by_cases h1 : r = 0
  · subst h1
    repeat' (first | (refine lw_pure rfl (pv_move rfl) ?_) | (refine lw_pure rfl (pv_assign rfl) ?_) | (refine is_cw ?_; first | (refine cw_seq ?_) | (refine cw_region ?_) | (refine cw_true rfl rfl ?_) | (refine cw_false rfl rfl ?_) | (refine cw_true rfl (by first | assumption | exact decide_eq_true (by omega) | exact dec_notT (by omega)) ?_) | (refine cw_false rfl (by first | assumption | exact decide_eq_false (by omega) | exact dec_notF (by omega)) ?_) | (refine cw_skip ?_) | (refine cw_block ?_) | (refine cw_exit ?_) | (refine cw_ret ?_)) | (refine is_qw ?_; first | (with_reducible refine qw_then ?_) | (with_reducible refine qw_in ?_) | (with_reducible refine qw_in_hit ?_) | (refine qw_in_miss rfl ?_) | (with_reducible refine qw_then_exit ?_) | (with_reducible refine qw_then_ret ?_) | (with_reducible refine qw_in_ret ?_)) | (refine lw_nil ?_) | ((refine is_bin ?_; first | (refine lw_pure rfl (pv_eql rfl rfl) ?_) | (refine lw_pure rfl (pv_geq rfl rfl) ?_) | (refine lw_pure rfl (pv_sub rfl rfl (by omega)) ?_))) | ((refine is_load ?_; first | (refine lw_pure rfl (pv_load (t1 rfl) rfl (by first | fail)) ?_) | (refine lw_pure rfl (pv_loada (tA rfl) rfl (by first | fail) (by rfl)) ?_))) | ((refine is_fa ?_; first | (refine lw_pure rfl (pv_fa (tF rfl) rfl) ?_))) | ((refine is_ia ?_; first | (refine lw_pure rfl (pv_ian (tS rfl) rfl rfl (by omega)) ?_) | (refine lw_pure rfl (pv_ia (tS rfl) rfl rfl (by omega)) ?_))) | ((refine is_bi ?_; first | (refine lw_pure rfl (pv_lenl (tS rfl) rfl) ?_) | (refine lw_pure rfl (pv_lens (tStr rfl) rfl) ?_))))
    rw [List.drop_zero] at hn
    exact qw_ret1 rfl rfl ⟨by rw [R.bal_none hn], hw⟩
  · obtain ⟨q, rfl⟩ : ∃ q, r = q + 1 := ⟨r - 1, by omega⟩
    have hlt : q < l.length := by omega
    have hxk : l[q]? = some l[q] := List.getElem?_eq_getElem hlt
    have hdr := List.drop_eq_getElem_cons hlt
    have htd : l.take q ++ l.drop q = l := List.take_append_drop q l
    generalize l[q] = x at hxk hdr
    have e1 : (((q + 1 : Nat) : Int) - 1) = (q : Int) := by omega
    rw [e1]
    obtain ⟨ab, ao, rfl, -, -⟩ := HS.at (by intro h; rw [h] at hlt; simp at hlt)
    by_cases hx : x.acct = acct
    · repeat' (first | (refine lw_pure rfl (pv_move rfl) ?_) | (refine lw_pure rfl (pv_assign rfl) ?_) | (refine is_cw ?_; first | (refine cw_seq ?_) | (refine cw_region ?_) | (refine cw_true rfl rfl ?_) | (refine cw_false rfl rfl ?_) | (refine cw_true rfl (by first | assumption | exact decide_eq_true (by omega) | exact dec_notT (by omega)) ?_) | (refine cw_false rfl (by first | assumption | exact decide_eq_false (by omega) | exact dec_notF (by omega)) ?_) | (refine cw_skip ?_) | (refine cw_block ?_) | (refine cw_exit ?_) | (refine cw_ret ?_)) | (refine is_qw ?_; first | (with_reducible refine qw_then ?_) | (with_reducible refine qw_in ?_) | (with_reducible refine qw_in_hit ?_) | (refine qw_in_miss rfl ?_) | (with_reducible refine qw_then_exit ?_) | (with_reducible refine qw_then_ret ?_) | (with_reducible refine qw_in_ret ?_)) | (refine lw_nil ?_) | ((refine is_bin ?_; first | (refine lw_pure rfl (pv_eql rfl rfl) ?_) | (refine lw_pure rfl (pv_geq rfl rfl) ?_) | (refine lw_pure rfl (pv_sub rfl rfl (by omega)) ?_))) | ((refine is_load ?_; first | (refine lw_pure rfl (pv_load (t1 rfl) rfl (by first | exact SlR.ld (HS.mono hw) hxk rfl | exact SlR.ld1 (HS.mono hw) hxk rfl)) ?_) | (refine lw_pure rfl (pv_loada (tA rfl) rfl (by first | exact SlR.lda (HS.mono hw) hxk) (by rfl)) ?_))) | ((refine is_fa ?_; first | (refine lw_pure rfl (pv_fa (tF rfl) rfl) ?_))) | ((refine is_ia ?_; first | (refine lw_pure rfl (pv_ian (tS rfl) rfl rfl (by omega)) ?_) | (refine lw_pure rfl (pv_ia (tS rfl) rfl rfl (by omega)) ?_))) | ((refine is_bi ?_; first | (refine lw_pure rfl (pv_lenl (tS rfl) rfl) ?_) | (refine lw_pure rfl (pv_lens (tStr rfl) rfl) ?_))))
      refine qw_ret1 rfl rfl ⟨?_, hw⟩
      rw [← htd, hdr, R.bal_hit hn hx]
    · repeat' (first | (refine lw_pure rfl (pv_move rfl) ?_) | (refine lw_pure rfl (pv_assign rfl) ?_) | (refine is_cw ?_; first | (refine cw_seq ?_) | (refine cw_region ?_) | (refine cw_true rfl rfl ?_) | (refine cw_false rfl rfl ?_) | (refine cw_true rfl (by first | assumption | exact decide_eq_true (by omega) | exact dec_notT (by omega)) ?_) | (refine cw_false rfl (by first | assumption | exact decide_eq_false (by omega) | exact dec_notF (by omega)) ?_) | (refine cw_skip ?_) | (refine cw_block ?_) | (refine cw_exit ?_) | (refine cw_ret ?_)) | (refine is_qw ?_; first | (with_reducible refine qw_then ?_) | (with_reducible refine qw_in ?_) | (with_reducible refine qw_in_hit ?_) | (refine qw_in_miss rfl ?_) | (with_reducible refine qw_then_exit ?_) | (with_reducible refine qw_then_ret ?_) | (with_reducible refine qw_in_ret ?_)) | (refine lw_nil ?_) | ((refine is_bin ?_; first | (refine lw_pure rfl (pv_eql rfl rfl) ?_) | (refine lw_pure rfl (pv_geq rfl rfl) ?_) | (refine lw_pure rfl (pv_sub rfl rfl (by omega)) ?_))) | ((refine is_load ?_; first | (refine lw_pure rfl (pv_load (t1 rfl) rfl (by first | exact SlR.ld (HS.mono hw) hxk rfl | exact SlR.ld1 (HS.mono hw) hxk rfl)) ?_) | (refine lw_pure rfl (pv_loada (tA rfl) rfl (by first | exact SlR.lda (HS.mono hw) hxk) (by rfl)) ?_))) | ((refine is_fa ?_; first | (refine lw_pure rfl (pv_fa (tF rfl) rfl) ?_))) | ((refine is_ia ?_; first | (refine lw_pure rfl (pv_ian (tS rfl) rfl rfl (by omega)) ?_) | (refine lw_pure rfl (pv_ia (tS rfl) rfl rfl (by omega)) ?_))) | ((refine is_bi ?_; first | (refine lw_pure rfl (pv_lenl (tS rfl) rfl) ?_) | (refine lw_pure rfl (pv_lens (tStr rfl) rfl) ?_))))
      refine qw_round q (by repeat' (first | exact trivial | refine ⟨rfl, ?_⟩)) ⟨by omega, hw, ?_⟩ (by omega)
      rw [hdr]
      intro y hy
      rcases List.mem_cons.1 hy with rfl | hy
      · exact hx
      · exact hn y hy
def RdN (w : World) (v : Value) (xs : List Ln) : Prop := ∃ a c, v = .slice a xs.length c ∧ SlR encN 5 w a c xs
theorem RdN.mono {w w' : World} {v : Value} {xs : List Ln} (h : RdN w v xs) (hb : Below w.heap.size w w') : RdN w' v xs := by
  obtain ⟨a, c, h1, h2⟩ := h
  exact ⟨a, c, h1, h2.mono hb⟩
set_option maxRecDepth 20000 in
set_option maxHeartbeats 2000000 in
theorem radd_c {l : List Ln} {m : Nat} {ad : Option Addr} {cap : Nat} {w : World} (acct seq kind delta : Int) (hm : l.length = m) (hl : l.length ≤ 524290) (HS : SlR encN 5 w ad cap l) (hz : -9223372036854775808 ≤ balL l acct + delta ∧ balL l acct + delta ≤ 9223372036854775807) : Calls Tryz.prog 32 #[.slice ad m cap, .int .i64 acct, .int .i64 seq, .int .u8 kind, .int .i64 delta] w fun e w' => (match addL l seq kind acct delta with
    | some l' => ∃ v, e = .returned (.tuple #[v, .bool true]) ∧ RdN w' v l'
    | none => e = .returned (.tuple #[.slice none 0 0, .bool false])) ∧ Below w.heap.size w w' := by
  subst hm
  have hw := Below.refl w.heap.size w
  refine fn_enter 38 Tryz.func32 rfl rfl rfl ?_
  repeat' (first | (refine lw_pure rfl (pv_move rfl) ?_) | (refine lw_pure rfl (pv_assign rfl) ?_) | (refine is_cw ?_; first | (refine cw_seq ?_) | (refine cw_region ?_) | (refine cw_true rfl rfl ?_) | (refine cw_false rfl rfl ?_) | (refine cw_true rfl (by first | assumption | exact decide_eq_true (by omega) | exact dec_notT (by omega)) ?_) | (refine cw_false rfl (by first | assumption | exact decide_eq_false (by omega) | exact dec_notF (by omega)) ?_) | (refine cw_skip ?_) | (refine cw_ret ?_)) | (refine is_qw ?_; first | (with_reducible refine qw_then ?_) | (with_reducible refine qw_then_ret ?_)) | (refine lw_nil ?_) | (refine is_guarded ?_; first | (refine lw_not rfl rfl rfl rfl ?_) | (refine lw_not_u rfl rfl rfl ?_) | (refine lw_on rfl rfl rfl ?_)) | ((refine is_bin ?_; first | (refine lw_pure rfl (pv_lss rfl rfl) ?_) | (refine lw_pure rfl (pv_eql rfl rfl) ?_) | (refine lw_pure rfl (pv_gtr rfl rfl) ?_) | (refine lw_pure rfl (pv_inc rfl rfl (by omega)) ?_) | (refine lw_pure rfl (pv_add rfl rfl (by omega)) ?_))) | ((refine is_bd ?_; first | (refine lw_pure rfl (tyB_37 rfl rfl rfl) ?_))) | (refine lw_pure rfl (pv_pick_t rfl rfl rfl) ?_) | (refine lw_pure rfl (pv_pick_f rfl rfl rfl) ?_) | (refine lw_pure rfl (pv_pick_t rfl (by first | assumption | exact decide_eq_true (by omega) | exact dec_notT (by omega)) rfl) ?_) | (refine lw_pure rfl (pv_pick_f rfl (by first | assumption | exact decide_eq_false (by omega) | exact dec_notF (by omega)) rfl) ?_) | (refine lw_pure rfl (pv_pick rfl rfl rfl) ?_))
  refine lw_call (f := 25) (by kernel_rfl) rfl rfl (rbal_c acct rfl HS) ?_; rintro e w1 ⟨rfl, hb⟩; refine ⟨_, rfl, ?_⟩; replace hw := grow_trans hw hb; clear hb
  by_cases h0 : delta = 0
  · have e1 : addL l seq kind acct delta = some l := by unfold addL; rw [if_pos h0]
    rw [e1]
    repeat' (first | (refine lw_pure rfl (pv_move rfl) ?_) | (refine lw_pure rfl (pv_assign rfl) ?_) | (refine is_cw ?_; first | (refine cw_seq ?_) | (refine cw_region ?_) | (refine cw_true rfl rfl ?_) | (refine cw_false rfl rfl ?_) | (refine cw_true rfl (by first | assumption | exact decide_eq_true (by omega) | exact dec_notT (by omega)) ?_) | (refine cw_false rfl (by first | assumption | exact decide_eq_false (by omega) | exact dec_notF (by omega)) ?_) | (refine cw_skip ?_) | (refine cw_ret ?_)) | (refine is_qw ?_; first | (with_reducible refine qw_then ?_) | (with_reducible refine qw_then_ret ?_)) | (refine lw_nil ?_) | (refine is_guarded ?_; first | (refine lw_not rfl rfl rfl rfl ?_) | (refine lw_not_u rfl rfl rfl ?_) | (refine lw_on rfl rfl rfl ?_)) | ((refine is_bin ?_; first | (refine lw_pure rfl (pv_lss rfl rfl) ?_) | (refine lw_pure rfl (pv_eql rfl rfl) ?_) | (refine lw_pure rfl (pv_gtr rfl rfl) ?_) | (refine lw_pure rfl (pv_inc rfl rfl (by omega)) ?_) | (refine lw_pure rfl (pv_add rfl rfl (by omega)) ?_))) | ((refine is_bd ?_; first | (refine lw_pure rfl (tyB_37 rfl rfl rfl) ?_))) | (refine lw_pure rfl (pv_pick_t rfl rfl rfl) ?_) | (refine lw_pure rfl (pv_pick_f rfl rfl rfl) ?_) | (refine lw_pure rfl (pv_pick_t rfl (by first | assumption | exact decide_eq_true (by omega) | exact dec_notT (by omega)) rfl) ?_) | (refine lw_pure rfl (pv_pick_f rfl (by first | assumption | exact decide_eq_false (by omega) | exact dec_notF (by omega)) rfl) ?_) | (refine lw_pure rfl (pv_pick rfl rfl rfl) ?_))
    exact qw_ret2 rfl rfl rfl ⟨⟨_, rfl, ad, cap, rfl, HS.mono hw⟩, hw⟩
  · by_cases hb : 0 ≤ balL l acct + delta ∧ balL l acct + delta ≤ 1125899906842624
    · rw [show addL l seq kind acct delta = some (l ++ [⟨acct, seq, kind, delta, balL l acct + delta⟩]) from by unfold addL; rw [if_neg h0, if_pos hb]]
      repeat' (first | (refine lw_pure rfl (pv_move rfl) ?_) | (refine lw_pure rfl (pv_assign rfl) ?_) | (refine is_cw ?_; first | (refine cw_seq ?_) | (refine cw_region ?_) | (refine cw_true rfl rfl ?_) | (refine cw_false rfl rfl ?_) | (refine cw_true rfl (by first | assumption | exact decide_eq_true (by omega) | exact dec_notT (by omega)) ?_) | (refine cw_false rfl (by first | assumption | exact decide_eq_false (by omega) | exact dec_notF (by omega)) ?_) | (refine cw_skip ?_) | (refine cw_ret ?_)) | (refine is_qw ?_; first | (with_reducible refine qw_then ?_) | (with_reducible refine qw_then_ret ?_)) | (refine lw_nil ?_) | (refine is_guarded ?_; first | (refine lw_not rfl rfl rfl rfl ?_) | (refine lw_not_u rfl rfl rfl ?_) | (refine lw_on rfl rfl rfl ?_) | (refine lw_on rfl rfl (by first | assumption | exact decide_eq_true (by omega) | exact decide_eq_false (by omega) | exact dec_notT (by omega) | exact dec_notF (by omega)) ?_) | (refine lw_not rfl rfl rfl (by first | assumption | exact decide_eq_true (by omega) | exact decide_eq_false (by omega) | exact dec_notT (by omega) | exact dec_notF (by omega)) ?_) | (refine lw_gs_t rfl rfl rfl (fun hc => ?_) (fun hc => ?_) <;> (first | replace hc := of_decide_eq_true hc | replace hc := of_decide_eq_false hc | replace hc := dec_nT hc | replace hc := dec_nF hc | skip) <;> (try (exfalso; omega))) | (refine lw_gs_f rfl rfl rfl (fun hc => ?_) (fun hc => ?_) <;> (first | replace hc := of_decide_eq_true hc | replace hc := of_decide_eq_false hc | replace hc := dec_nT hc | replace hc := dec_nF hc | skip) <;> (try (exfalso; omega)))) | ((refine is_bin ?_; first | (refine lw_pure rfl (pv_lss rfl rfl) ?_) | (refine lw_pure rfl (pv_eql rfl rfl) ?_) | (refine lw_pure rfl (pv_gtr rfl rfl) ?_) | (refine lw_pure rfl (pv_inc rfl rfl (by omega)) ?_) | (refine lw_pure rfl (pv_add rfl rfl (by omega)) ?_))) | ((refine is_bd ?_; first | (refine lw_pure rfl (tyB_37 rfl rfl rfl) ?_))) | (refine lw_pure rfl (pv_pick_t rfl rfl rfl) ?_) | (refine lw_pure rfl (pv_pick_f rfl rfl rfl) ?_) | (refine lw_pure rfl (pv_pick_t rfl (by first | assumption | exact decide_eq_true (by omega) | exact dec_notT (by omega)) rfl) ?_) | (refine lw_pure rfl (pv_pick_f rfl (by first | assumption | exact decide_eq_false (by omega) | exact dec_notF (by omega)) rfl) ?_) | (refine lw_pure rfl (pv_pick rfl rfl rfl) ?_) | (refine is_cw ?_; refine cw_split rfl (fun hc => ?_) (fun hc => ?_) <;> (first | replace hc := of_decide_eq_true hc | replace hc := of_decide_eq_false hc | replace hc := dec_nT hc | replace hc := dec_nF hc | skip) <;> (try (exfalso; omega))))
      replace HS := HS.mono hw
      have hw0 := hw
      clear hw
      have hw := Below.refl w1.heap.size w1
      refine lw_bs0 (enc := encN) elemLn rfl ?_; intro w2 hO hb2 hz2
      repeat' (first | (refine lw_pure rfl (pv_move rfl) ?_) | (refine lw_pure rfl (pv_assign rfl) ?_) | (refine is_cw ?_; first | (refine cw_seq ?_) | (refine cw_region ?_) | (refine cw_true rfl rfl ?_) | (refine cw_false rfl rfl ?_) | (refine cw_true rfl (by first | assumption | exact decide_eq_true (by omega) | exact dec_notT (by omega)) ?_) | (refine cw_false rfl (by first | assumption | exact decide_eq_false (by omega) | exact dec_notF (by omega)) ?_) | (refine cw_skip ?_) | (refine cw_ret ?_)) | (refine is_qw ?_; first | (with_reducible refine qw_then ?_) | (with_reducible refine qw_then_ret ?_)) | (refine lw_nil ?_) | (refine is_guarded ?_; first | (refine lw_not rfl rfl rfl rfl ?_) | (refine lw_not_u rfl rfl rfl ?_) | (refine lw_on rfl rfl rfl ?_)) | ((refine is_bin ?_; first | (refine lw_pure rfl (pv_lss rfl rfl) ?_) | (refine lw_pure rfl (pv_eql rfl rfl) ?_) | (refine lw_pure rfl (pv_gtr rfl rfl) ?_) | (refine lw_pure rfl (pv_inc rfl rfl (by omega)) ?_) | (refine lw_pure rfl (pv_add rfl rfl (by omega)) ?_))) | ((refine is_bd ?_; first | (refine lw_pure rfl (tyB_37 rfl rfl rfl) ?_))) | (refine lw_pure rfl (pv_pick_t rfl rfl rfl) ?_) | (refine lw_pure rfl (pv_pick_f rfl rfl rfl) ?_) | (refine lw_pure rfl (pv_pick_t rfl (by first | assumption | exact decide_eq_true (by omega) | exact dec_notT (by omega)) rfl) ?_) | (refine lw_pure rfl (pv_pick_f rfl (by first | assumption | exact decide_eq_false (by omega) | exact dec_notF (by omega)) rfl) ?_) | (refine lw_pure rfl (pv_pick rfl rfl rfl) ?_))
      refine lw_app elemLn encN_len encN_one rfl rfl rfl hO (HS.mono hb2) rfl (by omega) (by simp; omega) (by simp [maxLen]; omega) ?_; intro v3 w3 hO3 hg3 hb3
      have hs2 := hb2.size
      have hs3 := hb3.size
      have hb13 := hb2.trans hb3
      repeat' (first | (refine lw_pure rfl (pv_move rfl) ?_) | (refine lw_pure rfl (pv_assign rfl) ?_) | (refine is_cw ?_; first | (refine cw_seq ?_) | (refine cw_region ?_) | (refine cw_true rfl rfl ?_) | (refine cw_false rfl rfl ?_) | (refine cw_true rfl (by first | assumption | exact decide_eq_true (by omega) | exact dec_notT (by omega)) ?_) | (refine cw_false rfl (by first | assumption | exact decide_eq_false (by omega) | exact dec_notF (by omega)) ?_) | (refine cw_skip ?_) | (refine cw_ret ?_)) | (refine is_qw ?_; first | (with_reducible refine qw_then ?_) | (with_reducible refine qw_then_ret ?_)) | (refine lw_nil ?_) | (refine is_guarded ?_; first | (refine lw_not rfl rfl rfl rfl ?_) | (refine lw_not_u rfl rfl rfl ?_) | (refine lw_on rfl rfl rfl ?_)) | ((refine is_bin ?_; first | (refine lw_pure rfl (pv_lss rfl rfl) ?_) | (refine lw_pure rfl (pv_eql rfl rfl) ?_) | (refine lw_pure rfl (pv_gtr rfl rfl) ?_) | (refine lw_pure rfl (pv_inc rfl rfl (by omega)) ?_) | (refine lw_pure rfl (pv_add rfl rfl (by omega)) ?_))) | ((refine is_bd ?_; first | (refine lw_pure rfl (tyB_37 rfl rfl rfl) ?_))) | (refine lw_pure rfl (pv_pick_t rfl rfl rfl) ?_) | (refine lw_pure rfl (pv_pick_f rfl rfl rfl) ?_) | (refine lw_pure rfl (pv_pick_t rfl (by first | assumption | exact decide_eq_true (by omega) | exact dec_notT (by omega)) rfl) ?_) | (refine lw_pure rfl (pv_pick_f rfl (by first | assumption | exact decide_eq_false (by omega) | exact dec_notF (by omega)) rfl) ?_) | (refine lw_pure rfl (pv_pick rfl rfl rfl) ?_))
      refine lw_bs1 elemLn rfl rfl (cs := encN ⟨acct, seq, kind, delta, balL l acct + delta⟩) rfl rfl (by omega) ?_; intro w4 HB hb4 hz4
      have hs4 := hb4.size
      repeat' (first | (refine lw_pure rfl (pv_move rfl) ?_) | (refine lw_pure rfl (pv_assign rfl) ?_) | (refine is_cw ?_; first | (refine cw_seq ?_) | (refine cw_region ?_) | (refine cw_true rfl rfl ?_) | (refine cw_false rfl rfl ?_) | (refine cw_true rfl (by first | assumption | exact decide_eq_true (by omega) | exact dec_notT (by omega)) ?_) | (refine cw_false rfl (by first | assumption | exact decide_eq_false (by omega) | exact dec_notF (by omega)) ?_) | (refine cw_skip ?_) | (refine cw_ret ?_)) | (refine is_qw ?_; first | (with_reducible refine qw_then ?_) | (with_reducible refine qw_then_ret ?_)) | (refine lw_nil ?_) | (refine is_guarded ?_; first | (refine lw_not rfl rfl rfl rfl ?_) | (refine lw_not_u rfl rfl rfl ?_) | (refine lw_on rfl rfl rfl ?_)) | ((refine is_bin ?_; first | (refine lw_pure rfl (pv_lss rfl rfl) ?_) | (refine lw_pure rfl (pv_eql rfl rfl) ?_) | (refine lw_pure rfl (pv_gtr rfl rfl) ?_) | (refine lw_pure rfl (pv_inc rfl rfl (by omega)) ?_) | (refine lw_pure rfl (pv_add rfl rfl (by omega)) ?_))) | ((refine is_bd ?_; first | (refine lw_pure rfl (tyB_37 rfl rfl rfl) ?_))) | (refine lw_pure rfl (pv_pick_t rfl rfl rfl) ?_) | (refine lw_pure rfl (pv_pick_f rfl rfl rfl) ?_) | (refine lw_pure rfl (pv_pick_t rfl (by first | assumption | exact decide_eq_true (by omega) | exact dec_notT (by omega)) rfl) ?_) | (refine lw_pure rfl (pv_pick_f rfl (by first | assumption | exact decide_eq_false (by omega) | exact dec_notF (by omega)) rfl) ?_) | (refine lw_pure rfl (pv_pick rfl rfl rfl) ?_))
      refine lw_app elemLn encN_len encN_one rfl rfl rfl (hO3.mono hb4) (HB.slR (xs := [⟨acct, seq, kind, delta, balL l acct + delta⟩]) encN_len rfl (by simp)) rfl (by omega) (by simp; omega) (by simp [maxLen]; omega) ?_; intro v5 w5 hO5 hg5 hb5
      repeat' (first | (refine lw_pure rfl (pv_move rfl) ?_) | (refine lw_pure rfl (pv_assign rfl) ?_) | (refine is_cw ?_; first | (refine cw_seq ?_) | (refine cw_region ?_) | (refine cw_true rfl rfl ?_) | (refine cw_false rfl rfl ?_) | (refine cw_true rfl (by first | assumption | exact decide_eq_true (by omega) | exact dec_notT (by omega)) ?_) | (refine cw_false rfl (by first | assumption | exact decide_eq_false (by omega) | exact dec_notF (by omega)) ?_) | (refine cw_skip ?_) | (refine cw_ret ?_)) | (refine is_qw ?_; first | (with_reducible refine qw_then ?_) | (with_reducible refine qw_then_ret ?_)) | (refine lw_nil ?_) | (refine is_guarded ?_; first | (refine lw_not rfl rfl rfl rfl ?_) | (refine lw_not_u rfl rfl rfl ?_) | (refine lw_on rfl rfl rfl ?_)) | ((refine is_bin ?_; first | (refine lw_pure rfl (pv_lss rfl rfl) ?_) | (refine lw_pure rfl (pv_eql rfl rfl) ?_) | (refine lw_pure rfl (pv_gtr rfl rfl) ?_) | (refine lw_pure rfl (pv_inc rfl rfl (by omega)) ?_) | (refine lw_pure rfl (pv_add rfl rfl (by omega)) ?_))) | ((refine is_bd ?_; first | (refine lw_pure rfl (tyB_37 rfl rfl rfl) ?_))) | (refine lw_pure rfl (pv_pick_t rfl rfl rfl) ?_) | (refine lw_pure rfl (pv_pick_f rfl rfl rfl) ?_) | (refine lw_pure rfl (pv_pick_t rfl (by first | assumption | exact decide_eq_true (by omega) | exact dec_notT (by omega)) rfl) ?_) | (refine lw_pure rfl (pv_pick_f rfl (by first | assumption | exact decide_eq_false (by omega) | exact dec_notF (by omega)) rfl) ?_) | (refine lw_pure rfl (pv_pick rfl rfl rfl) ?_))
      obtain ⟨a5, c5, rfl, HS5, -⟩ := Own.slR encN_len hO5
      exact qw_ret2 rfl rfl rfl ⟨⟨_, rfl, a5, c5, rfl, HS5⟩, hw0.trans ((((hb2.trans hb3).trans (hb4.mono (by omega))).trans hb5).mono hw0.size)⟩
    · rw [show addL l seq kind acct delta = none from by unfold addL; rw [if_neg h0, if_neg hb]]
      repeat' (first | (refine lw_pure rfl (pv_move rfl) ?_) | (refine lw_pure rfl (pv_assign rfl) ?_) | (refine is_cw ?_; first | (refine cw_seq ?_) | (refine cw_region ?_) | (refine cw_true rfl rfl ?_) | (refine cw_false rfl rfl ?_) | (refine cw_true rfl (by first | assumption | exact decide_eq_true (by omega) | exact dec_notT (by omega)) ?_) | (refine cw_false rfl (by first | assumption | exact decide_eq_false (by omega) | exact dec_notF (by omega)) ?_) | (refine cw_skip ?_) | (refine cw_ret ?_)) | (refine is_qw ?_; first | (with_reducible refine qw_then ?_) | (with_reducible refine qw_then_ret ?_)) | (refine lw_nil ?_) | (refine is_guarded ?_; first | (refine lw_not rfl rfl rfl rfl ?_) | (refine lw_not_u rfl rfl rfl ?_) | (refine lw_on rfl rfl rfl ?_) | (refine lw_on rfl rfl (by first | assumption | exact decide_eq_true (by omega) | exact decide_eq_false (by omega) | exact dec_notT (by omega) | exact dec_notF (by omega)) ?_) | (refine lw_not rfl rfl rfl (by first | assumption | exact decide_eq_true (by omega) | exact decide_eq_false (by omega) | exact dec_notT (by omega) | exact dec_notF (by omega)) ?_) | (refine lw_gs_t rfl rfl rfl (fun hc => ?_) (fun hc => ?_) <;> (first | replace hc := of_decide_eq_true hc | replace hc := of_decide_eq_false hc | replace hc := dec_nT hc | replace hc := dec_nF hc | skip) <;> (try (exfalso; omega))) | (refine lw_gs_f rfl rfl rfl (fun hc => ?_) (fun hc => ?_) <;> (first | replace hc := of_decide_eq_true hc | replace hc := of_decide_eq_false hc | replace hc := dec_nT hc | replace hc := dec_nF hc | skip) <;> (try (exfalso; omega)))) | ((refine is_bin ?_; first | (refine lw_pure rfl (pv_lss rfl rfl) ?_) | (refine lw_pure rfl (pv_eql rfl rfl) ?_) | (refine lw_pure rfl (pv_gtr rfl rfl) ?_) | (refine lw_pure rfl (pv_inc rfl rfl (by omega)) ?_) | (refine lw_pure rfl (pv_add rfl rfl (by omega)) ?_))) | ((refine is_bd ?_; first | (refine lw_pure rfl (tyB_37 rfl rfl rfl) ?_))) | (refine lw_pure rfl (pv_pick_t rfl rfl rfl) ?_) | (refine lw_pure rfl (pv_pick_f rfl rfl rfl) ?_) | (refine lw_pure rfl (pv_pick_t rfl (by first | assumption | exact decide_eq_true (by omega) | exact dec_notT (by omega)) rfl) ?_) | (refine lw_pure rfl (pv_pick_f rfl (by first | assumption | exact decide_eq_false (by omega) | exact dec_notF (by omega)) rfl) ?_) | (refine lw_pure rfl (pv_pick rfl rfl rfl) ?_) | (refine is_cw ?_; refine cw_split rfl (fun hc => ?_) (fun hc => ?_) <;> (first | replace hc := of_decide_eq_true hc | replace hc := of_decide_eq_false hc | replace hc := dec_nT hc | replace hc := dec_nF hc | skip) <;> (try (exfalso; omega))))
      all_goals exact qw_ret2 rfl rfl rfl ⟨rfl, hw⟩

theorem pv_rem8 {P : Program} {n : Nat} {l : Fr} {w : World} {d : Option Nat} {t t' ty : TypeId} {x y : Operand} {pos : String} {af : Array Edge} {g : Option (Nat × Bool)} {a b : Int} (hx : ev l x = some (.int .u8 a)) (hy : ev l y = some (.int .u8 b)) (hb : b ≠ 0) : Pv P n l ⟨d, .binOp .rem t x y t', ty, pos, af, g⟩ (.int .u8 (a.tmod b)) w := ⟨fun A hA => by
  simp [execOp, hA.ev hx, hA.ev hy, eqGuard, binOp, Op.intDiv, hb]⟩
theorem rem5 {a : Int} (h : 0 ≤ a ∧ a ≤ 255) : 0 ≤ a.tmod 5 ∧ a.tmod 5 ≤ 4 := by
  rw [Int.tmod_eq_emod_of_nonneg h.1]; omega
theorem at_ofw {e : Evt} {ns : List Int} (h : e.nums = ns) {i : Nat} {n : Int} (hx : ns[i]? = some n) : e.nums[i]? = some n := by rw [h]; exact hx
def RdP (w : World) (v : Value) (p : List Opn) : Prop := ∃ a c, v = .slice a p.length c ∧ SlR encP 6 w a c p
def RdT (w : World) (v : Value) (p : List Lt) : Prop := ∃ a c, v = .slice a p.length c ∧ SlR encL 4 w a c p
theorem in64_of {l : List Ln} (h : mayLn l = true) : In64N l := fun x hx => by
  have h1 := in64_may h x hx
  have h2 := delta_in h x hx
  omega
structure RunI (w wr : World) (k : Nat) (v5 v6 v7 : Value) (all : List Ln) (p : List Opn) (t : List Lt) : Prop where
  b : Below w.heap.size w wr
  r5 : RdN wr v5 all
  r6 : RdP wr v6 p
  r7 : RdT wr v7 t
  may : mayLn all = true
  len : all.length ≤ 2 * k
theorem wantR_in {e : Evt} (hE : mayE e = true) (hv : e.v = 3) : -1125899906842624 ≤ wantR e ∧ wantR e ≤ 1125899906842624 := by
  unfold wantR nthI
  by_cases k6 : e.kind = 6
  · obtain ⟨n0, n1, hn, h0, h1⟩ := lnums6 hE hv (Or.inl k6); rw [if_pos k6, hn]; simp; omega
  rw [if_neg k6]
  by_cases k7 : e.kind = 7
  · obtain ⟨n0, n1, hn, h0, h1⟩ := lnums6 hE hv (Or.inr k7); rw [if_pos k7, hn]; simp; omega
  rw [if_neg k7]
  by_cases k13 : e.kind = 13
  · obtain ⟨n0, n1, n2, n3, n4, hn, h2, h3, h4⟩ := lnums13 hE hv k13; rw [if_pos k13, hn]; simp; omega
  rw [if_neg k13]
  by_cases k18 : e.kind = 18
  · obtain ⟨n0, n1, n2, n3, hn, h1, h2, h3⟩ := lnums18 hE hv k18; rw [if_pos k18, hn]; simp; omega
  rw [if_neg k18]; omega
set_option maxRecDepth 20000 in
set_option maxHeartbeats 8000000 in
theorem runsL_c {xs : List EvC} {es : List Evt} {o cc : Nat} {c : Option Addr} {step : Int} {w : World} (h8 : 0 ≤ step ∧ step ≤ 255) (ho : xs.length = o) (HV : SlR encV 4 w c cc xs) (HE : EvsR w xs es) (hK : KnW w) :
    Calls Tryz.prog 4 #[.slice c o cc, .int .u8 step] w fun e w' => e = .returned (.bool true) ∧ Below w.heap.size w w' := by
  subst ho
  have hcc := HV.le
  have hcm := HV.max
  have hr5 := rem5 h8
  have hw := Below.refl w.heap.size w
  refine fn_enter 189 Tryz.func4 rfl rfl rfl ?_
  repeat' (first | (refine lw_pure rfl (pv_assign rfl) ?_) | (refine is_cw ?_; first | (refine cw_seq ?_) | (refine cw_region ?_)) | (refine is_qw ?_; first | (with_reducible refine qw_then ?_)) | (refine lw_nil ?_))
  refine lw_call (f := 6) (by kernel_rfl) rfl rfl (worksL_c (hK.mono hw)) ?_; rintro e1 w1 ⟨rfl, hb⟩; refine ⟨_, rfl, ?_⟩; replace hw := grow_trans hw hb; clear hb
  repeat' (first | (refine lw_pure rfl (pv_move rfl) ?_) | (refine is_guarded ?_; first | (refine lw_on rfl rfl rfl ?_)) | ((refine is_un ?_; first | (refine lw_pure rfl (pv_not rfl) ?_))))
  refine lw_call (f := 5) (by kernel_rfl) rfl rfl (heavyL_c (by omega) (by omega) (by omega) rfl (HV.mono hw)) ?_; rintro e1 w3 ⟨⟨r, rfl, hr⟩, hb⟩; refine ⟨_, rfl, ?_⟩; replace hw := grow_trans hw hb; clear hb
  cases r with
  | true =>
    repeat' (first | (refine is_cw ?_; first | (refine cw_seq ?_) | (refine cw_region ?_) | (refine cw_true rfl rfl ?_)) | (refine is_qw ?_; first | (with_reducible refine qw_then ?_)) | (refine lw_nil ?_) | (refine lw_pure rfl (pv_pick_f rfl rfl rfl) ?_))
    refine lw_call (f := 6) (by kernel_rfl) rfl rfl (worksL_c (hK.mono hw)) ?_; rintro e1 w4 ⟨rfl, hb⟩; refine ⟨_, rfl, ?_⟩
    repeat' (first | (refine lw_pure rfl (pv_assign rfl) ?_) | (refine is_cw ?_; first | (refine cw_ret ?_)) | (refine is_qw ?_; first | (with_reducible refine qw_then ?_) | (with_reducible refine qw_then_ret ?_)) | (refine lw_nil ?_))
    exact qw_ret1 rfl rfl ⟨rfl, grow_trans hw hb⟩
  | false =>
    obtain ⟨-, -, -, hx400, -⟩ := hr rfl
    clear hr
    repeat' (first | (refine lw_pure rfl (pv_assign rfl) ?_) | (refine is_cw ?_; first | (refine cw_seq ?_) | (refine cw_region ?_) | (refine cw_false rfl rfl ?_) | (refine cw_skip ?_) | (refine cw_block ?_)) | (refine is_qw ?_; first | (with_reducible refine qw_then ?_)) | (refine lw_nil ?_) | (refine lw_pure rfl (pv_pick_f rfl rfl rfl) ?_))
    refine cw_loop (σ := Nat × Value × Value × Value) (fun s => [(0, .slice c xs.length cc), (1, .int .u8 step), (5, s.2.1), (6, s.2.2.1), (7, s.2.2.2), (8, .int .i64 (s.1 : Nat))]) (fun s wr => s.1 ≤ xs.length ∧ ∃ all p t, RunI w wr s.1 s.2.1 s.2.2.1 s.2.2.2 all p t) (fun s => xs.length - s.1) (0, .slice none 0 0, .slice none 0 0, .slice none 0 0) (by repeat' (first | exact trivial | refine ⟨rfl, ?_⟩)) ⟨Nat.zero_le _, [], [], [], hw, ⟨_, _, rfl, SlR.nil _⟩, ⟨_, _, rfl, SlR.nil _⟩, ⟨_, _, rfl, SlR.nil _⟩, rfl, by simp⟩ ?_
    clear hw
    rintro ⟨k, v5, v6, v7⟩ wr ⟨hk, all, p, t, hB0, ⟨a5, c5, h5, H5⟩, ⟨a6, c6, h6, H6⟩, ⟨a7, c7, h7, H7⟩, hma, hla⟩
    dsimp only at hk h5 h6 h7 hla
    subst h5 h6 h7
    change CW _ _ _ _ [(0, .slice c xs.length cc), (1, .int .u8 step), (5, .slice a5 all.length c5), (6, .slice a6 p.length c6), (7, .slice a7 t.length c7), (8, .int .i64 (k : Nat))] wr
    have hxe := HE.1
    have hw := Below.refl wr.heap.size wr
    by_cases hlt : k < xs.length
    · have hxk : xs[k]? = some xs[k] := List.getElem?_eq_getElem hlt
      have hek : es[k]? = some (es[k]'(by omega)) := List.getElem?_eq_getElem _
      obtain ⟨ab, ao, rfl, -, -⟩ := HV.at (by intro h; rw [h] at hlt; simp at hlt)
      generalize xs[k] = x at hxk
      generalize es[k]'(by omega) = e at hek
      have hR := (HE.2 k x e hxk hek).mono hB0
      obtain ⟨xv, xk, xan, xmn, xcn, xax, xmx, xcx⟩ := x
      obtain ⟨r1, r2, r3, r4, r5, r6, r7, r8⟩ := hR
      simp only at r1 r2 r3 r4 r5 r6
      subst r1 r2 r3 r4
      have hK1 := hK.mono hB0
      have HV1 := HV.mono hB0
      obtain ⟨sq, hsq⟩ : ∃ sq : Int, ((k : Nat) : Int).tdiv (1 + step.tmod 5) = sq := ⟨_, rfl⟩
      repeat' ((fail_if_success (refine is_seqr 10 ?_)); first | (refine lw_pure rfl (pv_move rfl) ?_) | (refine lw_pure rfl (pv_assign rfl) ?_) | (refine lw_pure rfl (pv_rem8 rfl rfl (by omega)) ?_) | (refine lw_pure rfl (pv_add8 rfl rfl (by omega)) ?_) | (refine lw_pure rfl (pv_quo rfl rfl (by omega) (by omega)) ?_) | (refine is_cw ?_; first | (refine cw_seq ?_) | (refine cw_region ?_) | (refine cw_true rfl (by first | assumption | exact decide_eq_true (by omega) | exact dec_notT (by omega)) ?_) | (refine cw_skip ?_) | (refine cw_block ?_)) | (refine is_qw ?_; first | (with_reducible refine qw_then ?_)) | (refine lw_nil ?_) | ((refine is_bin ?_; first | (refine lw_pure rfl (pv_lss rfl rfl) ?_))) | ((refine is_bi ?_; first | (refine lw_pure rfl (pv_lenl (tS rfl) rfl) ?_))) | (refine lw_pure rfl (pv_conv (tCv rfl rfl) rfl (by omega)) ?_))
      rw [hsq]
      obtain ⟨Rs, hR⟩ : ∃ Rs, stmtL all p t sq e = Rs := ⟨_, rfl⟩
      repeat' (first | (refine lw_pure rfl (pv_move rfl) ?_) | (refine is_cw ?_; first | (refine cw_seq ?_) | (refine cw_region ?_)) | ((refine is_load ?_; first | (refine lw_pure rfl (pv_loada (tA rfl) rfl (by first | exact SlR.lda (HV1.mono hw) hxk) (by rfl)) ?_))) | ((refine is_ia ?_; first | (refine lw_pure rfl (pv_ian (tS rfl) rfl rfl (by omega)) ?_))))
      refine lw_call (f := 9) (by kernel_rfl) rfl rfl (R.stmt_c r7 rfl rfl rfl rfl rfl (H5.mono hw) (in64_of hma) (by omega) (H6.mono hw) (H7.mono hw) (r5.mono hw) (r6.mono hw) r8 (hK1.mono hw)) ?_; rintro e1 w6 ⟨⟨vo, rfl, HO⟩, hb⟩; refine ⟨_, rfl, ?_⟩
      rw [hR] at HO ⊢
      replace hw := grow_trans hw hb
      clear hb
      obtain ⟨am, cm, rfl, HM, -⟩ := Own.slR encN_len HO
      clear HO
      obtain ⟨R2, hR2⟩ : ∃ R2, eventR p t e = R2 := ⟨_, rfl⟩
      repeat' (first | (refine lw_pure rfl (pv_move rfl) ?_) | (refine lw_pure rfl (pv_assign rfl) ?_) | (refine is_cw ?_; first | (refine cw_seq ?_) | (refine cw_region ?_)) | (refine is_qw ?_; first | (with_reducible refine qw_then ?_)) | (refine lw_nil ?_) | ((refine is_load ?_; first | (refine lw_pure rfl (pv_loada (tA rfl) rfl (by first | exact SlR.lda (HV1.mono hw) hxk) (by rfl)) ?_))) | ((refine is_ia ?_; first | (refine lw_pure rfl (pv_ian (tS rfl) rfl rfl (by omega)) ?_))) | (refine lw_pure rfl (pv_extract rfl rfl) ?_))
      refine lw_call (f := 12) (by kernel_rfl) rfl rfl (ev_c r7 rfl rfl rfl rfl (H6.mono hw) (H7.mono hw) (r5.mono hw) (r6.mono hw) r8 (hK1.mono hw)) ?_; rintro e1 w7 ⟨⟨vo2, vt2, rfl, hO2, hT2⟩, hb⟩; refine ⟨_, rfl, ?_⟩
      rw [hR2] at hO2 hT2 ⊢
      replace hw := grow_trans hw hb
      replace HM := HM.mono hb
      clear hb
      obtain ⟨a8, c8, rfl, HP2, -⟩ := Own.slR encP_len hO2
      obtain ⟨a9, c9, rfl, HT2, -⟩ := Own.slR encL_len hT2
      clear hO2 hT2
      have hskip : ∀ wz, Below wr.heap.size wr wz → RunI w wz (k + 1) (.slice a5 all.length c5) (.slice a6 p.length c6) (.slice a7 t.length c7) all p t := fun wz hz => ⟨grow_trans hB0 hz, ⟨_, _, rfl, H5.mono hz⟩, ⟨_, _, rfl, H6.mono hz⟩, ⟨_, _, rfl, H7.mono hz⟩, hma, by omega⟩
      by_cases q1 : Rs.1 = 0
      case neg =>
        repeat' (first | (refine lw_pure rfl (pv_move rfl) ?_) | (refine lw_pure rfl (pv_assign rfl) ?_) | (refine is_cw ?_; first | (refine cw_seq ?_) | (refine cw_region ?_) | (refine cw_true rfl rfl ?_) | (refine cw_exit ?_)) | (refine is_qw ?_; first | (with_reducible refine qw_then ?_) | (with_reducible refine qw_in_hit ?_) | (with_reducible refine qw_then_exit ?_)) | (refine lw_nil ?_) | (refine is_guarded ?_; first | (refine lw_not rfl rfl rfl (by first | assumption | exact decide_eq_true (by omega) | exact decide_eq_false (by omega) | exact dec_notT (by omega) | exact dec_notF (by omega)) ?_)) | ((refine is_bin ?_; first | (refine lw_pure rfl (pv_neq rfl rfl) ?_) | (refine lw_pure rfl (pv_inc rfl rfl (by omega)) ?_))) | (refine lw_pure rfl (pv_pick_t rfl (by first | assumption | exact decide_eq_true (by omega) | exact dec_notT (by omega)) rfl) ?_) | (refine lw_pure rfl (pv_extract rfl rfl) ?_))
        exact qw_round (k + 1, .slice a5 all.length c5, .slice a6 p.length c6, .slice a7 t.length c7) (by repeat' (first | exact trivial | refine ⟨rfl, ?_⟩)) ⟨by show k + 1 ≤ _; omega, _, _, _, hskip _ hw⟩ (by show xs.length - (k + 1) < xs.length - k; omega)
      by_cases q2 : R2.2.2 = 0
      case neg =>
        repeat' (first | (refine lw_pure rfl (pv_move rfl) ?_) | (refine lw_pure rfl (pv_assign rfl) ?_) | (refine is_cw ?_; first | (refine cw_seq ?_) | (refine cw_region ?_) | (refine cw_true rfl (by first | assumption | exact decide_eq_true (by omega) | exact dec_notT (by omega)) ?_) | (refine cw_exit ?_)) | (refine is_qw ?_; first | (with_reducible refine qw_then ?_) | (with_reducible refine qw_in_hit ?_) | (with_reducible refine qw_then_exit ?_)) | (refine lw_nil ?_) | (refine is_guarded ?_; first | (refine lw_on rfl rfl (by first | assumption | exact decide_eq_true (by omega) | exact decide_eq_false (by omega) | exact dec_notT (by omega) | exact dec_notF (by omega)) ?_)) | ((refine is_bin ?_; first | (refine lw_pure rfl (pv_neq rfl rfl) ?_) | (refine lw_pure rfl (pv_inc rfl rfl (by omega)) ?_))) | (refine lw_pure rfl (pv_pick_f rfl (by first | assumption | exact decide_eq_false (by omega) | exact dec_notF (by omega)) rfl) ?_) | (refine lw_pure rfl (pv_extract rfl rfl) ?_))
        exact qw_round (k + 1, .slice a5 all.length c5, .slice a6 p.length c6, .slice a7 t.length c7) (by repeat' (first | exact trivial | refine ⟨rfl, ?_⟩)) ⟨by show k + 1 ≤ _; omega, _, _, _, hskip _ hw⟩ (by show xs.length - (k + 1) < xs.length - k; omega)
      clear hskip
      obtain ⟨rc, m⟩ := Rs
      dsimp only at q1
      subst q1
      obtain ⟨y1, y2, hmm, hml, r, hmr, hsum, hrx⟩ := stmt_yes hR
      dsimp only at HM ⊢
      have hmlen : m.length = all.length + r.length := by rw [hmr, List.length_append]
      have hml1 := HM.le
      have hml2 := HM.max
      have htk : m.take all.length = all := by rw [hmr, List.take_left]
      have htl : (m.take all.length).length = all.length := by rw [htk]
      replace hB0 := grow_trans hB0 hw
      replace H5 := H5.mono hw
      replace HV1 := HV1.mono hw
      replace r5 := r5.mono hw
      clear hw H6 H7 hK1
      have hw := Below.refl w7.heap.size w7
      have HM2 : SlR encN 5 w7 am cm all := by
        have := HM.head all.length cm (by omega) (by omega)
        rwa [htk] at this
      repeat' (first | (refine lw_pure rfl (pv_move rfl) ?_) | (refine lw_pure rfl (pv_assign rfl) ?_) | (refine lw_call (f := 11) (by kernel_rfl) rfl rfl (rsameN_t rfl rfl (HM2.mono hw) (H5.mono hw)) ?_; rintro e w1 ⟨rfl, hb⟩; refine ⟨_, rfl, ?_⟩; replace hw := grow_trans hw hb; clear hb) | (refine lw_call (f := 7) (by kernel_rfl) rfl rfl (R.mayLn_e hmm rfl (HM.mono hw) (in64_of hmm)) ?_; rintro e w1 ⟨rfl, hb⟩; refine ⟨_, rfl, ?_⟩; replace hw := grow_trans hw hb; clear hb) | (refine is_cw ?_; first | (refine cw_seq ?_) | (refine cw_region ?_) | (refine cw_false rfl rfl ?_) | (refine cw_false rfl (by first | assumption | exact decide_eq_false (by omega) | exact dec_notF (by omega)) ?_) | (refine cw_skip ?_) | (refine cw_block ?_)) | (refine is_qw ?_; first | (with_reducible refine qw_then ?_)) | (refine lw_nil ?_) | (refine is_guarded ?_; first | (refine lw_on rfl rfl rfl ?_) | (refine lw_on rfl rfl (by first | assumption | exact decide_eq_true (by omega) | exact decide_eq_false (by omega) | exact dec_notT (by omega) | exact dec_notF (by omega)) ?_)) | ((refine is_bin ?_; first | (refine lw_pure rfl (pv_lss rfl rfl) ?_) | (refine lw_pure rfl (pv_neq rfl rfl) ?_))) | ((refine is_un ?_; first | (refine lw_pure rfl (pv_not rfl) ?_))) | ((refine is_bi ?_; first | (refine lw_pure rfl (pv_lenl (tS rfl) rfl) ?_))) | (refine lw_pure rfl (pv_pick_f rfl rfl rfl) ?_) | (refine lw_pure rfl (pv_pick_f rfl (by first | assumption | exact decide_eq_false (by omega) | exact dec_notF (by omega)) rfl) ?_) | (refine lw_pure rfl (pv_extract rfl rfl) ?_) | (refine lw_pure rfl (pv_slice_h (tS rfl) rfl rfl (by omega)) ?_))
      have hrb : ∀ x ∈ r, -1125899906842624 ≤ x.delta ∧ x.delta ≤ 1125899906842624 := fun x hx => delta_in hmm x (by rw [hmr]; exact List.mem_append_right _ hx)
      have hr2 : r.length ≤ 2 := by omega
      refine cw_loop (σ := Nat) (fun j => [(0, .slice (some ⟨ab, ao, none⟩) xs.length cc), (1, .int .u8 step), (5, .slice a5 all.length c5), (8, .int .i64 (k : Nat)), (9, .int .i64 sq), (10, .slice am m.length cm), (12, .slice a8 R2.1.length c8), (13, .slice a9 R2.2.1.length c9), (15, .int .i64 (sumD (r.take j))), (16, .int .i64 ((all.length + j : Nat) : Int))]) (fun j wz => j ≤ r.length ∧ Below w7.heap.size w7 wz) (fun j => r.length - j) 0 (by repeat' (first | exact trivial | refine ⟨rfl, ?_⟩)) ⟨Nat.zero_le _, hw⟩ ?_
      clear hw
      rintro j wz ⟨hj, hw⟩
      by_cases hlt2 : j < r.length
      · have hrj : r[j]? = some r[j] := List.getElem?_eq_getElem hlt2
        generalize r[j] = z at hrj
        have hmj : m[all.length + j]? = some z := by
          rw [hmr, List.getElem?_append_right (by omega), Nat.add_sub_cancel_left]; exact hrj
        obtain ⟨z1, z2⟩ := hrx z (List.mem_of_getElem? hrj)
        have hs1 := sumD_take hrb j (by omega) (by omega)
        have hs2 := sumD_take hrb (j + 1) (by omega) (by omega)
        have hst : sumD (r.take (j + 1)) = sumD (r.take j) + z.delta := by rw [List.take_add_one, hrj]; exact sumD_snoc _ _
        rw [hst] at hs2
        have e0 : ((all.length + (j + 1) : Nat) : Int) = ((all.length + j : Nat) : Int) + 1 := by omega
        obtain ⟨mb, mo, rfl, -, -⟩ := HM.at (by intro h; rw [h] at hmj; simp at hmj)
        repeat' (first | (refine lw_pure rfl (pv_move rfl) ?_) | (refine lw_pure rfl (pv_assign rfl) ?_) | (refine is_cw ?_; first | (refine cw_seq ?_) | (refine cw_region ?_) | (refine cw_true rfl (by first | assumption | exact decide_eq_true (by omega) | exact dec_notT (by omega)) ?_) | (refine cw_skip ?_) | (refine cw_block ?_)) | (refine is_qw ?_; first | (with_reducible refine qw_then ?_)) | (refine lw_nil ?_) | ((refine is_bin ?_; first | (refine lw_pure rfl (pv_lss rfl rfl) ?_) | (refine lw_pure rfl (pv_add rfl rfl (by omega)) ?_))) | ((refine is_load ?_; first | (refine lw_pure rfl (pv_load (t1 rfl) rfl (by first | exact SlR.ld (HM.mono hw) hmj rfl | exact SlR.ld1 (HM.mono hw) hmj rfl)) ?_))) | ((refine is_fa ?_; first | (refine lw_pure rfl (pv_fa (tF rfl) rfl) ?_))) | ((refine is_ia ?_; first | (refine lw_pure rfl (pv_ian (tS rfl) rfl rfl (by omega)) ?_))) | ((refine is_bi ?_; first | (refine lw_pure rfl (pv_lenl (tS rfl) rfl) ?_))))
        refine cw_drawn (fun w' => Below w7.heap.size w7 w') (by kernel_rfl) (by repeat (first | exact NoPanic.body | with_reducible refine NoPanic.then ?_ | with_reducible refine NoPanic.inBlock ?_)) (fun hNP => ?_)
        have hS := hw.drew
        all_goals (refine at0 0 rfl (fun w' hq => pv_move rfl) ?_)
        all_goals (refine at0 1 rfl (fun w' hq => pv_move rfl) ?_)
        all_goals (refine at0 2 rfl (fun w' hq => pv_ian (tS rfl) rfl rfl (by omega)) ?_)
        all_goals (refine at0 3 rfl (fun w' hq => pv_fa (tF rfl) rfl) ?_)
        all_goals (refine at0 4 rfl (fun w' hq => pv_load (t1 rfl) rfl (by first | exact SlR.ld (HM.mono hq) hmj rfl | exact SlR.ld1 (HM.mono hq) hmj rfl | exact SlR.ld (HV1.mono hq) hxk rfl | exact SlR.ld1 (HV1.mono hq) hxk rfl)) ?_)
        all_goals (refine at0 5 rfl (fun w' hq => pv_move rfl) ?_)
        all_goals (refine at0 6 rfl (fun w' hq => pv_neq rfl rfl) ?_)
        all_goals (refine at0 7 rfl (fun w' hq => pv_move rfl) ?_)
        all_goals (refine at2 8 rfl rfl rfl (fun w' hq => pv_move rfl) ?_)
        all_goals (refine at2 9 rfl rfl rfl (fun w' hq => pv_move rfl) ?_)
        all_goals (refine at2 10 rfl rfl rfl (fun w' hq => pv_ian (tS rfl) rfl rfl (by omega)) ?_)
        all_goals (refine at2 11 rfl rfl rfl (fun w' hq => pv_fa (tF rfl) rfl) ?_)
        all_goals (refine at2 12 rfl rfl rfl (fun w' hq => pv_load (t1 rfl) rfl (by first | exact SlR.ld (HM.mono hq) hmj rfl | exact SlR.ld1 (HM.mono hq) hmj rfl | exact SlR.ld (HV1.mono hq) hxk rfl | exact SlR.ld1 (HV1.mono hq) hxk rfl)) ?_)
        all_goals (refine at2 13 rfl rfl rfl (fun w' hq => pv_move rfl) ?_)
        all_goals (refine at2 14 rfl rfl rfl (fun w' hq => pv_move rfl) ?_)
        all_goals (refine at2 15 rfl rfl rfl (fun w' hq => pv_ian (tS rfl) rfl rfl (by omega)) ?_)
        all_goals (refine at2 16 rfl rfl rfl (fun w' hq => pv_fa (tF rfl) rfl) ?_)
        all_goals (refine at2 17 rfl rfl rfl (fun w' hq => pv_load (t1 rfl) rfl (by first | exact SlR.ld (HM.mono hq) hmj rfl | exact SlR.ld1 (HM.mono hq) hmj rfl | exact SlR.ld (HV1.mono hq) hxk rfl | exact SlR.ld1 (HV1.mono hq) hxk rfl)) ?_)
        all_goals (refine at2 18 rfl rfl rfl (fun w' hq => pv_neq rfl rfl) ?_)
        all_goals (refine at0 19 rfl (fun w' hq => pv_pick_f rfl (by first | assumption | exact decide_eq_false (by omega) | exact dec_notF (by omega)) rfl) ?_)
        all_goals (refine aw_done (by kernel_rfl) ?_; replace hw := hS; clear hS hNP)
        repeat' (first | (refine lw_pure rfl (pv_move rfl) ?_) | (refine lw_pure rfl (pv_assign rfl) ?_) | (refine is_cw ?_; first | (refine cw_region ?_) | (refine cw_false rfl (by first | assumption | exact decide_eq_false (by omega) | exact dec_notF (by omega)) ?_) | (refine cw_skip ?_)) | (refine is_qw ?_; first | (with_reducible refine qw_then ?_) | (with_reducible refine qw_in ?_)) | (refine lw_nil ?_) | ((refine is_bin ?_; first | (refine lw_pure rfl (pv_inc rfl rfl (by omega)) ?_))))
        exact qw_round (j + 1) (by simp only [hst, e0]; exact (by repeat' (first | exact trivial | refine ⟨rfl, ?_⟩))) ⟨by omega, hw⟩ (by omega)
      · have hjr : j = r.length := by omega
        subst hjr
        rw [List.take_length, hsum]
        have hwn := wantR_in y1 y2
        by_cases k6 : e.kind = 6
        · obtain ⟨n0, n1, hev, h0, h1⟩ := lnums6 y1 y2 (Or.inl k6)
          have hx1 := at_ofw (i := 1) hev rfl
          have hwv : wantR e = n1 := by unfold wantR nthI; rw [if_pos k6, hev]; rfl
          have hlen : e.nums.length = 2 := by rw [hev]; rfl
          obtain ⟨nb, no, rfl, -, -⟩ := r5.at (by intro h; rw [h] at hlen; cases hlen)
          rw [hwv]
          clear hev hwv hsum hwn
          have hc1 : wz.cell? ⟨ab, ao + k * 4 + 1, none⟩ = some (.int .u8 e.kind) := (HV1.mono hw).ld hxk rfl
          have hc2 : wz.cell? ⟨ab, ao + k * 4 + 2, none⟩ = some (.slice (some ⟨nb, no, none⟩) e.nums.length xcn) := (HV1.mono hw).ld hxk rfl
          clear hxk
          repeat' (first | (refine lw_pure rfl (pv_move rfl) ?_) | (refine lw_pure rfl (pv_assign rfl) ?_) | (refine is_cw ?_; first | (refine cw_seq ?_) | (refine cw_region ?_) | (refine cw_true rfl (by first | assumption | exact decide_eq_true (by omega) | exact dec_notT (by omega)) ?_) | (refine cw_false rfl (by first | assumption | exact decide_eq_false (by omega) | exact dec_notF (by omega)) ?_) | (refine cw_skip ?_) | (refine cw_block ?_) | (refine cw_exit ?_)) | (refine is_qw ?_; first | (with_reducible refine qw_then ?_) | (with_reducible refine qw_in ?_) | (with_reducible refine qw_in_hit ?_) | (with_reducible refine qw_then_exit ?_)) | (refine lw_nil ?_) | ((refine is_bin ?_; first | (refine lw_pure rfl (pv_lss rfl rfl) ?_) | (refine lw_pure rfl (pv_eql rfl rfl) ?_) | (refine lw_pure rfl (pv_neq rfl rfl) ?_) | (refine lw_pure rfl (pv_inc rfl rfl (by omega)) ?_))) | ((refine is_load ?_; first | (refine lw_pure rfl (pv_load (t1 rfl) rfl hc1) ?_) | (refine lw_pure rfl (pv_load (t1 rfl) rfl hc2) ?_) | (refine lw_pure rfl (pv_load (t1 rfl) rfl (by first | exact SlR.ld (r5.mono hw) hx1 rfl | exact SlR.ld1 (r5.mono hw) hx1 rfl)) ?_))) | ((refine is_fa ?_; first | (refine lw_pure rfl (pv_fa (tF rfl) rfl) ?_))) | ((refine is_ia ?_; first | (refine lw_pure rfl (pv_ian (tS rfl) rfl rfl (by omega)) ?_) | (refine lw_pure rfl (pv_ia (tS rfl) rfl rfl (by omega)) ?_))) | ((refine is_bi ?_; first | (refine lw_pure rfl (pv_lenl (tS rfl) rfl) ?_))))
          (skip); exact qw_round (k + 1, .slice am m.length cm, .slice a8 R2.1.length c8, .slice a9 R2.2.1.length c9) (by repeat' (first | exact trivial | refine ⟨rfl, ?_⟩)) ⟨by show k + 1 ≤ _; omega, m, R2.1, R2.2.1, grow_trans hB0 hw, ⟨_, _, rfl, HM.mono hw⟩, ⟨_, _, rfl, HP2.mono hw⟩, ⟨_, _, rfl, HT2.mono hw⟩, hmm, by omega⟩ (by show xs.length - (k + 1) < xs.length - k; omega)
        by_cases k7 : e.kind = 7
        · obtain ⟨n0, n1, hev, h0, h1⟩ := lnums6 y1 y2 (Or.inr k7)
          have hx1 := at_ofw (i := 1) hev rfl
          have hwv : wantR e = -n1 := by unfold wantR nthI; rw [if_neg (by omega), if_pos k7, hev]; rfl
          have hlen : e.nums.length = 2 := by rw [hev]; rfl
          obtain ⟨nb, no, rfl, -, -⟩ := r5.at (by intro h; rw [h] at hlen; cases hlen)
          rw [hwv]
          clear hev hwv hsum hwn
          have hc1 : wz.cell? ⟨ab, ao + k * 4 + 1, none⟩ = some (.int .u8 e.kind) := (HV1.mono hw).ld hxk rfl
          have hc2 : wz.cell? ⟨ab, ao + k * 4 + 2, none⟩ = some (.slice (some ⟨nb, no, none⟩) e.nums.length xcn) := (HV1.mono hw).ld hxk rfl
          clear hxk
          repeat' (first | (refine lw_pure rfl (pv_move rfl) ?_) | (refine lw_pure rfl (pv_assign rfl) ?_) | (refine is_cw ?_; first | (refine cw_seq ?_) | (refine cw_region ?_) | (refine cw_true rfl (by first | assumption | exact decide_eq_true (by omega) | exact dec_notT (by omega)) ?_) | (refine cw_false rfl (by first | assumption | exact decide_eq_false (by omega) | exact dec_notF (by omega)) ?_) | (refine cw_skip ?_) | (refine cw_block ?_) | (refine cw_exit ?_)) | (refine is_qw ?_; first | (with_reducible refine qw_then ?_) | (with_reducible refine qw_in ?_) | (with_reducible refine qw_in_hit ?_) | (with_reducible refine qw_then_exit ?_)) | (refine lw_nil ?_) | ((refine is_bin ?_; first | (refine lw_pure rfl (pv_lss rfl rfl) ?_) | (refine lw_pure rfl (pv_eql rfl rfl) ?_) | (refine lw_pure rfl (pv_neq rfl rfl) ?_) | (refine lw_pure rfl (pv_inc rfl rfl (by omega)) ?_))) | ((refine is_load ?_; first | (refine lw_pure rfl (pv_load (t1 rfl) rfl hc1) ?_) | (refine lw_pure rfl (pv_load (t1 rfl) rfl hc2) ?_) | (refine lw_pure rfl (pv_load (t1 rfl) rfl (by first | exact SlR.ld (r5.mono hw) hx1 rfl | exact SlR.ld1 (r5.mono hw) hx1 rfl)) ?_))) | ((refine is_fa ?_; first | (refine lw_pure rfl (pv_fa (tF rfl) rfl) ?_))) | ((refine is_ia ?_; first | (refine lw_pure rfl (pv_ian (tS rfl) rfl rfl (by omega)) ?_) | (refine lw_pure rfl (pv_ia (tS rfl) rfl rfl (by omega)) ?_))) | ((refine is_un ?_; first | (refine lw_pure rfl (pv_neg rfl (by omega)) ?_))) | ((refine is_bi ?_; first | (refine lw_pure rfl (pv_lenl (tS rfl) rfl) ?_))))
          (skip); exact qw_round (k + 1, .slice am m.length cm, .slice a8 R2.1.length c8, .slice a9 R2.2.1.length c9) (by repeat' (first | exact trivial | refine ⟨rfl, ?_⟩)) ⟨by show k + 1 ≤ _; omega, m, R2.1, R2.2.1, grow_trans hB0 hw, ⟨_, _, rfl, HM.mono hw⟩, ⟨_, _, rfl, HP2.mono hw⟩, ⟨_, _, rfl, HT2.mono hw⟩, hmm, by omega⟩ (by show xs.length - (k + 1) < xs.length - k; omega)
        by_cases k13 : e.kind = 13
        · obtain ⟨n0, n1, n2, n3, n4, hev, h2, h3, h4⟩ := lnums13 y1 y2 k13
          have hx4 := at_ofw (i := 4) hev rfl
          have hwv : wantR e = -n4 := by unfold wantR nthI; rw [if_neg (by omega), if_neg (by omega), if_pos k13, hev]; rfl
          have hlen : e.nums.length = 5 := by rw [hev]; rfl
          obtain ⟨nb, no, rfl, -, -⟩ := r5.at (by intro h; rw [h] at hlen; cases hlen)
          rw [hwv]
          clear hev hwv hsum hwn
          have hc1 : wz.cell? ⟨ab, ao + k * 4 + 1, none⟩ = some (.int .u8 e.kind) := (HV1.mono hw).ld hxk rfl
          have hc2 : wz.cell? ⟨ab, ao + k * 4 + 2, none⟩ = some (.slice (some ⟨nb, no, none⟩) e.nums.length xcn) := (HV1.mono hw).ld hxk rfl
          clear hxk
          repeat' (first | (refine lw_pure rfl (pv_move rfl) ?_) | (refine lw_pure rfl (pv_assign rfl) ?_) | (refine is_cw ?_; first | (refine cw_seq ?_) | (refine cw_region ?_) | (refine cw_true rfl (by first | assumption | exact decide_eq_true (by omega) | exact dec_notT (by omega)) ?_) | (refine cw_false rfl (by first | assumption | exact decide_eq_false (by omega) | exact dec_notF (by omega)) ?_) | (refine cw_skip ?_) | (refine cw_block ?_) | (refine cw_exit ?_)) | (refine is_qw ?_; first | (with_reducible refine qw_then ?_) | (with_reducible refine qw_in ?_) | (with_reducible refine qw_in_hit ?_) | (with_reducible refine qw_then_exit ?_)) | (refine lw_nil ?_) | ((refine is_bin ?_; first | (refine lw_pure rfl (pv_lss rfl rfl) ?_) | (refine lw_pure rfl (pv_eql rfl rfl) ?_) | (refine lw_pure rfl (pv_neq rfl rfl) ?_) | (refine lw_pure rfl (pv_inc rfl rfl (by omega)) ?_))) | ((refine is_load ?_; first | (refine lw_pure rfl (pv_load (t1 rfl) rfl hc1) ?_) | (refine lw_pure rfl (pv_load (t1 rfl) rfl hc2) ?_) | (refine lw_pure rfl (pv_load (t1 rfl) rfl (by first | exact SlR.ld (r5.mono hw) hx4 rfl | exact SlR.ld1 (r5.mono hw) hx4 rfl)) ?_))) | ((refine is_fa ?_; first | (refine lw_pure rfl (pv_fa (tF rfl) rfl) ?_))) | ((refine is_ia ?_; first | (refine lw_pure rfl (pv_ian (tS rfl) rfl rfl (by omega)) ?_) | (refine lw_pure rfl (pv_ia (tS rfl) rfl rfl (by omega)) ?_))) | ((refine is_un ?_; first | (refine lw_pure rfl (pv_neg rfl (by omega)) ?_))) | ((refine is_bi ?_; first | (refine lw_pure rfl (pv_lenl (tS rfl) rfl) ?_))))
          (skip); exact qw_round (k + 1, .slice am m.length cm, .slice a8 R2.1.length c8, .slice a9 R2.2.1.length c9) (by repeat' (first | exact trivial | refine ⟨rfl, ?_⟩)) ⟨by show k + 1 ≤ _; omega, m, R2.1, R2.2.1, grow_trans hB0 hw, ⟨_, _, rfl, HM.mono hw⟩, ⟨_, _, rfl, HP2.mono hw⟩, ⟨_, _, rfl, HT2.mono hw⟩, hmm, by omega⟩ (by show xs.length - (k + 1) < xs.length - k; omega)
        by_cases k18 : e.kind = 18
        · obtain ⟨n0, n1, n2, n3, hev, h1, h2, h3⟩ := lnums18 y1 y2 k18
          have hx3 := at_ofw (i := 3) hev rfl
          have hwv : wantR e = -n3 := by unfold wantR nthI; rw [if_neg (by omega), if_neg (by omega), if_neg (by omega), if_pos k18, hev]; rfl
          have hlen : e.nums.length = 4 := by rw [hev]; rfl
          obtain ⟨nb, no, rfl, -, -⟩ := r5.at (by intro h; rw [h] at hlen; cases hlen)
          rw [hwv]
          clear hev hwv hsum hwn
          have hc1 : wz.cell? ⟨ab, ao + k * 4 + 1, none⟩ = some (.int .u8 e.kind) := (HV1.mono hw).ld hxk rfl
          have hc2 : wz.cell? ⟨ab, ao + k * 4 + 2, none⟩ = some (.slice (some ⟨nb, no, none⟩) e.nums.length xcn) := (HV1.mono hw).ld hxk rfl
          clear hxk
          repeat' (first | (refine lw_pure rfl (pv_move rfl) ?_) | (refine lw_pure rfl (pv_assign rfl) ?_) | (refine is_cw ?_; first | (refine cw_seq ?_) | (refine cw_region ?_) | (refine cw_true rfl (by first | assumption | exact decide_eq_true (by omega) | exact dec_notT (by omega)) ?_) | (refine cw_false rfl (by first | assumption | exact decide_eq_false (by omega) | exact dec_notF (by omega)) ?_) | (refine cw_skip ?_) | (refine cw_block ?_) | (refine cw_exit ?_)) | (refine is_qw ?_; first | (with_reducible refine qw_then ?_) | (with_reducible refine qw_in ?_) | (with_reducible refine qw_in_hit ?_) | (with_reducible refine qw_then_exit ?_)) | (refine lw_nil ?_) | ((refine is_bin ?_; first | (refine lw_pure rfl (pv_lss rfl rfl) ?_) | (refine lw_pure rfl (pv_eql rfl rfl) ?_) | (refine lw_pure rfl (pv_neq rfl rfl) ?_) | (refine lw_pure rfl (pv_inc rfl rfl (by omega)) ?_))) | ((refine is_load ?_; first | (refine lw_pure rfl (pv_load (t1 rfl) rfl hc1) ?_) | (refine lw_pure rfl (pv_load (t1 rfl) rfl hc2) ?_) | (refine lw_pure rfl (pv_load (t1 rfl) rfl (by first | exact SlR.ld (r5.mono hw) hx3 rfl | exact SlR.ld1 (r5.mono hw) hx3 rfl)) ?_))) | ((refine is_fa ?_; first | (refine lw_pure rfl (pv_fa (tF rfl) rfl) ?_))) | ((refine is_ia ?_; first | (refine lw_pure rfl (pv_ian (tS rfl) rfl rfl (by omega)) ?_) | (refine lw_pure rfl (pv_ia (tS rfl) rfl rfl (by omega)) ?_))) | ((refine is_un ?_; first | (refine lw_pure rfl (pv_neg rfl (by omega)) ?_))) | ((refine is_bi ?_; first | (refine lw_pure rfl (pv_lenl (tS rfl) rfl) ?_))))
          (skip); exact qw_round (k + 1, .slice am m.length cm, .slice a8 R2.1.length c8, .slice a9 R2.2.1.length c9) (by repeat' (first | exact trivial | refine ⟨rfl, ?_⟩)) ⟨by show k + 1 ≤ _; omega, m, R2.1, R2.2.1, grow_trans hB0 hw, ⟨_, _, rfl, HM.mono hw⟩, ⟨_, _, rfl, HP2.mono hw⟩, ⟨_, _, rfl, HT2.mono hw⟩, hmm, by omega⟩ (by show xs.length - (k + 1) < xs.length - k; omega)
        have hwv : wantR e = 0 := by unfold wantR; rw [if_neg k6, if_neg k7, if_neg k13, if_neg k18]
        rw [hwv]
        repeat' (first | (refine lw_pure rfl (pv_move rfl) ?_) | (refine lw_pure rfl (pv_assign rfl) ?_) | (refine is_cw ?_; first | (refine cw_seq ?_) | (refine cw_region ?_) | (refine cw_false rfl rfl ?_) | (refine cw_false rfl (by first | assumption | exact decide_eq_false (by omega) | exact dec_notF (by omega)) ?_) | (refine cw_skip ?_) | (refine cw_block ?_) | (refine cw_exit ?_)) | (refine is_qw ?_; first | (with_reducible refine qw_then ?_) | (with_reducible refine qw_in ?_) | (with_reducible refine qw_in_hit ?_) | (with_reducible refine qw_then_exit ?_)) | (refine lw_nil ?_) | ((refine is_bin ?_; first | (refine lw_pure rfl (pv_lss rfl rfl) ?_) | (refine lw_pure rfl (pv_eql rfl rfl) ?_) | (refine lw_pure rfl (pv_neq rfl rfl) ?_) | (refine lw_pure rfl (pv_inc rfl rfl (by omega)) ?_))) | ((refine is_load ?_; first | (refine lw_pure rfl (pv_load (t1 rfl) rfl (by first | exact SlR.ld (HV1.mono hw) hxk rfl | exact SlR.ld1 (HV1.mono hw) hxk rfl)) ?_))) | ((refine is_fa ?_; first | (refine lw_pure rfl (pv_fa (tF rfl) rfl) ?_))) | ((refine is_ia ?_; first | (refine lw_pure rfl (pv_ian (tS rfl) rfl rfl (by omega)) ?_))) | ((refine is_bi ?_; first | (refine lw_pure rfl (pv_lenl (tS rfl) rfl) ?_))))
        (skip); exact qw_round (k + 1, .slice am m.length cm, .slice a8 R2.1.length c8, .slice a9 R2.2.1.length c9) (by repeat' (first | exact trivial | refine ⟨rfl, ?_⟩)) ⟨by show k + 1 ≤ _; omega, m, R2.1, R2.2.1, grow_trans hB0 hw, ⟨_, _, rfl, HM.mono hw⟩, ⟨_, _, rfl, HP2.mono hw⟩, ⟨_, _, rfl, HT2.mono hw⟩, hmm, by omega⟩ (by show xs.length - (k + 1) < xs.length - k; omega)
    · have hkl : k = xs.length := by omega
      subst hkl
      have hla2 : all.length ≤ 800 := by omega
      repeat' (first | (refine lw_pure rfl (pv_move rfl) ?_) | (refine lw_pure rfl (pv_assign rfl) ?_) | (refine is_cw ?_; first | (refine cw_seq ?_) | (refine cw_region ?_) | (refine cw_false rfl (by first | assumption | exact decide_eq_false (by omega) | exact dec_notF (by omega)) ?_) | (refine cw_block ?_) | (refine cw_exit ?_)) | (refine is_qw ?_; first | (with_reducible refine qw_then ?_) | (with_reducible refine qw_in_hit ?_) | (with_reducible refine qw_then_exit ?_)) | (refine lw_nil ?_) | ((refine is_bin ?_; first | (refine lw_pure rfl (pv_lss rfl rfl) ?_))) | ((refine is_bi ?_; first | (refine lw_pure rfl (pv_lenl (tS rfl) rfl) ?_))))
      refine cw_loop (σ := Nat) (fun a => [(5, .slice a5 all.length c5), (19, .int .i64 ((a + 1 : Nat) : Int))]) (fun a wz => a ≤ 6 ∧ Below wr.heap.size wr wz) (fun a => 6 - a) 0 (by repeat' (first | exact trivial | refine ⟨rfl, ?_⟩)) ⟨by omega, hw⟩ ?_
      clear hw
      rintro a wz ⟨ha, hw⟩
      by_cases hlt6 : a < 6
      · obtain ⟨A, hA⟩ : ∃ A : Nat, a + 1 = A := ⟨_, rfl⟩
        rw [hA]
        repeat' (first | (refine lw_pure rfl (pv_move rfl) ?_) | (refine lw_pure rfl (pv_assign rfl) ?_) | (refine is_cw ?_; first | (refine cw_seq ?_) | (refine cw_region ?_) | (refine cw_true rfl (by first | assumption | exact decide_eq_true (by omega) | exact dec_notT (by omega)) ?_) | (refine cw_skip ?_) | (refine cw_block ?_)) | (refine is_qw ?_; first | (with_reducible refine qw_then ?_)) | (refine lw_nil ?_) | ((refine is_bin ?_; first | (refine lw_pure rfl (pv_leq rfl rfl) ?_))))
        refine lw_call (f := 13) (by kernel_rfl) rfl rfl (ofL_c (A : Int) rfl (H5.mono hw) (by omega)) ?_; rintro e1 wy ⟨⟨v, rfl, hO⟩, hb⟩; refine ⟨_, rfl, ?_⟩
        replace hw := grow_trans hw hb
        clear hb
        obtain ⟨oa, oc, rfl, HF, -⟩ := Own.slR encN_len hO
        clear hO
        have hbs := bal_sum hma (A : Int)
        have hfb : ∀ x ∈ ofL all (A : Int), -1125899906842624 ≤ x.delta ∧ x.delta ≤ 1125899906842624 := fun x hx => delta_in hma x (ofL_mem hx)
        have hfl := ofL_len all (A : Int)
        generalize ofL all (A : Int) = ys at HF hbs hfb hfl
        have hf1 := HF.le
        have hf2 := HF.max
        have hB1 := hw
        clear hw
        have hw := Below.refl wy.heap.size wy
        repeat' (first | (refine lw_pure rfl (pv_assign rfl) ?_) | (refine is_cw ?_; first | (refine cw_seq ?_) | (refine cw_region ?_) | (refine cw_block ?_)) | (refine is_qw ?_; first | (with_reducible refine qw_then ?_)) | (refine lw_nil ?_))
        refine cw_loop (σ := Nat) (fun j => [(5, .slice a5 all.length c5), (19, .int .i64 (A : Int)), (20, .int .i64 (sumD (ys.take j))), (21, .slice oa ys.length oc), (22, .int .i64 (j : Nat))]) (fun j wq => j ≤ ys.length ∧ Below wy.heap.size wy wq) (fun j => ys.length - j) 0 (by repeat' (first | exact trivial | refine ⟨rfl, ?_⟩)) ⟨Nat.zero_le _, hw⟩ ?_
        clear hw
        rintro j wq ⟨hj, hw⟩
        by_cases hlt7 : j < ys.length
        · have hyj : ys[j]? = some ys[j] := List.getElem?_eq_getElem hlt7
          generalize ys[j] = z at hyj
          have hs1 := sumD_take hfb j (by omega) (by omega)
          have hs2 := sumD_take hfb (j + 1) (by omega) (by omega)
          have hst : sumD (ys.take (j + 1)) = sumD (ys.take j) + z.delta := by rw [List.take_add_one, hyj]; exact sumD_snoc _ _
          rw [hst] at hs2
          obtain ⟨mb, mo, rfl, -, -⟩ := HF.at (by intro h; rw [h] at hyj; simp at hyj)
          repeat' (first | (refine lw_pure rfl (pv_move rfl) ?_) | (refine lw_pure rfl (pv_assign rfl) ?_) | (refine is_cw ?_; first | (refine cw_seq ?_) | (refine cw_region ?_) | (refine cw_true rfl (by first | assumption | exact decide_eq_true (by omega) | exact dec_notT (by omega)) ?_) | (refine cw_skip ?_) | (refine cw_block ?_)) | (refine is_qw ?_; first | (with_reducible refine qw_then ?_) | (with_reducible refine qw_in ?_)) | (refine lw_nil ?_) | ((refine is_bin ?_; first | (refine lw_pure rfl (pv_lss rfl rfl) ?_) | (refine lw_pure rfl (pv_inc rfl rfl (by omega)) ?_) | (refine lw_pure rfl (pv_add rfl rfl (by omega)) ?_))) | ((refine is_load ?_; first | (refine lw_pure rfl (pv_load (t1 rfl) rfl (by first | exact SlR.ld (HF.mono hw) hyj rfl | exact SlR.ld1 (HF.mono hw) hyj rfl)) ?_))) | ((refine is_fa ?_; first | (refine lw_pure rfl (pv_fa (tF rfl) rfl) ?_))) | ((refine is_ia ?_; first | (refine lw_pure rfl (pv_ian (tS rfl) rfl rfl (by omega)) ?_))) | ((refine is_bi ?_; first | (refine lw_pure rfl (pv_lenl (tS rfl) rfl) ?_))))
          exact qw_round (j + 1) (by simp only [hst]; exact (by repeat' (first | exact trivial | refine ⟨rfl, ?_⟩))) ⟨by omega, hw⟩ (by omega)
        · have hjy : j = ys.length := by omega
          subst hjy
          rw [List.take_length]
          replace hw := grow_trans hB1 hw
          repeat' (first | (refine lw_pure rfl (pv_move rfl) ?_) | (refine lw_pure rfl (pv_assign rfl) ?_) | (refine lw_call (f := 14) (by kernel_rfl) rfl rfl (balL_e hbs rfl (H5.mono hw)) ?_; rintro e w1 ⟨rfl, hb⟩; refine ⟨_, rfl, ?_⟩; replace hw := grow_trans hw hb; clear hb) | (refine is_cw ?_; first | (refine cw_seq ?_) | (refine cw_region ?_) | (refine cw_false rfl (by first | assumption | exact decide_eq_false (by omega) | exact dec_notF (by omega)) ?_) | (refine cw_skip ?_) | (refine cw_exit ?_)) | (refine is_qw ?_; first | (with_reducible refine qw_then ?_) | (with_reducible refine qw_in ?_) | (with_reducible refine qw_in_hit ?_) | (with_reducible refine qw_then_exit ?_)) | (refine lw_nil ?_) | ((refine is_bin ?_; first | (refine lw_pure rfl (pv_lss rfl rfl) ?_) | (refine lw_pure rfl (pv_neq rfl rfl) ?_) | (refine lw_pure rfl (pv_inc rfl rfl (by omega)) ?_))) | ((refine is_bi ?_; first | (refine lw_pure rfl (pv_lenl (tS rfl) rfl) ?_))))
          exact qw_round (a + 1) (by simp only [← hA]; exact (by repeat' (first | exact trivial | refine ⟨rfl, ?_⟩))) ⟨by omega, hw⟩ (by omega)
      · have ha6 : a = 6 := by omega
        subst ha6
        repeat' (first | (refine lw_pure rfl (pv_move rfl) ?_) | (refine lw_pure rfl (pv_assign rfl) ?_) | (refine is_cw ?_; first | (refine cw_seq ?_) | (refine cw_region ?_) | (refine cw_false rfl rfl ?_) | (refine cw_exit ?_) | (refine cw_ret ?_)) | (refine is_qw ?_; first | (with_reducible refine qw_then ?_) | (with_reducible refine qw_in_hit ?_) | (with_reducible refine qw_then_exit ?_)) | (refine lw_nil ?_) | ((refine is_bin ?_; first | (refine lw_pure rfl (pv_leq rfl rfl) ?_))))
        exact qw_ret1 rfl rfl ⟨rfl, grow_trans hB0 hw⟩
end Go.Proofs.YtnffmbfdfhokeaaGreatDoor
namespace Go.Proofs.YtnffmbfdfhokeaaGreatDoor
open Go.ChangeShapes Go.WideShapes Go.ChangeAt Go.RowKit

set_option maxRecDepth 100000 in
theorem stmtRuns_lifted (os : Os) (started : os.Started) (H : Type) (enc : TypeId × Value → H) :
    ReturnsInHanded {} Tryz.checked os 4 .any (fun w args => (Rows.stmtRunsSpec.pre enc Tryz.prog Tryz.f4 [] false w args ∧ laidMetH Tryz.prog Rows.stmtRunsRow.laid w) ∧ sizedMet enc Tryz.prog Tryz.f4 (OpenSpec.ofChange Rows.stmtRunsSpec) false w args)
      (Rows.stmtRunsSpec.post enc Tryz.prog Tryz.f4 false true false false) := by
  refine returnsInHanded_of_change_and (C := Tryz.checked) (X := fun w _ => laidMetH Tryz.prog Rows.stmtRunsRow.laid w) (fun _ _ _ hh h => h.of_heap hh) seatOwn started (by kernel_rfl) Tryz.func4
    (ChangeSpec.witness_shaped (enc := enc) (C := Tryz.checked) (os := os) (X := fun w _ => laidMetH Tryz.prog Rows.stmtRunsRow.laid w) false (World.doorLaid Tryz.prog 200 os) #[.slice none 0 0, .int .u8 0] 8 rfl (World.shaped_of_RefB (by kernel_rfl) (by kernel_rfl)) (by kernel_rfl) (by kernel_rfl) (by kernel_rfl) (door_met os _)) ?_
  intro W base args ds gs before hval0 hW _ hZ hL _
  have hval : ∀ (j : Nat) t v, Tryz.f4.params[j]? = some t → args[j]? = some v → Value.okWide Tryz.prog W .any base t v := hval0
  have hW' := hW
  obtain ⟨p, q, hA0, hV, hpq, hfz, hnd⟩ := hW
  have hA : DataW.TrodAll enc Tryz.prog W 0 (fun _ => true) true Tryz.f4.params.toList args.toList ds p := hA0
  rw [Tryz.params4] at hA hval
  obtain ⟨args⟩ := args
  have hA1 : DataW.TrodAll enc Tryz.prog W 0 (fun _ => true) true _ args ds p := hA
  clear hA
  obtain ⟨v0, vs0, d0, ds0, p0, q0, hv0, hd0, hp0, h0, hr0⟩ := trodAll_cons hA1
  obtain ⟨v1, vs1, d1, ds1, p1, q1, hv1, hd1, hp1, h1, hr1⟩ := trodAll_cons hr0
  obtain ⟨hvn, hdn, hpn⟩ := trodAll_nil hr1
  subst hvn hdn hpn
  subst hv1 hd1 hp1
  subst hv0 hd0 hp0
  obtain ⟨rfl, rfl⟩ := trodVars_none hV
  obtain ⟨lla, llc, llx, ll, rfl, lls, lle⟩ := evs_open (hval 0 _ v0 rfl rfl) h0 (wt_of hZ (j := 0) (by kernel_rfl) rfl)
  obtain ⟨bb, rfl, bbl, bbu⟩ := u8_open Tryz.underlying5 (hval 1 _ v1 rfl rfl) h1
  have hpr := knW_of hL
  subst hpq
  refine (runsL_c ⟨bbl, bbu⟩ rfl lls lle hpr).mono fun e W' ⟨he, hw⟩ => ?_
  subst he
  have hB := below_trodAll hw (by decide +kernel) hA1
  rw [← Tryz.params4] at hB
  exact ⟨_, rfl, _, _, _, [], _, [], hW', trodAll_mk1 (shut_bool Tryz.underlying4 true), hB, rfl, hw.frame _, fun h => by cases h⟩
theorem stmtRuns_holds : Rows.StmtRunsSaid :=
  OpenClaim.holds_of_wide 4 Tryz.f4 rfl rfl rfl rfl rfl rfl rfl ⟨rfl, rfl, rfl, rfl, rfl⟩ rfl rfl rfl rfl rfl (by kernel_rfl) Tryz.func4 (by kernel_rfl)
    (of_decide_eq_true (by kernel_rfl)) (by unfold Func.isWrapper; first | (rw [if_pos (by decide +kernel)]; kernel_rfl) | (rw [if_neg (by decide +kernel)]; exact ⟨rfl, rfl⟩))
    (fun os started H enc _ => stmtRuns_lifted os started H enc)
theorem stmtRuns_card : Rows.StmtRunsCardSaid :=
  Claim7.holds_tied_plain_at .later [] [.data] true (true, "28b8a61e8236f19de4108443b75369ebc678c2b20abb73897634beb71150d199") false
    stmtRuns_holds (fun _ h => by cases h) (by kernel_rfl) (fun _ h => by cases h) stmtRuns_row_tie rfl ⟨rfl, rfl⟩ (by kernel_rfl) rfl
    (fun f fn hf hfn => by
      obtain rfl : f = 4 := Option.some.inj ((show Tryz.prog.funcNamed Rows.stmtRunsRow.func = some 4 by kernel_rfl).symm.trans hf) |>.symm
      obtain rfl : fn = Tryz.f4 := (Option.some.inj (Tryz.func4.symm.trans hfn)).symm
      exact ⟨by kernel_rfl, fun j t ht => by
        have hall : (Tryz.f4.params.toList.all fun u => !Tryz.prog.wantsStandIn u) = true := by kernel_rfl
        have hm : t ∈ Tryz.f4.params.toList := Array.mem_toList_iff.2 (Array.mem_of_getElem? ht)
        exact (show Tryz.prog.wantsStandIn t = false by simpa using List.all_eq_true.1 hall t hm)⟩)
    (by kernel_rfl)
#print axioms stmtRuns_card
end Go.Proofs.YtnffmbfdfhokeaaGreatDoor
