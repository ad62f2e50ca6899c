/-
  Part 2 of the texts of: StmtRuns: its row and its card: whatever the input: true; the input reads as it did. Conditions: what the row prints (the table of functions reads as the program's text lays it).
-/
import Derived.Test.YtnffmbfdfhokeaaGreatDoorZL1
namespace Go.Proofs.YtnffmbfdfhokeaaGreatDoor
open Go.RowKit Go.PlainAid Go.Maps Go.WideMaps

set_option maxRecDepth 20000 in
theorem batch_c (n : Int) (w : World) : Calls Tryz.prog 21 #[.int .i64 n] w fun e w' => e = .returned (.bool (decide (0 ≤ n ∧ n < 1048576))) ∧ Below w.heap.size w w' := by
  have hw := Below.refl w.heap.size w
  refine fn_enter 9 Tryz.func21 rfl rfl rfl ?_
  by_cases h1 : 0 ≤ n
  · by_cases h2 : n < 1048576
    · rw [decide_eq_true ⟨h1, h2⟩]
      repeat' (first | (refine lw_pure rfl (pv_move rfl) ?_) | (refine lw_pure rfl (pv_assign rfl) ?_) | (refine is_cw ?_; first | (refine cw_seq ?_) | (refine cw_region ?_) | (refine cw_ret ?_)) | (refine is_qw ?_; first | (with_reducible refine qw_then ?_) | (with_reducible refine qw_then_ret ?_)) | (refine lw_nil ?_) | (refine is_guarded ?_; first | (refine lw_not rfl rfl rfl rfl ?_) | (refine lw_not_u rfl rfl rfl ?_) | (refine lw_on rfl rfl rfl ?_) | (refine lw_on rfl rfl (by first | assumption | exact decide_eq_true (by omega) | exact decide_eq_false (by omega) | exact dec_notT (by omega) | exact dec_notF (by omega)) ?_) | (refine lw_not rfl rfl rfl (by first | assumption | exact decide_eq_true (by omega) | exact decide_eq_false (by omega) | exact dec_notT (by omega) | exact dec_notF (by omega)) ?_) | (refine lw_gs_t rfl rfl rfl (fun hc => ?_) (fun hc => ?_) <;> (first | replace hc := of_decide_eq_true hc | replace hc := of_decide_eq_false hc | replace hc := dec_nT hc | replace hc := dec_nF hc | skip) <;> (try (exfalso; omega))) | (refine lw_gs_f rfl rfl rfl (fun hc => ?_) (fun hc => ?_) <;> (first | replace hc := of_decide_eq_true hc | replace hc := of_decide_eq_false hc | replace hc := dec_nT hc | replace hc := dec_nF hc | skip) <;> (try (exfalso; omega)))) | ((refine is_bin ?_; first | (refine lw_pure rfl (pv_lss rfl rfl) ?_) | (refine lw_pure rfl (pv_geq rfl rfl) ?_))) | (refine lw_pure rfl (pv_pick_t rfl rfl rfl) ?_) | (refine lw_pure rfl (pv_pick_f rfl rfl rfl) ?_) | (refine lw_pure rfl (pv_pick_t rfl (by first | assumption | exact decide_eq_true (by omega) | exact dec_notT (by omega)) rfl) ?_) | (refine lw_pure rfl (pv_pick_f rfl (by first | assumption | exact decide_eq_false (by omega) | exact dec_notF (by omega)) rfl) ?_) | (refine lw_pure rfl (pv_pick rfl rfl rfl) ?_) | (refine is_cw ?_; refine cw_split rfl (fun hc => ?_) (fun hc => ?_) <;> (first | replace hc := of_decide_eq_true hc | replace hc := of_decide_eq_false hc | replace hc := dec_nT hc | replace hc := dec_nF hc | skip) <;> (try (exfalso; omega))))
      exact qw_ret1 rfl rfl ⟨by rw [decide_eq_true h2], hw⟩
    · rw [decide_eq_false (by omega)]
      repeat' (first | (refine lw_pure rfl (pv_move rfl) ?_) | (refine lw_pure rfl (pv_assign rfl) ?_) | (refine is_cw ?_; first | (refine cw_seq ?_) | (refine cw_region ?_) | (refine cw_ret ?_)) | (refine is_qw ?_; first | (with_reducible refine qw_then ?_) | (with_reducible refine qw_then_ret ?_)) | (refine lw_nil ?_) | (refine is_guarded ?_; first | (refine lw_not rfl rfl rfl rfl ?_) | (refine lw_not_u rfl rfl rfl ?_) | (refine lw_on rfl rfl rfl ?_) | (refine lw_on rfl rfl (by first | assumption | exact decide_eq_true (by omega) | exact decide_eq_false (by omega) | exact dec_notT (by omega) | exact dec_notF (by omega)) ?_) | (refine lw_not rfl rfl rfl (by first | assumption | exact decide_eq_true (by omega) | exact decide_eq_false (by omega) | exact dec_notT (by omega) | exact dec_notF (by omega)) ?_) | (refine lw_gs_t rfl rfl rfl (fun hc => ?_) (fun hc => ?_) <;> (first | replace hc := of_decide_eq_true hc | replace hc := of_decide_eq_false hc | replace hc := dec_nT hc | replace hc := dec_nF hc | skip) <;> (try (exfalso; omega))) | (refine lw_gs_f rfl rfl rfl (fun hc => ?_) (fun hc => ?_) <;> (first | replace hc := of_decide_eq_true hc | replace hc := of_decide_eq_false hc | replace hc := dec_nT hc | replace hc := dec_nF hc | skip) <;> (try (exfalso; omega)))) | ((refine is_bin ?_; first | (refine lw_pure rfl (pv_lss rfl rfl) ?_) | (refine lw_pure rfl (pv_geq rfl rfl) ?_))) | (refine lw_pure rfl (pv_pick_t rfl rfl rfl) ?_) | (refine lw_pure rfl (pv_pick_f rfl rfl rfl) ?_) | (refine lw_pure rfl (pv_pick_t rfl (by first | assumption | exact decide_eq_true (by omega) | exact dec_notT (by omega)) rfl) ?_) | (refine lw_pure rfl (pv_pick_f rfl (by first | assumption | exact decide_eq_false (by omega) | exact dec_notF (by omega)) rfl) ?_) | (refine lw_pure rfl (pv_pick rfl rfl rfl) ?_) | (refine is_cw ?_; refine cw_split rfl (fun hc => ?_) (fun hc => ?_) <;> (first | replace hc := of_decide_eq_true hc | replace hc := of_decide_eq_false hc | replace hc := dec_nT hc | replace hc := dec_nF hc | skip) <;> (try (exfalso; omega))))
      exact qw_ret1 rfl rfl ⟨by rw [decide_eq_false h2], hw⟩
  · rw [decide_eq_false (by omega)]
    repeat' (first | (refine lw_pure rfl (pv_move rfl) ?_) | (refine lw_pure rfl (pv_assign rfl) ?_) | (refine is_cw ?_; first | (refine cw_seq ?_) | (refine cw_region ?_) | (refine cw_ret ?_)) | (refine is_qw ?_; first | (with_reducible refine qw_then ?_) | (with_reducible refine qw_then_ret ?_)) | (refine lw_nil ?_) | (refine is_guarded ?_; first | (refine lw_not rfl rfl rfl rfl ?_) | (refine lw_not_u rfl rfl rfl ?_) | (refine lw_on rfl rfl rfl ?_) | (refine lw_on rfl rfl (by first | assumption | exact decide_eq_true (by omega) | exact decide_eq_false (by omega) | exact dec_notT (by omega) | exact dec_notF (by omega)) ?_) | (refine lw_not rfl rfl rfl (by first | assumption | exact decide_eq_true (by omega) | exact decide_eq_false (by omega) | exact dec_notT (by omega) | exact dec_notF (by omega)) ?_) | (refine lw_gs_t rfl rfl rfl (fun hc => ?_) (fun hc => ?_) <;> (first | replace hc := of_decide_eq_true hc | replace hc := of_decide_eq_false hc | replace hc := dec_nT hc | replace hc := dec_nF hc | skip) <;> (try (exfalso; omega))) | (refine lw_gs_f rfl rfl rfl (fun hc => ?_) (fun hc => ?_) <;> (first | replace hc := of_decide_eq_true hc | replace hc := of_decide_eq_false hc | replace hc := dec_nT hc | replace hc := dec_nF hc | skip) <;> (try (exfalso; omega)))) | ((refine is_bin ?_; first | (refine lw_pure rfl (pv_lss rfl rfl) ?_) | (refine lw_pure rfl (pv_geq rfl rfl) ?_))) | (refine lw_pure rfl (pv_pick_t rfl rfl rfl) ?_) | (refine lw_pure rfl (pv_pick_f rfl rfl rfl) ?_) | (refine lw_pure rfl (pv_pick_t rfl (by first | assumption | exact decide_eq_true (by omega) | exact dec_notT (by omega)) rfl) ?_) | (refine lw_pure rfl (pv_pick_f rfl (by first | assumption | exact decide_eq_false (by omega) | exact dec_notF (by omega)) rfl) ?_) | (refine lw_pure rfl (pv_pick rfl rfl rfl) ?_) | (refine is_cw ?_; refine cw_split rfl (fun hc => ?_) (fun hc => ?_) <;> (first | replace hc := of_decide_eq_true hc | replace hc := of_decide_eq_false hc | replace hc := dec_nT hc | replace hc := dec_nF hc | skip) <;> (try (exfalso; omega))))
    exact qw_ret1 rfl rfl ⟨rfl, hw⟩
set_option maxRecDepth 20000 in
theorem fitsL_c (n : Int) (w : World) : Calls Tryz.prog 24 #[.int .i64 n] w fun e w' => e = .returned (.bool (decide (0 ≤ n ∧ n ≤ 1125899906842624))) ∧ Below w.heap.size w w' := by
  have hw := Below.refl w.heap.size w
  refine fn_enter 9 Tryz.func24 rfl rfl rfl ?_
  by_cases h1 : 0 ≤ n
  · by_cases h2 : n ≤ 1125899906842624
    · rw [decide_eq_true ⟨h1, h2⟩]
      repeat' (first | (refine lw_pure rfl (pv_move rfl) ?_) | (refine lw_pure rfl (pv_assign rfl) ?_) | (refine is_cw ?_; first | (refine cw_seq ?_) | (refine cw_region ?_) | (refine cw_ret ?_)) | (refine is_qw ?_; first | (with_reducible refine qw_then ?_) | (with_reducible refine qw_then_ret ?_)) | (refine lw_nil ?_) | (refine is_guarded ?_; first | (refine lw_not rfl rfl rfl rfl ?_) | (refine lw_not_u rfl rfl rfl ?_) | (refine lw_on rfl rfl rfl ?_) | (refine lw_on rfl rfl (by first | assumption | exact decide_eq_true (by omega) | exact decide_eq_false (by omega) | exact dec_notT (by omega) | exact dec_notF (by omega)) ?_) | (refine lw_not rfl rfl rfl (by first | assumption | exact decide_eq_true (by omega) | exact decide_eq_false (by omega) | exact dec_notT (by omega) | exact dec_notF (by omega)) ?_) | (refine lw_gs_t rfl rfl rfl (fun hc => ?_) (fun hc => ?_) <;> (first | replace hc := of_decide_eq_true hc | replace hc := of_decide_eq_false hc | replace hc := dec_nT hc | replace hc := dec_nF hc | skip) <;> (try (exfalso; omega))) | (refine lw_gs_f rfl rfl rfl (fun hc => ?_) (fun hc => ?_) <;> (first | replace hc := of_decide_eq_true hc | replace hc := of_decide_eq_false hc | replace hc := dec_nT hc | replace hc := dec_nF hc | skip) <;> (try (exfalso; omega)))) | ((refine is_bin ?_; first | (refine lw_pure rfl (pv_leq rfl rfl) ?_) | (refine lw_pure rfl (pv_geq rfl rfl) ?_))) | (refine lw_pure rfl (pv_pick_t rfl rfl rfl) ?_) | (refine lw_pure rfl (pv_pick_f rfl rfl rfl) ?_) | (refine lw_pure rfl (pv_pick_t rfl (by first | assumption | exact decide_eq_true (by omega) | exact dec_notT (by omega)) rfl) ?_) | (refine lw_pure rfl (pv_pick_f rfl (by first | assumption | exact decide_eq_false (by omega) | exact dec_notF (by omega)) rfl) ?_) | (refine lw_pure rfl (pv_pick rfl rfl rfl) ?_) | (refine is_cw ?_; refine cw_split rfl (fun hc => ?_) (fun hc => ?_) <;> (first | replace hc := of_decide_eq_true hc | replace hc := of_decide_eq_false hc | replace hc := dec_nT hc | replace hc := dec_nF hc | skip) <;> (try (exfalso; omega))))
      exact qw_ret1 rfl rfl ⟨by rw [decide_eq_true h2], hw⟩
    · rw [decide_eq_false (by omega)]
      repeat' (first | (refine lw_pure rfl (pv_move rfl) ?_) | (refine lw_pure rfl (pv_assign rfl) ?_) | (refine is_cw ?_; first | (refine cw_seq ?_) | (refine cw_region ?_) | (refine cw_ret ?_)) | (refine is_qw ?_; first | (with_reducible refine qw_then ?_) | (with_reducible refine qw_then_ret ?_)) | (refine lw_nil ?_) | (refine is_guarded ?_; first | (refine lw_not rfl rfl rfl rfl ?_) | (refine lw_not_u rfl rfl rfl ?_) | (refine lw_on rfl rfl rfl ?_) | (refine lw_on rfl rfl (by first | assumption | exact decide_eq_true (by omega) | exact decide_eq_false (by omega) | exact dec_notT (by omega) | exact dec_notF (by omega)) ?_) | (refine lw_not rfl rfl rfl (by first | assumption | exact decide_eq_true (by omega) | exact decide_eq_false (by omega) | exact dec_notT (by omega) | exact dec_notF (by omega)) ?_) | (refine lw_gs_t rfl rfl rfl (fun hc => ?_) (fun hc => ?_) <;> (first | replace hc := of_decide_eq_true hc | replace hc := of_decide_eq_false hc | replace hc := dec_nT hc | replace hc := dec_nF hc | skip) <;> (try (exfalso; omega))) | (refine lw_gs_f rfl rfl rfl (fun hc => ?_) (fun hc => ?_) <;> (first | replace hc := of_decide_eq_true hc | replace hc := of_decide_eq_false hc | replace hc := dec_nT hc | replace hc := dec_nF hc | skip) <;> (try (exfalso; omega)))) | ((refine is_bin ?_; first | (refine lw_pure rfl (pv_leq rfl rfl) ?_) | (refine lw_pure rfl (pv_geq rfl rfl) ?_))) | (refine lw_pure rfl (pv_pick_t rfl rfl rfl) ?_) | (refine lw_pure rfl (pv_pick_f rfl rfl rfl) ?_) | (refine lw_pure rfl (pv_pick_t rfl (by first | assumption | exact decide_eq_true (by omega) | exact dec_notT (by omega)) rfl) ?_) | (refine lw_pure rfl (pv_pick_f rfl (by first | assumption | exact decide_eq_false (by omega) | exact dec_notF (by omega)) rfl) ?_) | (refine lw_pure rfl (pv_pick rfl rfl rfl) ?_) | (refine is_cw ?_; refine cw_split rfl (fun hc => ?_) (fun hc => ?_) <;> (first | replace hc := of_decide_eq_true hc | replace hc := of_decide_eq_false hc | replace hc := dec_nT hc | replace hc := dec_nF hc | skip) <;> (try (exfalso; omega))))
      exact qw_ret1 rfl rfl ⟨by rw [decide_eq_false h2], hw⟩
  · rw [decide_eq_false (by omega)]
    repeat' (first | (refine lw_pure rfl (pv_move rfl) ?_) | (refine lw_pure rfl (pv_assign rfl) ?_) | (refine is_cw ?_; first | (refine cw_seq ?_) | (refine cw_region ?_) | (refine cw_ret ?_)) | (refine is_qw ?_; first | (with_reducible refine qw_then ?_) | (with_reducible refine qw_then_ret ?_)) | (refine lw_nil ?_) | (refine is_guarded ?_; first | (refine lw_not rfl rfl rfl rfl ?_) | (refine lw_not_u rfl rfl rfl ?_) | (refine lw_on rfl rfl rfl ?_) | (refine lw_on rfl rfl (by first | assumption | exact decide_eq_true (by omega) | exact decide_eq_false (by omega) | exact dec_notT (by omega) | exact dec_notF (by omega)) ?_) | (refine lw_not rfl rfl rfl (by first | assumption | exact decide_eq_true (by omega) | exact decide_eq_false (by omega) | exact dec_notT (by omega) | exact dec_notF (by omega)) ?_) | (refine lw_gs_t rfl rfl rfl (fun hc => ?_) (fun hc => ?_) <;> (first | replace hc := of_decide_eq_true hc | replace hc := of_decide_eq_false hc | replace hc := dec_nT hc | replace hc := dec_nF hc | skip) <;> (try (exfalso; omega))) | (refine lw_gs_f rfl rfl rfl (fun hc => ?_) (fun hc => ?_) <;> (first | replace hc := of_decide_eq_true hc | replace hc := of_decide_eq_false hc | replace hc := dec_nT hc | replace hc := dec_nF hc | skip) <;> (try (exfalso; omega)))) | ((refine is_bin ?_; first | (refine lw_pure rfl (pv_leq rfl rfl) ?_) | (refine lw_pure rfl (pv_geq rfl rfl) ?_))) | (refine lw_pure rfl (pv_pick_t rfl rfl rfl) ?_) | (refine lw_pure rfl (pv_pick_f rfl rfl rfl) ?_) | (refine lw_pure rfl (pv_pick_t rfl (by first | assumption | exact decide_eq_true (by omega) | exact dec_notT (by omega)) rfl) ?_) | (refine lw_pure rfl (pv_pick_f rfl (by first | assumption | exact decide_eq_false (by omega) | exact dec_notF (by omega)) rfl) ?_) | (refine lw_pure rfl (pv_pick rfl rfl rfl) ?_) | (refine is_cw ?_; refine cw_split rfl (fun hc => ?_) (fun hc => ?_) <;> (first | replace hc := of_decide_eq_true hc | replace hc := of_decide_eq_false hc | replace hc := dec_nT hc | replace hc := dec_nF hc | skip) <;> (try (exfalso; omega))))
    exact qw_ret1 rfl rfl ⟨rfl, hw⟩
theorem elemBk : ElemT Tryz.prog 56 5 1 1 := elem_of Tryz.underlying56 (by kernel_rfl) (by omega)
def kindsK : List Int := [6, 7, 13, 18, 21]
set_option maxRecDepth 20000 in
theorem kinds_c (w : World) : Calls Tryz.prog 23 #[] w fun e w' => (∃ N, e = .returned (.slice (some ⟨N, 0, none⟩) 5 5) ∧ SlR encB 1 w' (some ⟨N, 0, none⟩) 5 kindsK) ∧ Below w.heap.size w w' := by
  have hw := Below.refl w.heap.size w
  refine fn_enter 2 Tryz.func23 rfl rfl rfl ?_
  repeat' (first | (refine lw_pure rfl (pv_move rfl) ?_) | (refine lw_pure rfl (pv_assign rfl) ?_) | (refine is_cw ?_; first | (refine cw_seq ?_) | (refine cw_region ?_) | (refine cw_ret ?_)) | (refine is_qw ?_; first | (with_reducible refine qw_then ?_) | (with_reducible refine qw_then_ret ?_)) | (refine lw_nil ?_))
  refine lw_bs (vs := [.int .u8 6, .int .u8 7, .int .u8 13, .int .u8 18, .int .u8 21]) (cs := [.int .u8 6, .int .u8 7, .int .u8 13, .int .u8 18, .int .u8 21]) elemBk rfl rfl rfl (by omega) (by omega) rfl (by intro v hv; simp at hv; rcases hv with rfl | rfl | rfl | rfl | rfl <;> rfl) ?_; intro wb HB hb hz
  have HS : SlR encB 1 wb (some ⟨w.heap.size, 0, none⟩) 5 kindsK := HB.slR (xs := kindsK) encB_len rfl (by omega)
  replace hw := grow_trans hw hb
  clear hb hz
  repeat' (first | (refine lw_pure rfl (pv_move rfl) ?_) | (refine lw_pure rfl (pv_assign rfl) ?_) | (refine is_cw ?_; first | (refine cw_seq ?_) | (refine cw_region ?_) | (refine cw_ret ?_)) | (refine is_qw ?_; first | (with_reducible refine qw_then ?_) | (with_reducible refine qw_then_ret ?_)) | (refine lw_nil ?_))
  exact qw_ret1 rfl rfl ⟨⟨_, rfl, HS⟩, hw⟩
set_option maxRecDepth 20000 in
theorem indexB_c {xs : List Int} {m : Nat} {ad : Option Addr} {cap : Nat} {w : World} (v : Int) (hm : xs.length = m) (HS : SlR encB 1 w ad cap xs) : Calls Tryz.prog 43 #[.slice ad m cap, .int .u8 v] w fun e w' => (∃ i : Int, e = .returned (.int .i64 i) ∧ (i = -1 ∧ v ∉ xs ∨ 0 ≤ i ∧ v ∈ xs)) ∧ Below w.heap.size w w' := by
  subst hm
  have hw := Below.refl w.heap.size w
  have hla := HS.le
  have hma := HS.max
  refine fn_enter 19 Tryz.func43 rfl rfl rfl ?_
  repeat' (first | (refine lw_pure rfl (pv_move rfl) ?_) | (refine lw_pure rfl (pv_assign rfl) ?_) | (refine is_cw ?_; first | (refine cw_seq ?_) | (refine cw_region ?_) | (refine cw_true rfl rfl ?_) | (refine cw_false rfl rfl ?_) | (refine cw_true rfl (by first | assumption | exact decide_eq_true (by omega) | exact dec_notT (by omega)) ?_) | (refine cw_false rfl (by first | assumption | exact decide_eq_false (by omega) | exact dec_notF (by omega)) ?_) | (refine cw_skip ?_) | (refine cw_block ?_) | (refine cw_exit ?_) | (refine cw_ret ?_)) | (refine is_qw ?_; first | (with_reducible refine qw_then ?_) | (with_reducible refine qw_in ?_) | (with_reducible refine qw_in_hit ?_) | (refine qw_in_miss rfl ?_) | (with_reducible refine qw_then_exit ?_) | (with_reducible refine qw_then_ret ?_) | (with_reducible refine qw_in_ret ?_)) | (refine lw_nil ?_) | ((refine is_bin ?_; first | (refine lw_pure rfl (pv_lss rfl rfl) ?_) | (refine lw_pure rfl (pv_eql rfl rfl) ?_) | (refine lw_pure rfl (pv_inc rfl rfl (by omega)) ?_) | (refine lw_pure rfl (pv_add rfl rfl (by omega)) ?_))) | ((refine is_load ?_; first | (refine lw_pure rfl (pv_load (t1 rfl) rfl (by first | fail)) ?_) | (refine lw_pure rfl (pv_loada (tA rfl) rfl (by first | fail) (by rfl)) ?_))) | ((refine is_ia ?_; first | (refine lw_pure rfl (pv_ian (tS rfl) rfl rfl (by omega)) ?_) | (refine lw_pure rfl (pv_ia (tS rfl) rfl rfl (by omega)) ?_))) | ((refine is_bi ?_; first | (refine lw_pure rfl (pv_lenl (tS rfl) rfl) ?_) | (refine lw_pure rfl (pv_lens (tStr rfl) rfl) ?_))))
  refine cw_loop (σ := Nat) (fun k => [(0, .slice ad xs.length cap), (1, .int .u8 v), (7, .int .i64 (xs.length : Nat)), (8, .int .i64 (k : Nat))]) (fun k wr => k ≤ xs.length ∧ Below w.heap.size w wr ∧ v ∉ xs.take k) (fun k => xs.length - k) 0 (by repeat' (first | exact trivial | refine ⟨rfl, ?_⟩)) ⟨Nat.zero_le _, hw, by simp⟩ ?_
  clear hw
  rintro k wr ⟨hk, hw, hn⟩
  by_cases hlt : k < xs.length
  · have hxk : xs[k]? = some xs[k] := List.getElem?_eq_getElem hlt
    have hmem := List.getElem_mem hlt
    obtain ⟨ab, ao, rfl, -, -⟩ := HS.at (by intro h; rw [h] at hlt; simp at hlt)
    generalize xs[k] = x at hxk hmem
    by_cases hv : v = x
    · repeat' (first | (refine lw_pure rfl (pv_move rfl) ?_) | (refine lw_pure rfl (pv_assign rfl) ?_) | (refine is_cw ?_; first | (refine cw_seq ?_) | (refine cw_region ?_) | (refine cw_true rfl rfl ?_) | (refine cw_false rfl rfl ?_) | (refine cw_true rfl (by first | assumption | exact decide_eq_true (by omega) | exact dec_notT (by omega)) ?_) | (refine cw_false rfl (by first | assumption | exact decide_eq_false (by omega) | exact dec_notF (by omega)) ?_) | (refine cw_skip ?_) | (refine cw_block ?_) | (refine cw_exit ?_) | (refine cw_ret ?_)) | (refine is_qw ?_; first | (with_reducible refine qw_then ?_) | (with_reducible refine qw_in ?_) | (with_reducible refine qw_in_hit ?_) | (refine qw_in_miss rfl ?_) | (with_reducible refine qw_then_exit ?_) | (with_reducible refine qw_then_ret ?_) | (with_reducible refine qw_in_ret ?_)) | (refine lw_nil ?_) | ((refine is_bin ?_; first | (refine lw_pure rfl (pv_lss rfl rfl) ?_) | (refine lw_pure rfl (pv_eql rfl rfl) ?_) | (refine lw_pure rfl (pv_inc rfl rfl (by omega)) ?_) | (refine lw_pure rfl (pv_add rfl rfl (by omega)) ?_))) | ((refine is_load ?_; first | (refine lw_pure rfl (pv_load (t1 rfl) rfl (by first | exact SlR.ld (HS.mono hw) hxk rfl | exact SlR.ld1 (HS.mono hw) hxk rfl)) ?_) | (refine lw_pure rfl (pv_loada (tA rfl) rfl (by first | exact SlR.lda (HS.mono hw) hxk) (by rfl)) ?_))) | ((refine is_ia ?_; first | (refine lw_pure rfl (pv_ian (tS rfl) rfl rfl (by omega)) ?_) | (refine lw_pure rfl (pv_ia (tS rfl) rfl rfl (by omega)) ?_))) | ((refine is_bi ?_; first | (refine lw_pure rfl (pv_lenl (tS rfl) rfl) ?_) | (refine lw_pure rfl (pv_lens (tStr rfl) rfl) ?_))))
      exact qw_ret1 rfl rfl ⟨⟨_, rfl, Or.inr ⟨by omega, hv ▸ hmem⟩⟩, hw⟩
    · repeat' (first | (refine lw_pure rfl (pv_move rfl) ?_) | (refine lw_pure rfl (pv_assign rfl) ?_) | (refine is_cw ?_; first | (refine cw_seq ?_) | (refine cw_region ?_) | (refine cw_true rfl rfl ?_) | (refine cw_false rfl rfl ?_) | (refine cw_true rfl (by first | assumption | exact decide_eq_true (by omega) | exact dec_notT (by omega)) ?_) | (refine cw_false rfl (by first | assumption | exact decide_eq_false (by omega) | exact dec_notF (by omega)) ?_) | (refine cw_skip ?_) | (refine cw_block ?_) | (refine cw_exit ?_) | (refine cw_ret ?_)) | (refine is_qw ?_; first | (with_reducible refine qw_then ?_) | (with_reducible refine qw_in ?_) | (with_reducible refine qw_in_hit ?_) | (refine qw_in_miss rfl ?_) | (with_reducible refine qw_then_exit ?_) | (with_reducible refine qw_then_ret ?_) | (with_reducible refine qw_in_ret ?_)) | (refine lw_nil ?_) | ((refine is_bin ?_; first | (refine lw_pure rfl (pv_lss rfl rfl) ?_) | (refine lw_pure rfl (pv_eql rfl rfl) ?_) | (refine lw_pure rfl (pv_inc rfl rfl (by omega)) ?_) | (refine lw_pure rfl (pv_add rfl rfl (by omega)) ?_))) | ((refine is_load ?_; first | (refine lw_pure rfl (pv_load (t1 rfl) rfl (by first | exact SlR.ld (HS.mono hw) hxk rfl | exact SlR.ld1 (HS.mono hw) hxk rfl)) ?_) | (refine lw_pure rfl (pv_loada (tA rfl) rfl (by first | exact SlR.lda (HS.mono hw) hxk) (by rfl)) ?_))) | ((refine is_ia ?_; first | (refine lw_pure rfl (pv_ian (tS rfl) rfl rfl (by omega)) ?_) | (refine lw_pure rfl (pv_ia (tS rfl) rfl rfl (by omega)) ?_))) | ((refine is_bi ?_; first | (refine lw_pure rfl (pv_lenl (tS rfl) rfl) ?_) | (refine lw_pure rfl (pv_lens (tStr rfl) rfl) ?_))))
      refine qw_round (k + 1) (by repeat' (first | exact trivial | refine ⟨rfl, ?_⟩)) ⟨by omega, hw, ?_⟩ (by omega)
      rw [List.take_add_one, hxk]
      simp only [Option.toList, List.mem_append, List.mem_singleton, not_or]
      exact ⟨hn, hv⟩
  · have hkl : k = xs.length := by omega
    subst hkl
    rw [List.take_length] at hn
    repeat' (first | (refine lw_pure rfl (pv_move rfl) ?_) | (refine lw_pure rfl (pv_assign rfl) ?_) | (refine is_cw ?_; first | (refine cw_seq ?_) | (refine cw_region ?_) | (refine cw_true rfl rfl ?_) | (refine cw_false rfl rfl ?_) | (refine cw_true rfl (by first | assumption | exact decide_eq_true (by omega) | exact dec_notT (by omega)) ?_) | (refine cw_false rfl (by first | assumption | exact decide_eq_false (by omega) | exact dec_notF (by omega)) ?_) | (refine cw_skip ?_) | (refine cw_block ?_) | (refine cw_exit ?_) | (refine cw_ret ?_)) | (refine is_qw ?_; first | (with_reducible refine qw_then ?_) | (with_reducible refine qw_in ?_) | (with_reducible refine qw_in_hit ?_) | (refine qw_in_miss rfl ?_) | (with_reducible refine qw_then_exit ?_) | (with_reducible refine qw_then_ret ?_) | (with_reducible refine qw_in_ret ?_)) | (refine lw_nil ?_) | ((refine is_bin ?_; first | (refine lw_pure rfl (pv_lss rfl rfl) ?_) | (refine lw_pure rfl (pv_eql rfl rfl) ?_) | (refine lw_pure rfl (pv_inc rfl rfl (by omega)) ?_) | (refine lw_pure rfl (pv_add rfl rfl (by omega)) ?_))) | ((refine is_load ?_; first | (refine lw_pure rfl (pv_load (t1 rfl) rfl (by first | fail)) ?_) | (refine lw_pure rfl (pv_loada (tA rfl) rfl (by first | fail) (by rfl)) ?_))) | ((refine is_ia ?_; first | (refine lw_pure rfl (pv_ian (tS rfl) rfl rfl (by omega)) ?_) | (refine lw_pure rfl (pv_ia (tS rfl) rfl rfl (by omega)) ?_))) | ((refine is_bi ?_; first | (refine lw_pure rfl (pv_lenl (tS rfl) rfl) ?_) | (refine lw_pure rfl (pv_lens (tStr rfl) rfl) ?_))))
    exact qw_ret1 rfl rfl ⟨⟨_, rfl, Or.inl ⟨rfl, hn⟩⟩, hw⟩
theorem kind_mem (v : Int) : (v ∈ kindsK) ↔ kindB v = true := by unfold kindsK kindB; simp
set_option maxRecDepth 20000 in
theorem containsK_c {N : Nat} {w : World} (v : Int) (HS : SlR encB 1 w (some ⟨N, 0, none⟩) 5 kindsK) : Calls Tryz.prog 22 #[.slice (some ⟨N, 0, none⟩) 5 5, .int .u8 v] w fun e w' => e = .returned (.bool (kindB v)) ∧ Below w.heap.size w w' := by
  have hw := Below.refl w.heap.size w
  refine fn_enter 9 Tryz.func22 rfl rfl rfl ?_
  repeat' (first | (refine lw_pure rfl (pv_move rfl) ?_) | (refine lw_pure rfl (pv_assign rfl) ?_) | (refine is_cw ?_; first | (refine cw_seq ?_) | (refine cw_region ?_) | (refine cw_ret ?_)) | (refine is_qw ?_; first | (with_reducible refine qw_then ?_) | (with_reducible refine qw_then_ret ?_)) | (refine lw_nil ?_) | ((refine is_bin ?_; first | (refine lw_pure rfl (pv_geq rfl rfl) ?_))))
  refine lw_call (f := 43) (by kernel_rfl) rfl rfl (indexB_c v rfl (HS.mono hw)) ?_; rintro e w1 ⟨⟨i, rfl, hi⟩, hb⟩; refine ⟨_, rfl, ?_⟩; replace hw := grow_trans hw hb; clear hb
  rw [kind_mem] at hi
  rcases hi with ⟨rfl, h⟩ | ⟨h0, h⟩
  · rw [show kindB v = false from by simpa using h]
    repeat' (first | (refine lw_pure rfl (pv_move rfl) ?_) | (refine lw_pure rfl (pv_assign rfl) ?_) | (refine is_cw ?_; first | (refine cw_seq ?_) | (refine cw_region ?_) | (refine cw_ret ?_)) | (refine is_qw ?_; first | (with_reducible refine qw_then ?_) | (with_reducible refine qw_then_ret ?_)) | (refine lw_nil ?_) | ((refine is_bin ?_; first | (refine lw_pure rfl (pv_geq rfl rfl) ?_))))
    exact qw_ret1 rfl rfl ⟨rfl, hw⟩
  · rw [h]
    repeat' (first | (refine lw_pure rfl (pv_move rfl) ?_) | (refine lw_pure rfl (pv_assign rfl) ?_) | (refine is_cw ?_; first | (refine cw_seq ?_) | (refine cw_region ?_) | (refine cw_ret ?_)) | (refine is_qw ?_; first | (with_reducible refine qw_then ?_) | (with_reducible refine qw_then_ret ?_)) | (refine lw_nil ?_) | ((refine is_bin ?_; first | (refine lw_pure rfl (pv_geq rfl rfl) ?_))))
    exact qw_ret1 rfl rfl ⟨by rw [decide_eq_true h0], hw⟩
end Go.Proofs.YtnffmbfdfhokeaaGreatDoor
namespace Go.Proofs.YtnffmbfdfhokeaaGreatDoor
open Go.RowKit Go.PlainAid

theorem elemLn : ElemT Tryz.prog 22 37 5 40 := elem_of Tryz.underlying22 (by kernel_rfl) (by omega)
theorem zN (w : World) : (zeroValue 37).run Tryz.prog w = .ok (.agg (encN ⟨0, 0, 0, 0, 0⟩).toArray) w := by kernel_rfl
set_option maxRecDepth 20000 in
theorem clone_N {xs : List Ln} {m : Nat} {ad : Option Addr} {cap : Nat} {w : World} (hm : xs.length = m) (HS : SlR encN 5 w ad cap xs) (hl : xs.length ≤ 1048576) : Calls Tryz.prog 29 #[.slice ad m cap] w fun e w' => (∃ v, e = .returned v ∧ Own encN 5 37 w.heap.size w' v xs) ∧ Below w.heap.size w w' := by
  subst hm
  have hw := Below.refl w.heap.size w
  refine fn_enter 8 Tryz.func29 rfl rfl rfl ?_
  cases ad with
  | none =>
    obtain ⟨rfl, rfl⟩ := HS.ofNone rfl
    repeat' (first | (refine lw_pure rfl (pv_move rfl) ?_) | (refine lw_pure rfl (pv_assign rfl) ?_) | (refine lw_pure rfl (pv_slnil (tS rfl) rfl rfl) ?_) | (refine is_cw ?_; first | (refine cw_seq ?_) | (refine cw_region ?_) | (refine cw_true rfl rfl ?_) | (refine cw_false rfl rfl ?_) | (refine cw_true rfl (by first | assumption | exact decide_eq_true (by omega) | exact dec_notT (by omega)) ?_) | (refine cw_false rfl (by first | assumption | exact decide_eq_false (by omega) | exact dec_notF (by omega)) ?_) | (refine cw_skip ?_) | (refine cw_ret ?_)) | (refine is_qw ?_; first | (with_reducible refine qw_then ?_) | (with_reducible refine qw_then_ret ?_)) | (refine lw_nil ?_) | ((refine is_bin ?_; first | (refine lw_pure rfl (pv_eql rfl rfl) ?_))))
    exact qw_ret1 rfl rfl ⟨⟨_, rfl, Own.nil _⟩, hw⟩
  | some ad =>
    repeat' (first | (refine lw_pure rfl (pv_move rfl) ?_) | (refine lw_pure rfl (pv_assign rfl) ?_) | (refine lw_pure rfl (pv_slnil (tS rfl) rfl rfl) ?_) | (refine is_cw ?_; first | (refine cw_seq ?_) | (refine cw_region ?_) | (refine cw_true rfl rfl ?_) | (refine cw_false rfl rfl ?_) | (refine cw_true rfl (by first | assumption | exact decide_eq_true (by omega) | exact dec_notT (by omega)) ?_) | (refine cw_false rfl (by first | assumption | exact decide_eq_false (by omega) | exact dec_notF (by omega)) ?_) | (refine cw_skip ?_) | (refine cw_ret ?_)) | (refine is_qw ?_; first | (with_reducible refine qw_then ?_) | (with_reducible refine qw_then_ret ?_)) | (refine lw_nil ?_) | ((refine is_bin ?_; first | (refine lw_pure rfl (pv_eql rfl rfl) ?_))))
    refine lw_bs0 (enc := encN) elemLn rfl ?_; intro wn hO hb hz
    repeat' (first | (refine lw_pure rfl (pv_move rfl) ?_) | (refine lw_pure rfl (pv_assign rfl) ?_) | (refine is_cw ?_; first | (refine cw_seq ?_) | (refine cw_region ?_) | (refine cw_true rfl rfl ?_) | (refine cw_false rfl rfl ?_) | (refine cw_true rfl (by first | assumption | exact decide_eq_true (by omega) | exact dec_notT (by omega)) ?_) | (refine cw_false rfl (by first | assumption | exact decide_eq_false (by omega) | exact dec_notF (by omega)) ?_) | (refine cw_skip ?_) | (refine cw_ret ?_)) | (refine is_qw ?_; first | (with_reducible refine qw_then ?_) | (with_reducible refine qw_then_ret ?_)) | (refine lw_nil ?_) | ((refine is_bin ?_; first | (refine lw_pure rfl (pv_eql rfl rfl) ?_))))
    refine lw_app elemLn encN_len encN_one rfl rfl rfl hO (HS.mono (grow_trans hw hb)) rfl (by omega) (by simp; omega) (by simp [maxLen]; omega) ?_; intro vm wn hOm hg hb9
    replace hb := hb.trans hb9
    repeat' (first | (refine lw_pure rfl (pv_move rfl) ?_) | (refine lw_pure rfl (pv_assign rfl) ?_) | (refine is_cw ?_; first | (refine cw_seq ?_) | (refine cw_region ?_) | (refine cw_true rfl rfl ?_) | (refine cw_false rfl rfl ?_) | (refine cw_true rfl (by first | assumption | exact decide_eq_true (by omega) | exact dec_notT (by omega)) ?_) | (refine cw_false rfl (by first | assumption | exact decide_eq_false (by omega) | exact dec_notF (by omega)) ?_) | (refine cw_skip ?_) | (refine cw_ret ?_)) | (refine is_qw ?_; first | (with_reducible refine qw_then ?_) | (with_reducible refine qw_then_ret ?_)) | (refine lw_nil ?_) | ((refine is_bin ?_; first | (refine lw_pure rfl (pv_eql rfl rfl) ?_))))
    exact qw_ret1 rfl rfl ⟨⟨_, rfl, hOm⟩, hb⟩

set_option maxRecDepth 20000 in
theorem indexf_N {xs : List Ln} {m : Nat} {ad : Option Addr} {cap : Nat} {w : World} (base : Nat) (p : Ln → Bool) (F : FuncId) (caps : Array Value) (he : entersB Tryz.prog F = true) (hbw : base ≤ w.heap.size) (hF : ∀ x, x ∈ xs → ∀ w', Below base w w' → Calls Tryz.prog F (#[] ++ [Value.agg (encN x).toArray].toArray ++ caps) w' fun e w'' => e = .returned (.bool (p x)) ∧ Below w'.heap.size w' w'') (hm : xs.length = m) (HS : SlR encN 5 w ad cap xs) : Calls Tryz.prog 70 #[.slice ad m cap, .func (.func F) #[] caps] w fun e w' => (∃ i, e = .returned (.int .i64 i) ∧ ((i = -1 ∧ ∀ x ∈ xs, p x = false) ∨ ∃ (k : Nat) (r : Ln), i = k ∧ xs[k]? = some r ∧ p r = true ∧ ∀ x ∈ xs.take k, p x = false)) ∧ Below w.heap.size w w' := by
  subst hm
  have hw := Below.refl w.heap.size w
  have hla := HS.le
  have hma := HS.max
  refine fn_enter 19 Tryz.func70 rfl rfl rfl ?_
  repeat' (first | (refine lw_pure rfl (pv_move rfl) ?_) | (refine lw_pure rfl (pv_assign rfl) ?_) | (refine is_cw ?_; first | (refine cw_seq ?_) | (refine cw_region ?_) | (refine cw_true rfl rfl ?_) | (refine cw_false rfl rfl ?_) | (refine cw_true rfl (by first | assumption | exact decide_eq_true (by omega) | exact dec_notT (by omega)) ?_) | (refine cw_false rfl (by first | assumption | exact decide_eq_false (by omega) | exact dec_notF (by omega)) ?_) | (refine cw_skip ?_) | (refine cw_block ?_) | (refine cw_exit ?_) | (refine cw_ret ?_)) | (refine is_qw ?_; first | (with_reducible refine qw_then ?_) | (with_reducible refine qw_in ?_) | (with_reducible refine qw_in_hit ?_) | (refine qw_in_miss rfl ?_) | (with_reducible refine qw_then_exit ?_) | (with_reducible refine qw_then_ret ?_) | (with_reducible refine qw_in_ret ?_)) | (refine lw_nil ?_) | ((refine is_bin ?_; first | (refine lw_pure rfl (pv_lss rfl rfl) ?_) | (refine lw_pure rfl (pv_inc rfl rfl (by omega)) ?_) | (refine lw_pure rfl (pv_add rfl rfl (by omega)) ?_))) | ((refine is_load ?_; first | (refine lw_pure rfl (pv_load (t1 rfl) rfl (by first | fail)) ?_) | (refine lw_pure rfl (pv_loada (tA rfl) rfl (by first | fail) (by rfl)) ?_))) | ((refine is_ia ?_; first | (refine lw_pure rfl (pv_ian (tS rfl) rfl rfl (by omega)) ?_) | (refine lw_pure rfl (pv_ia (tS rfl) rfl rfl (by omega)) ?_))) | ((refine is_bi ?_; first | (refine lw_pure rfl (pv_lenl (tS rfl) rfl) ?_) | (refine lw_pure rfl (pv_lens (tStr rfl) rfl) ?_))))
  refine cw_loop (σ := Nat) (fun k => [(0, .slice ad xs.length cap), (1, .func (.func F) #[] caps), (7, .int .i64 (xs.length : Nat)), (8, .int .i64 (k : Nat))]) (fun k wr => k ≤ xs.length ∧ Below w.heap.size w wr ∧ ∀ x ∈ xs.take k, p x = false) (fun k => xs.length - k) 0 (by repeat' (first | exact trivial | refine ⟨rfl, ?_⟩)) ⟨Nat.zero_le _, hw, by simp⟩ ?_
  clear hw
  rintro k wr ⟨hk, hw, hn⟩
  by_cases hlt : k < xs.length
  · have hxk : xs[k]? = some xs[k] := List.getElem?_eq_getElem hlt
    have hmem := List.getElem_mem hlt
    obtain ⟨ab, ao, rfl, -, -⟩ := HS.at (by intro h; rw [h] at hlt; simp at hlt)
    generalize xs[k] = x at hxk hmem
    repeat' (first | (refine lw_pure rfl (pv_move rfl) ?_) | (refine lw_pure rfl (pv_assign rfl) ?_) | (refine is_cw ?_; first | (refine cw_seq ?_) | (refine cw_region ?_) | (refine cw_true rfl rfl ?_) | (refine cw_false rfl rfl ?_) | (refine cw_true rfl (by first | assumption | exact decide_eq_true (by omega) | exact dec_notT (by omega)) ?_) | (refine cw_false rfl (by first | assumption | exact decide_eq_false (by omega) | exact dec_notF (by omega)) ?_) | (refine cw_skip ?_) | (refine cw_block ?_) | (refine cw_exit ?_) | (refine cw_ret ?_)) | (refine is_qw ?_; first | (with_reducible refine qw_then ?_) | (with_reducible refine qw_in ?_) | (with_reducible refine qw_in_hit ?_) | (refine qw_in_miss rfl ?_) | (with_reducible refine qw_then_exit ?_) | (with_reducible refine qw_then_ret ?_) | (with_reducible refine qw_in_ret ?_)) | (refine lw_nil ?_) | ((refine is_bin ?_; first | (refine lw_pure rfl (pv_lss rfl rfl) ?_) | (refine lw_pure rfl (pv_inc rfl rfl (by omega)) ?_) | (refine lw_pure rfl (pv_add rfl rfl (by omega)) ?_))) | ((refine is_load ?_; first | (refine lw_pure rfl (pv_load (t1 rfl) rfl (by first | exact SlR.ld (HS.mono hw) hxk rfl | exact SlR.ld1 (HS.mono hw) hxk rfl)) ?_) | (refine lw_pure rfl (pv_loada (tA rfl) rfl (by first | exact SlR.lda (HS.mono hw) hxk) (by rfl)) ?_))) | ((refine is_ia ?_; first | (refine lw_pure rfl (pv_ian (tS rfl) rfl rfl (by omega)) ?_) | (refine lw_pure rfl (pv_ia (tS rfl) rfl rfl (by omega)) ?_))) | ((refine is_bi ?_; first | (refine lw_pure rfl (pv_lenl (tS rfl) rfl) ?_) | (refine lw_pure rfl (pv_lens (tStr rfl) rfl) ?_))))
    refine lw_callv (f := F) rfl he rfl rfl (hF x hmem _ (hw.mono hbw)) ?_; rintro e w1 ⟨rfl, hb⟩; refine ⟨_, rfl, ?_⟩; replace hw := grow_trans hw hb; clear hb
    cases hp : p x with
    | true =>
      repeat' (first | (refine lw_pure rfl (pv_move rfl) ?_) | (refine lw_pure rfl (pv_assign rfl) ?_) | (refine is_cw ?_; first | (refine cw_seq ?_) | (refine cw_region ?_) | (refine cw_true rfl rfl ?_) | (refine cw_false rfl rfl ?_) | (refine cw_true rfl (by first | assumption | exact decide_eq_true (by omega) | exact dec_notT (by omega)) ?_) | (refine cw_false rfl (by first | assumption | exact decide_eq_false (by omega) | exact dec_notF (by omega)) ?_) | (refine cw_skip ?_) | (refine cw_block ?_) | (refine cw_exit ?_) | (refine cw_ret ?_)) | (refine is_qw ?_; first | (with_reducible refine qw_then ?_) | (with_reducible refine qw_in ?_) | (with_reducible refine qw_in_hit ?_) | (refine qw_in_miss rfl ?_) | (with_reducible refine qw_then_exit ?_) | (with_reducible refine qw_then_ret ?_) | (with_reducible refine qw_in_ret ?_)) | (refine lw_nil ?_) | ((refine is_bin ?_; first | (refine lw_pure rfl (pv_lss rfl rfl) ?_) | (refine lw_pure rfl (pv_inc rfl rfl (by omega)) ?_) | (refine lw_pure rfl (pv_add rfl rfl (by omega)) ?_))) | ((refine is_load ?_; first | (refine lw_pure rfl (pv_load (t1 rfl) rfl (by first | fail)) ?_) | (refine lw_pure rfl (pv_loada (tA rfl) rfl (by first | fail) (by rfl)) ?_))) | ((refine is_ia ?_; first | (refine lw_pure rfl (pv_ian (tS rfl) rfl rfl (by omega)) ?_) | (refine lw_pure rfl (pv_ia (tS rfl) rfl rfl (by omega)) ?_))) | ((refine is_bi ?_; first | (refine lw_pure rfl (pv_lenl (tS rfl) rfl) ?_) | (refine lw_pure rfl (pv_lens (tStr rfl) rfl) ?_))))
      exact qw_ret1 rfl rfl ⟨⟨_, rfl, Or.inr ⟨k, x, rfl, hxk, hp, hn⟩⟩, hw⟩
    | false =>
      repeat' (first | (refine lw_pure rfl (pv_move rfl) ?_) | (refine lw_pure rfl (pv_assign rfl) ?_) | (refine is_cw ?_; first | (refine cw_seq ?_) | (refine cw_region ?_) | (refine cw_true rfl rfl ?_) | (refine cw_false rfl rfl ?_) | (refine cw_true rfl (by first | assumption | exact decide_eq_true (by omega) | exact dec_notT (by omega)) ?_) | (refine cw_false rfl (by first | assumption | exact decide_eq_false (by omega) | exact dec_notF (by omega)) ?_) | (refine cw_skip ?_) | (refine cw_block ?_) | (refine cw_exit ?_) | (refine cw_ret ?_)) | (refine is_qw ?_; first | (with_reducible refine qw_then ?_) | (with_reducible refine qw_in ?_) | (with_reducible refine qw_in_hit ?_) | (refine qw_in_miss rfl ?_) | (with_reducible refine qw_then_exit ?_) | (with_reducible refine qw_then_ret ?_) | (with_reducible refine qw_in_ret ?_)) | (refine lw_nil ?_) | ((refine is_bin ?_; first | (refine lw_pure rfl (pv_lss rfl rfl) ?_) | (refine lw_pure rfl (pv_inc rfl rfl (by omega)) ?_) | (refine lw_pure rfl (pv_add rfl rfl (by omega)) ?_))) | ((refine is_load ?_; first | (refine lw_pure rfl (pv_load (t1 rfl) rfl (by first | fail)) ?_) | (refine lw_pure rfl (pv_loada (tA rfl) rfl (by first | fail) (by rfl)) ?_))) | ((refine is_ia ?_; first | (refine lw_pure rfl (pv_ian (tS rfl) rfl rfl (by omega)) ?_) | (refine lw_pure rfl (pv_ia (tS rfl) rfl rfl (by omega)) ?_))) | ((refine is_bi ?_; first | (refine lw_pure rfl (pv_lenl (tS rfl) rfl) ?_) | (refine lw_pure rfl (pv_lens (tStr rfl) rfl) ?_))))
      refine qw_round (k + 1) (by repeat' (first | exact trivial | refine ⟨rfl, ?_⟩)) ⟨by omega, hw, ?_⟩ (by omega)
      intro y hy
      rw [List.take_add_one, hxk] at hy
      rcases List.mem_append.1 hy with hy | hy
      · exact hn y hy
      · simp at hy; subst hy; exact hp
  · have hkl : k = xs.length := by omega
    subst hkl
    rw [List.take_length] at hn
    repeat' (first | (refine lw_pure rfl (pv_move rfl) ?_) | (refine lw_pure rfl (pv_assign rfl) ?_) | (refine is_cw ?_; first | (refine cw_seq ?_) | (refine cw_region ?_) | (refine cw_true rfl rfl ?_) | (refine cw_false rfl rfl ?_) | (refine cw_true rfl (by first | assumption | exact decide_eq_true (by omega) | exact dec_notT (by omega)) ?_) | (refine cw_false rfl (by first | assumption | exact decide_eq_false (by omega) | exact dec_notF (by omega)) ?_) | (refine cw_skip ?_) | (refine cw_block ?_) | (refine cw_exit ?_) | (refine cw_ret ?_)) | (refine is_qw ?_; first | (with_reducible refine qw_then ?_) | (with_reducible refine qw_in ?_) | (with_reducible refine qw_in_hit ?_) | (refine qw_in_miss rfl ?_) | (with_reducible refine qw_then_exit ?_) | (with_reducible refine qw_then_ret ?_) | (with_reducible refine qw_in_ret ?_)) | (refine lw_nil ?_) | ((refine is_bin ?_; first | (refine lw_pure rfl (pv_lss rfl rfl) ?_) | (refine lw_pure rfl (pv_inc rfl rfl (by omega)) ?_) | (refine lw_pure rfl (pv_add rfl rfl (by omega)) ?_))) | ((refine is_load ?_; first | (refine lw_pure rfl (pv_load (t1 rfl) rfl (by first | fail)) ?_) | (refine lw_pure rfl (pv_loada (tA rfl) rfl (by first | fail) (by rfl)) ?_))) | ((refine is_ia ?_; first | (refine lw_pure rfl (pv_ian (tS rfl) rfl rfl (by omega)) ?_) | (refine lw_pure rfl (pv_ia (tS rfl) rfl rfl (by omega)) ?_))) | ((refine is_bi ?_; first | (refine lw_pure rfl (pv_lenl (tS rfl) rfl) ?_) | (refine lw_pure rfl (pv_lens (tStr rfl) rfl) ?_))))
    exact qw_ret1 rfl rfl ⟨⟨_, rfl, Or.inl ⟨rfl, hn⟩⟩, hw⟩

set_option maxRecDepth 20000 in
set_option maxHeartbeats 1000000 in
theorem delf_N {xs : List Ln} {v : Value} {w : World} (base : Nat) (p : Ln → Bool) (F : FuncId) (caps : Array Value) (he : entersB Tryz.prog F = true) (hbw : base ≤ w.heap.size) (hF : ∀ x, x ∈ xs → ∀ w', Below base w w' → Calls Tryz.prog F (#[] ++ [Value.agg (encN x).toArray].toArray ++ caps) w' fun e w'' => e = .returned (.bool (p x)) ∧ Below w'.heap.size w' w'') (hO : Own encN 5 37 base w v xs) : Calls Tryz.prog 39 #[v, .func (.func F) #[] caps] w fun e w' => (∃ v', e = .returned v' ∧ Own encN 5 37 base w' v' (xs.filter fun x => !p x)) ∧ Below base w w' := by
  have hw := Below.refl w.heap.size w
  obtain ⟨ad, cap, rfl, HS, hbase⟩ := Own.slR encN_len hO
  have hla := HS.le
  have hma := HS.max
  refine fn_enter 42 Tryz.func39 rfl rfl rfl ?_
  repeat' (first | (refine lw_pure rfl (pv_move rfl) ?_) | (refine lw_pure rfl (pv_assign rfl) ?_) | (refine is_cw ?_; first | (refine cw_seq ?_) | (refine cw_region ?_) | (refine cw_true rfl rfl ?_) | (refine cw_false rfl rfl ?_) | (refine cw_true rfl (by first | assumption | exact decide_eq_true (by omega) | exact dec_notT (by omega)) ?_) | (refine cw_false rfl (by first | assumption | exact decide_eq_false (by omega) | exact dec_notF (by omega)) ?_) | (refine cw_skip ?_) | (refine cw_block ?_) | (refine cw_exit ?_) | (refine cw_ret ?_)) | (refine is_qw ?_; first | (with_reducible refine qw_then ?_) | (with_reducible refine qw_in ?_) | (with_reducible refine qw_in_hit ?_) | (refine qw_in_miss rfl ?_) | (with_reducible refine qw_then_exit ?_) | (with_reducible refine qw_then_ret ?_) | (with_reducible refine qw_in_ret ?_)) | (refine lw_nil ?_) | ((refine is_bin ?_; first | (refine lw_pure rfl (pv_lss rfl rfl) ?_) | (refine lw_pure rfl (pv_eql rfl rfl) ?_) | (refine lw_pure rfl (pv_inc rfl rfl (by omega)) ?_) | (refine lw_pure rfl (pv_add rfl rfl (by omega)) ?_))) | ((refine is_load ?_; first | (refine lw_pure rfl (pv_load (t1 rfl) rfl (by first | fail)) ?_) | (refine lw_pure rfl (pv_loada (tA rfl) rfl (by first | fail) (by rfl)) ?_))) | ((refine is_ia ?_; first | (refine lw_pure rfl (pv_ian (tS rfl) rfl rfl (by omega)) ?_) | (refine lw_pure rfl (pv_ia (tS rfl) rfl rfl (by omega)) ?_))) | ((refine is_un ?_; first | (refine lw_pure rfl (pv_not rfl) ?_))) | ((refine is_bi ?_; first | (refine lw_pure rfl (pv_lenl (tS rfl) rfl) ?_) | (refine lw_pure rfl (pv_lens (tStr rfl) rfl) ?_))) | (refine lw_pure rfl (pv_slice_l (tS rfl) rfl rfl (by omega)) ?_) | (refine lw_pure rfl (pv_slice_h (tS rfl) rfl rfl (by omega)) ?_) | (refine lw_pure rfl (pv_slice_lh (tS rfl) rfl rfl rfl (by omega)) ?_))
  refine lw_call (f := 70) (by kernel_rfl) rfl rfl (indexf_N base p F caps he hbw hF rfl HS) ?_; rintro e w1 ⟨⟨i, rfl, hi⟩, hb⟩; refine ⟨_, rfl, ?_⟩; replace hw := grow_trans hw hb; replace hO := hO.mono hb; clear hb
  rcases hi with ⟨rfl, hn⟩ | ⟨i, r, rfl, hxi, hr, hn⟩
  · repeat' (first | (refine lw_pure rfl (pv_move rfl) ?_) | (refine lw_pure rfl (pv_assign rfl) ?_) | (refine is_cw ?_; first | (refine cw_seq ?_) | (refine cw_region ?_) | (refine cw_true rfl rfl ?_) | (refine cw_false rfl rfl ?_) | (refine cw_true rfl (by first | assumption | exact decide_eq_true (by omega) | exact dec_notT (by omega)) ?_) | (refine cw_false rfl (by first | assumption | exact decide_eq_false (by omega) | exact dec_notF (by omega)) ?_) | (refine cw_skip ?_) | (refine cw_block ?_) | (refine cw_exit ?_) | (refine cw_ret ?_)) | (refine is_qw ?_; first | (with_reducible refine qw_then ?_) | (with_reducible refine qw_in ?_) | (with_reducible refine qw_in_hit ?_) | (refine qw_in_miss rfl ?_) | (with_reducible refine qw_then_exit ?_) | (with_reducible refine qw_then_ret ?_) | (with_reducible refine qw_in_ret ?_)) | (refine lw_nil ?_) | ((refine is_bin ?_; first | (refine lw_pure rfl (pv_lss rfl rfl) ?_) | (refine lw_pure rfl (pv_eql rfl rfl) ?_) | (refine lw_pure rfl (pv_inc rfl rfl (by omega)) ?_) | (refine lw_pure rfl (pv_add rfl rfl (by omega)) ?_))) | ((refine is_load ?_; first | (refine lw_pure rfl (pv_load (t1 rfl) rfl (by first | fail)) ?_) | (refine lw_pure rfl (pv_loada (tA rfl) rfl (by first | fail) (by rfl)) ?_))) | ((refine is_ia ?_; first | (refine lw_pure rfl (pv_ian (tS rfl) rfl rfl (by omega)) ?_) | (refine lw_pure rfl (pv_ia (tS rfl) rfl rfl (by omega)) ?_))) | ((refine is_un ?_; first | (refine lw_pure rfl (pv_not rfl) ?_))) | ((refine is_bi ?_; first | (refine lw_pure rfl (pv_lenl (tS rfl) rfl) ?_) | (refine lw_pure rfl (pv_lens (tStr rfl) rfl) ?_))) | (refine lw_pure rfl (pv_slice_l (tS rfl) rfl rfl (by omega)) ?_) | (refine lw_pure rfl (pv_slice_h (tS rfl) rfl rfl (by omega)) ?_) | (refine lw_pure rfl (pv_slice_lh (tS rfl) rfl rfl rfl (by omega)) ?_))
    refine qw_ret1 rfl rfl ⟨⟨_, rfl, ?_⟩, hw.mono hbw⟩
    rw [List.filter_eq_self.2 (fun x hx => by simp [hn x hx])]; exact hO
  · have hil : i < xs.length := (List.getElem?_eq_some_iff.1 hxi).1
    obtain ⟨g, rfl⟩ : ∃ g, ad = some ⟨g, 0, none⟩ := by
      cases ad with
      | none => have := (HS.ofNone rfl).1; subst this; simp at hil
      | some a =>
        obtain ⟨b, o, sp⟩ := a
        obtain ⟨h1, _⟩ := HS.ofSome _ rfl (by have := HS.le; omega)
        have h2 := (hbase _ rfl).2
        simp only at h1 h2
        exact ⟨b, by rw [h1, h2]⟩
    have hgb : base ≤ g := (hbase _ rfl).1
    replace hw := hw.mono hbw
    have hs1 : base ≤ w1.heap.size := Nat.le_trans hbw hw.size
    repeat' (first | (refine lw_pure rfl (pv_move rfl) ?_) | (refine lw_pure rfl (pv_assign rfl) ?_) | (refine is_cw ?_; first | (refine cw_seq ?_) | (refine cw_region ?_) | (refine cw_true rfl rfl ?_) | (refine cw_false rfl rfl ?_) | (refine cw_true rfl (by first | assumption | exact decide_eq_true (by omega) | exact dec_notT (by omega)) ?_) | (refine cw_false rfl (by first | assumption | exact decide_eq_false (by omega) | exact dec_notF (by omega)) ?_) | (refine cw_skip ?_) | (refine cw_block ?_) | (refine cw_exit ?_) | (refine cw_ret ?_)) | (refine is_qw ?_; first | (with_reducible refine qw_then ?_) | (with_reducible refine qw_in ?_) | (with_reducible refine qw_in_hit ?_) | (refine qw_in_miss rfl ?_) | (with_reducible refine qw_then_exit ?_) | (with_reducible refine qw_then_ret ?_) | (with_reducible refine qw_in_ret ?_)) | (refine lw_nil ?_) | ((refine is_bin ?_; first | (refine lw_pure rfl (pv_lss rfl rfl) ?_) | (refine lw_pure rfl (pv_eql rfl rfl) ?_) | (refine lw_pure rfl (pv_inc rfl rfl (by omega)) ?_) | (refine lw_pure rfl (pv_add rfl rfl (by omega)) ?_))) | ((refine is_load ?_; first | (refine lw_pure rfl (pv_load (t1 rfl) rfl (by first | fail)) ?_) | (refine lw_pure rfl (pv_loada (tA rfl) rfl (by first | fail) (by rfl)) ?_))) | ((refine is_ia ?_; first | (refine lw_pure rfl (pv_ian (tS rfl) rfl rfl (by omega)) ?_) | (refine lw_pure rfl (pv_ia (tS rfl) rfl rfl (by omega)) ?_))) | ((refine is_un ?_; first | (refine lw_pure rfl (pv_not rfl) ?_))) | ((refine is_bi ?_; first | (refine lw_pure rfl (pv_lenl (tS rfl) rfl) ?_) | (refine lw_pure rfl (pv_lens (tStr rfl) rfl) ?_))) | (refine lw_pure rfl (pv_slice_l (tS rfl) rfl rfl (by omega)) ?_) | (refine lw_pure rfl (pv_slice_h (tS rfl) rfl rfl (by omega)) ?_) | (refine lw_pure rfl (pv_slice_lh (tS rfl) rfl rfl rfl (by omega)) ?_))
    refine cw_loop (σ := (Nat × Nat) × List Ln) (fun s => [(0, .slice (some ⟨g, 0, none⟩) xs.length cap), (1, .func (.func F) #[] caps), (5, .int .i64 (s.1.1 : Nat)), (6, .int .i64 (s.1.2 : Nat))]) (fun s wr => (s.1.2 ≤ xs.length ∧ s.1.1 < s.1.2) ∧ Below base w wr ∧ Own encN 5 37 base wr (.slice (some ⟨g, 0, none⟩) xs.length cap) s.2 ∧ s.2.length = xs.length ∧ s.2.take s.1.1 = (xs.take s.1.2).filter (fun x => !p x) ∧ s.2.drop s.1.2 = xs.drop s.1.2) (fun s => xs.length - s.1.2) ((i, i + 1), xs) (by repeat' (first | exact trivial | refine ⟨rfl, ?_⟩)) ⟨⟨by show i + 1 ≤ _; omega, by show i < i + 1; omega⟩, hw, hO, rfl, ?_, rfl⟩ ?_
    · show xs.take i = _
      rw [List.take_add_one, hxi, List.filter_append, List.filter_eq_self.2 (fun x hx => by simp [hn x hx])]
      simp [hr]
    clear hw hO
    rintro ⟨⟨i, j⟩, ys⟩ wr ⟨⟨hj, hij⟩, hw, hO, hyl, hti, hdj⟩
    change CW _ _ _ _ [(0, .slice (some ⟨g, 0, none⟩) xs.length cap), (1, .func (.func F) #[] caps), (5, .int .i64 (i : Nat)), (6, .int .i64 (j : Nat))] wr
    dsimp only at hj hij hO hyl hti hdj
    rw [← hyl] at hO
    have hbr : base ≤ wr.heap.size := Nat.le_trans hbw hw.size
    by_cases hlt : j < xs.length
    · have hxj : xs[j]? = some xs[j] := List.getElem?_eq_getElem hlt
      have hyj : ys[j]? = some xs[j] := by
        have := congrArg (fun l => l[0]?) hdj
        simp only [List.getElem?_drop, Nat.add_zero] at this
        rw [this, hxj]
      have hmem := List.getElem_mem hlt
      generalize xs[j] = x at hxj hyj hmem
      obtain ⟨a', c', hv', HY, -⟩ := Own.slR encN_len hO
      injection hv' with h1 h2 h3
      subst h1 h3
      have hw0 := hw
      clear hw
      have hw := Below.refl wr.heap.size wr
      repeat' (first | (refine lw_pure rfl (pv_move rfl) ?_) | (refine lw_pure rfl (pv_assign rfl) ?_) | (refine is_cw ?_; first | (refine cw_seq ?_) | (refine cw_region ?_) | (refine cw_true rfl rfl ?_) | (refine cw_false rfl rfl ?_) | (refine cw_true rfl (by first | assumption | exact decide_eq_true (by omega) | exact dec_notT (by omega)) ?_) | (refine cw_false rfl (by first | assumption | exact decide_eq_false (by omega) | exact dec_notF (by omega)) ?_) | (refine cw_skip ?_) | (refine cw_block ?_) | (refine cw_exit ?_) | (refine cw_ret ?_)) | (refine is_qw ?_; first | (with_reducible refine qw_then ?_) | (with_reducible refine qw_in ?_) | (with_reducible refine qw_in_hit ?_) | (refine qw_in_miss rfl ?_) | (with_reducible refine qw_then_exit ?_) | (with_reducible refine qw_then_ret ?_) | (with_reducible refine qw_in_ret ?_)) | (refine lw_nil ?_) | ((refine is_bin ?_; first | (refine lw_pure rfl (pv_lss rfl rfl) ?_) | (refine lw_pure rfl (pv_eql rfl rfl) ?_) | (refine lw_pure rfl (pv_inc rfl rfl (by omega)) ?_) | (refine lw_pure rfl (pv_add rfl rfl (by omega)) ?_))) | ((refine is_load ?_; first | (refine lw_pure rfl (pv_load (t1 rfl) rfl (by first | exact SlR.ld (HY.mono hw) hyj rfl | exact SlR.ld1 (HY.mono hw) hyj rfl)) ?_) | (refine lw_pure rfl (pv_loada (tA rfl) rfl (by first | exact SlR.lda (HY.mono hw) hyj) (by rfl)) ?_))) | ((refine is_ia ?_; first | (refine lw_pure rfl (pv_ian (tS rfl) rfl rfl (by omega)) ?_) | (refine lw_pure rfl (pv_ia (tS rfl) rfl rfl (by omega)) ?_))) | ((refine is_un ?_; first | (refine lw_pure rfl (pv_not rfl) ?_))) | ((refine is_bi ?_; first | (refine lw_pure rfl (pv_lenl (tS rfl) rfl) ?_) | (refine lw_pure rfl (pv_lens (tStr rfl) rfl) ?_))) | (refine lw_pure rfl (pv_slice_l (tS rfl) rfl rfl (by omega)) ?_) | (refine lw_pure rfl (pv_slice_h (tS rfl) rfl rfl (by omega)) ?_) | (refine lw_pure rfl (pv_slice_lh (tS rfl) rfl rfl rfl (by omega)) ?_))
      refine lw_varN rfl (by first | exact tyv_27 | exact tyv_28 | exact tyv_36 | exact tyv_37 | exact tyv_68 | exact tyv_69 | exact tyv_72 | exact tyv_73 | exact tyv_79 | exact tyv_80 | exact tyv_117 | exact tyv_118 | exact tyv_130 | exact tyv_131) rfl (tZ rfl) (fun _ => rfl) rfl rfl ?_; intro N wn hN HX hb; replace hN := Nat.le_trans hw.size hN; replace hw := grow_trans hw hb; clear hb
      replace hO := hO.mono hw
      replace hw0 := hw0.trans (hw.mono hbr)
      ; clear hw; have hw := Below.refl wn.heap.size wn
      repeat' (first | (refine lw_pure rfl (pv_move rfl) ?_) | (refine lw_pure rfl (pv_assign rfl) ?_) | (refine is_cw ?_; first | (refine cw_seq ?_) | (refine cw_region ?_) | (refine cw_true rfl rfl ?_) | (refine cw_false rfl rfl ?_) | (refine cw_true rfl (by first | assumption | exact decide_eq_true (by omega) | exact dec_notT (by omega)) ?_) | (refine cw_false rfl (by first | assumption | exact decide_eq_false (by omega) | exact dec_notF (by omega)) ?_) | (refine cw_skip ?_) | (refine cw_block ?_) | (refine cw_exit ?_) | (refine cw_ret ?_)) | (refine is_qw ?_; first | (with_reducible refine qw_then ?_) | (with_reducible refine qw_in ?_) | (with_reducible refine qw_in_hit ?_) | (refine qw_in_miss rfl ?_) | (with_reducible refine qw_then_exit ?_) | (with_reducible refine qw_then_ret ?_) | (with_reducible refine qw_in_ret ?_)) | (refine lw_nil ?_) | ((refine is_bin ?_; first | (refine lw_pure rfl (pv_lss rfl rfl) ?_) | (refine lw_pure rfl (pv_eql rfl rfl) ?_) | (refine lw_pure rfl (pv_inc rfl rfl (by omega)) ?_) | (refine lw_pure rfl (pv_add rfl rfl (by omega)) ?_))) | ((refine is_load ?_; first | (refine lw_pure rfl (pv_load (t1 rfl) rfl (by first | exact PT.ld0 (HX.mono hw) rfl | exact PT.ld (HX.mono hw) rfl)) ?_) | (refine lw_pure rfl (pv_loada (tA rfl) rfl (by first | exact PT.lda (HX.mono hw)) (by rfl)) ?_))) | ((refine is_ia ?_; first | (refine lw_pure rfl (pv_ian (tS rfl) rfl rfl (by omega)) ?_) | (refine lw_pure rfl (pv_ia (tS rfl) rfl rfl (by omega)) ?_))) | ((refine is_un ?_; first | (refine lw_pure rfl (pv_not rfl) ?_))) | ((refine is_bi ?_; first | (refine lw_pure rfl (pv_lenl (tS rfl) rfl) ?_) | (refine lw_pure rfl (pv_lens (tStr rfl) rfl) ?_))) | (refine lw_pure rfl (pv_slice_l (tS rfl) rfl rfl (by omega)) ?_) | (refine lw_pure rfl (pv_slice_h (tS rfl) rfl rfl (by omega)) ?_) | (refine lw_pure rfl (pv_slice_lh (tS rfl) rfl rfl rfl (by omega)) ?_))
      refine lw_callv (f := F) rfl he rfl rfl (hF x hmem _ hw0) ?_; rintro e w2 ⟨rfl, hb⟩; refine ⟨_, rfl, ?_⟩
      replace hO := hO.mono hb
      replace HX := HX.mono hb
      replace hw0 := hw0.trans (hb.mono (Nat.le_trans hbw hw0.size))
      clear hb hw
      have hw := Below.refl w2.heap.size w2
      cases hp : p x with
      | true =>
        repeat' (first | (refine lw_pure rfl (pv_move rfl) ?_) | (refine lw_pure rfl (pv_assign rfl) ?_) | (refine is_cw ?_; first | (refine cw_seq ?_) | (refine cw_region ?_) | (refine cw_true rfl rfl ?_) | (refine cw_false rfl rfl ?_) | (refine cw_true rfl (by first | assumption | exact decide_eq_true (by omega) | exact dec_notT (by omega)) ?_) | (refine cw_false rfl (by first | assumption | exact decide_eq_false (by omega) | exact dec_notF (by omega)) ?_) | (refine cw_skip ?_) | (refine cw_block ?_) | (refine cw_exit ?_) | (refine cw_ret ?_)) | (refine is_qw ?_; first | (with_reducible refine qw_then ?_) | (with_reducible refine qw_in ?_) | (with_reducible refine qw_in_hit ?_) | (refine qw_in_miss rfl ?_) | (with_reducible refine qw_then_exit ?_) | (with_reducible refine qw_then_ret ?_) | (with_reducible refine qw_in_ret ?_)) | (refine lw_nil ?_) | ((refine is_bin ?_; first | (refine lw_pure rfl (pv_lss rfl rfl) ?_) | (refine lw_pure rfl (pv_eql rfl rfl) ?_) | (refine lw_pure rfl (pv_inc rfl rfl (by omega)) ?_) | (refine lw_pure rfl (pv_add rfl rfl (by omega)) ?_))) | ((refine is_load ?_; first | (refine lw_pure rfl (pv_load (t1 rfl) rfl (by first | fail)) ?_) | (refine lw_pure rfl (pv_loada (tA rfl) rfl (by first | fail) (by rfl)) ?_))) | ((refine is_ia ?_; first | (refine lw_pure rfl (pv_ian (tS rfl) rfl rfl (by omega)) ?_) | (refine lw_pure rfl (pv_ia (tS rfl) rfl rfl (by omega)) ?_))) | ((refine is_un ?_; first | (refine lw_pure rfl (pv_not rfl) ?_))) | ((refine is_bi ?_; first | (refine lw_pure rfl (pv_lenl (tS rfl) rfl) ?_) | (refine lw_pure rfl (pv_lens (tStr rfl) rfl) ?_))) | (refine lw_pure rfl (pv_slice_l (tS rfl) rfl rfl (by omega)) ?_) | (refine lw_pure rfl (pv_slice_h (tS rfl) rfl rfl (by omega)) ?_) | (refine lw_pure rfl (pv_slice_lh (tS rfl) rfl rfl rfl (by omega)) ?_))
        refine qw_round ((i, j + 1), ys) (by repeat' (first | exact trivial | refine ⟨rfl, ?_⟩)) ⟨⟨by show j + 1 ≤ _; omega, by show i < j + 1; omega⟩, hw0, by rw [← hyl]; exact hO, hyl, ?_, ?_⟩ (by show xs.length - (j + 1) < xs.length - j; omega)
        · show ys.take i = (xs.take (j + 1)).filter _
          rw [hti, List.take_add_one, hxj, List.filter_append]; simp [hp]
        · show ys.drop (j + 1) = xs.drop (j + 1)
          rw [← List.drop_drop, hdj, List.drop_drop]
      | false =>
        have hiy : i < ys.length := by omega
        repeat' (first | (refine lw_pure rfl (pv_move rfl) ?_) | (refine lw_pure rfl (pv_assign rfl) ?_) | (refine is_cw ?_; first | (refine cw_seq ?_) | (refine cw_region ?_) | (refine cw_true rfl rfl ?_) | (refine cw_false rfl rfl ?_) | (refine cw_true rfl (by first | assumption | exact decide_eq_true (by omega) | exact dec_notT (by omega)) ?_) | (refine cw_false rfl (by first | assumption | exact decide_eq_false (by omega) | exact dec_notF (by omega)) ?_) | (refine cw_skip ?_) | (refine cw_block ?_) | (refine cw_exit ?_) | (refine cw_ret ?_)) | (refine is_qw ?_; first | (with_reducible refine qw_then ?_) | (with_reducible refine qw_in ?_) | (with_reducible refine qw_in_hit ?_) | (refine qw_in_miss rfl ?_) | (with_reducible refine qw_then_exit ?_) | (with_reducible refine qw_then_ret ?_) | (with_reducible refine qw_in_ret ?_)) | (refine lw_nil ?_) | ((refine is_bin ?_; first | (refine lw_pure rfl (pv_lss rfl rfl) ?_) | (refine lw_pure rfl (pv_eql rfl rfl) ?_) | (refine lw_pure rfl (pv_inc rfl rfl (by omega)) ?_) | (refine lw_pure rfl (pv_add rfl rfl (by omega)) ?_))) | ((refine is_load ?_; first | (refine lw_pure rfl (pv_load (t1 rfl) rfl (by first | exact PT.ld0 (HX.mono hw) rfl | exact PT.ld (HX.mono hw) rfl)) ?_) | (refine lw_pure rfl (pv_loada (tA rfl) rfl (by first | exact PT.lda (HX.mono hw)) (by rfl)) ?_))) | ((refine is_ia ?_; first | (refine lw_pure rfl (pv_ian (tS rfl) rfl rfl (by omega)) ?_) | (refine lw_pure rfl (pv_ia (tS rfl) rfl rfl (by omega)) ?_))) | ((refine is_un ?_; first | (refine lw_pure rfl (pv_not rfl) ?_))) | ((refine is_bi ?_; first | (refine lw_pure rfl (pv_lenl (tS rfl) rfl) ?_) | (refine lw_pure rfl (pv_lens (tStr rfl) rfl) ?_))) | (refine lw_pure rfl (pv_slice_l (tS rfl) rfl rfl (by omega)) ?_) | (refine lw_pure rfl (pv_slice_h (tS rfl) rfl rfl (by omega)) ?_) | (refine lw_pure rfl (pv_slice_lh (tS rfl) rfl rfl rfl (by omega)) ?_))
        refine lw_storeO (i := i) (u := x) (tZ rfl) encN_len encN_one rfl (by omega) rfl rfl hO hiy ?_; intro w3 hO3 hg3 hz3
        replace hw0 := hw0.grown hg3 (Nat.le_trans hbw hw0.size) (by intro q hq; injection hq with hq; omega)
        repeat' (first | (refine lw_pure rfl (pv_move rfl) ?_) | (refine lw_pure rfl (pv_assign rfl) ?_) | (refine is_cw ?_; first | (refine cw_seq ?_) | (refine cw_region ?_) | (refine cw_true rfl rfl ?_) | (refine cw_false rfl rfl ?_) | (refine cw_true rfl (by first | assumption | exact decide_eq_true (by omega) | exact dec_notT (by omega)) ?_) | (refine cw_false rfl (by first | assumption | exact decide_eq_false (by omega) | exact dec_notF (by omega)) ?_) | (refine cw_skip ?_) | (refine cw_block ?_) | (refine cw_exit ?_) | (refine cw_ret ?_)) | (refine is_qw ?_; first | (with_reducible refine qw_then ?_) | (with_reducible refine qw_in ?_) | (with_reducible refine qw_in_hit ?_) | (refine qw_in_miss rfl ?_) | (with_reducible refine qw_then_exit ?_) | (with_reducible refine qw_then_ret ?_) | (with_reducible refine qw_in_ret ?_)) | (refine lw_nil ?_) | ((refine is_bin ?_; first | (refine lw_pure rfl (pv_lss rfl rfl) ?_) | (refine lw_pure rfl (pv_eql rfl rfl) ?_) | (refine lw_pure rfl (pv_inc rfl rfl (by omega)) ?_) | (refine lw_pure rfl (pv_add rfl rfl (by omega)) ?_))) | ((refine is_load ?_; first | (refine lw_pure rfl (pv_load (t1 rfl) rfl (by first | fail)) ?_) | (refine lw_pure rfl (pv_loada (tA rfl) rfl (by first | fail) (by rfl)) ?_))) | ((refine is_ia ?_; first | (refine lw_pure rfl (pv_ian (tS rfl) rfl rfl (by omega)) ?_) | (refine lw_pure rfl (pv_ia (tS rfl) rfl rfl (by omega)) ?_))) | ((refine is_un ?_; first | (refine lw_pure rfl (pv_not rfl) ?_))) | ((refine is_bi ?_; first | (refine lw_pure rfl (pv_lenl (tS rfl) rfl) ?_) | (refine lw_pure rfl (pv_lens (tStr rfl) rfl) ?_))) | (refine lw_pure rfl (pv_slice_l (tS rfl) rfl rfl (by omega)) ?_) | (refine lw_pure rfl (pv_slice_h (tS rfl) rfl rfl (by omega)) ?_) | (refine lw_pure rfl (pv_slice_lh (tS rfl) rfl rfl rfl (by omega)) ?_))
        refine qw_round ((i + 1, j + 1), ys.set i x) (by repeat' (first | exact trivial | refine ⟨rfl, ?_⟩)) ⟨⟨by show j + 1 ≤ _; omega, by show i + 1 < j + 1; omega⟩, hw0, by rw [← hyl]; exact hO3, by rw [List.length_set]; exact hyl, ?_, ?_⟩ (by show xs.length - (j + 1) < xs.length - j; omega)
        · show (ys.set i x).take (i + 1) = (xs.take (j + 1)).filter _
          rw [List.take_add_one, List.getElem?_set, if_pos rfl, if_pos hiy, List.take_set_of_le (Nat.le_refl _), hti, List.take_add_one, hxj, List.filter_append]; simp [hp]
        · show (ys.set i x).drop (j + 1) = xs.drop (j + 1)
          rw [List.drop_set_of_lt (by omega), ← List.drop_drop, hdj, List.drop_drop]
    · have hjl : j = xs.length := by omega
      subst hjl
      rw [List.take_length] at hti
      have hw0 := hw
      clear hw
      have hw := Below.refl wr.heap.size wr
      repeat' (first | (refine lw_pure rfl (pv_move rfl) ?_) | (refine lw_pure rfl (pv_assign rfl) ?_) | (refine is_cw ?_; first | (refine cw_seq ?_) | (refine cw_region ?_) | (refine cw_true rfl rfl ?_) | (refine cw_false rfl rfl ?_) | (refine cw_true rfl (by first | assumption | exact decide_eq_true (by omega) | exact dec_notT (by omega)) ?_) | (refine cw_false rfl (by first | assumption | exact decide_eq_false (by omega) | exact dec_notF (by omega)) ?_) | (refine cw_skip ?_) | (refine cw_block ?_) | (refine cw_exit ?_) | (refine cw_ret ?_)) | (refine is_qw ?_; first | (with_reducible refine qw_then ?_) | (with_reducible refine qw_in ?_) | (with_reducible refine qw_in_hit ?_) | (refine qw_in_miss rfl ?_) | (with_reducible refine qw_then_exit ?_) | (with_reducible refine qw_then_ret ?_) | (with_reducible refine qw_in_ret ?_)) | (refine lw_nil ?_) | ((refine is_bin ?_; first | (refine lw_pure rfl (pv_lss rfl rfl) ?_) | (refine lw_pure rfl (pv_eql rfl rfl) ?_) | (refine lw_pure rfl (pv_inc rfl rfl (by omega)) ?_) | (refine lw_pure rfl (pv_add rfl rfl (by omega)) ?_))) | ((refine is_load ?_; first | (refine lw_pure rfl (pv_load (t1 rfl) rfl (by first | fail)) ?_) | (refine lw_pure rfl (pv_loada (tA rfl) rfl (by first | fail) (by rfl)) ?_))) | ((refine is_ia ?_; first | (refine lw_pure rfl (pv_ian (tS rfl) rfl rfl (by omega)) ?_) | (refine lw_pure rfl (pv_ia (tS rfl) rfl rfl (by omega)) ?_))) | ((refine is_un ?_; first | (refine lw_pure rfl (pv_not rfl) ?_))) | ((refine is_bi ?_; first | (refine lw_pure rfl (pv_lenl (tS rfl) rfl) ?_) | (refine lw_pure rfl (pv_lens (tStr rfl) rfl) ?_))) | (refine lw_pure rfl (pv_slice_l (tS rfl) rfl rfl (by omega)) ?_) | (refine lw_pure rfl (pv_slice_h (tS rfl) rfl rfl (by omega)) ?_) | (refine lw_pure rfl (pv_slice_lh (tS rfl) rfl rfl rfl (by omega)) ?_))
      refine lw_clear (i := i) elemLn encN_len zN rfl rfl rfl ?_ (by rw [hyl]; simp) (by simp) hO (by omega) ?_
      · have hci : ¬ cap = i := by omega
        simp only [Int.toNat_natCast, if_neg hci, Option.map_some, Addr.add_lit, Nat.zero_add]
      intro w3 hg3 hO3
      replace hw0 := hw0.grown hg3 (Nat.le_trans hbw hw0.size) (by intro q hq; injection hq with hq; omega)
      repeat' (first | (refine lw_pure rfl (pv_move rfl) ?_) | (refine lw_pure rfl (pv_assign rfl) ?_) | (refine is_cw ?_; first | (refine cw_seq ?_) | (refine cw_region ?_) | (refine cw_true rfl rfl ?_) | (refine cw_false rfl rfl ?_) | (refine cw_true rfl (by first | assumption | exact decide_eq_true (by omega) | exact dec_notT (by omega)) ?_) | (refine cw_false rfl (by first | assumption | exact decide_eq_false (by omega) | exact dec_notF (by omega)) ?_) | (refine cw_skip ?_) | (refine cw_block ?_) | (refine cw_exit ?_) | (refine cw_ret ?_)) | (refine is_qw ?_; first | (with_reducible refine qw_then ?_) | (with_reducible refine qw_in ?_) | (with_reducible refine qw_in_hit ?_) | (refine qw_in_miss rfl ?_) | (with_reducible refine qw_then_exit ?_) | (with_reducible refine qw_then_ret ?_) | (with_reducible refine qw_in_ret ?_)) | (refine lw_nil ?_) | ((refine is_bin ?_; first | (refine lw_pure rfl (pv_lss rfl rfl) ?_) | (refine lw_pure rfl (pv_eql rfl rfl) ?_) | (refine lw_pure rfl (pv_inc rfl rfl (by omega)) ?_) | (refine lw_pure rfl (pv_add rfl rfl (by omega)) ?_))) | ((refine is_load ?_; first | (refine lw_pure rfl (pv_load (t1 rfl) rfl (by first | fail)) ?_) | (refine lw_pure rfl (pv_loada (tA rfl) rfl (by first | fail) (by rfl)) ?_))) | ((refine is_ia ?_; first | (refine lw_pure rfl (pv_ian (tS rfl) rfl rfl (by omega)) ?_) | (refine lw_pure rfl (pv_ia (tS rfl) rfl rfl (by omega)) ?_))) | ((refine is_un ?_; first | (refine lw_pure rfl (pv_not rfl) ?_))) | ((refine is_bi ?_; first | (refine lw_pure rfl (pv_lenl (tS rfl) rfl) ?_) | (refine lw_pure rfl (pv_lens (tStr rfl) rfl) ?_))) | (refine lw_pure rfl (pv_slice_l (tS rfl) rfl rfl (by omega)) ?_) | (refine lw_pure rfl (pv_slice_h (tS rfl) rfl rfl (by omega)) ?_) | (refine lw_pure rfl (pv_slice_lh (tS rfl) rfl rfl rfl (by omega)) ?_))
      refine qw_ret1 rfl rfl ⟨⟨_, rfl, ?_⟩, hw0⟩
      rw [← hti]
      simpa using hO3

set_option maxRecDepth 20000 in
theorem ofLF_c (r : Ln) (a : Int) (N1 : Nat) (w : World) (h1 : PT w N1 3 [.int .i64 a]) : Calls Tryz.prog 40 #[.agg (encN r).toArray, .pointer (some ⟨N1, 0, none⟩)] w fun e w' => e = .returned (.bool (decide (r.acct ≠ a))) ∧ Below w.heap.size w w' := by
  have hw := Below.refl w.heap.size w
  refine fn_enter 8 Tryz.func40 rfl rfl rfl ?_
  refine cw_seq (cw_region ?_)
  refine lw_boxN rfl rfl (cs := encN r) rfl ?_; intro N wn hN HA hb
  replace h1 := h1.mono hb
  have hw0 := grow_trans hw hb
  clear hb hw
  have hw := Below.refl wn.heap.size wn
  repeat' (first | (refine lw_pure rfl (pv_move rfl) ?_) | (refine lw_pure rfl (pv_assign rfl) ?_) | (refine is_cw ?_; first | (refine cw_seq ?_) | (refine cw_region ?_) | (refine cw_ret ?_)) | (refine is_qw ?_; first | (with_reducible refine qw_then ?_) | (with_reducible refine qw_then_ret ?_)) | (refine lw_nil ?_) | ((refine is_bin ?_; first | (refine lw_pure rfl (pv_neq rfl rfl) ?_))) | ((refine is_load ?_; first | (refine lw_pure rfl (pv_load (t1 rfl) rfl (by first | exact PT.ld0 (HA.mono hw) rfl | exact PT.ld (HA.mono hw) rfl | exact PT.ld0 (h1.mono hw) rfl | exact PT.ld (h1.mono hw) rfl)) ?_) | (refine lw_pure rfl (pv_loada (tA rfl) rfl (by first | exact PT.lda (HA.mono hw) | exact PT.lda (h1.mono hw)) (by rfl)) ?_))) | ((refine is_fa ?_; first | (refine lw_pure rfl (pv_fa (tF rfl) rfl) ?_))) | (refine is_cw ?_; refine cw_split rfl (fun hc => ?_) (fun hc => ?_) <;> (first | replace hc := of_decide_eq_true hc | replace hc := of_decide_eq_false hc | replace hc := dec_nT hc | replace hc := dec_nF hc | skip) <;> (try (exfalso; omega))))
  all_goals (refine qw_ret1 rfl rfl ⟨ret_bool ?_, hw0⟩; first | (simp [*]; done) | (simp; omega))
set_option maxRecDepth 20000 in
theorem ofL_c {l : List Ln} {m : Nat} {ad : Option Addr} {cap : Nat} {w : World} (a : Int) (hm : l.length = m) (HS : SlR encN 5 w ad cap l) (hl : l.length ≤ 1048576) : Calls Tryz.prog 13 #[.slice ad m cap, .int .i64 a] w fun e w' => (∃ v, e = .returned v ∧ Own encN 5 37 w.heap.size w' v (ofL l a)) ∧ Below w.heap.size w w' := by
  have hw := Below.refl w.heap.size w
  refine fn_enter 9 Tryz.func13 rfl rfl rfl ?_
  refine cw_seq (cw_region ?_)
  refine lw_boxN rfl rfl (cs := [.int .i64 a]) rfl ?_; intro N wn hN HA hb
  have hNlt := HA.lt
  replace hw := grow_trans hw hb
  replace HS := HS.mono hb
  repeat' (first | (refine lw_pure rfl (pv_move rfl) ?_) | (refine lw_pure rfl (pv_assign rfl) ?_) | (refine is_cw ?_; first | (refine cw_seq ?_) | (refine cw_region ?_) | (refine cw_ret ?_)) | (refine is_qw ?_; first | (with_reducible refine qw_then ?_) | (with_reducible refine qw_then_ret ?_)) | (refine lw_nil ?_) | (refine lw_pure rfl (pv_makeFunc rfl rfl) ?_))
  refine lw_call (f := 29) (by kernel_rfl) rfl rfl (clone_N hm HS hl) ?_; rintro e w1 ⟨⟨v, rfl, hO⟩, hb1⟩; refine ⟨_, rfl, ?_⟩
  replace HA := HA.mono hb1
  repeat' (first | (refine lw_pure rfl (pv_move rfl) ?_) | (refine lw_pure rfl (pv_assign rfl) ?_) | (refine is_cw ?_; first | (refine cw_seq ?_) | (refine cw_region ?_) | (refine cw_ret ?_)) | (refine is_qw ?_; first | (with_reducible refine qw_then ?_) | (with_reducible refine qw_then_ret ?_)) | (refine lw_nil ?_) | (refine lw_pure rfl (pv_makeFunc rfl rfl) ?_))
  refine lw_call (f := 39) (by kernel_rfl) rfl rfl (delf_N wn.heap.size (fun r => decide (r.acct ≠ a)) 40 #[.pointer (some ⟨N, 0, none⟩)] (by kernel_rfl) hb1.size (fun x _ w' h => ofLF_c x a N w' ((h.block N hNlt).trans HA)) hO) ?_; rintro e w2 ⟨⟨v', rfl, hO2⟩, hb2⟩; refine ⟨_, rfl, ?_⟩
  repeat' (first | (refine lw_pure rfl (pv_move rfl) ?_) | (refine lw_pure rfl (pv_assign rfl) ?_) | (refine is_cw ?_; first | (refine cw_seq ?_) | (refine cw_region ?_) | (refine cw_ret ?_)) | (refine is_qw ?_; first | (with_reducible refine qw_then ?_) | (with_reducible refine qw_then_ret ?_)) | (refine lw_nil ?_) | (refine lw_pure rfl (pv_makeFunc rfl rfl) ?_))
  refine qw_ret1 rfl rfl ⟨⟨_, rfl, ?_⟩, (hw.trans (hb1.mono hw.size)).trans (hb2.mono hw.size)⟩
  have e : (l.filter fun x => !decide (x.acct ≠ a)) = ofL l a := by
    unfold ofL; refine List.filter_congr fun x _ => ?_
    by_cases h : x.acct = a <;> simp [h]
  rw [← e]; exact hO2.weaken hw.size
def PageV (base : Nat) (w : World) (v : Value) (ys : List Ln) : Prop := (v = .slice none 0 0 ∧ ys = []) ∨ ∃ g cap f all, v = .slice (some ⟨g, f * 5, none⟩) ys.length (cap - f) ∧ Own encN 5 37 base w (.slice (some ⟨g, 0, none⟩) all.length cap) all ∧ ys = (all.drop f).take ys.length ∧ f < all.length
set_option maxRecDepth 20000 in
theorem pageL_c {l : List Ln} {m : Nat} {ad : Option Addr} {cap : Nat} {w : World} (a from_ n : Int) (hm : l.length = m) (HS : SlR encN 5 w ad cap l) (hl : l.length ≤ 1048576) : Calls Tryz.prog 19 #[.slice ad m cap, .int .i64 a, .int .i64 from_, .int .i64 n] w fun e w' => (∃ v, e = .returned v ∧ PageV w.heap.size w' v (pageL l a from_ n)) ∧ Below w.heap.size w w' := by
  have hw := Below.refl w.heap.size w
  refine fn_enter 34 Tryz.func19 rfl rfl rfl ?_
  repeat' (first | (refine lw_pure rfl (pv_move rfl) ?_) | (refine lw_pure rfl (pv_assign rfl) ?_) | (refine is_cw ?_; first | (refine cw_seq ?_) | (refine cw_region ?_) | (refine cw_true rfl rfl ?_) | (refine cw_false rfl rfl ?_) | (refine cw_true rfl (by first | assumption | exact decide_eq_true (by omega) | exact dec_notT (by omega)) ?_) | (refine cw_false rfl (by first | assumption | exact decide_eq_false (by omega) | exact dec_notF (by omega)) ?_) | (refine cw_skip ?_) | (refine cw_ret ?_)) | (refine is_qw ?_; first | (with_reducible refine qw_then ?_) | (with_reducible refine qw_then_ret ?_)) | (refine lw_nil ?_) | (refine is_guarded ?_; first | (refine lw_not rfl rfl rfl rfl ?_) | (refine lw_not_u rfl rfl rfl ?_) | (refine lw_on rfl rfl rfl ?_)) | ((refine is_bin ?_; first | (refine lw_pure rfl (pv_lss rfl rfl) ?_) | (refine lw_pure rfl (pv_geq rfl rfl) ?_))) | ((refine is_bi ?_; first | (refine lw_pure rfl (pv_lenl (tS rfl) rfl) ?_) | (refine lw_pure rfl (pv_lens (tStr rfl) rfl) ?_) | (refine lw_pure rfl (pv_min rfl rfl) ?_))) | (refine lw_pure rfl (pv_pick_t rfl rfl rfl) ?_) | (refine lw_pure rfl (pv_pick_f rfl rfl rfl) ?_) | (refine lw_pure rfl (pv_pick_t rfl (by first | assumption | exact decide_eq_true (by omega) | exact dec_notT (by omega)) rfl) ?_) | (refine lw_pure rfl (pv_pick_f rfl (by first | assumption | exact decide_eq_false (by omega) | exact dec_notF (by omega)) rfl) ?_) | (refine lw_pure rfl (pv_pick rfl rfl rfl) ?_) | (refine lw_pure rfl (pv_slice_l (tS rfl) rfl rfl (by omega)) ?_) | (refine lw_pure rfl (pv_slice_h (tS rfl) rfl rfl (by omega)) ?_) | (refine lw_pure rfl (pv_slice_lh (tS rfl) rfl rfl rfl (by omega)) ?_))
  refine lw_call (f := 13) (by kernel_rfl) rfl rfl (ofL_c a hm HS hl) ?_; rintro e w1 ⟨⟨v, rfl, hO⟩, hb1⟩; refine ⟨_, rfl, ?_⟩
  replace hw := hb1
  unfold pageL
  obtain ⟨ab, ac, rfl, HY, hbs⟩ := Own.slR encN_len hO
  generalize ofL l a = ys at hO HY
  have hle := HY.le
  have hmx := HY.max
  by_cases h1 : from_ < 0
  · rw [if_pos (Or.inl h1)]
    repeat' (first | (refine lw_pure rfl (pv_move rfl) ?_) | (refine lw_pure rfl (pv_assign rfl) ?_) | (refine is_cw ?_; first | (refine cw_seq ?_) | (refine cw_region ?_) | (refine cw_true rfl rfl ?_) | (refine cw_false rfl rfl ?_) | (refine cw_true rfl (by first | assumption | exact decide_eq_true (by omega) | exact dec_notT (by omega)) ?_) | (refine cw_false rfl (by first | assumption | exact decide_eq_false (by omega) | exact dec_notF (by omega)) ?_) | (refine cw_skip ?_) | (refine cw_ret ?_)) | (refine is_qw ?_; first | (with_reducible refine qw_then ?_) | (with_reducible refine qw_then_ret ?_)) | (refine lw_nil ?_) | (refine is_guarded ?_; first | (refine lw_not rfl rfl rfl rfl ?_) | (refine lw_not_u rfl rfl rfl ?_) | (refine lw_on rfl rfl rfl ?_) | (refine lw_on rfl rfl (by first | assumption | exact decide_eq_true (by omega) | exact decide_eq_false (by omega) | exact dec_notT (by omega) | exact dec_notF (by omega)) ?_) | (refine lw_not rfl rfl rfl (by first | assumption | exact decide_eq_true (by omega) | exact decide_eq_false (by omega) | exact dec_notT (by omega) | exact dec_notF (by omega)) ?_) | (refine lw_gs_t rfl rfl rfl (fun hc => ?_) (fun hc => ?_) <;> (first | replace hc := of_decide_eq_true hc | replace hc := of_decide_eq_false hc | replace hc := dec_nT hc | replace hc := dec_nF hc | skip) <;> (try (exfalso; omega))) | (refine lw_gs_f rfl rfl rfl (fun hc => ?_) (fun hc => ?_) <;> (first | replace hc := of_decide_eq_true hc | replace hc := of_decide_eq_false hc | replace hc := dec_nT hc | replace hc := dec_nF hc | skip) <;> (try (exfalso; omega)))) | ((refine is_bin ?_; first | (refine lw_pure rfl (pv_lss rfl rfl) ?_) | (refine lw_pure rfl (pv_geq rfl rfl) ?_))) | ((refine is_bi ?_; first | (refine lw_pure rfl (pv_lenl (tS rfl) rfl) ?_) | (refine lw_pure rfl (pv_lens (tStr rfl) rfl) ?_) | (refine lw_pure rfl (pv_min rfl rfl) ?_))) | (refine lw_pure rfl (pv_pick_t rfl rfl rfl) ?_) | (refine lw_pure rfl (pv_pick_f rfl rfl rfl) ?_) | (refine lw_pure rfl (pv_pick_t rfl (by first | assumption | exact decide_eq_true (by omega) | exact dec_notT (by omega)) rfl) ?_) | (refine lw_pure rfl (pv_pick_f rfl (by first | assumption | exact decide_eq_false (by omega) | exact dec_notF (by omega)) rfl) ?_) | (refine lw_pure rfl (pv_pick rfl rfl rfl) ?_) | (refine lw_pure rfl (pv_slice_l (tS rfl) rfl rfl (by omega)) ?_) | (refine lw_pure rfl (pv_slice_h (tS rfl) rfl rfl (by omega)) ?_) | (refine lw_pure rfl (pv_slice_lh (tS rfl) rfl rfl rfl (by omega)) ?_) | (refine is_cw ?_; refine cw_split rfl (fun hc => ?_) (fun hc => ?_) <;> (first | replace hc := of_decide_eq_true hc | replace hc := of_decide_eq_false hc | replace hc := dec_nT hc | replace hc := dec_nF hc | skip) <;> (try (exfalso; omega))))
    all_goals exact qw_ret1 rfl rfl ⟨⟨_, rfl, Or.inl ⟨rfl, rfl⟩⟩, hw⟩
  by_cases h2 : n < 0
  · rw [if_pos (Or.inr (Or.inl h2))]
    repeat' (first | (refine lw_pure rfl (pv_move rfl) ?_) | (refine lw_pure rfl (pv_assign rfl) ?_) | (refine is_cw ?_; first | (refine cw_seq ?_) | (refine cw_region ?_) | (refine cw_true rfl rfl ?_) | (refine cw_false rfl rfl ?_) | (refine cw_true rfl (by first | assumption | exact decide_eq_true (by omega) | exact dec_notT (by omega)) ?_) | (refine cw_false rfl (by first | assumption | exact decide_eq_false (by omega) | exact dec_notF (by omega)) ?_) | (refine cw_skip ?_) | (refine cw_ret ?_)) | (refine is_qw ?_; first | (with_reducible refine qw_then ?_) | (with_reducible refine qw_then_ret ?_)) | (refine lw_nil ?_) | (refine is_guarded ?_; first | (refine lw_not rfl rfl rfl rfl ?_) | (refine lw_not_u rfl rfl rfl ?_) | (refine lw_on rfl rfl rfl ?_) | (refine lw_on rfl rfl (by first | assumption | exact decide_eq_true (by omega) | exact decide_eq_false (by omega) | exact dec_notT (by omega) | exact dec_notF (by omega)) ?_) | (refine lw_not rfl rfl rfl (by first | assumption | exact decide_eq_true (by omega) | exact decide_eq_false (by omega) | exact dec_notT (by omega) | exact dec_notF (by omega)) ?_) | (refine lw_gs_t rfl rfl rfl (fun hc => ?_) (fun hc => ?_) <;> (first | replace hc := of_decide_eq_true hc | replace hc := of_decide_eq_false hc | replace hc := dec_nT hc | replace hc := dec_nF hc | skip) <;> (try (exfalso; omega))) | (refine lw_gs_f rfl rfl rfl (fun hc => ?_) (fun hc => ?_) <;> (first | replace hc := of_decide_eq_true hc | replace hc := of_decide_eq_false hc | replace hc := dec_nT hc | replace hc := dec_nF hc | skip) <;> (try (exfalso; omega)))) | ((refine is_bin ?_; first | (refine lw_pure rfl (pv_lss rfl rfl) ?_) | (refine lw_pure rfl (pv_geq rfl rfl) ?_))) | ((refine is_bi ?_; first | (refine lw_pure rfl (pv_lenl (tS rfl) rfl) ?_) | (refine lw_pure rfl (pv_lens (tStr rfl) rfl) ?_) | (refine lw_pure rfl (pv_min rfl rfl) ?_))) | (refine lw_pure rfl (pv_pick_t rfl rfl rfl) ?_) | (refine lw_pure rfl (pv_pick_f rfl rfl rfl) ?_) | (refine lw_pure rfl (pv_pick_t rfl (by first | assumption | exact decide_eq_true (by omega) | exact dec_notT (by omega)) rfl) ?_) | (refine lw_pure rfl (pv_pick_f rfl (by first | assumption | exact decide_eq_false (by omega) | exact dec_notF (by omega)) rfl) ?_) | (refine lw_pure rfl (pv_pick rfl rfl rfl) ?_) | (refine lw_pure rfl (pv_slice_l (tS rfl) rfl rfl (by omega)) ?_) | (refine lw_pure rfl (pv_slice_h (tS rfl) rfl rfl (by omega)) ?_) | (refine lw_pure rfl (pv_slice_lh (tS rfl) rfl rfl rfl (by omega)) ?_) | (refine is_cw ?_; refine cw_split rfl (fun hc => ?_) (fun hc => ?_) <;> (first | replace hc := of_decide_eq_true hc | replace hc := of_decide_eq_false hc | replace hc := dec_nT hc | replace hc := dec_nF hc | skip) <;> (try (exfalso; omega))))
    all_goals exact qw_ret1 rfl rfl ⟨⟨_, rfl, Or.inl ⟨rfl, rfl⟩⟩, hw⟩
  by_cases h3 : (ys.length : Int) ≤ from_
  · rw [if_pos (Or.inr (Or.inr h3))]
    repeat' (first | (refine lw_pure rfl (pv_move rfl) ?_) | (refine lw_pure rfl (pv_assign rfl) ?_) | (refine is_cw ?_; first | (refine cw_seq ?_) | (refine cw_region ?_) | (refine cw_true rfl rfl ?_) | (refine cw_false rfl rfl ?_) | (refine cw_true rfl (by first | assumption | exact decide_eq_true (by omega) | exact dec_notT (by omega)) ?_) | (refine cw_false rfl (by first | assumption | exact decide_eq_false (by omega) | exact dec_notF (by omega)) ?_) | (refine cw_skip ?_) | (refine cw_ret ?_)) | (refine is_qw ?_; first | (with_reducible refine qw_then ?_) | (with_reducible refine qw_then_ret ?_)) | (refine lw_nil ?_) | (refine is_guarded ?_; first | (refine lw_not rfl rfl rfl rfl ?_) | (refine lw_not_u rfl rfl rfl ?_) | (refine lw_on rfl rfl rfl ?_) | (refine lw_on rfl rfl (by first | assumption | exact decide_eq_true (by omega) | exact decide_eq_false (by omega) | exact dec_notT (by omega) | exact dec_notF (by omega)) ?_) | (refine lw_not rfl rfl rfl (by first | assumption | exact decide_eq_true (by omega) | exact decide_eq_false (by omega) | exact dec_notT (by omega) | exact dec_notF (by omega)) ?_) | (refine lw_gs_t rfl rfl rfl (fun hc => ?_) (fun hc => ?_) <;> (first | replace hc := of_decide_eq_true hc | replace hc := of_decide_eq_false hc | replace hc := dec_nT hc | replace hc := dec_nF hc | skip) <;> (try (exfalso; omega))) | (refine lw_gs_f rfl rfl rfl (fun hc => ?_) (fun hc => ?_) <;> (first | replace hc := of_decide_eq_true hc | replace hc := of_decide_eq_false hc | replace hc := dec_nT hc | replace hc := dec_nF hc | skip) <;> (try (exfalso; omega)))) | ((refine is_bin ?_; first | (refine lw_pure rfl (pv_lss rfl rfl) ?_) | (refine lw_pure rfl (pv_geq rfl rfl) ?_))) | ((refine is_bi ?_; first | (refine lw_pure rfl (pv_lenl (tS rfl) rfl) ?_) | (refine lw_pure rfl (pv_lens (tStr rfl) rfl) ?_) | (refine lw_pure rfl (pv_min rfl rfl) ?_))) | (refine lw_pure rfl (pv_pick_t rfl rfl rfl) ?_) | (refine lw_pure rfl (pv_pick_f rfl rfl rfl) ?_) | (refine lw_pure rfl (pv_pick_t rfl (by first | assumption | exact decide_eq_true (by omega) | exact dec_notT (by omega)) rfl) ?_) | (refine lw_pure rfl (pv_pick_f rfl (by first | assumption | exact decide_eq_false (by omega) | exact dec_notF (by omega)) rfl) ?_) | (refine lw_pure rfl (pv_pick rfl rfl rfl) ?_) | (refine lw_pure rfl (pv_slice_l (tS rfl) rfl rfl (by omega)) ?_) | (refine lw_pure rfl (pv_slice_h (tS rfl) rfl rfl (by omega)) ?_) | (refine lw_pure rfl (pv_slice_lh (tS rfl) rfl rfl rfl (by omega)) ?_) | (refine is_cw ?_; refine cw_split rfl (fun hc => ?_) (fun hc => ?_) <;> (first | replace hc := of_decide_eq_true hc | replace hc := of_decide_eq_false hc | replace hc := dec_nT hc | replace hc := dec_nF hc | skip) <;> (try (exfalso; omega))))
    all_goals exact qw_ret1 rfl rfl ⟨⟨_, rfl, Or.inl ⟨rfl, rfl⟩⟩, hw⟩
  rw [if_neg (by omega)]
  obtain ⟨f, rfl⟩ : ∃ f : Nat, from_ = (f : Int) := ⟨from_.toNat, by omega⟩
  obtain ⟨k, rfl⟩ : ∃ k : Nat, n = (k : Int) := ⟨n.toNat, by omega⟩
  have hf : f < ys.length := by omega
  obtain ⟨g, rfl⟩ : ∃ g, ab = some ⟨g, 0, none⟩ := by
    cases ab with
    | none => have := (HY.ofNone rfl).1; subst this; simp at hf
    | some q =>
      obtain ⟨b, o, sp⟩ := q
      obtain ⟨h1, _⟩ := HY.ofSome _ rfl (by omega)
      have h2 := (hbs _ rfl).2
      simp only at h1 h2
      exact ⟨b, by rw [h1, h2]⟩
  repeat' (first | (refine lw_pure rfl (pv_move rfl) ?_) | (refine lw_pure rfl (pv_assign rfl) ?_) | (refine is_cw ?_; first | (refine cw_seq ?_) | (refine cw_region ?_) | (refine cw_true rfl rfl ?_) | (refine cw_false rfl rfl ?_) | (refine cw_true rfl (by first | assumption | exact decide_eq_true (by omega) | exact dec_notT (by omega)) ?_) | (refine cw_false rfl (by first | assumption | exact decide_eq_false (by omega) | exact dec_notF (by omega)) ?_) | (refine cw_skip ?_) | (refine cw_ret ?_)) | (refine is_qw ?_; first | (with_reducible refine qw_then ?_) | (with_reducible refine qw_then_ret ?_)) | (refine lw_nil ?_) | (refine is_guarded ?_; first | (refine lw_not rfl rfl rfl rfl ?_) | (refine lw_not_u rfl rfl rfl ?_) | (refine lw_on rfl rfl rfl ?_) | (refine lw_on rfl rfl (by first | assumption | exact decide_eq_true (by omega) | exact decide_eq_false (by omega) | exact dec_notT (by omega) | exact dec_notF (by omega)) ?_) | (refine lw_not rfl rfl rfl (by first | assumption | exact decide_eq_true (by omega) | exact decide_eq_false (by omega) | exact dec_notT (by omega) | exact dec_notF (by omega)) ?_) | (refine lw_gs_t rfl rfl rfl (fun hc => ?_) (fun hc => ?_) <;> (first | replace hc := of_decide_eq_true hc | replace hc := of_decide_eq_false hc | replace hc := dec_nT hc | replace hc := dec_nF hc | skip) <;> (try (exfalso; omega))) | (refine lw_gs_f rfl rfl rfl (fun hc => ?_) (fun hc => ?_) <;> (first | replace hc := of_decide_eq_true hc | replace hc := of_decide_eq_false hc | replace hc := dec_nT hc | replace hc := dec_nF hc | skip) <;> (try (exfalso; omega)))) | ((refine is_bin ?_; first | (refine lw_pure rfl (pv_lss rfl rfl) ?_) | (refine lw_pure rfl (pv_geq rfl rfl) ?_))) | ((refine is_bi ?_; first | (refine lw_pure rfl (pv_lenl (tS rfl) rfl) ?_) | (refine lw_pure rfl (pv_lens (tStr rfl) rfl) ?_) | (refine lw_pure rfl (pv_min rfl rfl) ?_))) | (refine lw_pure rfl (pv_pick_t rfl rfl rfl) ?_) | (refine lw_pure rfl (pv_pick_f rfl rfl rfl) ?_) | (refine lw_pure rfl (pv_pick_t rfl (by first | assumption | exact decide_eq_true (by omega) | exact dec_notT (by omega)) rfl) ?_) | (refine lw_pure rfl (pv_pick_f rfl (by first | assumption | exact decide_eq_false (by omega) | exact dec_notF (by omega)) rfl) ?_) | (refine lw_pure rfl (pv_pick rfl rfl rfl) ?_) | (refine lw_pure rfl (pv_slice_l (tS rfl) rfl rfl (by omega)) ?_) | (refine lw_pure rfl (pv_slice_h (tS rfl) rfl rfl (by omega)) ?_) | (refine lw_pure rfl (pv_slice_lh (tS rfl) rfl rfl rfl (by omega)) ?_) | (refine is_cw ?_; refine cw_split rfl (fun hc => ?_) (fun hc => ?_) <;> (first | replace hc := of_decide_eq_true hc | replace hc := of_decide_eq_false hc | replace hc := dec_nT hc | replace hc := dec_nF hc | skip) <;> (try (exfalso; omega))))
  refine qw_ret1 rfl rfl ⟨⟨_, rfl, Or.inr ⟨g, ac, f, ys, ?_, hO, ?_, hf⟩⟩, hw⟩
  · have hc : ¬ ac = f := by omega
    have e1 : (if ((ys.length - f : Nat) : Int) < (k : Int) then ((ys.length - f : Nat) : Int) else (k : Int)).toNat = ((ys.drop f).take k).length := by
      rw [List.length_take, List.length_drop]
      split <;> omega
    simp only [Int.toNat_natCast, if_neg hc, Option.map_some, Addr.add_lit, Nat.zero_add, e1]
  · simp
end Go.Proofs.YtnffmbfdfhokeaaGreatDoor
namespace Go.Proofs.YtnffmbfdfhokeaaGreatDoor
open Go.RowKit

section
variable {P : Program} {ops : Array Oper} {Q : Exit → Act → World → Prop} {md : Region.Mode} {U : World → Prop} {f : Nat}
def wpAnyF (P : Program) (md : Region.Mode) (ops : Array Oper) (Q : Exit → Act → World → Prop) (f : Nat) (U : World → Prop) : Nat → Array Bool → Act → World → Prop
  | 0, listed, a, w => Region.ready md ops listed = [] ∧ Q .normal a w
  | fuel + 1, listed, a, w =>
    (Region.ready md ops listed = [] → Q .normal a w) ∧
    ∀ i ∈ Region.ready md ops listed, wpOp P ops Q i (fun a' w' => ((listed.setIfInBounds i true).getD f true = false → U w') ∧ wpAnyF P md ops Q f U fuel (listed.setIfInBounds i true) a' w') a w
theorem wpAny_of_F : ∀ (fuel : Nat) (listed : Array Bool) (a : Act) (w : World), wpAnyF P md ops Q f U fuel listed a w → wpAny P md ops Q fuel listed a w
  | 0, _, _, _, h => h
  | fuel + 1, _, _, _, h => ⟨h.1, fun i hi => wpOp_mono (fun a' w' h' => wpAny_of_F fuel _ a' w' h'.2) (h.2 i hi)⟩
theorem wpAnyF_first {i : Nat} {oi : Oper} {v : Value} (hif : i ≠ f) (hwait : ∃ o, ops[f]? = some o ∧ ∃ e ∈ o.after, Region.binds md e = true ∧ e.on = i) (hi : ops[i]? = some oi) (hsel : ∀ (j : Nat) (o : Oper) cs b, ops[j]? = some o → o.op ≠ .select cs b)
    (hQ : ∀ c a w, Q (.panic c) (a.put oi.dst v) w → Q (.panic c) a w) :
    ∀ (fuel : Nat) (listed : Array Bool) (a : Act) (w : World),
      (∀ j oj, ops[j]? = some oj → j ≠ i → listed.getD j true = false → (∀ e ∈ oj.after, Region.binds md e = true → e.on ≠ i) → oi.apart ops oj = true) →
      i ∈ Region.ready md ops listed → listed.getD f true = false → YieldsIf P ops U oi v a → U w →
      wpAnyF P md ops Q f U fuel (listed.setIfInBounds i true) (a.put oi.dst v) w → wpAnyF P md ops Q f U (fuel + 1) listed a w := by
  intro fuel
  induction fuel with
  | zero =>
    intro listed a w _ hr _ hy hS H
    refine ⟨fun h => (by rw [h] at hr; cases hr), fun j hj => ?_⟩
    by_cases hji : j = i
    · subst hji; exact hy.wpOp hi hS ⟨fun _ => hS, H⟩
    · have := ready_mono hj hji
      rw [H.1] at this
      cases this
  | succ fuel ih =>
    intro listed a w hfree hr hf hy hS H
    refine ⟨fun h => (by rw [h] at hr; cases hr), fun j hj => ?_⟩
    by_cases hji : j = i
    · subst hji; exact hy.wpOp hi hS ⟨fun _ => hS, H⟩
    · have h1 := H.2 j (ready_mono hj hji)
      obtain ⟨hjun, oj, hoj, hall⟩ := mem_ready.1 hj
      have hun : ∀ e ∈ oj.after, Region.binds md e = true → e.on ≠ i := fun e he hb heq => by
        have h1 := hall e he hb
        have h0 := (mem_ready.1 hr).1
        rw [heq] at h1
        rcases Nat.lt_or_ge i listed.size with h' | h'
        · simp [h'] at h0 h1; rw [h0] at h1; cases h1
        · simp [Array.getElem?_eq_none h'] at h1
      have hjf : j ≠ f := fun e => by
        subst e
        obtain ⟨o, ho, e, he, hb, heq⟩ := hwait
        rw [hoj] at ho; injection ho with ho; subst ho
        exact hun e he hb heq
      have h2 := wpOp_putIf hoj (hfree j oj hoj hji hjun hun) (fun cs b => hsel i oi cs b hi) (fun cs b => hsel j oj cs b hoj) hQ hy h1
      have hfree' : ∀ k ok, ops[k]? = some ok → k ≠ i → (listed.setIfInBounds j true).getD k true = false →
          (∀ e ∈ ok.after, Region.binds md e = true → e.on ≠ i) → oi.apart ops ok = true := fun k ok hk hki hun hno => by
        refine hfree k ok hk hki ?_ hno
        by_cases hjk : j = k
        · subst hjk; exact hjun
        · rw [getD_set_ne true hjk] at hun; exact hun
      refine wpOp_mono (fun a' w' h3 => ?_) h2
      have hU' : U w' := h3.2.1 (by rw [getD_set_ne true hjf, getD_set_ne true hif]; exact hf)
      refine ⟨fun _ => hU', ih (listed.setIfInBounds j true) a' w' hfree' (ready_mono hr (Ne.symm hji)) (by rw [getD_set_ne true hjf]; exact hf) h3.1 hU' ?_⟩
      rw [Array.setIfInBounds_comm _ _ hji]
      exact h3.2.2
end
def waits (ops : Array Oper) (f i : Nat) : Bool := match ops[f]? with
  | some o => o.after.toList.any fun e => Region.binds .any e && Nat.beq e.on i
  | none => false
theorem waits_of {ops : Array Oper} {f i : Nat} (h : waits ops f i = true) : ∃ o, ops[f]? = some o ∧ ∃ e ∈ o.after, Region.binds .any e = true ∧ e.on = i := by
  unfold waits at h
  cases ho : ops[f]? with
  | none => rw [ho] at h; cases h
  | some o =>
    rw [ho] at h
    rw [List.any_eq_true] at h
    obtain ⟨e, he, h2⟩ := h
    rw [Bool.and_eq_true] at h2
    exact ⟨o, rfl, e, by simpa using he, h2.1, Nat.eq_of_beq_eq_true h2.2⟩
section
variable {n : Nat} {l : Fr} {P : Program} {w : World} {Q : Exit → Act → World → Prop} {ops : Array Oper} {U : World → Prop} {fuel : Nat} {listed : Array Bool} {f : Nat}
structure FW (P : Program) (n : Nat) (ops : Array Oper) (Q : Exit → Act → World → Prop) (f : Nat) (U : World → Prop) (fuel : Nat) (listed : Array Bool) (l : Fr) (w : World) : Prop where
  out : ∀ a, Holds n l a → wpAnyF P .any ops Q f U fuel listed a w
theorem cw_drawnF {i : Nat} {ops : Array Oper} (f : Nat) (U : World → Prop) (hm : P.follows .mixedOrders = true) (hQ : NoPanic Q) (h : NoPanic Q → FW P n ops Q f U ops.size (Array.replicate ops.size false) l w.drew) : CW P n (.region i ops true) Q l w :=
  ⟨fun a ha => wp_region_any hm (wpAny_of_F _ _ _ _ ((h hQ).out a ha))⟩
theorem fw_take (i : Nat) {d : Nat} {op : Op} {ty : TypeId} {pos : String} {af : Array Edge} {v : Value} (ho : ops[i]? = some ⟨some d, op, ty, pos, af, none⟩) (hwt : waits ops f i = true) (hif : Nat.beq i f = false) (hfl : listed.getD f true = false)
    (hs : Region.noSelect ops = true) (hf : Region.free .any ops listed i = true) (hr : (Region.ready .any ops listed).contains i = true) (hQ : NoPanic Q) (hU : U w) (hd : Nat.blt d n = true)
    (hv : ∀ w, U w → Pv P n l ⟨some d, op, ty, pos, af, none⟩ v w) (h : FW P n ops Q f U fuel (listed.setIfInBounds i true) ((d, v) :: l) w) : FW P n ops Q f U (fuel + 1) listed l w := ⟨fun a ha =>
  wpAnyF_first (fun e => by subst e; simp at hif) (waits_of hwt) ho (Region.noSelect_spec hs) (fun c a w => hQ c _ v a w) fuel listed a w (Region.free_spec ho hf) (by simpa using hr) hfl (Or.inl ⟨rfl, fun w hw => (hv w hw).out a ha⟩) hU (h.out _ (ha.put hd v))⟩
theorem fw_last {o : Oper} (hr : Region.ready .any ops listed = [f]) (ho : ops[f]? = some o) (hg : guardOn ops l o.guard = true) (hd : inD o.dst n = true) (hfs : (listed.setIfInBounds f true).getD f true = true) (he : Region.ready .any ops (listed.setIfInBounds f true) = [])
    (h : Act1 P n l o w fun v w' => QW n Q .normal (putD o.dst v l) w') : FW P n ops Q f U (fuel + 1) listed l w := ⟨fun a ha => by
  refine ⟨fun h0 => (by rw [hr] at h0; cases h0), fun j hj => ?_⟩
  rw [hr, List.mem_singleton] at hj; subst hj
  unfold wpOp; rw [ho]
  dsimp only
  rw [if_pos (wanted_of ha hg)]
  refine Or.inl (h.out a ha _ _ fun v w' hZ => ⟨fun hf => (by rw [hfs] at hf; cases hf), ?_⟩)
  have hq := hZ.out _ (ha.putD hd v)
  cases fuel with
  | zero => exact ⟨he, hq⟩
  | succ m => exact ⟨fun _ => hq, by rw [he]; simp⟩⟩
theorem act_store {T t : TypeId} {N i : Nat} {cs : List Value} {v : Value} {x y : Operand} {ty : TypeId} {pos : String} {af : Array Edge} {g : Option (Nat × Bool)} {d : Option Nat} {Z : Value → World → Prop} (hp : PT w N T cs) (ht : sizeB P t 1 = true) (hx : ev l x = some (.pointer (some ⟨N, i, none⟩))) (hy : ev l y = some v) (h1 : v.oneCell' = true) (hi : i < cs.length) (h : ∀ w', PT w' N T (cs.set i v) → w.grownBy w' (some N) → w'.heap.size = w.heap.size → Z undef w') : Act1 P n l ⟨d, .store t x y, ty, pos, af, g⟩ w Z := by
  obtain ⟨w', a, b, c, e⟩ := sv_store (d := d) (ty := ty) (pos := pos) (af := af) (g := g) (P := P) (n := n) hp ht hx hy h1 hi
  exact act_sv a (h w' b c e)
theorem act_storea {T t : TypeId} {N m : Nat} {cs vs : List Value} {x y : Operand} {ty : TypeId} {pos : String} {af : Array Edge} {g : Option (Nat × Bool)} {d : Option Nat} {Z : Value → World → Prop} (hp : PT w N T cs) (ht : sizeB P t m = true) (hx : ev l x = some (.pointer (some ⟨N, 0, none⟩))) (hy : ev l y = some (.agg vs.toArray)) (hm : vs.length = m) (hc : cs.length = m) (h1 : ∀ v ∈ vs, v.oneCell' = true) (h : ∀ w', PT w' N T vs → w.grownBy w' (some N) → w'.heap.size = w.heap.size → Z undef w') : Act1 P n l ⟨d, .store t x y, ty, pos, af, g⟩ w Z := by
  obtain ⟨w', a, b, c, e⟩ := sv_storea (d := d) (ty := ty) (pos := pos) (af := af) (g := g) (P := P) (n := n) (i := 0) hp ht hx hy hm h1 (by omega)
  refine act_sv a (h w' ?_ c e)
  have e1 : cs.take 0 ++ vs ++ cs.drop (0 + m) = vs := by rw [List.drop_of_length_le (by omega)]; simp
  rwa [e1] at b
end
theorem act_alloc {P : Program} {n : Nat} {l : Fr} {w : World} {d : Option Nat} {t ty : TypeId} {pos : String} {af : Array Edge} {g : Option (Nat × Bool)} {z : Value} {Z : Value → World → Prop} (hz : ∀ w, (zeroValue t).run P w = .ok z w) {cs : List Value} (hcs : z.cells.toList = cs) (h : ∀ N w', w.heap.size ≤ N → PT w' N t cs → Below w.heap.size w w' → Z (.pointer (some ⟨N, 0, none⟩)) w') : Act1 P n l ⟨d, .alloc t, ty, pos, af, g⟩ w Z := by
  refine act_ev (ev_alloc hz) (h _ _ (Nat.le_refl _) (hcs ▸ PT.new w _ _) (below_alloc _ _))

section
variable {n : Nat} {l : Fr} {P : Program} {w : World} {Q : Exit → Act → World → Prop} {ops : Array Oper} {U : World → Prop} {fuel : Nat} {listed : Array Bool} {f : Nat}
theorem fw_act (i : Nat) {o : Oper} (hr : Region.ready .any ops listed = [i]) (ho : ops[i]? = some o) (hg : guardOn ops l o.guard = true) (hd : inD o.dst n = true)
    (h : Act1 P n l o w fun v w' => U w' ∧ (U w' → FW P n ops Q f U fuel (listed.setIfInBounds i true) (putD o.dst v l) w')) : FW P n ops Q f U (fuel + 1) listed l w := ⟨fun a ha => by
  refine ⟨fun h0 => (by rw [hr] at h0; cases h0), fun j hj => ?_⟩
  rw [hr, List.mem_singleton] at hj; subst hj
  unfold wpOp; rw [ho]
  dsimp only
  rw [if_pos (wanted_of ha hg)]
  exact Or.inl (h.out a ha _ _ fun v w' hZ => ⟨fun _ => hZ.1, (hZ.2 hZ.1).out _ (ha.putD hd v)⟩)⟩
theorem act_pv {d : Option Nat} {op : Op} {ty : TypeId} {pos : String} {af : Array Edge} {g : Option (Nat × Bool)} {v : Value} {Z : Value → World → Prop} (hv : Pv P n l ⟨d, op, ty, pos, af, g⟩ v w) (h : Z v w) : Act1 P n l ⟨d, op, ty, pos, af, g⟩ w Z := ⟨fun a ha K Q hK => by
  unfold Oper.wp; rw [hv.out a ha]; exact hK _ _ h⟩
end
theorem own_pt_ne {α : Type} {enc : α → List Value} {k : Nat} {T T' : TypeId} {B : Nat} {w : World} {v : Value} {xs : List α} {N : Nat} {cs : List Value} (h : Own enc k T B w v xs) (hp : PT w N T' cs) (hT : T ≠ T') : v.ownBlock ≠ some N := by
  obtain ⟨_, h2⟩ := h
  rcases h2 with ⟨rfl, _⟩ | ⟨g, cap, cur, rfl, _, hg, _⟩
  · simp [Value.ownBlock]
  · intro e
    have e2 : g = N := by simpa [Value.ownBlock] using e
    subst e2
    unfold PT at hp
    rw [hg] at hp; injection hp with hp; injection hp with _ hp _; exact hT hp
section
variable {α : Type} {enc : α → List Value} {k : Nat} {T t : TypeId} {base : Nat} {w : World} {g cap : Nat} {xs : List α} {P : Program} {n : Nat} {l : Fr} {Q : Exit → Act → World → Prop} {ops : Array Oper} {os : List Oper} {ty : TypeId} {pos : String} {af : Array Edge} {x y : Operand}
theorem flat_set (hk : ∀ x, (enc x).length = k) : ∀ {xs : List α} {i : Nat} {a u : α} {f : Nat} {v : Value}, xs[i]? = some a → enc u = (enc a).set f v → f < k → (xs.set i u).flatMap enc = (xs.flatMap enc).set (i * k + f) v
  | [], _, _, _, _, _, h, _, _ => by simp at h
  | b :: r, 0, a, u, f, v, h, hu, hf => by
    simp at h; subst h
    rw [List.set_cons_zero, List.flatMap_cons, List.flatMap_cons, hu, Nat.zero_mul, Nat.zero_add, List.set_append_left _ _ (by rw [hk]; exact hf)]
  | b :: r, i + 1, a, u, f, v, h, hu, hf => by
    have h' : r[i]? = some a := by simpa using h
    rw [List.set_cons_succ, List.flatMap_cons, List.flatMap_cons, flat_set hk h' hu hf, List.set_append_right _ _ (by rw [hk, Nat.add_mul]; omega), hk]
    congr 2
    rw [Nat.add_mul]; omega
theorem lw_storeF (hk : ∀ x, (enc x).length = k) (ht : sizeB P t 1 = true) {i f o : Nat} {v : Value} {a u : α} (hx : ev l x = some (.pointer (some ⟨g, o, none⟩))) (ho : o = i * k + f) (hy : ev l y = some v) (h1 : v.oneCell' = true) (hO : Own enc k T base w (.slice (some ⟨g, 0, none⟩) xs.length cap) xs) (ha : xs[i]? = some a) (hu : enc u = (enc a).set f v) (hf : f < k)
    (h : ∀ w', Own enc k T base w' (.slice (some ⟨g, 0, none⟩) xs.length cap) (xs.set i u) → w.grownBy w' (some g) → w'.heap.size = w.heap.size → LW P n ops Q os l w') : LW P n ops Q (⟨none, .store t x y, ty, pos, af, none⟩ :: os) l w := by
  subst ho
  obtain ⟨cur, hb, hg, hle, hmax, hsz, htk⟩ := Own.heap' hO
  have hi : i < xs.length := (List.getElem?_eq_some_iff.1 ha).1
  have hik : i * k + f < xs.length * k := by
    have := Nat.mul_le_mul_right k (show i + 1 ≤ xs.length from hi); rw [Nat.add_mul, Nat.one_mul] at this; omega
  have hck : xs.length * k ≤ cap * k := Nat.mul_le_mul_right k hle
  have hp : PT w g T cur.toList := by unfold PT; simpa using hg
  obtain ⟨w', a1, b1, c1, e1⟩ := sv_store (P := P) (n := n) (l := l) (d := none) (ty := ty) (pos := pos) (af := af) (g := none) hp ht hx hy h1 (by rw [Array.length_toList, hsz]; omega)
  refine lw_skip a1 (h w' ⟨by rw [flat_len enc k hk, List.length_set], Or.inr ⟨g, cap, (cur.toList.set (i * k + f) v).toArray, by rw [List.length_set], hb, b1, by rw [List.length_set]; exact hle, hmax, by simp [hsz], ?_⟩⟩ c1 e1)
  rw [List.length_set, flat_set hk ha hu hf, ← htk]
  simp only [List.take_set]
end
end Go.Proofs.YtnffmbfdfhokeaaGreatDoor
namespace Go.Proofs.YtnffmbfdfhokeaaGreatDoor
open Go.RowKit Go.PlainAid

def waitsT (ops : Array Oper) : Nat → Nat → Nat → Bool
  | 0, _, _ => false
  | m + 1, f, i => match ops[f]? with
    | some o => o.after.toList.any fun e => Region.binds .any e && (Nat.beq e.on i || waitsT ops m e.on i)
    | none => false
def ClosedL (ops : Array Oper) (listed : Array Bool) : Prop := ∀ (j : Nat) (o : Oper), ops[j]? = some o → listed.getD j false = true → ∀ e ∈ o.after, Region.binds .any e = true → listed.getD e.on false = true
def closedB (ops : Array Oper) (listed : Array Bool) : Bool := (List.range ops.size).all fun j => match ops[j]? with
  | some o => !listed.getD j false || o.after.toList.all fun e => !Region.binds .any e || listed.getD e.on false
  | none => true
theorem closed_of {ops : Array Oper} {listed : Array Bool} (h : closedB ops listed = true) : ClosedL ops listed := fun j o ho hl e he hb => by
  have hj : j < ops.size := (Array.getElem?_eq_some_iff.1 ho).1
  have h1 := List.all_eq_true.1 h j (List.mem_range.2 hj)
  rw [ho] at h1
  dsimp only at h1
  rw [hl] at h1
  simp only [Bool.not_true, Bool.false_or] at h1
  have h2 := List.all_eq_true.1 h1 e (by simpa using he)
  rw [hb] at h2
  simpa using h2
theorem ClosedL.step {ops : Array Oper} {listed : Array Bool} (h : ClosedL ops listed) {i : Nat} (hi : i ∈ Region.ready .any ops listed) : ClosedL ops (listed.setIfInBounds i true) := fun j o ho hl e he hb => by
  by_cases hij : i = j
  · subst hij
    obtain ⟨_, o', ho', hall⟩ := mem_ready.1 hi
    rw [ho] at ho'; injection ho' with ho'; subst ho'
    exact getD_set_true (hall e he hb)
  · rw [getD_set_ne false hij] at hl
    exact getD_set_true (h j o ho hl e he hb)
theorem waitsT_listed {ops : Array Oper} {listed : Array Bool} (hc : ClosedL ops listed) : ∀ {m f i : Nat}, waitsT ops m f i = true → (∀ o, ops[f]? = some o → ∀ e ∈ o.after, Region.binds .any e = true → listed.getD e.on false = true) → listed.getD i false = true
  | 0, _, _, h, _ => by cases h
  | m + 1, f, i, h, hf => by
    unfold waitsT at h
    cases ho : ops[f]? with
    | none => rw [ho] at h; cases h
    | some o =>
      rw [ho] at h
      rw [List.any_eq_true] at h
      obtain ⟨e, he, h2⟩ := h
      rw [Bool.and_eq_true] at h2
      have hl := hf o ho e (by simpa using he) h2.1
      rcases (Bool.or_eq_true _ _).mp h2.2 with h3 | h3
      · rw [← Nat.eq_of_beq_eq_true h3]; exact hl
      · exact waitsT_listed hc h3 fun o' ho' e' he' hb' => hc e.on o' ho' hl e' he' hb'
section
variable {P : Program} {ops : Array Oper} {Q : Exit → Act → World → Prop} {U : World → Prop} {f : Nat}
theorem wpAnyF_firstT {i : Nat} {oi : Oper} {v : Value} {m : Nat} (hif : i ≠ f) (hwait : waitsT ops m f i = true) (hi : ops[i]? = some oi) (hsel : ∀ (j : Nat) (o : Oper) cs b, ops[j]? = some o → o.op ≠ .select cs b)
    (hQ : ∀ c a w, Q (.panic c) (a.put oi.dst v) w → Q (.panic c) a w) :
    ∀ (fuel : Nat) (listed : Array Bool) (a : Act) (w : World), ClosedL ops listed →
      (∀ j oj, ops[j]? = some oj → j ≠ i → listed.getD j true = false → (∀ e ∈ oj.after, Region.binds .any e = true → e.on ≠ i) → oi.apart ops oj = true) →
      i ∈ Region.ready .any ops listed → listed.getD f true = false → YieldsIf P ops U oi v a → U w →
      wpAnyF P .any ops Q f U fuel (listed.setIfInBounds i true) (a.put oi.dst v) w → wpAnyF P .any ops Q f U (fuel + 1) listed a w := by
  intro fuel
  induction fuel with
  | zero =>
    intro listed a w _ _ hr _ hy hS H
    refine ⟨fun h => (by rw [h] at hr; cases hr), fun j hj => ?_⟩
    by_cases hji : j = i
    · subst hji; exact hy.wpOp hi hS ⟨fun _ => hS, H⟩
    · have := ready_mono hj hji
      rw [H.1] at this
      cases this
  | succ fuel ih =>
    intro listed a w hcl hfree hr hf hy hS H
    refine ⟨fun h => (by rw [h] at hr; cases hr), fun j hj => ?_⟩
    by_cases hji : j = i
    · subst hji; exact hy.wpOp hi hS ⟨fun _ => hS, H⟩
    · have h1 := H.2 j (ready_mono hj hji)
      obtain ⟨hjun, oj, hoj, hall⟩ := mem_ready.1 hj
      have h0 := (mem_ready.1 hr).1
      have hlt : i < listed.size := by
        rcases Nat.lt_or_ge i listed.size with h' | h'
        · exact h'
        · simp [Array.getElem?_eq_none h'] at h0
      have h00 : listed.getD i false = false := by simpa [hlt] using h0
      have hun : ∀ e ∈ oj.after, Region.binds .any e = true → e.on ≠ i := fun e he hb heq => by
        have h1 := hall e he hb
        rw [heq, h00] at h1; cases h1
      have hjf : j ≠ f := fun e => by
        subst e
        have := waitsT_listed hcl hwait fun o' ho' e' he' hb' => by
          rw [hoj] at ho'; injection ho' with ho'; subst ho'
          exact hall e' he' hb'
        rw [h00] at this; cases this
      have h2 := wpOp_putIf hoj (hfree j oj hoj hji hjun hun) (fun cs b => hsel i oi cs b hi) (fun cs b => hsel j oj cs b hoj) hQ hy h1
      have hfree' : ∀ k ok, ops[k]? = some ok → k ≠ i → (listed.setIfInBounds j true).getD k true = false →
          (∀ e ∈ ok.after, Region.binds .any e = true → e.on ≠ i) → oi.apart ops ok = true := fun k ok hk hki hun hno => by
        refine hfree k ok hk hki ?_ hno
        by_cases hjk : j = k
        · subst hjk; exact hjun
        · rw [getD_set_ne true hjk] at hun; exact hun
      refine wpOp_mono (fun a' w' h3 => ?_) h2
      have hU' : U w' := h3.2.1 (by rw [getD_set_ne true hjf, getD_set_ne true hif]; exact hf)
      refine ⟨fun _ => hU', ih (listed.setIfInBounds j true) a' w' (hcl.step hj) hfree' (ready_mono hr (Ne.symm hji)) (by rw [getD_set_ne true hjf]; exact hf) h3.1 hU' ?_⟩
      rw [Array.setIfInBounds_comm _ _ hji]
      exact h3.2.2
end
section
variable {n : Nat} {l : Fr} {P : Program} {w : World} {Q : Exit → Act → World → Prop} {ops : Array Oper} {U : World → Prop} {fuel : Nat} {listed : Array Bool} {f : Nat}
theorem fw_takeT (i m : Nat) {d : Nat} {op : Op} {ty : TypeId} {pos : String} {af : Array Edge} {v : Value} (ho : ops[i]? = some ⟨some d, op, ty, pos, af, none⟩) (hwt : waitsT ops m f i = true) (hcl : closedB ops listed = true) (hif : Nat.beq i f = false) (hfl : listed.getD f true = false)
    (hs : Region.noSelect ops = true) (hf : Region.free .any ops listed i = true) (hr : (Region.ready .any ops listed).contains i = true) (hQ : NoPanic Q) (hU : U w) (hd : Nat.blt d n = true)
    (hv : ∀ w, U w → Pv P n l ⟨some d, op, ty, pos, af, none⟩ v w) (h : FW P n ops Q f U fuel (listed.setIfInBounds i true) ((d, v) :: l) w) : FW P n ops Q f U (fuel + 1) listed l w := ⟨fun a ha =>
  wpAnyF_firstT (fun e => by subst e; simp at hif) hwt ho (Region.noSelect_spec hs) (fun c a w => hQ c _ v a w) fuel listed a w (closed_of hcl) (Region.free_spec ho hf) (by simpa using hr) hfl (Or.inl ⟨rfl, fun w hw => (hv w hw).out a ha⟩) hU (h.out _ (ha.put hd v))⟩
theorem fw_one (i : Nat) {o : Oper} (hr : Region.ready .any ops listed = [i]) (ho : ops[i]? = some o) (hg : guardOn ops l o.guard = true) (hd : inD o.dst n = true) (hfs : (listed.setIfInBounds i true).getD f true = true)
    (h : Act1 P n l o w fun v w' => FW P n ops Q f U fuel (listed.setIfInBounds i true) (putD o.dst v l) w') : FW P n ops Q f U (fuel + 1) listed l w := ⟨fun a ha => by
  refine ⟨fun h0 => (by rw [hr] at h0; cases h0), fun j hj => ?_⟩
  rw [hr, List.mem_singleton] at hj; subst hj
  unfold wpOp; rw [ho]
  dsimp only
  rw [if_pos (wanted_of ha hg)]
  exact Or.inl (h.out a ha _ _ fun v w' hZ => ⟨fun hf => (by rw [hfs] at hf; cases hf), hZ.out _ (ha.putD hd v)⟩)⟩
theorem fw_done (hr : Region.ready .any ops listed = []) (h : QW n Q .normal l w) : FW P n ops Q f U fuel listed l w := ⟨fun a ha => by
  cases fuel with
  | zero => exact ⟨hr, h.out a ha⟩
  | succ m => exact ⟨fun _ => h.out a ha, by rw [hr]; simp⟩⟩
end
section
variable {P : Program} {n : Nat} {l : Fr} {w : World} {d : Option Nat} {t t' ty : TypeId} {x y : Operand} {pos : String} {af : Array Edge} {g : Option (Nat × Bool)} {a b : Int}
theorem u64_in (a : Int) (h : 0 ≤ a ∧ a ≤ 18446744073709551615) : IntKind.u64.wrap a = a := by
  rw [IntKind.wrap_u64]; omega
theorem pv_addu (hx : ev l x = some (.int .u64 a)) (hy : ev l y = some (.int .u64 b)) (h : 0 ≤ a + b ∧ a + b ≤ 18446744073709551615) : Pv P n l ⟨d, .binOp .add t x y t', ty, pos, af, g⟩ (.int .u64 (a + b)) w := by
  have := pv_add_w (P := P) (n := n) (w := w) (d := d) (ty := ty) (pos := pos) (af := af) (g := g) (t := t) (t' := t') hx hy
  rwa [u64_in _ h] at this
theorem pv_mulu (hx : ev l x = some (.int .u64 a)) (hy : ev l y = some (.int .u64 b)) (h : 0 ≤ a * b ∧ a * b ≤ 18446744073709551615) : Pv P n l ⟨d, .binOp .mul t x y t', ty, pos, af, g⟩ (.int .u64 (a * b)) w := by
  have := pv_mul_w (P := P) (n := n) (w := w) (d := d) (ty := ty) (pos := pos) (af := af) (g := g) (t := t) (t' := t') hx hy
  rwa [u64_in _ h] at this
theorem pv_convu (ht : cvB P t t' .u64 = true) {k : IntKind} (hx : ev l x = some (.int k a)) (h : 0 ≤ a ∧ a ≤ 18446744073709551615) : Pv P n l ⟨d, .convert t t' x, ty, pos, af, g⟩ (.int .u64 a) w := by
  have := pv_conv_w (P := P) (n := n) (w := w) (d := d) (ty := ty) (pos := pos) (af := af) (g := g) ht hx
  rwa [u64_in _ h] at this
theorem u64_and32 (n : Int) : bits .and .u64 n 4294967295 = n % 4294967296 := by
  have h127 : (BitVec.ofInt 64 4294967295).toNat = 2 ^ 32 - 1 := by decide
  have key : (BitVec.ofInt 64 n &&& BitVec.ofInt 64 4294967295).toNat = (n % ((2 ^ 64 : Nat) : Int)).toNat % 2 ^ 32 := by
    rw [BitVec.toNat_and, BitVec.toNat_ofInt, h127, Nat.and_two_pow_sub_one_eq_mod]
  show IntKind.u64.wrap ((BitVec.ofInt 64 n &&& BitVec.ofInt 64 4294967295).toNat : Nat) = n % 4294967296
  rw [key, IntKind.wrap_u64]
  omega
theorem pv_and32u (hx : ev l x = some (.int .u64 a)) (hy : ev l y = some (.int .u64 4294967295)) : Pv P n l ⟨d, .binOp .and t x y t', ty, pos, af, g⟩ (.int .u64 (a % 4294967296)) w := ⟨fun A hA => by
  have h : (Op.intBits .and .u64 a 4294967295 : Sem Value) = pure (.int .u64 (a % 4294967296)) := by rw [← u64_and32 a]; rfl
  simp [execOp, hA.ev hx, hA.ev hy, eqGuard, binOp, h]⟩
theorem pv_shr32u {k' : IntKind} (hx : ev l x = some (.int .u64 a)) (hy : ev l y = some (.int k' 32)) : Pv P n l ⟨d, .binOp .shr t x y t', ty, pos, af, g⟩ (.int .u64 (a / 4294967296)) w := by
  have h := pv_shr (P := P) (n := n) (w := w) (d := d) (ty := ty) (pos := pos) (af := af) (g := g) (t := t) (t' := t') hx hy (by omega)
  have e : a.fdiv (2 ^ (min (32 : Int).toNat IntKind.u64.bits)) = a / 4294967296 := by
    rw [show ((2 : Int) ^ (min (32 : Int).toNat IntKind.u64.bits)) = 4294967296 by decide, Int.fdiv_eq_ediv_of_nonneg _ (by omega)]
  rwa [e] at h
theorem pv_half {k k' : IntKind} {m q : Nat} (hx : ev l x = some (.int k a)) (hy : ev l y = some (.int k' 1)) (ha : a = (m : Int)) (hq : m / 2 = q) (hk : 1 ≤ k.bits) : Pv P n l ⟨d, .binOp .shr t x y t', ty, pos, af, g⟩ (.int k (q : Nat)) w := by
  have h := pv_shr (P := P) (n := n) (w := w) (d := d) (ty := ty) (pos := pos) (af := af) (g := g) (t := t) (t' := t') hx hy (by omega)
  have e : a.fdiv (2 ^ (min (1 : Int).toNat k.bits)) = (q : Nat) := by
    rw [show min (1 : Int).toNat k.bits = 1 by have : (1 : Int).toNat = 1 := rfl; omega, Int.fdiv_eq_ediv_of_nonneg _ (by decide), ha, ← hq]
    omega
  rwa [e] at h
end
end Go.Proofs.YtnffmbfdfhokeaaGreatDoor
namespace Go.Proofs.YtnffmbfdfhokeaaGreatDoor
open Go.RowKit Go.PlainAid Go.Maps Go.WideMaps

def In64N (l : List Ln) : Prop := ∀ x ∈ l, (-9223372036854775808 ≤ x.acct ∧ x.acct ≤ 9223372036854775807) ∧ (-9223372036854775808 ≤ x.seq ∧ x.seq ≤ 9223372036854775807) ∧ (-9223372036854775808 ≤ x.delta ∧ x.delta ≤ 9223372036854775807) ∧ (-9223372036854775808 ≤ x.bal ∧ x.bal ≤ 9223372036854775807)
abbrev KI := { n : Int // -9223372036854775808 ≤ n ∧ n ≤ 9223372036854775807 }
def kI (q : KI) : Value := .int .i64 q.1
def vI (n : Int) : Value := .int .i64 n
theorem wf64 {n : Int} (h : -9223372036854775808 ≤ n ∧ n ≤ 9223372036854775807) : (Lit.int .i64 n).wf = true := by
  simp only [Lit.wf, Bool.and_eq_true, decide_eq_true_eq]
  exact h
theorem keyI : KeyE Tryz.prog 3 kI := ⟨int_keyed Tryz.underlying3, fun q => ⟨_, keyOf_int_mk Tryz.underlying3 (wf64 q.2)⟩, fun a b h => by
  simp only [kI, Value.int.injEq, true_and] at h
  exact Subtype.ext h⟩
theorem zI (w : World) : (zeroValue 2).run Tryz.prog w = .ok (vI 0) w := by kernel_rfl
def LastM (m : List (KI × Int)) (l : List Ln) : Prop := ∀ q : KI, (getM m q).getD 0 = balL l q.1
theorem LastM.put {m : List (KI × Int)} {l : List Ln} {x : Ln} (h : LastM m l) {q : KI} (hq : x.acct = q.1) : LastM (putM m q x.bal) (l ++ [x]) := by
  intro p
  rw [getM_put, balL_snoc]
  by_cases hp : p = q
  · subst hp; rw [if_pos rfl, if_pos hq]; rfl
  · rw [if_neg hp, if_neg (fun e => hp (Subtype.ext (by omega)))]; exact h p
theorem tailM {l : List Ln} {k : Nat} {x : Ln} (h : l[k]? = some x) : l.take (k + 1) = l.take k ++ [x] := by rw [List.take_add_one, h]; rfl
set_option maxRecDepth 20000 in
set_option maxHeartbeats 4000000 in
theorem mayL_c {l : List Ln} {m : Nat} {ad : Option Addr} {cap : Nat} {w : World} (hm : l.length = m) (HS : SlR encN 5 w ad cap l) (hin : In64N l) : Calls Tryz.prog 7 #[.slice ad m cap] w fun e w' => e = .returned (.bool (mayLn l)) ∧ Below w.heap.size w w' := by
  subst hm
  have hw := Below.refl w.heap.size w
  have hla := HS.le
  have hma := HS.max
  have HS0 := HS
  refine fn_enter 81 Tryz.func7 rfl rfl rfl ?_
  repeat' (first | (refine lw_pure rfl (pv_move rfl) ?_) | (refine lw_pure rfl (pv_assign rfl) ?_) | (refine lw_makeMap kI vI rfl ?_; intro M wm hM HM hb; replace hw := grow_trans hw hb; clear hb) | (refine is_cw ?_; first | (refine cw_seq ?_) | (refine cw_region ?_) | (refine cw_block ?_)) | (refine is_qw ?_; first | (with_reducible refine qw_then ?_)) | (refine lw_nil ?_) | ((refine is_bi ?_; first | (refine lw_pure rfl (pv_lenl (tS rfl) rfl) ?_))))
  refine cw_loop (σ := Nat × Int × List (KI × Int)) (fun s => [(0, .slice ad l.length cap), (3, .map (some M)), (4, .int .i64 s.2.1), (10, .slice ad l.length cap), (11, .int .i64 (l.length : Nat)), (12, .int .i64 (s.1 : Nat))]) (fun s wr => s.1 ≤ l.length ∧ Below w.heap.size w wr ∧ Mp kI vI wr M s.2.2 ∧ LastM s.2.2 (l.take s.1) ∧ mayLn (l.take s.1) = true ∧ s.2.1 = seqL (l.take s.1)) (fun s => l.length - s.1) (0, 0, []) (by repeat' (first | exact trivial | refine ⟨rfl, ?_⟩)) ⟨Nat.zero_le _, hw, HM, fun q => by simp [getM, balL_nil], by rw [List.take_zero]; rfl, by rw [List.take_zero]; rfl⟩ ?_
  clear hw HM
  rintro ⟨k, sq, m⟩ wr ⟨hk, hw, HM, hl, hn, hsq⟩
  replace hsq : sq = seqL (l.take k) := hsq
  replace hk : k ≤ l.length := hk
  replace hn : mayLn (l.take k) = true := hn
  replace hl : LastM m (l.take k) := hl
  replace HM : Mp kI vI wr M m := HM
  by_cases hlt : k < l.length
  · have hxk : l[k]? = some l[k] := List.getElem?_eq_getElem hlt
    obtain ⟨ab, ao, rfl, -, -⟩ := HS0.at (by intro h; rw [h] at hlt; simp at hlt)
    have hxin := hin _ (List.getElem_mem hlt)
    generalize l[k] = x at hxk hxin
    have hno : ¬ OkLn (l.take k) x → mayLn l = false := fun h => mayLn_no hxk h
    have hbal := bal_in hn x.acct
    have hlq := hl ⟨x.acct, hxin.1⟩
    have hw0 := hw
    replace HS := HS.mono hw
    clear hw
    have hw := Below.refl wr.heap.size wr
    repeat' (first | (refine is_cw ?_; first | (refine cw_seq ?_) | (refine cw_region ?_) | (refine cw_true rfl (by first | assumption | exact decide_eq_true (by omega) | exact dec_notT (by omega)) ?_) | (refine cw_skip ?_) | (refine cw_block ?_)) | (refine is_qw ?_; first | (with_reducible refine qw_then ?_)) | (refine lw_nil ?_) | ((refine is_bin ?_; first | (refine lw_pure rfl (pv_lss rfl rfl) ?_))) | ((refine is_load ?_; first | (refine lw_pure rfl (pv_loada (tA rfl) rfl (by first | exact SlR.lda (HS.mono hw) hxk) (by rfl)) ?_))) | ((refine is_ia ?_; first | (refine lw_pure rfl (pv_ian (tS rfl) rfl rfl (by omega)) ?_))))
    refine lw_varN rfl (by first | exact tyv_27 | exact tyv_28 | exact tyv_36 | exact tyv_37 | exact tyv_68 | exact tyv_69 | exact tyv_72 | exact tyv_73 | exact tyv_79 | exact tyv_80 | exact tyv_117 | exact tyv_118 | exact tyv_130 | exact tyv_131) rfl (tZ rfl) (fun _ => rfl) rfl rfl ?_; intro N6 wn hN6 HX hb; replace hN6 := Nat.le_trans hw.size hN6; replace hw := grow_trans hw hb; clear hb
    have hwx := hw0.trans (hw.mono hw0.size)
    have hMlt := HM.bound
    replace HM := HM.mono hw
    clear hw hw0
    have hw := Below.refl wn.heap.size wn
    repeat' (first | (refine lw_pure rfl (pv_move rfl) ?_) | (refine lw_pure rfl (pv_lookupM (k := (⟨x.acct, hxin.1⟩ : KI)) Tryz.underlying51 keyI zI rfl rfl (HM.mono hw)) ?_) | (refine is_cw ?_; first | (refine cw_seq ?_) | (refine cw_region ?_)) | (refine is_qw ?_; first | (with_reducible refine qw_then ?_)) | (refine lw_nil ?_) | ((refine is_load ?_; first | (refine lw_pure rfl (pv_load (t1 rfl) rfl (by first | exact PT.ld0 (HX.mono hw) rfl | exact PT.ld (HX.mono hw) rfl)) ?_))) | ((refine is_fa ?_; first | (refine lw_pure rfl (pv_fa (tF rfl) rfl) ?_))))
    refine lw_call (f := 20) (by kernel_rfl) rfl rfl (madd_c ((getM m (⟨x.acct, hxin.1⟩ : KI)).getD 0) x.delta wn (by rw [hlq]; show _ ≤ balL (l.take k) x.acct ∧ balL (l.take k) x.acct ≤ _; omega) hxin.2.2.1) ?_; rintro e w1 ⟨rfl, hb⟩; refine ⟨_, rfl, ?_⟩
    rw [hlq]
    replace hwx := grow_trans hwx hb
    replace HX := HX.mono hb
    replace HM := HM.mono hb
    clear hb hw
    have hw := Below.refl w1.heap.size w1
    show LW _ _ _ _ _ _ _
    generalize hz : balL (l.take k) x.acct + x.delta = z
    have hno7 : ¬ ((1 ≤ x.acct ∧ x.acct ≤ 64) ∧ (0 ≤ x.seq ∧ x.seq < 1048576) ∧ seqL (l.take k) ≤ x.seq) → mayLn l = false := fun h => hno fun H => h ⟨H.1, H.2.1, H.2.2.1⟩
    have hno8 : ¬ (kindB x.kind = true ∧ x.delta ≠ 0 ∧ (0 ≤ x.bal ∧ x.bal ≤ 1125899906842624)) → mayLn l = false := fun h => hno fun H => h ⟨H.2.2.2.1, H.2.2.2.2.1, H.2.2.2.2.2.1⟩
    have hno9 : ¬ z = x.bal → mayLn l = false := fun h => hno fun H => h (by rw [← hz]; exact H.2.2.2.2.2.2)
    repeat' (first | (refine lw_pure rfl (pv_move rfl) ?_) | (refine lw_pure rfl (pv_assign rfl) ?_) | (refine lw_call (f := 21) (by kernel_rfl) rfl rfl (batch_c _ _) ?_; rintro e w2 ⟨rfl, hb2⟩; refine ⟨_, rfl, ?_⟩; replace hw := grow_trans hw hb2; clear hb2) | (refine is_cw ?_; first | (refine cw_seq ?_) | (refine cw_region ?_) | (refine cw_true rfl rfl ?_) | (refine cw_skip ?_) | (refine cw_block ?_) | (refine cw_exit ?_) | (refine cw_ret ?_)) | (refine is_qw ?_; first | (with_reducible refine qw_then ?_) | (with_reducible refine qw_in ?_) | (with_reducible refine qw_in_hit ?_) | (with_reducible refine qw_then_exit ?_) | (with_reducible refine qw_then_ret ?_) | (with_reducible refine qw_in_ret ?_)) | (refine lw_nil ?_) | (refine is_guarded ?_; first | (refine lw_not rfl rfl rfl rfl ?_) | (refine lw_on rfl rfl (by first | assumption | exact decide_eq_true (by omega) | exact decide_eq_false (by omega) | exact dec_notT (by omega) | exact dec_notF (by omega)) ?_) | (refine lw_not rfl rfl rfl (by first | assumption | exact decide_eq_true (by omega) | exact decide_eq_false (by omega) | exact dec_notT (by omega) | exact dec_notF (by omega)) ?_) | (refine lw_gs_f rfl rfl rfl (fun hc => ?_) (fun hc => ?_) <;> (first | replace hc := of_decide_eq_true hc | replace hc := of_decide_eq_false hc | replace hc := dec_nT hc | replace hc := dec_nF hc | skip) <;> (try (exfalso; omega)))) | ((refine is_bin ?_; first | (refine lw_pure rfl (pv_lss rfl rfl) ?_) | (refine lw_pure rfl (pv_gtr rfl rfl) ?_))) | ((refine is_load ?_; first | (refine lw_pure rfl (pv_load (t1 rfl) rfl (by first | exact PT.ld0 (HX.mono hw) rfl | exact PT.ld (HX.mono hw) rfl)) ?_))) | ((refine is_fa ?_; first | (refine lw_pure rfl (pv_fa (tF rfl) rfl) ?_))) | ((refine is_un ?_; first | (refine lw_pure rfl (pv_not rfl) ?_))) | (refine lw_pure rfl (pv_pick_t rfl rfl rfl) ?_) | (refine lw_pure rfl (pv_pick_t rfl (by first | assumption | exact decide_eq_true (by omega) | exact dec_notT (by omega)) rfl) ?_) | (refine lw_pure rfl (pv_pick_f rfl (by first | assumption | exact decide_eq_false (by omega) | exact dec_notF (by omega)) rfl) ?_) | (refine lw_pure rfl (pv_extract rfl rfl) ?_) | (refine is_cw ?_; refine cw_split rfl (fun hc => ?_) (fun hc => ?_) <;> (first | replace hc := of_decide_eq_true hc | replace hc := of_decide_eq_false hc | replace hc := dec_nT hc | replace hc := dec_nF hc | skip) <;> (try (exfalso; omega))))
    all_goals first | (refine qw_ret1 rfl rfl ⟨ret_bool (hno7 ?_).symm, grow_trans hwx hw⟩; first | omega | (simp at *; omega)) | skip
    have h7 : (1 ≤ x.acct ∧ x.acct ≤ 64) ∧ (0 ≤ x.seq ∧ x.seq < 1048576) ∧ seqL (l.take k) ≤ x.seq := by first | omega | (simp at *; omega)
    refine cw_drawn (fun w' => Below w1.heap.size w1 w') (by kernel_rfl) (by repeat (first | exact NoPanic.body | with_reducible refine NoPanic.then ?_ | with_reducible refine NoPanic.inBlock ?_)) (fun hNP => ?_)
    have hS := hw.drew
    all_goals (refine at0 1 rfl (fun w' hq => pv_fa (tF rfl) rfl) ?_)
    all_goals (refine at0 2 rfl (fun w' hq => pv_load (t1 rfl) rfl (by first | exact PT.ld0 (HX.mono hq) rfl | exact PT.ld (HX.mono hq) rfl)) ?_)
    all_goals (refine aw_act 0 (by kernel_rfl) rfl rfl rfl ?_; refine act_call (f := 23) (by kernel_rfl) rfl (kinds_c _) ?_; rintro e w3 ⟨⟨N, rfl, HK⟩, hb⟩; refine ⟨_, rfl, grow_trans hS hb, fun hS => ?_⟩; clear hb)
    all_goals (refine aw_act 3 (by kernel_rfl) rfl rfl rfl ?_; refine act_call (f := 22) (by kernel_rfl) rfl (containsK_c x.kind HK) ?_; rintro e w4 ⟨rfl, hb⟩; refine ⟨_, rfl, grow_trans hS hb, fun hS => ?_⟩; clear hb)
    all_goals (refine at0 4 rfl (fun w' hq => pv_not rfl) ?_)
    all_goals (refine at0 5 rfl (fun w' hq => pv_move rfl) ?_)
    all_goals (refine aw_gs 6 rfl rfl rfl (by kernel_rfl) (by kernel_rfl) (by kernel_rfl) hNP hS rfl (fun hc w' hq => pv_fa (tF rfl) rfl) (fun hc => ?_) (fun hc => ?_) <;> (first | replace hc := of_decide_eq_true hc | replace hc := of_decide_eq_false hc | replace hc := dec_nT hc | replace hc := dec_nF hc | skip) <;> (try (exfalso; omega)))
    all_goals first | (refine an2 7 rfl rfl rfl ?_) | (refine at2 7 rfl rfl rfl (fun w' hq => pv_load (t1 rfl) rfl (by first | exact PT.ld0 (HX.mono hq) rfl | exact PT.ld (HX.mono hq) rfl)) ?_)
    all_goals first | (refine an2 8 rfl rfl rfl ?_) | (refine at2 8 rfl rfl rfl (fun w' hq => pv_eql rfl rfl) ?_)
    all_goals first | (refine at0 9 rfl (fun w' hq => pv_pick_t rfl (by first | assumption | exact decide_eq_true (by omega) | exact dec_notT (by omega)) rfl) ?_) | (refine at0 9 rfl (fun w' hq => pv_pick_f rfl (by first | assumption | exact decide_eq_false (by omega) | exact dec_notF (by omega)) rfl) ?_)
    all_goals (refine at0 10 rfl (fun w' hq => pv_move rfl) ?_)
    all_goals first | (refine an1 11 rfl rfl rfl rfl ?_) | (refine aw_gs 11 rfl rfl rfl (by kernel_rfl) (by kernel_rfl) (by kernel_rfl) hNP hS rfl (fun hc w' hq => pv_fa (tF rfl) rfl) (fun hc => ?_) (fun hc => ?_) <;> (first | replace hc := of_decide_eq_true hc | replace hc := of_decide_eq_false hc | replace hc := dec_nT hc | replace hc := dec_nF hc | skip) <;> (try (exfalso; omega)))
    all_goals first | (refine an1 12 rfl rfl rfl rfl ?_) | (refine an2 12 rfl rfl rfl ?_) | (refine at2 12 rfl rfl rfl (fun w' hq => pv_load (t1 rfl) rfl (by first | exact PT.ld0 (HX.mono hq) rfl | exact PT.ld (HX.mono hq) rfl)) ?_)
    all_goals first | (refine an3 13 rfl rfl rfl ?_) | (refine an0 13 rfl rfl rfl ?_) | (refine aw_act_g 13 (by kernel_rfl) rfl rfl rfl (by first | rfl | assumption | exact decide_eq_true (by omega) | exact decide_eq_false (by omega) | exact dec_notT (by omega) | exact dec_notF (by omega)) rfl ?_; refine act_call (f := 24) (by kernel_rfl) rfl (fitsL_c _ _) ?_; rintro e w5 ⟨rfl, hb⟩; refine ⟨_, rfl, grow_trans hS hb, fun hS => ?_⟩; clear hb)
    all_goals first | (refine an1 14 rfl rfl rfl rfl ?_) | (refine an2 14 rfl rfl rfl ?_) | (refine at2 14 rfl rfl rfl (fun w' hq => pv_not rfl) ?_)
    all_goals first | (refine at0 15 rfl (fun w' hq => pv_pick_t rfl rfl rfl) ?_) | (refine at0 15 rfl (fun w' hq => pv_pick_t rfl (by first | assumption | exact decide_eq_true (by omega) | exact dec_notT (by omega)) rfl) ?_) | (refine at0 15 rfl (fun w' hq => pv_pick_f rfl (by first | assumption | exact decide_eq_false (by omega) | exact dec_notF (by omega)) rfl) ?_)
    all_goals (refine at0 16 rfl (fun w' hq => pv_assign rfl) ?_)
    all_goals (refine aw_done (by kernel_rfl) ?_; replace hw := hS; clear hS hNP)
    have hA : z = x.bal → (0 ≤ x.bal ∧ x.bal ≤ 1125899906842624) → toldE z = 0 ∧ toldN z = x.bal := fun e h => by
      have : farS z = false := by rw [e]; unfold farS; simp; omega
      unfold toldN toldE; rw [this]; exact ⟨rfl, e⟩
    have hB : toldE z = 0 → toldN z = z := fun e => by
      unfold toldE at e; unfold toldN
      split at e
      · cases e
      · rename_i h; rw [if_neg h]
    all_goals repeat' (first | (refine lw_pure rfl (pv_move rfl) ?_) | (refine lw_pure rfl (pv_assign rfl) ?_) | (refine is_cw ?_; first | (refine cw_seq ?_) | (refine cw_region ?_) | (refine cw_true rfl rfl ?_) | (refine cw_skip ?_) | (refine cw_exit ?_) | (refine cw_ret ?_)) | (refine is_qw ?_; first | (with_reducible refine qw_then ?_) | (with_reducible refine qw_in ?_) | (with_reducible refine qw_in_hit ?_) | (refine qw_in_miss rfl ?_) | (with_reducible refine qw_then_exit ?_) | (with_reducible refine qw_then_ret ?_) | (with_reducible refine qw_in_ret ?_)) | (refine lw_nil ?_) | (refine is_guarded ?_; first | (refine lw_on rfl rfl (by first | assumption | exact decide_eq_true (by omega) | exact decide_eq_false (by omega) | exact dec_notT (by omega) | exact dec_notF (by omega)) ?_) | (refine lw_not rfl rfl rfl (by first | assumption | exact decide_eq_true (by omega) | exact decide_eq_false (by omega) | exact dec_notT (by omega) | exact dec_notF (by omega)) ?_) | (refine lw_gs_f rfl rfl rfl (fun hc => ?_) (fun hc => ?_) <;> (first | replace hc := of_decide_eq_true hc | replace hc := of_decide_eq_false hc | replace hc := dec_nT hc | replace hc := dec_nF hc | skip) <;> (try (exfalso; omega)))) | ((refine is_bin ?_; first | (refine lw_pure rfl (pv_neq rfl rfl) ?_))) | ((refine is_load ?_; first | (refine lw_pure rfl (pv_load (t1 rfl) rfl (by first | exact PT.ld0 (HX.mono hw) rfl | exact PT.ld (HX.mono hw) rfl)) ?_))) | ((refine is_fa ?_; first | (refine lw_pure rfl (pv_fa (tF rfl) rfl) ?_))) | (refine lw_pure rfl (pv_pick_t rfl (by first | assumption | exact decide_eq_true (by omega) | exact dec_notT (by omega)) rfl) ?_) | (refine lw_pure rfl (pv_pick_f rfl (by first | assumption | exact decide_eq_false (by omega) | exact dec_notF (by omega)) rfl) ?_) | (refine is_cw ?_; refine cw_split rfl (fun hc => ?_) (fun hc => ?_) <;> (first | replace hc := of_decide_eq_true hc | replace hc := of_decide_eq_false hc | replace hc := dec_nT hc | replace hc := dec_nF hc | skip) <;> (try (exfalso; omega))))
    all_goals first | (refine qw_ret1 rfl rfl ⟨ret_bool (hno8 ?_).symm, grow_trans hwx hw⟩; unfold kindB; first | omega | (simp at *; omega)) | (refine qw_ret1 rfl rfl ⟨ret_bool (hno9 (fun e => ?_)).symm, grow_trans hwx hw⟩; have hA := hA e (by assumption); omega) | skip
    have h8 : OkLn (l.take k) x := by
      refine ⟨h7.1, h7.2.1, h7.2.2, ?_, by assumption, by assumption, ?_⟩
      · unfold kindB; exact decide_eq_true (by assumption)
      · have hB := hB (by assumption); rw [hz]; omega
    have hwy := hwx.trans (hw.mono hwx.size)
    have hMw : M < w5.heap.size := by have := hw.size; have := HM.bound; omega
    replace HX := HX.mono hw
    replace HM := HM.mono hw
    have hMN : N6 ≠ M := by omega
    have e4 : seqL (l.take (k + 1)) = x.seq := by rw [tailM hxk, seqL_snoc]
    clear hw hA hB hno hno7 hno8 hno9
    have hw := Below.refl w5.heap.size w5
    refine cw_drawn (fun w' => PT w' N6 37 (encN x)) (by kernel_rfl) (by repeat (first | exact NoPanic.body | with_reducible refine NoPanic.then ?_ | with_reducible refine NoPanic.inBlock ?_)) (fun hNP => ?_)
    have hS := HX.mono (below_drew _)
    (refine at0 0 rfl (fun w' hq => pv_move rfl) ?_)
    (refine at0 1 rfl (fun w' hq => pv_fa (tF rfl) rfl) ?_)
    (refine at0 2 rfl (fun w' hq => pv_load (t1 rfl) rfl (by first | exact PT.ld0 hq rfl | exact PT.ld hq rfl)) ?_)
    (refine at0 3 rfl (fun w' hq => pv_fa (tF rfl) rfl) ?_)
    (refine at0 4 rfl (fun w' hq => pv_load (t1 rfl) rfl (by first | exact PT.ld0 hq rfl | exact PT.ld hq rfl)) ?_)
    (refine at0 5 rfl (fun w' hq => pv_fa (tF rfl) rfl) ?_)
    (refine at0 6 rfl (fun w' hq => pv_load (t1 rfl) rfl (by first | exact PT.ld0 hq rfl | exact PT.ld hq rfl)) ?_)
    refine aw_act 7 (by kernel_rfl) rfl rfl rfl ?_
    refine act_svs (some_updateM (k := (⟨x.acct, hxin.1⟩ : KI)) (v := x.bal) Tryz.underlying51 keyI rfl rfl rfl (HM.mono (below_drew _))) ?_; rintro w6 ⟨HM6, hg6, hz6⟩; have hwz := (grow_trans hwy hw.drew).grown hg6 (by have := hwy.size; have := hw.drew.size; omega) (fun q e => by injection e with e; omega); refine ⟨(hg6.block N6 (HX.mono (below_drew _)).lt (fun e => by injection e with e; omega)).trans (HX.mono (below_drew _)), fun hS => ?_⟩
    (refine at0 8 rfl (fun w' hq => pv_assign rfl) ?_)
    refine aw_done (by kernel_rfl) ?_
    replace HX6 := hS; clear hS hNP
    clear hw
    have hw := Below.refl w6.heap.size w6
    repeat' (first | (refine lw_pure rfl (pv_move rfl) ?_) | (refine is_cw ?_; first | (refine cw_region ?_)) | (refine is_qw ?_; first | (with_reducible refine qw_then ?_) | (with_reducible refine qw_in ?_)) | (refine lw_nil ?_) | ((refine is_bin ?_; first | (refine lw_pure rfl (pv_inc rfl rfl (by omega)) ?_))))
    refine qw_round (k + 1, x.seq, _) (by repeat' (first | exact trivial | refine ⟨rfl, ?_⟩)) ⟨by show k + 1 ≤ _; omega, hwz, HM6, ?_, ?_, e4.symm⟩ (by show l.length - (k + 1) < l.length - k; omega)
    · show LastM _ (l.take (k + 1))
      rw [tailM hxk]; exact hl.put rfl
    · show mayLn (l.take (k + 1)) = true
      rw [tailM hxk]; exact mayLn_snoc hn h8
  · have hkl : k = l.length := by omega
    subst hkl
    rw [List.take_length] at hn
    repeat' (first | (refine lw_pure rfl (pv_assign rfl) ?_) | (refine is_cw ?_; first | (refine cw_seq ?_) | (refine cw_region ?_) | (refine cw_false rfl (by first | assumption | exact decide_eq_false (by omega) | exact dec_notF (by omega)) ?_) | (refine cw_exit ?_) | (refine cw_ret ?_)) | (refine is_qw ?_; first | (with_reducible refine qw_then ?_) | (with_reducible refine qw_in_hit ?_) | (with_reducible refine qw_then_exit ?_)) | (refine lw_nil ?_) | ((refine is_bin ?_; first | (refine lw_pure rfl (pv_lss rfl rfl) ?_))))
    exact qw_ret1 rfl rfl ⟨by rw [hn], hw⟩
end Go.Proofs.YtnffmbfdfhokeaaGreatDoor
namespace Go.Proofs.YtnffmbfdfhokeaaGreatDoor
open Go.ChangeShapes Go.WideShapes Go.ChangeAt Go.RowKit Go.Deep Go.WideElems Go.Joins
section
variable {H : Type} {enc : TypeId × Value → H} {W : World} {base : Nat} {sp : Nat → Bool} {held : Bool} {b0 : Nat} {v : Value} {d : DataW H} {p : List MemPlace}
abbrev LnIn (x : Ln) : Prop := (-9223372036854775808 ≤ x.acct ∧ x.acct ≤ 9223372036854775807) ∧ (-9223372036854775808 ≤ x.seq ∧ x.seq ≤ 9223372036854775807) ∧ (-9223372036854775808 ≤ x.delta ∧ x.delta ≤ 9223372036854775807) ∧ (-9223372036854775808 ≤ x.bal ∧ x.bal ≤ 9223372036854775807)
set_option maxRecDepth 20000 in
theorem line_dec (n : Nat) (cs : List Value) (y : DataW H × List MemPlace) (h : DataW.trod enc Tryz.prog W base sp held n 37 cs = some y) : ∃ r : Ln, cs = encN r ∧ LnIn r := by
  obtain ⟨xs, m, _, rfl, hl, hlen, hf⟩ := DataW.trod_struct Tryz.underlying37 h
  rw [show Tryz.prog.cellsOf 37 = 5 by kernel_rfl] at hl
  match xs, hlen, cs, hl with
  | [y0, y1, y2, y3, y4], _, [c0, c1, c2, c3, c4], _ =>
    obtain ⟨a, rfl, ha⟩ := trod_i64 (c := c0) Tryz.underlying3 (hf 0 _ rfl)
    obtain ⟨b, rfl, hb⟩ := trod_i64 (c := c1) Tryz.underlying2 (hf 1 _ rfl)
    obtain ⟨s, rfl, _⟩ := trod_u8 (c := c2) Tryz.underlying5 (hf 2 _ rfl)
    obtain ⟨q, rfl, hq⟩ := trod_i64 (c := c3) Tryz.underlying2 (hf 3 _ rfl)
    obtain ⟨l, rfl, hl⟩ := trod_i64 (c := c4) Tryz.underlying2 (hf 4 _ rfl)
    exact ⟨⟨a, b, s, q, l⟩, rfl, ha, hb, hq, hl⟩
set_option maxRecDepth 20000 in
theorem lines_open (hv : Value.okWide Tryz.prog W .any b0 22 v) (h : DataW.Trod enc Tryz.prog W base sp held 22 v d p) : ∃ a cap, ∃ xs : List Ln, v = .slice a xs.length cap ∧ SlR encN 5 W a cap xs ∧ In64N xs :=
  open_slP encN 5 LnIn encN_len Tryz.underlying22 (by kernel_rfl) line_dec hv h
set_option maxRecDepth 20000 in
theorem u8_open {t : TypeId} (ht : Tryz.prog.underlying t = some (.int .u8)) (hv : Value.okWide Tryz.prog W .any b0 t v) (h : DataW.Trod enc Tryz.prog W base sp held t v d p) : ∃ n : Int, v = .int .u8 n ∧ 0 ≤ n ∧ n ≤ 255 := by
  obtain ⟨n, e, h1, h2⟩ := int_open ht hv h
  rw [show IntKind.u8.min = 0 from rfl] at h1
  rw [show IntKind.u8.max = 255 from rfl] at h2
  exact ⟨n, e, h1, h2⟩
end
end Go.Proofs.YtnffmbfdfhokeaaGreatDoor
namespace Go.Proofs.YtnffmbfdfhokeaaGreatDoor
open Go.RowKit Go.PlainAid

set_option maxRecDepth 20000 in
theorem atF_c (o : Opn) (id : Int) (N : Nat) (w : World) (h : PT w N 2 [.int .i64 id]) : Calls Tryz.prog 111 #[.agg (encP o).toArray, .pointer (some ⟨N, 0, none⟩)] w fun e w' => e = .returned (.bool (o.id == id)) ∧ Below w.heap.size w w' := by
  have hE := Ext.refl w
  have hw := Below.refl w.heap.size w
  refine fn_enter 8 Tryz.func111 rfl rfl rfl ?_
  repeat' (first | (refine lw_pure rfl (pv_move rfl) ?_) | (refine lw_pure rfl (pv_assign rfl) ?_) | (refine is_cw ?_; first | (refine cw_seq ?_) | (refine cw_region ?_) | (refine cw_ret ?_)) | (refine is_qw ?_; first | (with_reducible refine qw_then ?_) | (with_reducible refine qw_then_ret ?_)) | (refine lw_nil ?_) | ((refine is_bin ?_; first | (refine lw_pure rfl (pv_eql rfl rfl) ?_))) | ((refine is_load ?_; first | (refine lw_pure rfl (pv_load (t1 rfl) rfl (by first | fail)) ?_) | (refine lw_pure rfl (pv_loada (tA rfl) rfl (by first | fail) (by rfl)) ?_))) | ((refine is_fa ?_; first | (refine lw_pure rfl (pv_fa (tF rfl) rfl) ?_))))
  refine lw_boxN rfl rfl (cs := encP o) rfl ?_; intro N1 wn hN HA hb
  replace hw := grow_trans hw hb
  clear hb
  replace hE := hE.mono hw; replace h := h.mono hw; clear hw; have hw := Below.refl wn.heap.size wn
  repeat' (first | (refine lw_pure rfl (pv_move rfl) ?_) | (refine lw_pure rfl (pv_assign rfl) ?_) | (refine is_cw ?_; first | (refine cw_seq ?_) | (refine cw_region ?_) | (refine cw_ret ?_)) | (refine is_qw ?_; first | (with_reducible refine qw_then ?_) | (with_reducible refine qw_then_ret ?_)) | (refine lw_nil ?_) | ((refine is_bin ?_; first | (refine lw_pure rfl (pv_eql rfl rfl) ?_))) | ((refine is_load ?_; first | (refine lw_pure rfl (pv_load (t1 rfl) rfl (by first | exact PT.ld0 (HA.mono hw) rfl | exact PT.ld (HA.mono hw) rfl | exact PT.ld0 (h.mono hw) rfl | exact PT.ld (h.mono hw) rfl)) ?_) | (refine lw_pure rfl (pv_loada (tA rfl) rfl (by first | exact PT.lda (HA.mono hw) | exact PT.lda (h.mono hw)) (by rfl)) ?_))) | ((refine is_fa ?_; first | (refine lw_pure rfl (pv_fa (tF rfl) rfl) ?_))))
  exact qw_ret1 rfl rfl ⟨ret_bool rfl, (hE.mono hw).b⟩
set_option maxRecDepth 20000 in
theorem lotF_c (o : Lt) (id : Int) (N : Nat) (w : World) (h : PT w N 2 [.int .i64 id]) : Calls Tryz.prog 112 #[.agg (encL o).toArray, .pointer (some ⟨N, 0, none⟩)] w fun e w' => e = .returned (.bool (o.id == id)) ∧ Below w.heap.size w w' := by
  have hE := Ext.refl w
  have hw := Below.refl w.heap.size w
  refine fn_enter 8 Tryz.func112 rfl rfl rfl ?_
  repeat' (first | (refine lw_pure rfl (pv_move rfl) ?_) | (refine lw_pure rfl (pv_assign rfl) ?_) | (refine is_cw ?_; first | (refine cw_seq ?_) | (refine cw_region ?_) | (refine cw_ret ?_)) | (refine is_qw ?_; first | (with_reducible refine qw_then ?_) | (with_reducible refine qw_then_ret ?_)) | (refine lw_nil ?_) | ((refine is_bin ?_; first | (refine lw_pure rfl (pv_eql rfl rfl) ?_))) | ((refine is_load ?_; first | (refine lw_pure rfl (pv_load (t1 rfl) rfl (by first | fail)) ?_) | (refine lw_pure rfl (pv_loada (tA rfl) rfl (by first | fail) (by rfl)) ?_))) | ((refine is_fa ?_; first | (refine lw_pure rfl (pv_fa (tF rfl) rfl) ?_))))
  refine lw_boxN rfl rfl (cs := encL o) rfl ?_; intro N1 wn hN HA hb
  replace hw := grow_trans hw hb
  clear hb
  replace hE := hE.mono hw; replace h := h.mono hw; clear hw; have hw := Below.refl wn.heap.size wn
  repeat' (first | (refine lw_pure rfl (pv_move rfl) ?_) | (refine lw_pure rfl (pv_assign rfl) ?_) | (refine is_cw ?_; first | (refine cw_seq ?_) | (refine cw_region ?_) | (refine cw_ret ?_)) | (refine is_qw ?_; first | (with_reducible refine qw_then ?_) | (with_reducible refine qw_then_ret ?_)) | (refine lw_nil ?_) | ((refine is_bin ?_; first | (refine lw_pure rfl (pv_eql rfl rfl) ?_))) | ((refine is_load ?_; first | (refine lw_pure rfl (pv_load (t1 rfl) rfl (by first | exact PT.ld0 (HA.mono hw) rfl | exact PT.ld (HA.mono hw) rfl | exact PT.ld0 (h.mono hw) rfl | exact PT.ld (h.mono hw) rfl)) ?_) | (refine lw_pure rfl (pv_loada (tA rfl) rfl (by first | exact PT.lda (HA.mono hw) | exact PT.lda (h.mono hw)) (by rfl)) ?_))) | ((refine is_fa ?_; first | (refine lw_pure rfl (pv_fa (tF rfl) rfl) ?_))))
  exact qw_ret1 rfl rfl ⟨ret_bool rfl, (hE.mono hw).b⟩
def atR {α : Type} (l : List α) (q : α → Bool) (i : Int) : Prop := (i = -1 ∧ ∀ x ∈ l, q x = false) ∨ ∃ (k : Nat) (r : α), i = k ∧ l[k]? = some r ∧ q r = true ∧ ∀ x ∈ l.take k, q x = false
set_option maxRecDepth 20000 in
theorem at_c {p : List Opn} {m : Nat} {a : Option Addr} {ca : Nat} {w : World} (id : Int) (hm : p.length = m) (HP : SlR encP 6 w a ca p) : Calls Tryz.prog 85 #[.slice a m ca, .int .i64 id] w fun e w' => (∃ i, e = .returned (.int .i64 i) ∧ atR p (fun o => o.id == id) i) ∧ Below w.heap.size w w' := by
  have hE := Ext.refl w
  have hw := Below.refl w.heap.size w
  refine fn_enter 8 Tryz.func85 rfl rfl rfl ?_
  repeat' (first | (refine lw_pure rfl (pv_move rfl) ?_) | (refine lw_pure rfl (pv_assign rfl) ?_) | (refine is_cw ?_; first | (refine cw_seq ?_) | (refine cw_region ?_) | (refine cw_ret ?_)) | (refine is_qw ?_; first | (with_reducible refine qw_then ?_) | (with_reducible refine qw_then_ret ?_)) | (refine lw_nil ?_) | (refine lw_pure rfl (pv_makeFunc rfl rfl) ?_))
  refine lw_boxN rfl rfl (cs := [.int .i64 id]) rfl ?_; intro N wn hN HA hb
  replace hw := grow_trans hw hb
  clear hb
  replace hE := hE.mono hw; replace HP := HP.mono hw; clear hw; have hw := Below.refl wn.heap.size wn
  repeat' (first | (refine lw_pure rfl (pv_move rfl) ?_) | (refine lw_pure rfl (pv_assign rfl) ?_) | (refine is_cw ?_; first | (refine cw_seq ?_) | (refine cw_region ?_) | (refine cw_ret ?_)) | (refine is_qw ?_; first | (with_reducible refine qw_then ?_) | (with_reducible refine qw_then_ret ?_)) | (refine lw_nil ?_) | (refine lw_pure rfl (pv_makeFunc rfl rfl) ?_))
  refine lw_call (f := 110) (by kernel_rfl) rfl rfl (indexf_P wn.heap.size (fun o => o.id == id) 111 #[.pointer (some ⟨N, 0, none⟩)] (by kernel_rfl) (Nat.le_refl _) (fun x _ w' hb => by simpa using atF_c x id N w' (HA.mono hb)) hm HP) ?_; rintro e w1 ⟨⟨i, rfl, hi⟩, hb⟩; refine ⟨_, rfl, ?_⟩; replace hw := grow_trans hw hb
  repeat' (first | (refine lw_pure rfl (pv_move rfl) ?_) | (refine lw_pure rfl (pv_assign rfl) ?_) | (refine is_cw ?_; first | (refine cw_seq ?_) | (refine cw_region ?_) | (refine cw_ret ?_)) | (refine is_qw ?_; first | (with_reducible refine qw_then ?_) | (with_reducible refine qw_then_ret ?_)) | (refine lw_nil ?_) | (refine lw_pure rfl (pv_makeFunc rfl rfl) ?_))
  exact qw_ret1 rfl rfl ⟨⟨i, rfl, hi⟩, (hE.mono hw).b⟩
set_option maxRecDepth 20000 in
theorem lot_c {p : List Lt} {m : Nat} {a : Option Addr} {ca : Nat} {w : World} (id : Int) (hm : p.length = m) (HP : SlR encL 4 w a ca p) : Calls Tryz.prog 86 #[.slice a m ca, .int .i64 id] w fun e w' => (∃ i, e = .returned (.int .i64 i) ∧ atR p (fun o => o.id == id) i) ∧ Below w.heap.size w w' := by
  have hE := Ext.refl w
  have hw := Below.refl w.heap.size w
  refine fn_enter 8 Tryz.func86 rfl rfl rfl ?_
  repeat' (first | (refine lw_pure rfl (pv_move rfl) ?_) | (refine lw_pure rfl (pv_assign rfl) ?_) | (refine is_cw ?_; first | (refine cw_seq ?_) | (refine cw_region ?_) | (refine cw_ret ?_)) | (refine is_qw ?_; first | (with_reducible refine qw_then ?_) | (with_reducible refine qw_then_ret ?_)) | (refine lw_nil ?_) | (refine lw_pure rfl (pv_makeFunc rfl rfl) ?_))
  refine lw_boxN rfl rfl (cs := [.int .i64 id]) rfl ?_; intro N wn hN HA hb
  replace hw := grow_trans hw hb
  clear hb
  replace hE := hE.mono hw; replace HP := HP.mono hw; clear hw; have hw := Below.refl wn.heap.size wn
  repeat' (first | (refine lw_pure rfl (pv_move rfl) ?_) | (refine lw_pure rfl (pv_assign rfl) ?_) | (refine is_cw ?_; first | (refine cw_seq ?_) | (refine cw_region ?_) | (refine cw_ret ?_)) | (refine is_qw ?_; first | (with_reducible refine qw_then ?_) | (with_reducible refine qw_then_ret ?_)) | (refine lw_nil ?_) | (refine lw_pure rfl (pv_makeFunc rfl rfl) ?_))
  refine lw_call (f := 81) (by kernel_rfl) rfl rfl (indexf_L wn.heap.size (fun o => o.id == id) 112 #[.pointer (some ⟨N, 0, none⟩)] (by kernel_rfl) (Nat.le_refl _) (fun x _ w' hb => by simpa using lotF_c x id N w' (HA.mono hb)) hm HP) ?_; rintro e w1 ⟨⟨i, rfl, hi⟩, hb⟩; refine ⟨_, rfl, ?_⟩; replace hw := grow_trans hw hb
  repeat' (first | (refine lw_pure rfl (pv_move rfl) ?_) | (refine lw_pure rfl (pv_assign rfl) ?_) | (refine is_cw ?_; first | (refine cw_seq ?_) | (refine cw_region ?_) | (refine cw_ret ?_)) | (refine is_qw ?_; first | (with_reducible refine qw_then ?_) | (with_reducible refine qw_then_ret ?_)) | (refine lw_nil ?_) | (refine lw_pure rfl (pv_makeFunc rfl rfl) ?_))
  exact qw_ret1 rfl rfl ⟨⟨i, rfl, hi⟩, (hE.mono hw).b⟩
theorem find_none {α : Type} {l : List α} {q : α → Bool} (h : ∀ x ∈ l, q x = false) : l.find? q = none := by
  rw [List.find?_eq_none]; intro x hx; simp [h x hx]
theorem find_at {α : Type} {q : α → Bool} : ∀ {l : List α} {k : Nat} {r : α}, l[k]? = some r → q r = true → (∀ x ∈ l.take k, q x = false) → l.find? q = some r
  | [], _, _, h, _, _ => by simp at h
  | y :: l, 0, r, h, hr, _ => by simp at h; subst h; simp [hr]
  | y :: l, k + 1, r, h, hr, hn => by
    rw [List.find?_cons, hn y (by simp)]
    exact find_at (by simpa using h) hr (fun x hx => hn x (by simp [hx]))
def oZ : Opn := ⟨0, 0, 0, 0, 0, 0⟩
def lZ : Lt := ⟨0, 0, 0, 0⟩
set_option maxRecDepth 20000 in
theorem find_c {p : List Opn} {m : Nat} {a : Option Addr} {ca : Nat} {w : World} (id : Int) (hm : p.length = m) (HP : SlR encP 6 w a ca p) : Calls Tryz.prog 59 #[.slice a m ca, .int .i64 id] w fun e w' => e = .returned (.tuple #[.agg (encP ((findP p id).getD oZ)).toArray, .bool (findP p id).isSome]) ∧ Below w.heap.size w w' := by
  subst hm
  have hE := Ext.refl w
  have hw := Below.refl w.heap.size w
  have hca := HP.le
  have hcm := HP.max
  refine fn_enter 17 Tryz.func59 rfl rfl rfl ?_
  repeat' (first | (refine lw_pure rfl (pv_move rfl) ?_) | (refine lw_pure rfl (pv_assign rfl) ?_) | (refine is_cw ?_; first | (refine cw_seq ?_) | (refine cw_region ?_) | (refine cw_true rfl rfl ?_) | (refine cw_false rfl rfl ?_) | (refine cw_true rfl (by first | assumption | exact decide_eq_true (by omega) | exact dec_notT (by omega)) ?_) | (refine cw_false rfl (by first | assumption | exact decide_eq_false (by omega) | exact dec_notF (by omega)) ?_) | (refine cw_skip ?_) | (refine cw_ret ?_)) | (refine is_qw ?_; first | (with_reducible refine qw_then ?_) | (with_reducible refine qw_then_ret ?_)) | (refine lw_nil ?_) | ((refine is_bin ?_; first | (refine lw_pure rfl (pv_lss rfl rfl) ?_))) | ((refine is_load ?_; first | (refine lw_pure rfl (pv_load (t1 rfl) rfl (by first | fail)) ?_) | (refine lw_pure rfl (pv_loada (tA rfl) rfl (by first | fail) (by rfl)) ?_))) | ((refine is_ia ?_; first | (refine lw_pure rfl (pv_ian (tS rfl) rfl rfl (by omega)) ?_) | (refine lw_pure rfl (pv_ia (tS rfl) rfl rfl (by omega)) ?_))) | ((refine is_bd ?_; first | (refine lw_pure rfl (tyB_69 rfl rfl rfl) ?_))))
  refine lw_allocN rfl (by first | exact tyv_27 | exact tyv_28 | exact tyv_36 | exact tyv_37 | exact tyv_68 | exact tyv_69 | exact tyv_72 | exact tyv_73 | exact tyv_79 | exact tyv_80 | exact tyv_117 | exact tyv_118 | exact tyv_130 | exact tyv_131) rfl ?_; intro N w1 hN H hb
  replace hE := hE.mono hb
  replace HP := HP.mono hb
  clear hb hw
  have hw := Below.refl w1.heap.size w1
  repeat' (first | (refine lw_pure rfl (pv_move rfl) ?_) | (refine lw_pure rfl (pv_assign rfl) ?_) | (refine is_cw ?_; first | (refine cw_seq ?_) | (refine cw_region ?_) | (refine cw_true rfl rfl ?_) | (refine cw_false rfl rfl ?_) | (refine cw_true rfl (by first | assumption | exact decide_eq_true (by omega) | exact dec_notT (by omega)) ?_) | (refine cw_false rfl (by first | assumption | exact decide_eq_false (by omega) | exact dec_notF (by omega)) ?_) | (refine cw_skip ?_) | (refine cw_ret ?_)) | (refine is_qw ?_; first | (with_reducible refine qw_then ?_) | (with_reducible refine qw_then_ret ?_)) | (refine lw_nil ?_) | ((refine is_bin ?_; first | (refine lw_pure rfl (pv_lss rfl rfl) ?_))) | ((refine is_load ?_; first | (refine lw_pure rfl (pv_load (t1 rfl) rfl (by first | fail)) ?_) | (refine lw_pure rfl (pv_loada (tA rfl) rfl (by first | fail) (by rfl)) ?_))) | ((refine is_ia ?_; first | (refine lw_pure rfl (pv_ian (tS rfl) rfl rfl (by omega)) ?_) | (refine lw_pure rfl (pv_ia (tS rfl) rfl rfl (by omega)) ?_))) | ((refine is_bd ?_; first | (refine lw_pure rfl (tyB_69 rfl rfl rfl) ?_))))
  refine lw_call (f := 85) (by kernel_rfl) rfl rfl (at_c id rfl HP) ?_; rintro e w2 ⟨⟨i, rfl, hi⟩, hb⟩; refine ⟨_, rfl, ?_⟩
  replace hE := hE.mono hb
  replace HP := HP.mono hb
  replace H := H.mono hb
  clear hb hw
  have hw := Below.refl w2.heap.size w2
  rcases hi with ⟨rfl, hn⟩ | ⟨k, r, rfl, hxk, hr, hn⟩
  · have hf : findP p id = none := find_none hn
    rw [hf]
    repeat' (first | (refine lw_pure rfl (pv_move rfl) ?_) | (refine lw_pure rfl (pv_assign rfl) ?_) | (refine is_cw ?_; first | (refine cw_seq ?_) | (refine cw_region ?_) | (refine cw_true rfl rfl ?_) | (refine cw_false rfl rfl ?_) | (refine cw_true rfl (by first | assumption | exact decide_eq_true (by omega) | exact dec_notT (by omega)) ?_) | (refine cw_false rfl (by first | assumption | exact decide_eq_false (by omega) | exact dec_notF (by omega)) ?_) | (refine cw_skip ?_) | (refine cw_ret ?_)) | (refine is_qw ?_; first | (with_reducible refine qw_then ?_) | (with_reducible refine qw_then_ret ?_)) | (refine lw_nil ?_) | ((refine is_bin ?_; first | (refine lw_pure rfl (pv_lss rfl rfl) ?_))) | ((refine is_load ?_; first | (refine lw_pure rfl (pv_load (t1 rfl) rfl (by first | fail)) ?_) | (refine lw_pure rfl (pv_loada (tA rfl) rfl (by first | fail) (by rfl)) ?_))) | ((refine is_ia ?_; first | (refine lw_pure rfl (pv_ian (tS rfl) rfl rfl (by omega)) ?_) | (refine lw_pure rfl (pv_ia (tS rfl) rfl rfl (by omega)) ?_))) | ((refine is_bd ?_; first | (refine lw_pure rfl (tyB_69 rfl rfl rfl) ?_))))
    refine lw_storea (vs := encP oZ) H (tZ rfl) rfl rfl rfl rfl (encP_one _) ?_; intro w3 H2 hg hz
    replace hE := hE.grown hg (by intro q hq; injection hq with hq; omega)
    have hw := Below.refl w3.heap.size w3
    repeat' (first | (refine lw_pure rfl (pv_move rfl) ?_) | (refine lw_pure rfl (pv_assign rfl) ?_) | (refine is_cw ?_; first | (refine cw_seq ?_) | (refine cw_region ?_) | (refine cw_true rfl rfl ?_) | (refine cw_false rfl rfl ?_) | (refine cw_true rfl (by first | assumption | exact decide_eq_true (by omega) | exact dec_notT (by omega)) ?_) | (refine cw_false rfl (by first | assumption | exact decide_eq_false (by omega) | exact dec_notF (by omega)) ?_) | (refine cw_skip ?_) | (refine cw_ret ?_)) | (refine is_qw ?_; first | (with_reducible refine qw_then ?_) | (with_reducible refine qw_then_ret ?_)) | (refine lw_nil ?_) | ((refine is_bin ?_; first | (refine lw_pure rfl (pv_lss rfl rfl) ?_))) | ((refine is_load ?_; first | (refine lw_pure rfl (pv_load (t1 rfl) rfl (by first | fail)) ?_) | (refine lw_pure rfl (pv_loada (tA rfl) rfl (by first | fail) (by rfl)) ?_))) | ((refine is_ia ?_; first | (refine lw_pure rfl (pv_ian (tS rfl) rfl rfl (by omega)) ?_) | (refine lw_pure rfl (pv_ia (tS rfl) rfl rfl (by omega)) ?_))) | ((refine is_bd ?_; first | (refine lw_pure rfl (tyB_69 rfl rfl rfl) ?_))))
    exact qw_retct rfl rfl rfl (agg_ld (tA rfl) rfl (fun i u hu => H2.ld0 hu)) ⟨rfl, hE.b⟩
  · have hf : findP p id = some r := find_at hxk hr hn
    have hlt : k < p.length := (List.getElem?_eq_some_iff.1 hxk).1
    obtain ⟨ab, ao, rfl, -, -⟩ := HP.at (by intro h; rw [h] at hlt; simp at hlt)
    rw [hf]
    repeat' (first | (refine lw_pure rfl (pv_move rfl) ?_) | (refine lw_pure rfl (pv_assign rfl) ?_) | (refine is_cw ?_; first | (refine cw_seq ?_) | (refine cw_region ?_) | (refine cw_true rfl rfl ?_) | (refine cw_false rfl rfl ?_) | (refine cw_true rfl (by first | assumption | exact decide_eq_true (by omega) | exact dec_notT (by omega)) ?_) | (refine cw_false rfl (by first | assumption | exact decide_eq_false (by omega) | exact dec_notF (by omega)) ?_) | (refine cw_skip ?_) | (refine cw_ret ?_)) | (refine is_qw ?_; first | (with_reducible refine qw_then ?_) | (with_reducible refine qw_then_ret ?_)) | (refine lw_nil ?_) | ((refine is_bin ?_; first | (refine lw_pure rfl (pv_lss rfl rfl) ?_))) | ((refine is_load ?_; first | (refine lw_pure rfl (pv_load (t1 rfl) rfl (by first | exact SlR.ld (HP.mono hw) hxk rfl | exact SlR.ld1 (HP.mono hw) hxk rfl)) ?_) | (refine lw_pure rfl (pv_loada (tA rfl) rfl (by first | exact SlR.lda (HP.mono hw) hxk) (by rfl)) ?_))) | ((refine is_ia ?_; first | (refine lw_pure rfl (pv_ian (tS rfl) rfl rfl (by omega)) ?_) | (refine lw_pure rfl (pv_ia (tS rfl) rfl rfl (by omega)) ?_))) | ((refine is_bd ?_; first | (refine lw_pure rfl (tyB_69 rfl rfl rfl) ?_))))
    refine lw_storea (vs := encP r) (H.mono hw) (tZ rfl) rfl rfl rfl rfl (encP_one _) ?_; intro w3 H2 hg hz
    replace hE := (hE.mono hw).grown hg (by intro q hq; injection hq with hq; omega)
    clear hw
    have hw := Below.refl w3.heap.size w3
    repeat' (first | (refine lw_pure rfl (pv_move rfl) ?_) | (refine lw_pure rfl (pv_assign rfl) ?_) | (refine is_cw ?_; first | (refine cw_seq ?_) | (refine cw_region ?_) | (refine cw_true rfl rfl ?_) | (refine cw_false rfl rfl ?_) | (refine cw_true rfl (by first | assumption | exact decide_eq_true (by omega) | exact dec_notT (by omega)) ?_) | (refine cw_false rfl (by first | assumption | exact decide_eq_false (by omega) | exact dec_notF (by omega)) ?_) | (refine cw_skip ?_) | (refine cw_ret ?_)) | (refine is_qw ?_; first | (with_reducible refine qw_then ?_) | (with_reducible refine qw_then_ret ?_)) | (refine lw_nil ?_) | ((refine is_bin ?_; first | (refine lw_pure rfl (pv_lss rfl rfl) ?_))) | ((refine is_load ?_; first | (refine lw_pure rfl (pv_load (t1 rfl) rfl (by first | fail)) ?_) | (refine lw_pure rfl (pv_loada (tA rfl) rfl (by first | fail) (by rfl)) ?_))) | ((refine is_ia ?_; first | (refine lw_pure rfl (pv_ian (tS rfl) rfl rfl (by omega)) ?_) | (refine lw_pure rfl (pv_ia (tS rfl) rfl rfl (by omega)) ?_))) | ((refine is_bd ?_; first | (refine lw_pure rfl (tyB_69 rfl rfl rfl) ?_))))
    exact qw_retct rfl rfl rfl (agg_ld (tA rfl) rfl (fun i u hu => H2.ld0 hu)) ⟨rfl, hE.b⟩
set_option maxRecDepth 20000 in
theorem lotx_c {p : List Lt} {m : Nat} {a : Option Addr} {ca : Nat} {w : World} (id : Int) (hm : p.length = m) (HP : SlR encL 4 w a ca p) : Calls Tryz.prog 60 #[.slice a m ca, .int .i64 id] w fun e w' => e = .returned (.tuple #[.agg (encL ((findT p id).getD lZ)).toArray, .bool (findT p id).isSome]) ∧ Below w.heap.size w w' := by
  subst hm
  have hE := Ext.refl w
  have hw := Below.refl w.heap.size w
  have hca := HP.le
  have hcm := HP.max
  refine fn_enter 17 Tryz.func60 rfl rfl rfl ?_
  repeat' (first | (refine lw_pure rfl (pv_move rfl) ?_) | (refine lw_pure rfl (pv_assign rfl) ?_) | (refine is_cw ?_; first | (refine cw_seq ?_) | (refine cw_region ?_) | (refine cw_true rfl rfl ?_) | (refine cw_false rfl rfl ?_) | (refine cw_true rfl (by first | assumption | exact decide_eq_true (by omega) | exact dec_notT (by omega)) ?_) | (refine cw_false rfl (by first | assumption | exact decide_eq_false (by omega) | exact dec_notF (by omega)) ?_) | (refine cw_skip ?_) | (refine cw_ret ?_)) | (refine is_qw ?_; first | (with_reducible refine qw_then ?_) | (with_reducible refine qw_then_ret ?_)) | (refine lw_nil ?_) | ((refine is_bin ?_; first | (refine lw_pure rfl (pv_lss rfl rfl) ?_))) | ((refine is_load ?_; first | (refine lw_pure rfl (pv_load (t1 rfl) rfl (by first | fail)) ?_) | (refine lw_pure rfl (pv_loada (tA rfl) rfl (by first | fail) (by rfl)) ?_))) | ((refine is_ia ?_; first | (refine lw_pure rfl (pv_ian (tS rfl) rfl rfl (by omega)) ?_) | (refine lw_pure rfl (pv_ia (tS rfl) rfl rfl (by omega)) ?_))) | ((refine is_bd ?_; first | (refine lw_pure rfl (tyB_73 rfl rfl rfl) ?_))))
  refine lw_allocN rfl (by first | exact tyv_27 | exact tyv_28 | exact tyv_36 | exact tyv_37 | exact tyv_68 | exact tyv_69 | exact tyv_72 | exact tyv_73 | exact tyv_79 | exact tyv_80 | exact tyv_117 | exact tyv_118 | exact tyv_130 | exact tyv_131) rfl ?_; intro N w1 hN H hb
  replace hE := hE.mono hb
  replace HP := HP.mono hb
  clear hb hw
  have hw := Below.refl w1.heap.size w1
  repeat' (first | (refine lw_pure rfl (pv_move rfl) ?_) | (refine lw_pure rfl (pv_assign rfl) ?_) | (refine is_cw ?_; first | (refine cw_seq ?_) | (refine cw_region ?_) | (refine cw_true rfl rfl ?_) | (refine cw_false rfl rfl ?_) | (refine cw_true rfl (by first | assumption | exact decide_eq_true (by omega) | exact dec_notT (by omega)) ?_) | (refine cw_false rfl (by first | assumption | exact decide_eq_false (by omega) | exact dec_notF (by omega)) ?_) | (refine cw_skip ?_) | (refine cw_ret ?_)) | (refine is_qw ?_; first | (with_reducible refine qw_then ?_) | (with_reducible refine qw_then_ret ?_)) | (refine lw_nil ?_) | ((refine is_bin ?_; first | (refine lw_pure rfl (pv_lss rfl rfl) ?_))) | ((refine is_load ?_; first | (refine lw_pure rfl (pv_load (t1 rfl) rfl (by first | fail)) ?_) | (refine lw_pure rfl (pv_loada (tA rfl) rfl (by first | fail) (by rfl)) ?_))) | ((refine is_ia ?_; first | (refine lw_pure rfl (pv_ian (tS rfl) rfl rfl (by omega)) ?_) | (refine lw_pure rfl (pv_ia (tS rfl) rfl rfl (by omega)) ?_))) | ((refine is_bd ?_; first | (refine lw_pure rfl (tyB_73 rfl rfl rfl) ?_))))
  refine lw_call (f := 86) (by kernel_rfl) rfl rfl (lot_c id rfl HP) ?_; rintro e w2 ⟨⟨i, rfl, hi⟩, hb⟩; refine ⟨_, rfl, ?_⟩
  replace hE := hE.mono hb
  replace HP := HP.mono hb
  replace H := H.mono hb
  clear hb hw
  have hw := Below.refl w2.heap.size w2
  rcases hi with ⟨rfl, hn⟩ | ⟨k, r, rfl, hxk, hr, hn⟩
  · have hf : findT p id = none := find_none hn
    rw [hf]
    repeat' (first | (refine lw_pure rfl (pv_move rfl) ?_) | (refine lw_pure rfl (pv_assign rfl) ?_) | (refine is_cw ?_; first | (refine cw_seq ?_) | (refine cw_region ?_) | (refine cw_true rfl rfl ?_) | (refine cw_false rfl rfl ?_) | (refine cw_true rfl (by first | assumption | exact decide_eq_true (by omega) | exact dec_notT (by omega)) ?_) | (refine cw_false rfl (by first | assumption | exact decide_eq_false (by omega) | exact dec_notF (by omega)) ?_) | (refine cw_skip ?_) | (refine cw_ret ?_)) | (refine is_qw ?_; first | (with_reducible refine qw_then ?_) | (with_reducible refine qw_then_ret ?_)) | (refine lw_nil ?_) | ((refine is_bin ?_; first | (refine lw_pure rfl (pv_lss rfl rfl) ?_))) | ((refine is_load ?_; first | (refine lw_pure rfl (pv_load (t1 rfl) rfl (by first | fail)) ?_) | (refine lw_pure rfl (pv_loada (tA rfl) rfl (by first | fail) (by rfl)) ?_))) | ((refine is_ia ?_; first | (refine lw_pure rfl (pv_ian (tS rfl) rfl rfl (by omega)) ?_) | (refine lw_pure rfl (pv_ia (tS rfl) rfl rfl (by omega)) ?_))) | ((refine is_bd ?_; first | (refine lw_pure rfl (tyB_73 rfl rfl rfl) ?_))))
    refine lw_storea (vs := encL lZ) H (tZ rfl) rfl rfl rfl rfl (encL_one _) ?_; intro w3 H2 hg hz
    replace hE := hE.grown hg (by intro q hq; injection hq with hq; omega)
    have hw := Below.refl w3.heap.size w3
    repeat' (first | (refine lw_pure rfl (pv_move rfl) ?_) | (refine lw_pure rfl (pv_assign rfl) ?_) | (refine is_cw ?_; first | (refine cw_seq ?_) | (refine cw_region ?_) | (refine cw_true rfl rfl ?_) | (refine cw_false rfl rfl ?_) | (refine cw_true rfl (by first | assumption | exact decide_eq_true (by omega) | exact dec_notT (by omega)) ?_) | (refine cw_false rfl (by first | assumption | exact decide_eq_false (by omega) | exact dec_notF (by omega)) ?_) | (refine cw_skip ?_) | (refine cw_ret ?_)) | (refine is_qw ?_; first | (with_reducible refine qw_then ?_) | (with_reducible refine qw_then_ret ?_)) | (refine lw_nil ?_) | ((refine is_bin ?_; first | (refine lw_pure rfl (pv_lss rfl rfl) ?_))) | ((refine is_load ?_; first | (refine lw_pure rfl (pv_load (t1 rfl) rfl (by first | fail)) ?_) | (refine lw_pure rfl (pv_loada (tA rfl) rfl (by first | fail) (by rfl)) ?_))) | ((refine is_ia ?_; first | (refine lw_pure rfl (pv_ian (tS rfl) rfl rfl (by omega)) ?_) | (refine lw_pure rfl (pv_ia (tS rfl) rfl rfl (by omega)) ?_))) | ((refine is_bd ?_; first | (refine lw_pure rfl (tyB_73 rfl rfl rfl) ?_))))
    exact qw_retct rfl rfl rfl (agg_ld (tA rfl) rfl (fun i u hu => H2.ld0 hu)) ⟨rfl, hE.b⟩
  · have hf : findT p id = some r := find_at hxk hr hn
    have hlt : k < p.length := (List.getElem?_eq_some_iff.1 hxk).1
    obtain ⟨ab, ao, rfl, -, -⟩ := HP.at (by intro h; rw [h] at hlt; simp at hlt)
    rw [hf]
    repeat' (first | (refine lw_pure rfl (pv_move rfl) ?_) | (refine lw_pure rfl (pv_assign rfl) ?_) | (refine is_cw ?_; first | (refine cw_seq ?_) | (refine cw_region ?_) | (refine cw_true rfl rfl ?_) | (refine cw_false rfl rfl ?_) | (refine cw_true rfl (by first | assumption | exact decide_eq_true (by omega) | exact dec_notT (by omega)) ?_) | (refine cw_false rfl (by first | assumption | exact decide_eq_false (by omega) | exact dec_notF (by omega)) ?_) | (refine cw_skip ?_) | (refine cw_ret ?_)) | (refine is_qw ?_; first | (with_reducible refine qw_then ?_) | (with_reducible refine qw_then_ret ?_)) | (refine lw_nil ?_) | ((refine is_bin ?_; first | (refine lw_pure rfl (pv_lss rfl rfl) ?_))) | ((refine is_load ?_; first | (refine lw_pure rfl (pv_load (t1 rfl) rfl (by first | exact SlR.ld (HP.mono hw) hxk rfl | exact SlR.ld1 (HP.mono hw) hxk rfl)) ?_) | (refine lw_pure rfl (pv_loada (tA rfl) rfl (by first | exact SlR.lda (HP.mono hw) hxk) (by rfl)) ?_))) | ((refine is_ia ?_; first | (refine lw_pure rfl (pv_ian (tS rfl) rfl rfl (by omega)) ?_) | (refine lw_pure rfl (pv_ia (tS rfl) rfl rfl (by omega)) ?_))) | ((refine is_bd ?_; first | (refine lw_pure rfl (tyB_73 rfl rfl rfl) ?_))))
    refine lw_storea (vs := encL r) (H.mono hw) (tZ rfl) rfl rfl rfl rfl (encL_one _) ?_; intro w3 H2 hg hz
    replace hE := (hE.mono hw).grown hg (by intro q hq; injection hq with hq; omega)
    clear hw
    have hw := Below.refl w3.heap.size w3
    repeat' (first | (refine lw_pure rfl (pv_move rfl) ?_) | (refine lw_pure rfl (pv_assign rfl) ?_) | (refine is_cw ?_; first | (refine cw_seq ?_) | (refine cw_region ?_) | (refine cw_true rfl rfl ?_) | (refine cw_false rfl rfl ?_) | (refine cw_true rfl (by first | assumption | exact decide_eq_true (by omega) | exact dec_notT (by omega)) ?_) | (refine cw_false rfl (by first | assumption | exact decide_eq_false (by omega) | exact dec_notF (by omega)) ?_) | (refine cw_skip ?_) | (refine cw_ret ?_)) | (refine is_qw ?_; first | (with_reducible refine qw_then ?_) | (with_reducible refine qw_then_ret ?_)) | (refine lw_nil ?_) | ((refine is_bin ?_; first | (refine lw_pure rfl (pv_lss rfl rfl) ?_))) | ((refine is_load ?_; first | (refine lw_pure rfl (pv_load (t1 rfl) rfl (by first | fail)) ?_) | (refine lw_pure rfl (pv_loada (tA rfl) rfl (by first | fail) (by rfl)) ?_))) | ((refine is_ia ?_; first | (refine lw_pure rfl (pv_ian (tS rfl) rfl rfl (by omega)) ?_) | (refine lw_pure rfl (pv_ia (tS rfl) rfl rfl (by omega)) ?_))) | ((refine is_bd ?_; first | (refine lw_pure rfl (tyB_73 rfl rfl rfl) ?_))))
    exact qw_retct rfl rfl rfl (agg_ld (tA rfl) rfl (fun i u hu => H2.ld0 hu)) ⟨rfl, hE.b⟩
end Go.Proofs.YtnffmbfdfhokeaaGreatDoor
namespace Go.Proofs.YtnffmbfdfhokeaaGreatDoor
open Go.PlainAid

theorem insP_perm (o : Opn) : ∀ p : List Opn, (insP p o).Perm (p ++ [o])
  | [] => List.Perm.refl _
  | x :: r => by
    unfold insP
    split
    · have : (o :: (x :: r)).Perm ((x :: r) ++ [o]) := (List.perm_append_comm (l₁ := [o]) (l₂ := x :: r))
      exact this
    · exact List.Perm.cons x (insP_perm o r)
theorem insT_perm (o : Lt) : ∀ p : List Lt, (insT p o).Perm (p ++ [o])
  | [] => List.Perm.refl _
  | x :: r => by
    unfold insT
    split
    · have : (o :: (x :: r)).Perm ((x :: r) ++ [o]) := (List.perm_append_comm (l₁ := [o]) (l₂ := x :: r))
      exact this
    · exact List.Perm.cons x (insT_perm o r)
theorem insP_pw {o : Opn} : ∀ {p : List Opn}, p.Pairwise keyO → (∀ x ∈ p, keyO x o ∨ keyO o x) → (insP p o).Pairwise keyO
  | [], _, _ => by simp [insP]
  | x :: r, hp, h => by
    obtain ⟨h1, h2⟩ := List.pairwise_cons.1 hp
    unfold insP
    split
    · rename_i hk
      refine List.pairwise_cons.2 ⟨fun y hy => ?_, hp⟩
      rcases List.mem_cons.1 hy with rfl | hy
      · exact hk
      · exact keyO_trans hk (h1 y hy)
    · rename_i hk
      refine List.pairwise_cons.2 ⟨fun y hy => ?_, insP_pw h2 (fun y hy => h y (List.mem_cons_of_mem _ hy))⟩
      rcases List.mem_append.1 ((insP_perm o r).mem_iff.1 hy) with hy | hy
      · exact h1 y hy
      · simp at hy; subst hy
        rcases h x (by simp) with h3 | h3
        · exact h3
        · exact absurd h3 hk
theorem insT_pw {o : Lt} : ∀ {p : List Lt}, p.Pairwise keyT → (∀ x ∈ p, keyT x o ∨ keyT o x) → (insT p o).Pairwise keyT
  | [], _, _ => by simp [insT]
  | x :: r, hp, h => by
    obtain ⟨h1, h2⟩ := List.pairwise_cons.1 hp
    unfold insT
    split
    · rename_i hk
      refine List.pairwise_cons.2 ⟨fun y hy => ?_, hp⟩
      rcases List.mem_cons.1 hy with rfl | hy
      · exact hk
      · exact keyT_trans hk (h1 y hy)
    · rename_i hk
      refine List.pairwise_cons.2 ⟨fun y hy => ?_, insT_pw h2 (fun y hy => h y (List.mem_cons_of_mem _ hy))⟩
      rcases List.mem_append.1 ((insT_perm o r).mem_iff.1 hy) with hy | hy
      · exact h1 y hy
      · simp at hy; subst hy
        rcases h x (by simp) with h3 | h3
        · exact h3
        · exact absurd h3 hk
theorem sortP_eq {l m : List Opn} (hp : l.Perm m) (h1 : l.Pairwise keyO) (h2 : m.Pairwise keyO) : l = m :=
  List.Perm.eq_of_pairwise (le := keyO) (fun _ _ _ _ h g => absurd g (keyO_asymm h)) h1 h2 hp
theorem sortT_eq {l m : List Lt} (hp : l.Perm m) (h1 : l.Pairwise keyT) (h2 : m.Pairwise keyT) : l = m :=
  List.Perm.eq_of_pairwise (le := keyT) (fun _ _ _ _ h g => by unfold keyT at *; omega) h1 h2 hp
theorem findP_none {p : List Opn} {id : Int} (h : findP p id = none) : ∀ x ∈ p, x.id ≠ id := by
  unfold findP at h
  rw [List.find?_eq_none] at h
  intro x hx e; exact h x hx (by simp [e])
theorem findT_none {p : List Lt} {id : Int} (h : findT p id = none) : ∀ x ∈ p, x.id ≠ id := by
  unfold findT at h
  rw [List.find?_eq_none] at h
  intro x hx e; exact h x hx (by simp [e])
theorem key_diff {x o : Opn} (h : x.id ≠ o.id) : keyO x o ∨ keyO o x := by unfold keyO; omega
theorem keyT_diff {x o : Lt} (h : x.id ≠ o.id) : keyT x o ∨ keyT o x := by unfold keyT; omega
theorem put_pw {p : List Opn} {o : Opn} (hp : p.Pairwise keyO) (h : ∀ x ∈ p, x.id ≠ o.id) : (p ++ [o]).Pairwise fun x y => keyO x y ∨ keyO y x := by
  refine List.pairwise_append.2 ⟨hp.imp Or.inl, by simp, fun x hx y hy => ?_⟩
  simp at hy; subst hy; exact key_diff (h x hx)
theorem putT_pw {p : List Lt} {o : Lt} (hp : p.Pairwise keyT) (h : ∀ x ∈ p, x.id ≠ o.id) : (p ++ [o]).Pairwise fun x y => keyT x y ∨ keyT y x := by
  refine List.pairwise_append.2 ⟨hp.imp Or.inl, by simp, fun x hx y hy => ?_⟩
  simp at hy; subst hy; exact keyT_diff (h x hx)
theorem put_sorted {p zs : List Opn} {o : Opn} (hp : p.Pairwise keyO) (h : ∀ x ∈ p, x.id ≠ o.id) (hz : zs.Perm (p ++ [o])) (hs : zs.Pairwise keyO) : zs = insP p o :=
  sortP_eq (hz.trans (insP_perm o p).symm) hs (insP_pw hp (fun x hx => key_diff (h x hx)))
theorem putT_sorted {p zs : List Lt} {o : Lt} (hp : p.Pairwise keyT) (h : ∀ x ∈ p, x.id ≠ o.id) (hz : zs.Perm (p ++ [o])) (hs : zs.Pairwise keyT) : zs = insT p o :=
  sortT_eq (hz.trans (insT_perm o p).symm) hs (insT_pw hp (fun x hx => keyT_diff (h x hx)))
/-! ### what is taken out -/
theorem map_other {p : List Opn} {id q : Int} (h : ∀ x ∈ p, x.id ≠ id) : p.map (cutP id q) = p := by
  have : ∀ x ∈ p, cutP id q x = x := fun x hx => by unfold cutP; rw [if_neg (h x hx)]
  exact (List.map_congr_left this).trans (List.map_id' p)
theorem keep_pos {p : List Opn} (h : ∀ x ∈ p, 0 < x.left) : (p.filter fun o => decide (0 < o.left)) = p := List.filter_eq_self.2 fun x hx => by simp [h x hx]
theorem cancel_eq : ∀ {p : List Opn} {k : Nat} {o : Opn}, p[k]? = some o → (p.map (·.id)).Nodup → (∀ x ∈ p, 0 < x.left) → lessP p o.id o.left = p.eraseIdx k
  | [], _, _, h, _, _ => by simp at h
  | x :: r, 0, o, h, hn, hl => by
    simp at h; subst h
    rw [List.map_cons, List.nodup_cons] at hn
    have hne : ∀ y ∈ r, y.id ≠ x.id := fun y hy e => hn.1 (List.mem_map.2 ⟨y, hy, e⟩)
    unfold lessP
    rw [List.map_cons, map_other hne, List.filter_cons_of_neg (by simp [cutP]), keep_pos (fun y hy => hl y (List.mem_cons_of_mem _ hy))]
    rfl
  | x :: r, k + 1, o, h, hn, hl => by
    have h' : r[k]? = some o := by simpa using h
    rw [List.map_cons, List.nodup_cons] at hn
    have hne : x.id ≠ o.id := fun e => hn.1 (List.mem_map.2 ⟨o, List.mem_of_getElem? h', e.symm⟩)
    have ih := cancel_eq h' hn.2 (fun y hy => hl y (List.mem_cons_of_mem _ hy))
    unfold lessP at ih ⊢
    rw [List.map_cons, show cutP o.id o.left x = x by unfold cutP; rw [if_neg hne], List.filter_cons_of_pos (by simpa using hl x (by simp)), ih]
    rfl
theorem gone_eq : ∀ {t : List Lt} {k : Nat} {o : Lt}, t[k]? = some o → t.Pairwise keyT → gone t o.id = t.eraseIdx k
  | [], _, _, h, _ => by simp at h
  | x :: r, 0, o, h, hp => by
    simp at h; subst h
    obtain ⟨h1, _⟩ := List.pairwise_cons.1 hp
    unfold gone
    rw [List.filter_cons_of_neg (by simp), List.filter_eq_self.2 (fun y hy => by have := h1 y hy; unfold keyT at this; simp; omega)]
    rfl
  | x :: r, k + 1, o, h, hp => by
    have h' : r[k]? = some o := by simpa using h
    obtain ⟨h1, h2⟩ := List.pairwise_cons.1 hp
    have hk := h1 o (List.mem_of_getElem? h')
    unfold keyT at hk
    have ih := gone_eq h' h2
    unfold gone at ih ⊢
    rw [List.filter_cons_of_pos (by simp; omega), ih]
    rfl
/-! ### less of one -/
theorem set_map : ∀ {p : List Opn} {k : Nat} {o : Opn} {q : Int}, p[k]? = some o → (p.map (·.id)).Nodup → p.set k { o with left := o.left - q } = p.map (cutP o.id q)
  | [], _, _, _, h, _ => by simp at h
  | x :: r, 0, o, q, h, hn => by
    simp at h; subst h
    rw [List.map_cons, List.nodup_cons] at hn
    have hne : ∀ y ∈ r, y.id ≠ x.id := fun y hy e => hn.1 (List.mem_map.2 ⟨y, hy, e⟩)
    rw [List.map_cons, map_other hne]
    simp [cutP]
  | x :: r, k + 1, o, q, h, hn => by
    have h' : r[k]? = some o := by simpa using h
    rw [List.map_cons, List.nodup_cons] at hn
    have hne : x.id ≠ o.id := fun e => hn.1 (List.mem_map.2 ⟨o, List.mem_of_getElem? h', e.symm⟩)
    rw [List.set_cons_succ, set_map h' hn.2, List.map_cons, show cutP o.id q x = x by unfold cutP; rw [if_neg hne]]
theorem cut_id (id q : Int) (o : Opn) : (cutP id q o).id = o.id := by unfold cutP; split <;> rfl
theorem map_ids (p : List Opn) (id q : Int) : (p.map (cutP id q)).map (·.id) = p.map (·.id) := by
  rw [List.map_map]; exact List.map_congr_left fun x _ => cut_id id q x
theorem filter_map_filter {α : Type} (P : α → Bool) (f : α → α) (l : List α) (h : ∀ x ∈ l, P x = false → P (f x) = false) : ((l.filter P).map f).filter P = (l.map f).filter P := by
  induction l with
  | nil => rfl
  | cons x l ih =>
    have ih' := ih (fun y hy => h y (List.mem_cons_of_mem _ hy))
    cases hx : P x with
    | true => rw [List.filter_cons_of_pos hx, List.map_cons, List.map_cons, List.filter_cons, List.filter_cons, ih']
    | false =>
      rw [List.filter_cons_of_neg (by simp [hx]), List.map_cons, List.filter_cons_of_neg (by simp [h x (by simp) hx]), ih']
theorem inj_of_nodup {p : List Opn} (hn : (p.map (·.id)).Nodup) {x y : Opn} (hx : x ∈ p) (hy : y ∈ p) (e : x.id = y.id) : x = y := by
  induction p with
  | nil => cases hx
  | cons z r ih =>
    rw [List.map_cons, List.nodup_cons] at hn
    rcases List.mem_cons.1 hx with rfl | hx' <;> rcases List.mem_cons.1 hy with rfl | hy'
    · rfl
    · exact absurd (List.mem_map.2 ⟨y, hy', e.symm⟩) hn.1
    · exact absurd (List.mem_map.2 ⟨x, hx', e⟩) hn.1
    · exact ih hn.2 hx' hy'
theorem cut_ne {id q : Int} {o : Opn} (h : o.id ≠ id) : cutP id q o = o := by unfold cutP; rw [if_neg h]
theorem traded_eq {p : List Opn} {i j : Nat} {a b : Opn} {q : Int} (ha : p[i]? = some a) (hb : p[j]? = some b) (hn : (p.map (·.id)).Nodup) (hl : ∀ x ∈ p, 0 < x.left) (hab : a.id ≠ b.id) (h1 : q ≤ a.left) (h2 : q ≤ b.left) :
    ((p.set i { a with left := a.left - q }).set j { b with left := b.left - q }).filter (fun o => !(o.left == 0)) = lessP (lessP p a.id q) b.id q := by
  rw [set_map ha hn]
  have hb' : (p.map (cutP a.id q))[j]? = some b := by
    rw [List.getElem?_map, hb, Option.map_some]
    unfold cutP; rw [if_neg (fun e => hab e.symm)]
  rw [set_map hb' (by rw [map_ids]; exact hn)]
  unfold lessP
  rw [filter_map_filter]
  · refine List.filter_congr fun x hx => ?_
    obtain ⟨y, hy, rfl⟩ := List.mem_map.1 hx
    obtain ⟨z, hz, rfl⟩ := List.mem_map.1 hy
    have hz0 := hl z hz
    have hge : 0 ≤ (cutP b.id q (cutP a.id q z)).left := by
      unfold cutP
      by_cases e1 : z.id = a.id
      · have hza : z = a := by
          have := List.mem_of_getElem? ha
          exact inj_of_nodup hn hz this e1
        subst hza
        simp [hab]
        omega
      · rw [if_neg e1]
        by_cases e2 : z.id = b.id
        · have hzb : z = b := inj_of_nodup hn hz (List.mem_of_getElem? hb) e2
          subst hzb
          simp; omega
        · rw [if_neg e2]; omega
    by_cases h0 : (cutP b.id q (cutP a.id q z)).left = 0
    · simp [h0]
    · have : 0 < (cutP b.id q (cutP a.id q z)).left := by omega
      simp [h0, this]
  · intro x hx hx0
    obtain ⟨y, hy, rfl⟩ := List.mem_map.1 hx
    simp only [decide_eq_false_iff_not] at hx0 ⊢
    have hy0 := hl y hy
    by_cases e1 : y.id = a.id
    · have e3 : (cutP a.id q y).id ≠ b.id := by rw [cut_id, e1]; exact hab
      rw [cut_ne e3]
      exact hx0
    · rw [cut_ne e1] at hx0
      exact absurd hy0 hx0
end Go.Proofs.YtnffmbfdfhokeaaGreatDoor
namespace Go.Proofs.YtnffmbfdfhokeaaGreatDoor
open Go.RowKit Go.PlainAid

theorem own_ne_T {α β : Type} {enc : α → List Value} {enc' : β → List Value} {k k' : Nat} {T T' : TypeId} {B B' : Nat} {w : World} {v v' : Value} {xs : List α} {ys : List β} (h : Own enc k T B w v xs) (h' : Own enc' k' T' B' w v' ys) (hT : T ≠ T') : v.ownBlock = none ∨ v.ownBlock ≠ v'.ownBlock := by
  obtain ⟨_, h2⟩ := h
  obtain ⟨_, h2'⟩ := h'
  rcases h2 with ⟨rfl, _⟩ | ⟨g, cap, cur, rfl, _, hg, _⟩
  · exact Or.inl rfl
  · rcases h2' with ⟨rfl, _⟩ | ⟨g', cap', cur', rfl, _, hg', _⟩
    · exact Or.inr (by simp [Value.ownBlock])
    · refine Or.inr fun e => ?_
      have e2 : g = g' := by simpa [Value.ownBlock] using e
      subst e2
      rw [hg] at hg'; injection hg' with hg'; injection hg' with _ hg' _; exact hT hg'
structure WkO (base : Nat) (w : World) (N : Nat) (p : List Opn) (t : List Lt) (vo vt : Value) : Prop where
  pt : PT w N 80 [vo, vt]
  o : Own encP 6 69 base w vo p
  t : Own encL 4 73 base w vt t
  n : base ≤ N
theorem WkO.mono {base N : Nat} {w w' : World} {p : List Opn} {t : List Lt} {vo vt : Value} (h : WkO base w N p t vo vt) (hb : Below w.heap.size w w') : WkO base w' N p t vo vt := ⟨h.pt.mono hb, h.o.mono hb, h.t.mono hb, h.n⟩
set_option maxRecDepth 20000 in
set_option maxHeartbeats 4000000 in
theorem placed_c {p : List Opn} {t : List Lt} {ev0 : Evt} {w0 w : World} {N : Nat} {a : Option Addr} {c : Nat} {n0 n1 n2 n3 n4 n5 : Int} {vo vt : Value} (hev : ev0.nums = [n0, n1, n2, n3, n4, n5]) (hb0 : Below w0.heap.size w0 w) (hW : WkO w0.heap.size w N p t vo vt) (HN : SlR encI 1 w0 a c [n0, n1, n2, n3, n4, n5]) (hp1 : p.Pairwise keyO) (hl : p.length ≤ 128) (h3 : n3 = 1 ∨ n3 = 2) :
    Calls Tryz.prog 65 #[.pointer (some ⟨N, 0, none⟩), .slice a 6 c] w fun e w' => e = .returned (.int .i64 (placedR p t ev0).2.2) ∧ ((placedR p t ev0).2.2 = 0 → ∃ vo vt, WkO w0.heap.size w' N (placedR p t ev0).1 (placedR p t ev0).2.1 vo vt) ∧ Below w0.heap.size w0 w' := by
  obtain ⟨HW, HO, HT, hNb⟩ := hW
  obtain ⟨ab, ao, rfl, -, -⟩ := HN.at (by simp)
  obtain ⟨oa, oc, rfl, HOs, -⟩ := Own.slR encP_len HO
  have hx0 : [n0, n1, n2, n3, n4, n5][0]? = some n0 := rfl
  have hx1 : [n0, n1, n2, n3, n4, n5][1]? = some n1 := rfl
  have hx2 : [n0, n1, n2, n3, n4, n5][2]? = some n2 := rfl
  have hx3 : [n0, n1, n2, n3, n4, n5][3]? = some n3 := rfl
  have hx4 : [n0, n1, n2, n3, n4, n5][4]? = some n4 := rfl
  have hx5 : [n0, n1, n2, n3, n4, n5][5]? = some n5 := rfl
  have hR : placedR p t ev0 = if (findP p n0).isSome then ([], [], 6) else if p.length = 128 then ([], [], 40) else (insP p ⟨n1, n0, n2, n3, n4, n5⟩, t, 0) := by unfold placedR nth; rw [hev]; rfl
  rw [hR]
  clear hR hev
  have HNw := HN.mono hb0
  have hw := Below.refl w.heap.size w
  refine fn_enter 56 Tryz.func65 rfl rfl rfl ?_
  repeat' (first | (refine lw_pure rfl (pv_assign rfl) ?_) | (refine is_cw ?_; first | (refine cw_seq ?_) | (refine cw_region ?_) | (refine cw_block ?_)) | (refine is_qw ?_; first | (with_reducible refine qw_then ?_)) | (refine lw_nil ?_))
  refine cw_drawn (fun w' => Below w.heap.size w w') (by kernel_rfl) (by repeat (first | exact NoPanic.body | with_reducible refine NoPanic.then ?_ | with_reducible refine NoPanic.inBlock ?_)) (fun hNP => ?_)
  have hS := hw.drew
  (refine at0 0 rfl (fun w' hq => pv_move rfl) ?_)
  (refine at0 1 rfl (fun w' hq => pv_nilp rfl) ?_)
  (refine at0 2 rfl (fun w' hq => pv_fa (tF rfl) rfl) ?_)
  (refine at0 3 rfl (fun w' hq => pv_load (t1 rfl) rfl (by first | exact PT.ld0 (HW.mono hq) rfl | exact PT.ld (HW.mono hq) rfl | exact SlR.ld (HNw.mono hq) hx0 rfl | exact SlR.ld1 (HNw.mono hq) hx0 rfl)) ?_)
  (refine at0 4 rfl (fun w' hq => pv_move rfl) ?_)
  (refine at0 5 rfl (fun w' hq => pv_ia (tS rfl) rfl rfl (by omega)) ?_)
  (refine at0 6 rfl (fun w' hq => pv_load (t1 rfl) rfl (by first | exact PT.ld0 (HW.mono hq) rfl | exact PT.ld (HW.mono hq) rfl | exact SlR.ld (HNw.mono hq) hx0 rfl | exact SlR.ld1 (HNw.mono hq) hx0 rfl)) ?_)
  refine aw_act 7 (by kernel_rfl) rfl rfl rfl ?_
  refine act_call (f := 85) (by kernel_rfl) rfl (at_c n0 rfl (HOs.mono hS)) ?_; rintro e1 w1 ⟨⟨i, rfl, hi⟩, hb1⟩; refine ⟨_, rfl, grow_trans hS hb1, fun hS => ?_⟩
  (refine at0 8 rfl (fun w' hq => pv_geq rfl rfl) ?_)
  (refine at0 9 rfl (fun w' hq => pv_assign rfl) ?_)
  refine aw_done (by kernel_rfl) ?_
  replace hw := hS; clear hS hNP
  have hb2 := grow_trans hb0 hw
  rcases hi with ⟨rfl, hn⟩ | ⟨k, r, rfl, hxk, hr, hn⟩
  · have hf : findP p n0 = none := find_none hn
    rw [hf]
    by_cases h128 : p.length = 128
    · rw [if_neg (by simp), if_pos h128]
      repeat' (first | (refine lw_pure rfl (pv_move rfl) ?_) | (refine lw_pure rfl (pv_assign rfl) ?_) | (refine is_cw ?_; first | (refine cw_seq ?_) | (refine cw_region ?_) | (refine cw_false rfl rfl ?_) | (refine cw_true rfl (by first | assumption | exact decide_eq_true (by omega) | exact dec_notT (by omega)) ?_) | (refine cw_ret ?_)) | (refine is_qw ?_; first | (with_reducible refine qw_then ?_) | (with_reducible refine qw_then_ret ?_) | (with_reducible refine qw_in_ret ?_)) | (refine lw_nil ?_) | ((refine is_bin ?_; first | (refine lw_pure rfl (pv_eql rfl rfl) ?_))) | ((refine is_load ?_; first | (refine lw_pure rfl (pv_load (t1 rfl) rfl (by first | exact PT.ld0 (HW.mono hw) rfl | exact PT.ld (HW.mono hw) rfl)) ?_))) | ((refine is_fa ?_; first | (refine lw_pure rfl (pv_fa (tF rfl) rfl) ?_))) | ((refine is_bi ?_; first | (refine lw_pure rfl (pv_lenl (tS rfl) rfl) ?_))) | (refine lw_pure rfl (pv_nilp rfl) ?_))
      exact qw_ret1 rfl rfl ⟨rfl, by simp, hb2⟩
    · rw [if_neg (by simp), if_neg h128]
      repeat' (first | (refine lw_pure rfl (pv_move rfl) ?_) | (refine lw_pure rfl (pv_assign rfl) ?_) | (refine is_cw ?_; first | (refine cw_seq ?_) | (refine cw_region ?_) | (refine cw_false rfl rfl ?_) | (refine cw_false rfl (by first | assumption | exact decide_eq_false (by omega) | exact dec_notF (by omega)) ?_) | (refine cw_skip ?_)) | (refine is_qw ?_; first | (with_reducible refine qw_then ?_) | (with_reducible refine qw_in ?_)) | (refine lw_nil ?_) | ((refine is_bin ?_; first | (refine lw_pure rfl (pv_eql rfl rfl) ?_))) | ((refine is_load ?_; first | (refine lw_pure rfl (pv_load (t1 rfl) rfl (by first | exact PT.ld0 (HW.mono hw) rfl | exact PT.ld (HW.mono hw) rfl)) ?_))) | ((refine is_fa ?_; first | (refine lw_pure rfl (pv_fa (tF rfl) rfl) ?_))) | ((refine is_bi ?_; first | (refine lw_pure rfl (pv_lenl (tS rfl) rfl) ?_))) | (refine lw_pure rfl (pv_nilp rfl) ?_))
      have hs8 : 0 ≤ n3 ∧ n3 ≤ 255 := by omega
      have hO2 := HO.mono hw
      have hT2 := HT.mono hw
      have hwz := hb2.size
      refine cw_drawnF 29 (fun w' => Below w0.heap.size w0 w' ∧ PT w' N 80 [.slice oa p.length oc, vt]) (by kernel_rfl) (by repeat (first | exact NoPanic.body | with_reducible refine NoPanic.then ?_ | with_reducible refine NoPanic.inBlock ?_)) (fun hNP => ?_)
      have hU := And.intro hb2.drew ((HW.mono hw).mono (below_drew _))
      first | (refine fw_take 0 rfl (by kernel_rfl) rfl rfl (by kernel_rfl) (by kernel_rfl) (by kernel_rfl) hNP hU rfl (fun w' hq => pv_move rfl) ?_)
      first | (refine fw_take 1 rfl (by kernel_rfl) rfl rfl (by kernel_rfl) (by kernel_rfl) (by kernel_rfl) hNP hU rfl (fun w' hq => pv_move rfl) ?_)
      first | (refine fw_take 2 rfl (by kernel_rfl) rfl rfl (by kernel_rfl) (by kernel_rfl) (by kernel_rfl) hNP hU rfl (fun w' hq => pv_nilp rfl) ?_)
      first | (refine fw_take 3 rfl (by kernel_rfl) rfl rfl (by kernel_rfl) (by kernel_rfl) (by kernel_rfl) hNP hU rfl (fun w' hq => pv_fa (tF rfl) rfl) ?_)
      first | (refine fw_take 4 rfl (by kernel_rfl) rfl rfl (by kernel_rfl) (by kernel_rfl) (by kernel_rfl) hNP hU rfl (fun w' hq => pv_load (t1 rfl) rfl (by first | exact PT.ld0 hq.2 rfl | exact PT.ld hq.2 rfl)) ?_) | (refine fw_take 4 rfl (by kernel_rfl) rfl rfl (by kernel_rfl) (by kernel_rfl) (by kernel_rfl) hNP hU rfl (fun w' hq => pv_loada (tA rfl) rfl (by first | exact PT.lda hq.2) (by rfl)) ?_) | (refine fw_take 4 rfl (by kernel_rfl) rfl rfl (by kernel_rfl) (by kernel_rfl) (by kernel_rfl) hNP hU rfl (fun w' hq => pv_load (t1 rfl) rfl (by first | exact SlR.ld (HN.mono hq.1) hx0 rfl | exact SlR.ld1 (HN.mono hq.1) hx0 rfl | exact SlR.ld (HN.mono hq.1) hx1 rfl | exact SlR.ld1 (HN.mono hq.1) hx1 rfl | exact SlR.ld (HN.mono hq.1) hx2 rfl | exact SlR.ld1 (HN.mono hq.1) hx2 rfl | exact SlR.ld (HN.mono hq.1) hx3 rfl | exact SlR.ld1 (HN.mono hq.1) hx3 rfl | exact SlR.ld (HN.mono hq.1) hx4 rfl | exact SlR.ld1 (HN.mono hq.1) hx4 rfl | exact SlR.ld (HN.mono hq.1) hx5 rfl | exact SlR.ld1 (HN.mono hq.1) hx5 rfl)) ?_) | (refine fw_take 4 rfl (by kernel_rfl) rfl rfl (by kernel_rfl) (by kernel_rfl) (by kernel_rfl) hNP hU rfl (fun w' hq => pv_loada (tA rfl) rfl (by first | exact SlR.lda (HN.mono hq.1) hx0 | exact SlR.lda (HN.mono hq.1) hx1 | exact SlR.lda (HN.mono hq.1) hx2 | exact SlR.lda (HN.mono hq.1) hx3 | exact SlR.lda (HN.mono hq.1) hx4 | exact SlR.lda (HN.mono hq.1) hx5) (by rfl)) ?_)
      first | (refine fw_take 5 rfl (by kernel_rfl) rfl rfl (by kernel_rfl) (by kernel_rfl) (by kernel_rfl) hNP hU rfl (fun w' hq => pv_move rfl) ?_)
      first | (refine fw_take 6 rfl (by kernel_rfl) rfl rfl (by kernel_rfl) (by kernel_rfl) (by kernel_rfl) hNP hU rfl (fun w' hq => pv_ian (tS rfl) rfl rfl (by omega)) ?_) | (refine fw_take 6 rfl (by kernel_rfl) rfl rfl (by kernel_rfl) (by kernel_rfl) (by kernel_rfl) hNP hU rfl (fun w' hq => pv_ia (tS rfl) rfl rfl (by omega)) ?_)
      first | (refine fw_take 7 rfl (by kernel_rfl) rfl rfl (by kernel_rfl) (by kernel_rfl) (by kernel_rfl) hNP hU rfl (fun w' hq => pv_load (t1 rfl) rfl (by first | exact PT.ld0 hq.2 rfl | exact PT.ld hq.2 rfl)) ?_) | (refine fw_take 7 rfl (by kernel_rfl) rfl rfl (by kernel_rfl) (by kernel_rfl) (by kernel_rfl) hNP hU rfl (fun w' hq => pv_loada (tA rfl) rfl (by first | exact PT.lda hq.2) (by rfl)) ?_) | (refine fw_take 7 rfl (by kernel_rfl) rfl rfl (by kernel_rfl) (by kernel_rfl) (by kernel_rfl) hNP hU rfl (fun w' hq => pv_load (t1 rfl) rfl (by first | exact SlR.ld (HN.mono hq.1) hx0 rfl | exact SlR.ld1 (HN.mono hq.1) hx0 rfl | exact SlR.ld (HN.mono hq.1) hx1 rfl | exact SlR.ld1 (HN.mono hq.1) hx1 rfl | exact SlR.ld (HN.mono hq.1) hx2 rfl | exact SlR.ld1 (HN.mono hq.1) hx2 rfl | exact SlR.ld (HN.mono hq.1) hx3 rfl | exact SlR.ld1 (HN.mono hq.1) hx3 rfl | exact SlR.ld (HN.mono hq.1) hx4 rfl | exact SlR.ld1 (HN.mono hq.1) hx4 rfl | exact SlR.ld (HN.mono hq.1) hx5 rfl | exact SlR.ld1 (HN.mono hq.1) hx5 rfl)) ?_) | (refine fw_take 7 rfl (by kernel_rfl) rfl rfl (by kernel_rfl) (by kernel_rfl) (by kernel_rfl) hNP hU rfl (fun w' hq => pv_loada (tA rfl) rfl (by first | exact SlR.lda (HN.mono hq.1) hx0 | exact SlR.lda (HN.mono hq.1) hx1 | exact SlR.lda (HN.mono hq.1) hx2 | exact SlR.lda (HN.mono hq.1) hx3 | exact SlR.lda (HN.mono hq.1) hx4 | exact SlR.lda (HN.mono hq.1) hx5) (by rfl)) ?_)
      first | (refine fw_take 8 rfl (by kernel_rfl) rfl rfl (by kernel_rfl) (by kernel_rfl) (by kernel_rfl) hNP hU rfl (fun w' hq => pv_move rfl) ?_)
      first | (refine fw_take 9 rfl (by kernel_rfl) rfl rfl (by kernel_rfl) (by kernel_rfl) (by kernel_rfl) hNP hU rfl (fun w' hq => pv_ian (tS rfl) rfl rfl (by omega)) ?_) | (refine fw_take 9 rfl (by kernel_rfl) rfl rfl (by kernel_rfl) (by kernel_rfl) (by kernel_rfl) hNP hU rfl (fun w' hq => pv_ia (tS rfl) rfl rfl (by omega)) ?_)
      first | (refine fw_take 10 rfl (by kernel_rfl) rfl rfl (by kernel_rfl) (by kernel_rfl) (by kernel_rfl) hNP hU rfl (fun w' hq => pv_load (t1 rfl) rfl (by first | exact PT.ld0 hq.2 rfl | exact PT.ld hq.2 rfl)) ?_) | (refine fw_take 10 rfl (by kernel_rfl) rfl rfl (by kernel_rfl) (by kernel_rfl) (by kernel_rfl) hNP hU rfl (fun w' hq => pv_loada (tA rfl) rfl (by first | exact PT.lda hq.2) (by rfl)) ?_) | (refine fw_take 10 rfl (by kernel_rfl) rfl rfl (by kernel_rfl) (by kernel_rfl) (by kernel_rfl) hNP hU rfl (fun w' hq => pv_load (t1 rfl) rfl (by first | exact SlR.ld (HN.mono hq.1) hx0 rfl | exact SlR.ld1 (HN.mono hq.1) hx0 rfl | exact SlR.ld (HN.mono hq.1) hx1 rfl | exact SlR.ld1 (HN.mono hq.1) hx1 rfl | exact SlR.ld (HN.mono hq.1) hx2 rfl | exact SlR.ld1 (HN.mono hq.1) hx2 rfl | exact SlR.ld (HN.mono hq.1) hx3 rfl | exact SlR.ld1 (HN.mono hq.1) hx3 rfl | exact SlR.ld (HN.mono hq.1) hx4 rfl | exact SlR.ld1 (HN.mono hq.1) hx4 rfl | exact SlR.ld (HN.mono hq.1) hx5 rfl | exact SlR.ld1 (HN.mono hq.1) hx5 rfl)) ?_) | (refine fw_take 10 rfl (by kernel_rfl) rfl rfl (by kernel_rfl) (by kernel_rfl) (by kernel_rfl) hNP hU rfl (fun w' hq => pv_loada (tA rfl) rfl (by first | exact SlR.lda (HN.mono hq.1) hx0 | exact SlR.lda (HN.mono hq.1) hx1 | exact SlR.lda (HN.mono hq.1) hx2 | exact SlR.lda (HN.mono hq.1) hx3 | exact SlR.lda (HN.mono hq.1) hx4 | exact SlR.lda (HN.mono hq.1) hx5) (by rfl)) ?_)
      first | (refine fw_take 11 rfl (by kernel_rfl) rfl rfl (by kernel_rfl) (by kernel_rfl) (by kernel_rfl) hNP hU rfl (fun w' hq => pv_move rfl) ?_)
      first | (refine fw_take 12 rfl (by kernel_rfl) rfl rfl (by kernel_rfl) (by kernel_rfl) (by kernel_rfl) hNP hU rfl (fun w' hq => pv_ian (tS rfl) rfl rfl (by omega)) ?_) | (refine fw_take 12 rfl (by kernel_rfl) rfl rfl (by kernel_rfl) (by kernel_rfl) (by kernel_rfl) hNP hU rfl (fun w' hq => pv_ia (tS rfl) rfl rfl (by omega)) ?_)
      first | (refine fw_take 13 rfl (by kernel_rfl) rfl rfl (by kernel_rfl) (by kernel_rfl) (by kernel_rfl) hNP hU rfl (fun w' hq => pv_load (t1 rfl) rfl (by first | exact PT.ld0 hq.2 rfl | exact PT.ld hq.2 rfl)) ?_) | (refine fw_take 13 rfl (by kernel_rfl) rfl rfl (by kernel_rfl) (by kernel_rfl) (by kernel_rfl) hNP hU rfl (fun w' hq => pv_loada (tA rfl) rfl (by first | exact PT.lda hq.2) (by rfl)) ?_) | (refine fw_take 13 rfl (by kernel_rfl) rfl rfl (by kernel_rfl) (by kernel_rfl) (by kernel_rfl) hNP hU rfl (fun w' hq => pv_load (t1 rfl) rfl (by first | exact SlR.ld (HN.mono hq.1) hx0 rfl | exact SlR.ld1 (HN.mono hq.1) hx0 rfl | exact SlR.ld (HN.mono hq.1) hx1 rfl | exact SlR.ld1 (HN.mono hq.1) hx1 rfl | exact SlR.ld (HN.mono hq.1) hx2 rfl | exact SlR.ld1 (HN.mono hq.1) hx2 rfl | exact SlR.ld (HN.mono hq.1) hx3 rfl | exact SlR.ld1 (HN.mono hq.1) hx3 rfl | exact SlR.ld (HN.mono hq.1) hx4 rfl | exact SlR.ld1 (HN.mono hq.1) hx4 rfl | exact SlR.ld (HN.mono hq.1) hx5 rfl | exact SlR.ld1 (HN.mono hq.1) hx5 rfl)) ?_) | (refine fw_take 13 rfl (by kernel_rfl) rfl rfl (by kernel_rfl) (by kernel_rfl) (by kernel_rfl) hNP hU rfl (fun w' hq => pv_loada (tA rfl) rfl (by first | exact SlR.lda (HN.mono hq.1) hx0 | exact SlR.lda (HN.mono hq.1) hx1 | exact SlR.lda (HN.mono hq.1) hx2 | exact SlR.lda (HN.mono hq.1) hx3 | exact SlR.lda (HN.mono hq.1) hx4 | exact SlR.lda (HN.mono hq.1) hx5) (by rfl)) ?_)
      first | (refine fw_take 14 rfl (by kernel_rfl) rfl rfl (by kernel_rfl) (by kernel_rfl) (by kernel_rfl) hNP hU rfl (fun w' hq => pv_move rfl) ?_)
      first | (refine fw_take 15 rfl (by kernel_rfl) rfl rfl (by kernel_rfl) (by kernel_rfl) (by kernel_rfl) hNP hU rfl (fun w' hq => pv_ian (tS rfl) rfl rfl (by omega)) ?_) | (refine fw_take 15 rfl (by kernel_rfl) rfl rfl (by kernel_rfl) (by kernel_rfl) (by kernel_rfl) hNP hU rfl (fun w' hq => pv_ia (tS rfl) rfl rfl (by omega)) ?_)
      first | (refine fw_take 16 rfl (by kernel_rfl) rfl rfl (by kernel_rfl) (by kernel_rfl) (by kernel_rfl) hNP hU rfl (fun w' hq => pv_load (t1 rfl) rfl (by first | exact PT.ld0 hq.2 rfl | exact PT.ld hq.2 rfl)) ?_) | (refine fw_take 16 rfl (by kernel_rfl) rfl rfl (by kernel_rfl) (by kernel_rfl) (by kernel_rfl) hNP hU rfl (fun w' hq => pv_loada (tA rfl) rfl (by first | exact PT.lda hq.2) (by rfl)) ?_) | (refine fw_take 16 rfl (by kernel_rfl) rfl rfl (by kernel_rfl) (by kernel_rfl) (by kernel_rfl) hNP hU rfl (fun w' hq => pv_load (t1 rfl) rfl (by first | exact SlR.ld (HN.mono hq.1) hx0 rfl | exact SlR.ld1 (HN.mono hq.1) hx0 rfl | exact SlR.ld (HN.mono hq.1) hx1 rfl | exact SlR.ld1 (HN.mono hq.1) hx1 rfl | exact SlR.ld (HN.mono hq.1) hx2 rfl | exact SlR.ld1 (HN.mono hq.1) hx2 rfl | exact SlR.ld (HN.mono hq.1) hx3 rfl | exact SlR.ld1 (HN.mono hq.1) hx3 rfl | exact SlR.ld (HN.mono hq.1) hx4 rfl | exact SlR.ld1 (HN.mono hq.1) hx4 rfl | exact SlR.ld (HN.mono hq.1) hx5 rfl | exact SlR.ld1 (HN.mono hq.1) hx5 rfl)) ?_) | (refine fw_take 16 rfl (by kernel_rfl) rfl rfl (by kernel_rfl) (by kernel_rfl) (by kernel_rfl) hNP hU rfl (fun w' hq => pv_loada (tA rfl) rfl (by first | exact SlR.lda (HN.mono hq.1) hx0 | exact SlR.lda (HN.mono hq.1) hx1 | exact SlR.lda (HN.mono hq.1) hx2 | exact SlR.lda (HN.mono hq.1) hx3 | exact SlR.lda (HN.mono hq.1) hx4 | exact SlR.lda (HN.mono hq.1) hx5) (by rfl)) ?_)
      first | (refine fw_take 17 rfl (by kernel_rfl) rfl rfl (by kernel_rfl) (by kernel_rfl) (by kernel_rfl) hNP hU rfl (fun w' hq => pv_conv8 (tCv rfl rfl) rfl hs8) ?_) | (refine fw_take 17 rfl (by kernel_rfl) rfl rfl (by kernel_rfl) (by kernel_rfl) (by kernel_rfl) hNP hU rfl (fun w' hq => pv_conv (tCv rfl rfl) rfl (by omega)) ?_)
      first | (refine fw_take 18 rfl (by kernel_rfl) rfl rfl (by kernel_rfl) (by kernel_rfl) (by kernel_rfl) hNP hU rfl (fun w' hq => pv_move rfl) ?_)
      first | (refine fw_take 19 rfl (by kernel_rfl) rfl rfl (by kernel_rfl) (by kernel_rfl) (by kernel_rfl) hNP hU rfl (fun w' hq => pv_ian (tS rfl) rfl rfl (by omega)) ?_) | (refine fw_take 19 rfl (by kernel_rfl) rfl rfl (by kernel_rfl) (by kernel_rfl) (by kernel_rfl) hNP hU rfl (fun w' hq => pv_ia (tS rfl) rfl rfl (by omega)) ?_)
      first | (refine fw_take 20 rfl (by kernel_rfl) rfl rfl (by kernel_rfl) (by kernel_rfl) (by kernel_rfl) hNP hU rfl (fun w' hq => pv_load (t1 rfl) rfl (by first | exact PT.ld0 hq.2 rfl | exact PT.ld hq.2 rfl)) ?_) | (refine fw_take 20 rfl (by kernel_rfl) rfl rfl (by kernel_rfl) (by kernel_rfl) (by kernel_rfl) hNP hU rfl (fun w' hq => pv_loada (tA rfl) rfl (by first | exact PT.lda hq.2) (by rfl)) ?_) | (refine fw_take 20 rfl (by kernel_rfl) rfl rfl (by kernel_rfl) (by kernel_rfl) (by kernel_rfl) hNP hU rfl (fun w' hq => pv_load (t1 rfl) rfl (by first | exact SlR.ld (HN.mono hq.1) hx0 rfl | exact SlR.ld1 (HN.mono hq.1) hx0 rfl | exact SlR.ld (HN.mono hq.1) hx1 rfl | exact SlR.ld1 (HN.mono hq.1) hx1 rfl | exact SlR.ld (HN.mono hq.1) hx2 rfl | exact SlR.ld1 (HN.mono hq.1) hx2 rfl | exact SlR.ld (HN.mono hq.1) hx3 rfl | exact SlR.ld1 (HN.mono hq.1) hx3 rfl | exact SlR.ld (HN.mono hq.1) hx4 rfl | exact SlR.ld1 (HN.mono hq.1) hx4 rfl | exact SlR.ld (HN.mono hq.1) hx5 rfl | exact SlR.ld1 (HN.mono hq.1) hx5 rfl)) ?_) | (refine fw_take 20 rfl (by kernel_rfl) rfl rfl (by kernel_rfl) (by kernel_rfl) (by kernel_rfl) hNP hU rfl (fun w' hq => pv_loada (tA rfl) rfl (by first | exact SlR.lda (HN.mono hq.1) hx0 | exact SlR.lda (HN.mono hq.1) hx1 | exact SlR.lda (HN.mono hq.1) hx2 | exact SlR.lda (HN.mono hq.1) hx3 | exact SlR.lda (HN.mono hq.1) hx4 | exact SlR.lda (HN.mono hq.1) hx5) (by rfl)) ?_)
      first | (refine fw_take 21 rfl (by kernel_rfl) rfl rfl (by kernel_rfl) (by kernel_rfl) (by kernel_rfl) hNP hU rfl (fun w' hq => pv_move rfl) ?_)
      first | (refine fw_take 22 rfl (by kernel_rfl) rfl rfl (by kernel_rfl) (by kernel_rfl) (by kernel_rfl) hNP hU rfl (fun w' hq => pv_ian (tS rfl) rfl rfl (by omega)) ?_) | (refine fw_take 22 rfl (by kernel_rfl) rfl rfl (by kernel_rfl) (by kernel_rfl) (by kernel_rfl) hNP hU rfl (fun w' hq => pv_ia (tS rfl) rfl rfl (by omega)) ?_)
      first | (refine fw_take 23 rfl (by kernel_rfl) rfl rfl (by kernel_rfl) (by kernel_rfl) (by kernel_rfl) hNP hU rfl (fun w' hq => pv_load (t1 rfl) rfl (by first | exact PT.ld0 hq.2 rfl | exact PT.ld hq.2 rfl)) ?_) | (refine fw_take 23 rfl (by kernel_rfl) rfl rfl (by kernel_rfl) (by kernel_rfl) (by kernel_rfl) hNP hU rfl (fun w' hq => pv_loada (tA rfl) rfl (by first | exact PT.lda hq.2) (by rfl)) ?_) | (refine fw_take 23 rfl (by kernel_rfl) rfl rfl (by kernel_rfl) (by kernel_rfl) (by kernel_rfl) hNP hU rfl (fun w' hq => pv_load (t1 rfl) rfl (by first | exact SlR.ld (HN.mono hq.1) hx0 rfl | exact SlR.ld1 (HN.mono hq.1) hx0 rfl | exact SlR.ld (HN.mono hq.1) hx1 rfl | exact SlR.ld1 (HN.mono hq.1) hx1 rfl | exact SlR.ld (HN.mono hq.1) hx2 rfl | exact SlR.ld1 (HN.mono hq.1) hx2 rfl | exact SlR.ld (HN.mono hq.1) hx3 rfl | exact SlR.ld1 (HN.mono hq.1) hx3 rfl | exact SlR.ld (HN.mono hq.1) hx4 rfl | exact SlR.ld1 (HN.mono hq.1) hx4 rfl | exact SlR.ld (HN.mono hq.1) hx5 rfl | exact SlR.ld1 (HN.mono hq.1) hx5 rfl)) ?_) | (refine fw_take 23 rfl (by kernel_rfl) rfl rfl (by kernel_rfl) (by kernel_rfl) (by kernel_rfl) hNP hU rfl (fun w' hq => pv_loada (tA rfl) rfl (by first | exact SlR.lda (HN.mono hq.1) hx0 | exact SlR.lda (HN.mono hq.1) hx1 | exact SlR.lda (HN.mono hq.1) hx2 | exact SlR.lda (HN.mono hq.1) hx3 | exact SlR.lda (HN.mono hq.1) hx4 | exact SlR.lda (HN.mono hq.1) hx5) (by rfl)) ?_)
      first | (refine fw_take 24 rfl (by kernel_rfl) rfl rfl (by kernel_rfl) (by kernel_rfl) (by kernel_rfl) hNP hU rfl (fun w' hq => tyB_69 rfl rfl rfl) ?_)
      refine fw_act 25 (by kernel_rfl) rfl rfl rfl ?_
      refine act_bs (vs := [.agg (encP ⟨n1, n0, n2, n3, n4, n5⟩).toArray]) (cs := encP ⟨n1, n0, n2, n3, n4, n5⟩) elemP rfl rfl (by omega) (by omega) rfl (by simp [Value.cells, encP]) ?_; intro wb HB hbb; have hO3 := (hO2.mono (below_drew _)).mono hbb; have hT3 := (hT2.mono (below_drew _)).mono hbb; have hbz := hbb.size; refine ⟨⟨grow_trans hU.1 hbb, hU.2.mono hbb⟩, fun hU => ?_⟩
      refine fw_act 26 (by kernel_rfl) rfl rfl rfl ?_
      refine act_app elemP encP_len encP_one rfl rfl hO3 (HB.slR (xs := [⟨n1, n0, n2, n3, n4, n5⟩]) encP_len rfl (by omega)) rfl hU.1.size (by simp; omega) (by simp [maxLen]; omega) ?_; intro v9 w9 hO9 hg9 hb9; refine ⟨⟨hU.1.grown hg9 hU.1.size (fun q hq => (Own.lt hO3 q hq).1), hU.2.grown hg9 (fun e => own_pt_ne hO3 hU.2 (by decide) e)⟩, fun hU => ?_⟩
      first | (refine fw_act 27 (by kernel_rfl) rfl rfl rfl ?_; refine act_pv (pv_nilp rfl) ?_; refine ⟨hU, fun hU => ?_⟩)
      first | (refine fw_take 28 rfl (by kernel_rfl) rfl rfl (by kernel_rfl) (by kernel_rfl) (by kernel_rfl) hNP hU rfl (fun w' hq => pv_fa (tF rfl) rfl) ?_)
      refine fw_last (by kernel_rfl) rfl rfl rfl rfl (by kernel_rfl) ?_
      obtain ⟨hb3, HW3⟩ := hU; clear hNP
      obtain ⟨va, vc, rfl, -, -⟩ := Own.slR encP_len hO9; refine act_store HW3 (tZ rfl) rfl rfl rfl (by simp) ?_; intro wz HWz hgz hzz
      have hT9 := hT3.kept hg9 (own_ne_T hT3 hO3 (by decide))
      have hTz := hT9.kept hgz (Or.inr (own_pt_ne hT9 HW3 (by decide)))
      have hOz := hO9.kept hgz (Or.inr (own_pt_ne hO9 HW3 (by decide)))
      have hbz4 := hb3.grown hgz hb3.size (by intro q hq; injection hq with hq; omega)
      obtain ⟨va', vc', hv', hSz, hvb⟩ := Own.slR encP_len hOz
      injection hv' with hv1 _ hv3; subst hv1 hv3
      obtain ⟨vb, vo2, rfl, -, -⟩ := hSz.at (by simp)
      obtain ⟨hvb1, hvb2⟩ := hvb _ rfl
      simp only at hvb1 hvb2; subst hvb2
      have hw := Below.refl wz.heap.size wz
      have hids : ∀ x ∈ p, x.id ≠ n0 := findP_none hf
      have hll : (p ++ [(⟨n1, n0, n2, n3, n4, n5⟩ : Opn)]).length ≤ 1000000 := by simp; omega
      repeat' (first | (refine lw_pure rfl (pv_move rfl) ?_) | (refine is_cw ?_; first | (refine cw_seq ?_) | (refine cw_region ?_)) | (refine is_qw ?_; first | (with_reducible refine qw_then ?_)) | ((refine is_load ?_; first | (refine lw_pure rfl (pv_load (t1 rfl) rfl (by first | exact PT.ld0 (HWz.mono hw) rfl | exact PT.ld (HWz.mono hw) rfl)) ?_))) | ((refine is_fa ?_; first | (refine lw_pure rfl (pv_fa (tF rfl) rfl) ?_))) | (refine lw_pure rfl (pv_nilp rfl) ?_))
      refine lw_call (f := 89) (by kernel_rfl) rfl rfl (sort_P w0.heap.size vb vc _ wz hOz hll (put_pw hp1 hids)) ?_; rintro e1 w5 ⟨rfl, ⟨zs, hz1, hz2, hOs2⟩, hg5⟩; refine ⟨_, rfl, ?_⟩
      have hze := put_sorted hp1 hids hz1 hz2
      have hT5 := hTz.kept hg5 (own_ne_T hTz hOz (by decide))
      have hW5 := HWz.grown hg5 (own_pt_ne hOz HWz (by decide))
      have hb5 := hbz4.grown hg5 hbz4.size (by intro q hq; injection hq with hq; omega)
      have hw := Below.refl w5.heap.size w5
      repeat' (first | (refine lw_pure rfl (pv_assign rfl) ?_) | (refine is_cw ?_; first | (refine cw_seq ?_) | (refine cw_region ?_) | (refine cw_ret ?_)) | (refine is_qw ?_; first | (with_reducible refine qw_then ?_)) | (refine lw_nil ?_))
      refine qw_ret1 rfl rfl ⟨rfl, fun _ => ⟨_, _, ⟨hW5, ?_, hT5, hNb⟩⟩, hb5⟩
      rw [← hze]
      rw [show (p ++ [(⟨n1, n0, n2, n3, n4, n5⟩ : Opn)]).length = zs.length from hz1.length_eq.symm] at hOs2 ⊢
      exact hOs2
  · have hf : findP p n0 = some r := find_at hxk hr hn
    rw [hf, if_pos (by rfl)]
    repeat' (first | (refine lw_pure rfl (pv_assign rfl) ?_) | (refine is_cw ?_; first | (refine cw_seq ?_) | (refine cw_region ?_) | (refine cw_true rfl rfl ?_) | (refine cw_ret ?_)) | (refine is_qw ?_; first | (with_reducible refine qw_then ?_) | (with_reducible refine qw_then_ret ?_) | (with_reducible refine qw_in_ret ?_)) | (refine lw_nil ?_))
    exact qw_ret1 rfl rfl ⟨rfl, by simp, hb2⟩

theorem nth_eq {e : Evt} {ns : List Int} (h : e.nums = ns) {i : Nat} {n : Int} (hx : ns[i]? = some n) : nth e i = n := by
  unfold nth; rw [h, List.getD_eq_getElem?_getD, hx]; rfl
set_option maxRecDepth 20000 in
set_option maxHeartbeats 4000000 in
theorem opened_c {p : List Opn} {t : List Lt} {ev0 : Evt} {w0 w : World} {N m : Nat} {a : Option Addr} {c : Nat} {ns : List Int} {n0 n1 n2 n3 : Int} {vo vt : Value} (hev : ev0.nums = ns) (hm : ns.length = m) (hx0 : ns[0]? = some n0) (hx1 : ns[1]? = some n1) (hx2 : ns[2]? = some n2) (hx3 : ns[3]? = some n3) (hb0 : Below w0.heap.size w0 w) (hW : WkO w0.heap.size w N p t vo vt) (HN : SlR encI 1 w0 a c ns) (hp1 : t.Pairwise keyT) (hl : t.length ≤ 32) :
    Calls Tryz.prog 68 #[.pointer (some ⟨N, 0, none⟩), .slice a m c] w fun e w' => e = .returned (.int .i64 (openedR p t ev0).2.2) ∧ ((openedR p t ev0).2.2 = 0 → ∃ vo vt, WkO w0.heap.size w' N (openedR p t ev0).1 (openedR p t ev0).2.1 vo vt) ∧ Below w0.heap.size w0 w' := by
  subst hm
  have hlen : 3 < ns.length := (List.getElem?_eq_some_iff.1 hx3).1
  obtain ⟨HW, HO, HT, hNb⟩ := hW
  obtain ⟨ab, ao, rfl, -, -⟩ := HN.at (by intro h; rw [h] at hlen; simp at hlen)
  obtain ⟨ta, tc, rfl, HTs, -⟩ := Own.slR encL_len HT
  have hR : openedR p t ev0 = if (findT t n0).isSome then ([], [], 6) else if t.length = 32 then ([], [], 40) else (p, insT t ⟨n0, n1, n2, n3⟩, 0) := by unfold openedR; rw [nth_eq hev hx0, nth_eq hev hx1, nth_eq hev hx2, nth_eq hev hx3]
  rw [hR]
  clear hR hev
  have HNw := HN.mono hb0
  have hw := Below.refl w.heap.size w
  refine fn_enter 49 Tryz.func68 rfl rfl rfl ?_
  repeat' (first | (refine lw_pure rfl (pv_assign rfl) ?_) | (refine is_cw ?_; first | (refine cw_seq ?_) | (refine cw_region ?_) | (refine cw_block ?_)) | (refine is_qw ?_; first | (with_reducible refine qw_then ?_)) | (refine lw_nil ?_))
  refine cw_drawn (fun w' => Below w.heap.size w w') (by kernel_rfl) (by repeat (first | exact NoPanic.body | with_reducible refine NoPanic.then ?_ | with_reducible refine NoPanic.inBlock ?_)) (fun hNP => ?_)
  have hS := hw.drew
  (refine at0 0 rfl (fun w' hq => pv_move rfl) ?_)
  (refine at0 1 rfl (fun w' hq => pv_nilp rfl) ?_)
  (refine at0 2 rfl (fun w' hq => pv_fa (tF rfl) rfl) ?_)
  (refine at0 3 rfl (fun w' hq => pv_load (t1 rfl) rfl (by first | exact PT.ld0 (HW.mono hq) rfl | exact PT.ld (HW.mono hq) rfl | exact SlR.ld (HNw.mono hq) hx0 rfl | exact SlR.ld1 (HNw.mono hq) hx0 rfl)) ?_)
  (refine at0 4 rfl (fun w' hq => pv_move rfl) ?_)
  (refine at0 5 rfl (fun w' hq => pv_ia (tS rfl) rfl rfl (by omega)) ?_)
  (refine at0 6 rfl (fun w' hq => pv_load (t1 rfl) rfl (by first | exact PT.ld0 (HW.mono hq) rfl | exact PT.ld (HW.mono hq) rfl | exact SlR.ld (HNw.mono hq) hx0 rfl | exact SlR.ld1 (HNw.mono hq) hx0 rfl)) ?_)
  refine aw_act 7 (by kernel_rfl) rfl rfl rfl ?_
  refine act_call (f := 86) (by kernel_rfl) rfl (lot_c n0 rfl (HTs.mono hS)) ?_; rintro e1 w1 ⟨⟨i, rfl, hi⟩, hb1⟩; refine ⟨_, rfl, grow_trans hS hb1, fun hS => ?_⟩
  (refine at0 8 rfl (fun w' hq => pv_geq rfl rfl) ?_)
  (refine at0 9 rfl (fun w' hq => pv_assign rfl) ?_)
  refine aw_done (by kernel_rfl) ?_
  replace hw := hS; clear hS hNP
  have hb2 := grow_trans hb0 hw
  rcases hi with ⟨rfl, hn⟩ | ⟨k, r, rfl, hxk, hr, hn⟩
  · have hf : findT t n0 = none := find_none hn
    rw [hf]
    by_cases h128 : t.length = 32
    · rw [if_neg (by simp), if_pos h128]
      repeat' (first | (refine lw_pure rfl (pv_move rfl) ?_) | (refine lw_pure rfl (pv_assign rfl) ?_) | (refine is_cw ?_; first | (refine cw_seq ?_) | (refine cw_region ?_) | (refine cw_false rfl rfl ?_) | (refine cw_true rfl (by first | assumption | exact decide_eq_true (by omega) | exact dec_notT (by omega)) ?_) | (refine cw_ret ?_)) | (refine is_qw ?_; first | (with_reducible refine qw_then ?_) | (with_reducible refine qw_then_ret ?_) | (with_reducible refine qw_in_ret ?_)) | (refine lw_nil ?_) | ((refine is_bin ?_; first | (refine lw_pure rfl (pv_eql rfl rfl) ?_))) | ((refine is_load ?_; first | (refine lw_pure rfl (pv_load (t1 rfl) rfl (by first | exact PT.ld0 (HW.mono hw) rfl | exact PT.ld (HW.mono hw) rfl)) ?_))) | ((refine is_fa ?_; first | (refine lw_pure rfl (pv_fa (tF rfl) rfl) ?_))) | ((refine is_bi ?_; first | (refine lw_pure rfl (pv_lenl (tS rfl) rfl) ?_))) | (refine lw_pure rfl (pv_nilp rfl) ?_))
      exact qw_ret1 rfl rfl ⟨rfl, by simp, hb2⟩
    · rw [if_neg (by simp), if_neg h128]
      repeat' (first | (refine lw_pure rfl (pv_move rfl) ?_) | (refine lw_pure rfl (pv_assign rfl) ?_) | (refine is_cw ?_; first | (refine cw_seq ?_) | (refine cw_region ?_) | (refine cw_false rfl rfl ?_) | (refine cw_false rfl (by first | assumption | exact decide_eq_false (by omega) | exact dec_notF (by omega)) ?_) | (refine cw_skip ?_)) | (refine is_qw ?_; first | (with_reducible refine qw_then ?_) | (with_reducible refine qw_in ?_)) | (refine lw_nil ?_) | ((refine is_bin ?_; first | (refine lw_pure rfl (pv_eql rfl rfl) ?_))) | ((refine is_load ?_; first | (refine lw_pure rfl (pv_load (t1 rfl) rfl (by first | exact PT.ld0 (HW.mono hw) rfl | exact PT.ld (HW.mono hw) rfl)) ?_))) | ((refine is_fa ?_; first | (refine lw_pure rfl (pv_fa (tF rfl) rfl) ?_))) | ((refine is_bi ?_; first | (refine lw_pure rfl (pv_lenl (tS rfl) rfl) ?_))) | (refine lw_pure rfl (pv_nilp rfl) ?_))
      have hO2 := HO.mono hw
      have hT2 := HT.mono hw
      have hwz := hb2.size
      refine cw_drawnF 22 (fun w' => Below w0.heap.size w0 w' ∧ PT w' N 80 [vo, .slice ta t.length tc]) (by kernel_rfl) (by repeat (first | exact NoPanic.body | with_reducible refine NoPanic.then ?_ | with_reducible refine NoPanic.inBlock ?_)) (fun hNP => ?_)
      have hU := And.intro hb2.drew ((HW.mono hw).mono (below_drew _))
      first | (refine fw_take 0 rfl (by kernel_rfl) rfl rfl (by kernel_rfl) (by kernel_rfl) (by kernel_rfl) hNP hU rfl (fun w' hq => pv_move rfl) ?_)
      first | (refine fw_take 1 rfl (by kernel_rfl) rfl rfl (by kernel_rfl) (by kernel_rfl) (by kernel_rfl) hNP hU rfl (fun w' hq => pv_move rfl) ?_)
      first | (refine fw_take 2 rfl (by kernel_rfl) rfl rfl (by kernel_rfl) (by kernel_rfl) (by kernel_rfl) hNP hU rfl (fun w' hq => pv_nilp rfl) ?_)
      first | (refine fw_take 3 rfl (by kernel_rfl) rfl rfl (by kernel_rfl) (by kernel_rfl) (by kernel_rfl) hNP hU rfl (fun w' hq => pv_fa (tF rfl) rfl) ?_)
      first | (refine fw_take 4 rfl (by kernel_rfl) rfl rfl (by kernel_rfl) (by kernel_rfl) (by kernel_rfl) hNP hU rfl (fun w' hq => pv_load (t1 rfl) rfl (by first | exact PT.ld0 hq.2 rfl | exact PT.ld hq.2 rfl)) ?_) | (refine fw_take 4 rfl (by kernel_rfl) rfl rfl (by kernel_rfl) (by kernel_rfl) (by kernel_rfl) hNP hU rfl (fun w' hq => pv_loada (tA rfl) rfl (by first | exact PT.lda hq.2) (by rfl)) ?_) | (refine fw_take 4 rfl (by kernel_rfl) rfl rfl (by kernel_rfl) (by kernel_rfl) (by kernel_rfl) hNP hU rfl (fun w' hq => pv_load (t1 rfl) rfl (by first | exact SlR.ld (HN.mono hq.1) hx0 rfl | exact SlR.ld1 (HN.mono hq.1) hx0 rfl | exact SlR.ld (HN.mono hq.1) hx1 rfl | exact SlR.ld1 (HN.mono hq.1) hx1 rfl | exact SlR.ld (HN.mono hq.1) hx2 rfl | exact SlR.ld1 (HN.mono hq.1) hx2 rfl | exact SlR.ld (HN.mono hq.1) hx3 rfl | exact SlR.ld1 (HN.mono hq.1) hx3 rfl)) ?_) | (refine fw_take 4 rfl (by kernel_rfl) rfl rfl (by kernel_rfl) (by kernel_rfl) (by kernel_rfl) hNP hU rfl (fun w' hq => pv_loada (tA rfl) rfl (by first | exact SlR.lda (HN.mono hq.1) hx0 | exact SlR.lda (HN.mono hq.1) hx1 | exact SlR.lda (HN.mono hq.1) hx2 | exact SlR.lda (HN.mono hq.1) hx3) (by rfl)) ?_)
      first | (refine fw_take 5 rfl (by kernel_rfl) rfl rfl (by kernel_rfl) (by kernel_rfl) (by kernel_rfl) hNP hU rfl (fun w' hq => pv_move rfl) ?_)
      first | (refine fw_take 6 rfl (by kernel_rfl) rfl rfl (by kernel_rfl) (by kernel_rfl) (by kernel_rfl) hNP hU rfl (fun w' hq => pv_ian (tS rfl) rfl rfl (by omega)) ?_) | (refine fw_take 6 rfl (by kernel_rfl) rfl rfl (by kernel_rfl) (by kernel_rfl) (by kernel_rfl) hNP hU rfl (fun w' hq => pv_ia (tS rfl) rfl rfl (by omega)) ?_)
      first | (refine fw_take 7 rfl (by kernel_rfl) rfl rfl (by kernel_rfl) (by kernel_rfl) (by kernel_rfl) hNP hU rfl (fun w' hq => pv_load (t1 rfl) rfl (by first | exact PT.ld0 hq.2 rfl | exact PT.ld hq.2 rfl)) ?_) | (refine fw_take 7 rfl (by kernel_rfl) rfl rfl (by kernel_rfl) (by kernel_rfl) (by kernel_rfl) hNP hU rfl (fun w' hq => pv_loada (tA rfl) rfl (by first | exact PT.lda hq.2) (by rfl)) ?_) | (refine fw_take 7 rfl (by kernel_rfl) rfl rfl (by kernel_rfl) (by kernel_rfl) (by kernel_rfl) hNP hU rfl (fun w' hq => pv_load (t1 rfl) rfl (by first | exact SlR.ld (HN.mono hq.1) hx0 rfl | exact SlR.ld1 (HN.mono hq.1) hx0 rfl | exact SlR.ld (HN.mono hq.1) hx1 rfl | exact SlR.ld1 (HN.mono hq.1) hx1 rfl | exact SlR.ld (HN.mono hq.1) hx2 rfl | exact SlR.ld1 (HN.mono hq.1) hx2 rfl | exact SlR.ld (HN.mono hq.1) hx3 rfl | exact SlR.ld1 (HN.mono hq.1) hx3 rfl)) ?_) | (refine fw_take 7 rfl (by kernel_rfl) rfl rfl (by kernel_rfl) (by kernel_rfl) (by kernel_rfl) hNP hU rfl (fun w' hq => pv_loada (tA rfl) rfl (by first | exact SlR.lda (HN.mono hq.1) hx0 | exact SlR.lda (HN.mono hq.1) hx1 | exact SlR.lda (HN.mono hq.1) hx2 | exact SlR.lda (HN.mono hq.1) hx3) (by rfl)) ?_)
      first | (refine fw_take 8 rfl (by kernel_rfl) rfl rfl (by kernel_rfl) (by kernel_rfl) (by kernel_rfl) hNP hU rfl (fun w' hq => pv_move rfl) ?_)
      first | (refine fw_take 9 rfl (by kernel_rfl) rfl rfl (by kernel_rfl) (by kernel_rfl) (by kernel_rfl) hNP hU rfl (fun w' hq => pv_ian (tS rfl) rfl rfl (by omega)) ?_) | (refine fw_take 9 rfl (by kernel_rfl) rfl rfl (by kernel_rfl) (by kernel_rfl) (by kernel_rfl) hNP hU rfl (fun w' hq => pv_ia (tS rfl) rfl rfl (by omega)) ?_)
      first | (refine fw_take 10 rfl (by kernel_rfl) rfl rfl (by kernel_rfl) (by kernel_rfl) (by kernel_rfl) hNP hU rfl (fun w' hq => pv_load (t1 rfl) rfl (by first | exact PT.ld0 hq.2 rfl | exact PT.ld hq.2 rfl)) ?_) | (refine fw_take 10 rfl (by kernel_rfl) rfl rfl (by kernel_rfl) (by kernel_rfl) (by kernel_rfl) hNP hU rfl (fun w' hq => pv_loada (tA rfl) rfl (by first | exact PT.lda hq.2) (by rfl)) ?_) | (refine fw_take 10 rfl (by kernel_rfl) rfl rfl (by kernel_rfl) (by kernel_rfl) (by kernel_rfl) hNP hU rfl (fun w' hq => pv_load (t1 rfl) rfl (by first | exact SlR.ld (HN.mono hq.1) hx0 rfl | exact SlR.ld1 (HN.mono hq.1) hx0 rfl | exact SlR.ld (HN.mono hq.1) hx1 rfl | exact SlR.ld1 (HN.mono hq.1) hx1 rfl | exact SlR.ld (HN.mono hq.1) hx2 rfl | exact SlR.ld1 (HN.mono hq.1) hx2 rfl | exact SlR.ld (HN.mono hq.1) hx3 rfl | exact SlR.ld1 (HN.mono hq.1) hx3 rfl)) ?_) | (refine fw_take 10 rfl (by kernel_rfl) rfl rfl (by kernel_rfl) (by kernel_rfl) (by kernel_rfl) hNP hU rfl (fun w' hq => pv_loada (tA rfl) rfl (by first | exact SlR.lda (HN.mono hq.1) hx0 | exact SlR.lda (HN.mono hq.1) hx1 | exact SlR.lda (HN.mono hq.1) hx2 | exact SlR.lda (HN.mono hq.1) hx3) (by rfl)) ?_)
      first | (refine fw_take 11 rfl (by kernel_rfl) rfl rfl (by kernel_rfl) (by kernel_rfl) (by kernel_rfl) hNP hU rfl (fun w' hq => pv_move rfl) ?_)
      first | (refine fw_take 12 rfl (by kernel_rfl) rfl rfl (by kernel_rfl) (by kernel_rfl) (by kernel_rfl) hNP hU rfl (fun w' hq => pv_ian (tS rfl) rfl rfl (by omega)) ?_) | (refine fw_take 12 rfl (by kernel_rfl) rfl rfl (by kernel_rfl) (by kernel_rfl) (by kernel_rfl) hNP hU rfl (fun w' hq => pv_ia (tS rfl) rfl rfl (by omega)) ?_)
      first | (refine fw_take 13 rfl (by kernel_rfl) rfl rfl (by kernel_rfl) (by kernel_rfl) (by kernel_rfl) hNP hU rfl (fun w' hq => pv_load (t1 rfl) rfl (by first | exact PT.ld0 hq.2 rfl | exact PT.ld hq.2 rfl)) ?_) | (refine fw_take 13 rfl (by kernel_rfl) rfl rfl (by kernel_rfl) (by kernel_rfl) (by kernel_rfl) hNP hU rfl (fun w' hq => pv_loada (tA rfl) rfl (by first | exact PT.lda hq.2) (by rfl)) ?_) | (refine fw_take 13 rfl (by kernel_rfl) rfl rfl (by kernel_rfl) (by kernel_rfl) (by kernel_rfl) hNP hU rfl (fun w' hq => pv_load (t1 rfl) rfl (by first | exact SlR.ld (HN.mono hq.1) hx0 rfl | exact SlR.ld1 (HN.mono hq.1) hx0 rfl | exact SlR.ld (HN.mono hq.1) hx1 rfl | exact SlR.ld1 (HN.mono hq.1) hx1 rfl | exact SlR.ld (HN.mono hq.1) hx2 rfl | exact SlR.ld1 (HN.mono hq.1) hx2 rfl | exact SlR.ld (HN.mono hq.1) hx3 rfl | exact SlR.ld1 (HN.mono hq.1) hx3 rfl)) ?_) | (refine fw_take 13 rfl (by kernel_rfl) rfl rfl (by kernel_rfl) (by kernel_rfl) (by kernel_rfl) hNP hU rfl (fun w' hq => pv_loada (tA rfl) rfl (by first | exact SlR.lda (HN.mono hq.1) hx0 | exact SlR.lda (HN.mono hq.1) hx1 | exact SlR.lda (HN.mono hq.1) hx2 | exact SlR.lda (HN.mono hq.1) hx3) (by rfl)) ?_)
      first | (refine fw_take 14 rfl (by kernel_rfl) rfl rfl (by kernel_rfl) (by kernel_rfl) (by kernel_rfl) hNP hU rfl (fun w' hq => pv_move rfl) ?_)
      first | (refine fw_take 15 rfl (by kernel_rfl) rfl rfl (by kernel_rfl) (by kernel_rfl) (by kernel_rfl) hNP hU rfl (fun w' hq => pv_ian (tS rfl) rfl rfl (by omega)) ?_) | (refine fw_take 15 rfl (by kernel_rfl) rfl rfl (by kernel_rfl) (by kernel_rfl) (by kernel_rfl) hNP hU rfl (fun w' hq => pv_ia (tS rfl) rfl rfl (by omega)) ?_)
      first | (refine fw_take 16 rfl (by kernel_rfl) rfl rfl (by kernel_rfl) (by kernel_rfl) (by kernel_rfl) hNP hU rfl (fun w' hq => pv_load (t1 rfl) rfl (by first | exact PT.ld0 hq.2 rfl | exact PT.ld hq.2 rfl)) ?_) | (refine fw_take 16 rfl (by kernel_rfl) rfl rfl (by kernel_rfl) (by kernel_rfl) (by kernel_rfl) hNP hU rfl (fun w' hq => pv_loada (tA rfl) rfl (by first | exact PT.lda hq.2) (by rfl)) ?_) | (refine fw_take 16 rfl (by kernel_rfl) rfl rfl (by kernel_rfl) (by kernel_rfl) (by kernel_rfl) hNP hU rfl (fun w' hq => pv_load (t1 rfl) rfl (by first | exact SlR.ld (HN.mono hq.1) hx0 rfl | exact SlR.ld1 (HN.mono hq.1) hx0 rfl | exact SlR.ld (HN.mono hq.1) hx1 rfl | exact SlR.ld1 (HN.mono hq.1) hx1 rfl | exact SlR.ld (HN.mono hq.1) hx2 rfl | exact SlR.ld1 (HN.mono hq.1) hx2 rfl | exact SlR.ld (HN.mono hq.1) hx3 rfl | exact SlR.ld1 (HN.mono hq.1) hx3 rfl)) ?_) | (refine fw_take 16 rfl (by kernel_rfl) rfl rfl (by kernel_rfl) (by kernel_rfl) (by kernel_rfl) hNP hU rfl (fun w' hq => pv_loada (tA rfl) rfl (by first | exact SlR.lda (HN.mono hq.1) hx0 | exact SlR.lda (HN.mono hq.1) hx1 | exact SlR.lda (HN.mono hq.1) hx2 | exact SlR.lda (HN.mono hq.1) hx3) (by rfl)) ?_)
      first | (refine fw_take 17 rfl (by kernel_rfl) rfl rfl (by kernel_rfl) (by kernel_rfl) (by kernel_rfl) hNP hU rfl (fun w' hq => tyB_73 rfl rfl rfl) ?_)
      refine fw_act 18 (by kernel_rfl) rfl rfl rfl ?_
      refine act_bs (vs := [.agg (encL ⟨n0, n1, n2, n3⟩).toArray]) (cs := encL ⟨n0, n1, n2, n3⟩) elemL rfl rfl (by omega) (by omega) rfl (by simp [Value.cells, encL]) ?_; intro wb HB hbb; have hO3 := (hO2.mono (below_drew _)).mono hbb; have hT3 := (hT2.mono (below_drew _)).mono hbb; have hbz := hbb.size; refine ⟨⟨grow_trans hU.1 hbb, hU.2.mono hbb⟩, fun hU => ?_⟩
      refine fw_act 19 (by kernel_rfl) rfl rfl rfl ?_
      refine act_app elemL encL_len encL_one rfl rfl hT3 (HB.slR (xs := [⟨n0, n1, n2, n3⟩]) encL_len rfl (by omega)) rfl hU.1.size (by simp; omega) (by simp [maxLen]; omega) ?_; intro v9 w9 hT9 hg9 hb9; refine ⟨⟨hU.1.grown hg9 hU.1.size (fun q hq => (Own.lt hT3 q hq).1), hU.2.grown hg9 (fun e => own_pt_ne hT3 hU.2 (by decide) e)⟩, fun hU => ?_⟩
      first | (refine fw_act 20 (by kernel_rfl) rfl rfl rfl ?_; refine act_pv (pv_nilp rfl) ?_; refine ⟨hU, fun hU => ?_⟩)
      first | (refine fw_take 21 rfl (by kernel_rfl) rfl rfl (by kernel_rfl) (by kernel_rfl) (by kernel_rfl) hNP hU rfl (fun w' hq => pv_fa (tF rfl) rfl) ?_)
      refine fw_last (by kernel_rfl) rfl rfl rfl rfl (by kernel_rfl) ?_
      obtain ⟨hb3, HW3⟩ := hU; clear hNP
      obtain ⟨va, vc, rfl, -, -⟩ := Own.slR encL_len hT9; refine act_store HW3 (tZ rfl) rfl rfl rfl (by simp) ?_; intro wz HWz hgz hzz
      have hO9 := hO3.kept hg9 (own_ne_T hO3 hT3 (by decide))
      have hOz := hO9.kept hgz (Or.inr (own_pt_ne hO9 HW3 (by decide)))
      have hTz := hT9.kept hgz (Or.inr (own_pt_ne hT9 HW3 (by decide)))
      have hbz4 := hb3.grown hgz hb3.size (by intro q hq; injection hq with hq; omega)
      obtain ⟨va', vc', hv', hSz, hvb⟩ := Own.slR encL_len hTz
      injection hv' with hv1 _ hv3; subst hv1 hv3
      obtain ⟨vb, vo2, rfl, -, -⟩ := hSz.at (by simp)
      obtain ⟨hvb1, hvb2⟩ := hvb _ rfl
      simp only at hvb1 hvb2; subst hvb2
      have hw := Below.refl wz.heap.size wz
      have hids : ∀ x ∈ t, x.id ≠ n0 := findT_none hf
      have hll : (t ++ [(⟨n0, n1, n2, n3⟩ : Lt)]).length ≤ 1000000 := by simp; omega
      repeat' (first | (refine lw_pure rfl (pv_move rfl) ?_) | (refine is_cw ?_; first | (refine cw_seq ?_) | (refine cw_region ?_)) | (refine is_qw ?_; first | (with_reducible refine qw_then ?_)) | ((refine is_load ?_; first | (refine lw_pure rfl (pv_load (t1 rfl) rfl (by first | exact PT.ld0 (HWz.mono hw) rfl | exact PT.ld (HWz.mono hw) rfl)) ?_))) | ((refine is_fa ?_; first | (refine lw_pure rfl (pv_fa (tF rfl) rfl) ?_))) | (refine lw_pure rfl (pv_nilp rfl) ?_))
      refine lw_call (f := 93) (by kernel_rfl) rfl rfl (sort_L w0.heap.size vb vc _ wz hTz hll (putT_pw hp1 hids)) ?_; rintro e1 w5 ⟨rfl, ⟨zs, hz1, hz2, hTs2⟩, hg5⟩; refine ⟨_, rfl, ?_⟩
      have hze := putT_sorted hp1 hids hz1 hz2
      have hO5 := hOz.kept hg5 (own_ne_T hOz hTz (by decide))
      have hW5 := HWz.grown hg5 (own_pt_ne hTz HWz (by decide))
      have hb5 := hbz4.grown hg5 hbz4.size (by intro q hq; injection hq with hq; omega)
      have hw := Below.refl w5.heap.size w5
      repeat' (first | (refine lw_pure rfl (pv_assign rfl) ?_) | (refine is_cw ?_; first | (refine cw_seq ?_) | (refine cw_region ?_) | (refine cw_ret ?_)) | (refine is_qw ?_; first | (with_reducible refine qw_then ?_)) | (refine lw_nil ?_))
      refine qw_ret1 rfl rfl ⟨rfl, fun _ => ⟨_, _, ⟨hW5, hO5, ?_, hNb⟩⟩, hb5⟩
      rw [← hze]
      rw [show (t ++ [(⟨n0, n1, n2, n3⟩ : Lt)]).length = zs.length from hz1.length_eq.symm] at hTs2 ⊢
      exact hTs2
  · have hf : findT t n0 = some r := find_at hxk hr hn
    rw [hf, if_pos (by rfl)]
    repeat' (first | (refine lw_pure rfl (pv_assign rfl) ?_) | (refine is_cw ?_; first | (refine cw_seq ?_) | (refine cw_region ?_) | (refine cw_true rfl rfl ?_) | (refine cw_ret ?_)) | (refine is_qw ?_; first | (with_reducible refine qw_then ?_) | (with_reducible refine qw_then_ret ?_) | (with_reducible refine qw_in_ret ?_)) | (refine lw_nil ?_))
    exact qw_ret1 rfl rfl ⟨rfl, by simp, hb2⟩
set_option maxRecDepth 20000 in
set_option maxHeartbeats 4000000 in
theorem cancelled_c {p : List Opn} {t : List Lt} {ev0 : Evt} {w0 w : World} {N : Nat} {a : Option Addr} {c : Nat} {n0 : Int} {vo vt : Value} (hev : ev0.nums = [n0]) (hb0 : Below w0.heap.size w0 w) (hW : WkO w0.heap.size w N p t vo vt) (HN : SlR encI 1 w0 a c [n0]) (hnd : (p.map (·.id)).Nodup) (hpos : ∀ x ∈ p, 0 < x.left) (hl : p.length ≤ 128) :
    Calls Tryz.prog 66 #[.pointer (some ⟨N, 0, none⟩), .slice a 1 c] w fun e w' => e = .returned (.int .i64 (cancelR p t ev0).2.2) ∧ ((cancelR p t ev0).2.2 = 0 → ∃ vo vt, WkO w0.heap.size w' N (cancelR p t ev0).1 (cancelR p t ev0).2.1 vo vt) ∧ Below w0.heap.size w0 w' := by
  obtain ⟨HW, HO, HT, hNb⟩ := hW
  obtain ⟨ab, ao, rfl, -, -⟩ := HN.at (by simp)
  obtain ⟨oa, oc, rfl, HOs, -⟩ := Own.slR encP_len HO
  have hx0 : [n0][0]? = some n0 := rfl
  have hn0 := nth_eq hev hx0
  have HNw := HN.mono hb0
  have hw := Below.refl w.heap.size w
  refine fn_enter 27 Tryz.func66 rfl rfl rfl ?_
  repeat' (first | (refine lw_pure rfl (pv_assign rfl) ?_) | (refine is_cw ?_; first | (refine cw_seq ?_) | (refine cw_region ?_)) | (refine is_qw ?_; first | (with_reducible refine qw_then ?_)) | (refine lw_nil ?_))
  refine cw_drawn (fun w' => Below w.heap.size w w') (by kernel_rfl) (by repeat (first | exact NoPanic.body | with_reducible refine NoPanic.then ?_ | with_reducible refine NoPanic.inBlock ?_)) (fun hNP => ?_)
  have hS := hw.drew
  (refine at0 0 rfl (fun w' hq => pv_move rfl) ?_)
  (refine at0 1 rfl (fun w' hq => pv_nilp rfl) ?_)
  (refine at0 2 rfl (fun w' hq => pv_fa (tF rfl) rfl) ?_)
  (refine at0 3 rfl (fun w' hq => pv_load (t1 rfl) rfl (by first | exact PT.ld0 (HW.mono hq) rfl | exact PT.ld (HW.mono hq) rfl | exact SlR.ld (HNw.mono hq) hx0 rfl | exact SlR.ld1 (HNw.mono hq) hx0 rfl)) ?_)
  (refine at0 4 rfl (fun w' hq => pv_move rfl) ?_)
  (refine at0 5 rfl (fun w' hq => pv_ia (tS rfl) rfl rfl (by omega)) ?_)
  (refine at0 6 rfl (fun w' hq => pv_load (t1 rfl) rfl (by first | exact PT.ld0 (HW.mono hq) rfl | exact PT.ld (HW.mono hq) rfl | exact SlR.ld (HNw.mono hq) hx0 rfl | exact SlR.ld1 (HNw.mono hq) hx0 rfl)) ?_)
  refine aw_act 7 (by kernel_rfl) rfl rfl rfl ?_
  refine act_call (f := 85) (by kernel_rfl) rfl (at_c n0 rfl (HOs.mono hS)) ?_; rintro e1 w1 ⟨⟨i, rfl, hi⟩, hb1⟩; refine ⟨_, rfl, grow_trans hS hb1, fun hS => ?_⟩
  (refine at0 8 rfl (fun w' hq => pv_assign rfl) ?_)
  refine aw_done (by kernel_rfl) ?_
  replace hw := hS; clear hS hNP
  have hb2 := grow_trans hb0 hw
  rcases hi with ⟨rfl, hn⟩ | ⟨k, r, rfl, hxk, hr, hn⟩
  · have hf : findP p n0 = none := find_none hn
    have hR : cancelR p t ev0 = ([], [], 5) := by unfold cancelR; rw [hn0, hf]
    rw [hR]
    repeat' (first | (refine lw_pure rfl (pv_move rfl) ?_) | (refine lw_pure rfl (pv_assign rfl) ?_) | (refine is_cw ?_; first | (refine cw_seq ?_) | (refine cw_region ?_) | (refine cw_true rfl rfl ?_) | (refine cw_ret ?_)) | (refine is_qw ?_; first | (with_reducible refine qw_then ?_) | (with_reducible refine qw_then_ret ?_)) | (refine lw_nil ?_) | ((refine is_bin ?_; first | (refine lw_pure rfl (pv_lss rfl rfl) ?_))))
    exact qw_ret1 rfl rfl ⟨rfl, by simp, hb2⟩
  · have hf : findP p n0 = some r := find_at hxk hr hn
    have hR : cancelR p t ev0 = (lessP p n0 r.left, t, 0) := by unfold cancelR; rw [hn0, hf]
    rw [hR]
    have hrid : r.id = n0 := by simpa using hr
    have hlt : k < p.length := (List.getElem?_eq_some_iff.1 hxk).1
    have hce := cancel_eq hxk hnd hpos
    rw [hrid] at hce
    repeat' (first | (refine lw_pure rfl (pv_move rfl) ?_) | (refine is_cw ?_; first | (refine cw_seq ?_) | (refine cw_region ?_) | (refine cw_false rfl rfl ?_) | (refine cw_skip ?_)) | (refine is_qw ?_; first | (with_reducible refine qw_then ?_)) | (refine lw_nil ?_) | ((refine is_bin ?_; first | (refine lw_pure rfl (pv_lss rfl rfl) ?_) | (refine lw_pure rfl (pv_inc rfl rfl (by omega)) ?_))) | ((refine is_load ?_; first | (refine lw_pure rfl (pv_load (t1 rfl) rfl (by first | exact PT.ld0 (HW.mono hw) rfl | exact PT.ld (HW.mono hw) rfl)) ?_))) | ((refine is_fa ?_; first | (refine lw_pure rfl (pv_fa (tF rfl) rfl) ?_))) | (refine lw_pure rfl (pv_nilp rfl) ?_))
    refine lw_call (f := 90) (by kernel_rfl) rfl rfl (delone_P w0.heap.size k hlt hb2.size (HO.mono hw)) ?_; rintro e1 w5 ⟨⟨v', rfl, hO5⟩, hg5, hb5⟩; refine ⟨_, rfl, ?_⟩
    have HW5 := (HW.mono hw).grown hg5 (own_pt_ne (HO.mono hw) (HW.mono hw) (by decide))
    have hT5 := (HT.mono hw).kept hg5 (own_ne_T (HT.mono hw) (HO.mono hw) (by decide))
    have hb6 := hb2.trans hb5
    obtain ⟨va, vc, rfl, -, -⟩ := Own.slR encP_len hO5
    have hw := Below.refl w5.heap.size w5
    repeat' (first | ((refine is_fa ?_; first | (refine lw_pure rfl (pv_fa (tF rfl) rfl) ?_))) | (refine lw_pure rfl (pv_nilp rfl) ?_))
    refine lw_store HW5 (tZ rfl) rfl rfl rfl (by simp) ?_; intro w6 HW6 hg6 hz6
    have hO6 := hO5.kept hg6 (Or.inr (own_pt_ne hO5 HW5 (by decide)))
    have hT6 := hT5.kept hg6 (Or.inr (own_pt_ne hT5 HW5 (by decide)))
    have hb7 := hb6.grown hg6 hb6.size (by intro q hq; injection hq with hq; omega)
    have hw := Below.refl w6.heap.size w6
    repeat' (first | (refine lw_pure rfl (pv_assign rfl) ?_) | (refine is_cw ?_; first | (refine cw_seq ?_) | (refine cw_region ?_) | (refine cw_ret ?_)) | (refine is_qw ?_; first | (with_reducible refine qw_then ?_)) | (refine lw_nil ?_))
    refine qw_ret1 rfl rfl ⟨rfl, fun _ => ⟨_, _, ⟨HW6, ?_, hT6, hNb⟩⟩, hb7⟩
    rw [hce]; exact hO6
set_option maxRecDepth 20000 in
set_option maxHeartbeats 4000000 in
theorem gone_c {p : List Opn} {t : List Lt} {ev0 : Evt} {w0 w : World} {N m : Nat} {a : Option Addr} {c : Nat} {ns : List Int} {n0 : Int} {vo vt : Value} (hev : ev0.nums = ns) (hm : ns.length = m) (hx0 : ns[0]? = some n0) (hb0 : Below w0.heap.size w0 w) (hW : WkO w0.heap.size w N p t vo vt) (HN : SlR encI 1 w0 a c ns) (hp1 : t.Pairwise keyT) (hl : t.length ≤ 32) :
    Calls Tryz.prog 69 #[.pointer (some ⟨N, 0, none⟩), .slice a m c] w fun e w' => e = .returned (.int .i64 (goneR p t ev0).2.2) ∧ ((goneR p t ev0).2.2 = 0 → ∃ vo vt, WkO w0.heap.size w' N (goneR p t ev0).1 (goneR p t ev0).2.1 vo vt) ∧ Below w0.heap.size w0 w' := by
  subst hm
  have hlen : 0 < ns.length := (List.getElem?_eq_some_iff.1 hx0).1
  obtain ⟨HW, HO, HT, hNb⟩ := hW
  obtain ⟨ab, ao, rfl, -, -⟩ := HN.at (by intro h; rw [h] at hlen; simp at hlen)
  obtain ⟨ta, tc, rfl, HTs, -⟩ := Own.slR encL_len HT
  have hn0 := nth_eq hev hx0
  have HNw := HN.mono hb0
  have hw := Below.refl w.heap.size w
  refine fn_enter 27 Tryz.func69 rfl rfl rfl ?_
  repeat' (first | (refine lw_pure rfl (pv_assign rfl) ?_) | (refine is_cw ?_; first | (refine cw_seq ?_) | (refine cw_region ?_)) | (refine is_qw ?_; first | (with_reducible refine qw_then ?_)) | (refine lw_nil ?_))
  refine cw_drawn (fun w' => Below w.heap.size w w') (by kernel_rfl) (by repeat (first | exact NoPanic.body | with_reducible refine NoPanic.then ?_ | with_reducible refine NoPanic.inBlock ?_)) (fun hNP => ?_)
  have hS := hw.drew
  (refine at0 0 rfl (fun w' hq => pv_move rfl) ?_)
  (refine at0 1 rfl (fun w' hq => pv_nilp rfl) ?_)
  (refine at0 2 rfl (fun w' hq => pv_fa (tF rfl) rfl) ?_)
  (refine at0 3 rfl (fun w' hq => pv_load (t1 rfl) rfl (by first | exact PT.ld0 (HW.mono hq) rfl | exact PT.ld (HW.mono hq) rfl | exact SlR.ld (HNw.mono hq) hx0 rfl | exact SlR.ld1 (HNw.mono hq) hx0 rfl)) ?_)
  (refine at0 4 rfl (fun w' hq => pv_move rfl) ?_)
  (refine at0 5 rfl (fun w' hq => pv_ian (tS rfl) rfl rfl (by omega)) ?_)
  (refine at0 6 rfl (fun w' hq => pv_load (t1 rfl) rfl (by first | exact PT.ld0 (HW.mono hq) rfl | exact PT.ld (HW.mono hq) rfl | exact SlR.ld (HNw.mono hq) hx0 rfl | exact SlR.ld1 (HNw.mono hq) hx0 rfl)) ?_)
  refine aw_act 7 (by kernel_rfl) rfl rfl rfl ?_
  refine act_call (f := 86) (by kernel_rfl) rfl (lot_c n0 rfl (HTs.mono hS)) ?_; rintro e1 w1 ⟨⟨i, rfl, hi⟩, hb1⟩; refine ⟨_, rfl, grow_trans hS hb1, fun hS => ?_⟩
  (refine at0 8 rfl (fun w' hq => pv_assign rfl) ?_)
  refine aw_done (by kernel_rfl) ?_
  replace hw := hS; clear hS hNP
  have hb2 := grow_trans hb0 hw
  rcases hi with ⟨rfl, hn⟩ | ⟨k, r, rfl, hxk, hr, hn⟩
  · have hf : findT t n0 = none := find_none hn
    have hR : goneR p t ev0 = ([], [], 5) := by unfold goneR; rw [hn0, hf]; rfl
    rw [hR]
    repeat' (first | (refine lw_pure rfl (pv_move rfl) ?_) | (refine lw_pure rfl (pv_assign rfl) ?_) | (refine is_cw ?_; first | (refine cw_seq ?_) | (refine cw_region ?_) | (refine cw_true rfl rfl ?_) | (refine cw_ret ?_)) | (refine is_qw ?_; first | (with_reducible refine qw_then ?_) | (with_reducible refine qw_then_ret ?_)) | (refine lw_nil ?_) | ((refine is_bin ?_; first | (refine lw_pure rfl (pv_lss rfl rfl) ?_))))
    exact qw_ret1 rfl rfl ⟨rfl, by simp, hb2⟩
  · have hf : findT t n0 = some r := find_at hxk hr hn
    have hR : goneR p t ev0 = (p, gone t n0, 0) := by unfold goneR; rw [hn0, hf]; rfl
    rw [hR]
    have hrid : r.id = n0 := by simpa using hr
    have hlt : k < t.length := (List.getElem?_eq_some_iff.1 hxk).1
    have hce := gone_eq hxk hp1
    rw [hrid] at hce
    repeat' (first | (refine lw_pure rfl (pv_move rfl) ?_) | (refine is_cw ?_; first | (refine cw_seq ?_) | (refine cw_region ?_) | (refine cw_false rfl rfl ?_) | (refine cw_skip ?_)) | (refine is_qw ?_; first | (with_reducible refine qw_then ?_)) | (refine lw_nil ?_) | ((refine is_bin ?_; first | (refine lw_pure rfl (pv_lss rfl rfl) ?_) | (refine lw_pure rfl (pv_inc rfl rfl (by omega)) ?_))) | ((refine is_load ?_; first | (refine lw_pure rfl (pv_load (t1 rfl) rfl (by first | exact PT.ld0 (HW.mono hw) rfl | exact PT.ld (HW.mono hw) rfl)) ?_))) | ((refine is_fa ?_; first | (refine lw_pure rfl (pv_fa (tF rfl) rfl) ?_))) | (refine lw_pure rfl (pv_nilp rfl) ?_))
    refine lw_call (f := 94) (by kernel_rfl) rfl rfl (delone_L w0.heap.size k hlt hb2.size (HT.mono hw)) ?_; rintro e1 w5 ⟨⟨v', rfl, hT5⟩, hg5, hb5⟩; refine ⟨_, rfl, ?_⟩
    have HW5 := (HW.mono hw).grown hg5 (own_pt_ne (HT.mono hw) (HW.mono hw) (by decide))
    have hO5 := (HO.mono hw).kept hg5 (own_ne_T (HO.mono hw) (HT.mono hw) (by decide))
    have hb6 := hb2.trans hb5
    obtain ⟨va, vc, rfl, -, -⟩ := Own.slR encL_len hT5
    have hw := Below.refl w5.heap.size w5
    repeat' (first | ((refine is_fa ?_; first | (refine lw_pure rfl (pv_fa (tF rfl) rfl) ?_))) | (refine lw_pure rfl (pv_nilp rfl) ?_))
    refine lw_store HW5 (tZ rfl) rfl rfl rfl (by simp) ?_; intro w6 HW6 hg6 hz6
    have hO6 := hO5.kept hg6 (Or.inr (own_pt_ne hO5 HW5 (by decide)))
    have hT6 := hT5.kept hg6 (Or.inr (own_pt_ne hT5 HW5 (by decide)))
    have hb7 := hb6.grown hg6 hb6.size (by intro q hq; injection hq with hq; omega)
    have hw := Below.refl w6.heap.size w6
    repeat' (first | (refine lw_pure rfl (pv_assign rfl) ?_) | (refine is_cw ?_; first | (refine cw_seq ?_) | (refine cw_region ?_) | (refine cw_ret ?_)) | (refine is_qw ?_; first | (with_reducible refine qw_then ?_)) | (refine lw_nil ?_))
    refine qw_ret1 rfl rfl ⟨rfl, fun _ => ⟨_, _, ⟨HW6, hO6, ?_, hNb⟩⟩, hb7⟩
    rw [hce]; exact hT6

set_option maxRecDepth 20000 in
theorem zeroF_c (o : Opn) (w : World) : Calls Tryz.prog 92 #[.agg (encP o).toArray] w fun e w' => e = .returned (.bool (o.left == 0)) ∧ Below w.heap.size w w' := by
  have hE := Ext.refl w
  have hw := Below.refl w.heap.size w
  refine fn_enter 6 Tryz.func92 rfl rfl rfl ?_
  repeat' (first | (refine is_cw ?_; first | (refine cw_seq ?_) | (refine cw_region ?_)))
  refine lw_boxN rfl rfl (cs := encP o) rfl ?_; intro N1 wn hN HA hb
  replace hw := grow_trans hw hb
  clear hb
  replace hE := hE.mono hw; clear hw; have hw := Below.refl wn.heap.size wn
  repeat' (first | (refine lw_pure rfl (pv_assign rfl) ?_) | (refine is_cw ?_; first | (refine cw_seq ?_) | (refine cw_region ?_) | (refine cw_ret ?_)) | (refine is_qw ?_; first | (with_reducible refine qw_then ?_)) | (refine lw_nil ?_) | ((refine is_bin ?_; first | (refine lw_pure rfl (pv_eql rfl rfl) ?_))) | ((refine is_load ?_; first | (refine lw_pure rfl (pv_load (t1 rfl) rfl (by first | exact PT.ld0 (HA.mono hw) rfl | exact PT.ld (HA.mono hw) rfl)) ?_))) | ((refine is_fa ?_; first | (refine lw_pure rfl (pv_fa (tF rfl) rfl) ?_))))
  exact qw_ret1 rfl rfl ⟨ret_bool rfl, (hE.mono hw).b⟩
set_option maxRecDepth 20000 in
set_option maxHeartbeats 8000000 in
theorem traded_c {p : List Opn} {t : List Lt} {ev0 : Evt} {w0 w : World} {N m : Nat} {a : Option Addr} {c : Nat} {ns : List Int} {n0 n1 n3 : Int} {vo vt : Value} (hev : ev0.nums = ns) (hm : ns.length = m) (hx0 : ns[0]? = some n0) (hx1 : ns[1]? = some n1) (hx3 : ns[3]? = some n3) (hq : 1 ≤ n3 ∧ n3 ≤ 1048576) (hb0 : Below w0.heap.size w0 w) (hW : WkO w0.heap.size w N p t vo vt) (HN : SlR encI 1 w0 a c ns) (hnd : (p.map (·.id)).Nodup) (hpos : ∀ x ∈ p, 0 < x.left ∧ x.left ≤ 1048576) :
    Calls Tryz.prog 67 #[.pointer (some ⟨N, 0, none⟩), .slice a m c] w fun e w' => e = .returned (.int .i64 (tradedR p t ev0).2.2) ∧ ((tradedR p t ev0).2.2 = 0 → ∃ vo vt, WkO w0.heap.size w' N (tradedR p t ev0).1 (tradedR p t ev0).2.1 vo vt) ∧ Below w0.heap.size w0 w' := by
  subst hm
  have hlen : 3 < ns.length := (List.getElem?_eq_some_iff.1 hx3).1
  obtain ⟨HW, HO, HT, hNb⟩ := hW
  obtain ⟨ab, ao, rfl, -, -⟩ := HN.at (by intro h; rw [h] at hlen; simp at hlen)
  obtain ⟨oa, oc, rfl, HOs, hob⟩ := Own.slR encP_len HO
  have hn0 := nth_eq hev hx0
  have hn1 := nth_eq hev hx1
  have hn3 := nth_eq hev hx3
  have hR : tradedR p t ev0 = match findP p n0, findP p n1 with | some a, some b => if n0 = n1 ∨ a.left < n3 ∨ b.left < n3 then ([], [], 1) else (lessP (lessP p n0 n3) n1 n3, t, 0) | _, _ => ([], [], 5) := by
    unfold tradedR; rw [hn0, hn1, hn3]; rfl
  have HNw := HN.mono hb0
  have hw := Below.refl w.heap.size w
  refine fn_enter 94 Tryz.func67 rfl rfl rfl ?_
  repeat' (first | (refine lw_pure rfl (pv_assign rfl) ?_) | (refine is_cw ?_; first | (refine cw_seq ?_) | (refine cw_region ?_)) | (refine is_qw ?_; first | (with_reducible refine qw_then ?_)) | (refine lw_nil ?_))
  refine cw_drawn (fun w' => Below w.heap.size w w') (by kernel_rfl) (by repeat (first | exact NoPanic.body | with_reducible refine NoPanic.then ?_ | with_reducible refine NoPanic.inBlock ?_)) (fun hNP => ?_)
  have hS := hw.drew
  (refine at0 0 rfl (fun w' hq => pv_move rfl) ?_)
  (refine at0 1 rfl (fun w' hq => pv_nilp rfl) ?_)
  (refine at0 2 rfl (fun w' hq => pv_fa (tF rfl) rfl) ?_)
  (refine at0 3 rfl (fun w' hq => pv_load (t1 rfl) rfl (by first | exact PT.ld0 (HW.mono hq) rfl | exact PT.ld (HW.mono hq) rfl | exact SlR.ld (HNw.mono hq) hx0 rfl | exact SlR.ld1 (HNw.mono hq) hx0 rfl | exact SlR.ld (HNw.mono hq) hx1 rfl | exact SlR.ld1 (HNw.mono hq) hx1 rfl | exact SlR.ld (HNw.mono hq) hx3 rfl | exact SlR.ld1 (HNw.mono hq) hx3 rfl)) ?_)
  (refine at0 4 rfl (fun w' hq => pv_move rfl) ?_)
  (refine at0 5 rfl (fun w' hq => pv_ia (tS rfl) rfl rfl (by omega)) ?_)
  (refine at0 6 rfl (fun w' hq => pv_load (t1 rfl) rfl (by first | exact PT.ld0 (HW.mono hq) rfl | exact PT.ld (HW.mono hq) rfl | exact SlR.ld (HNw.mono hq) hx0 rfl | exact SlR.ld1 (HNw.mono hq) hx0 rfl | exact SlR.ld (HNw.mono hq) hx1 rfl | exact SlR.ld1 (HNw.mono hq) hx1 rfl | exact SlR.ld (HNw.mono hq) hx3 rfl | exact SlR.ld1 (HNw.mono hq) hx3 rfl)) ?_)
  (refine at0 8 rfl (fun w' hq => pv_move rfl) ?_)
  (refine at0 9 rfl (fun w' hq => pv_nilp rfl) ?_)
  (refine at0 10 rfl (fun w' hq => pv_fa (tF rfl) rfl) ?_)
  (refine at0 11 rfl (fun w' hq => pv_load (t1 rfl) rfl (by first | exact PT.ld0 (HW.mono hq) rfl | exact PT.ld (HW.mono hq) rfl | exact SlR.ld (HNw.mono hq) hx0 rfl | exact SlR.ld1 (HNw.mono hq) hx0 rfl | exact SlR.ld (HNw.mono hq) hx1 rfl | exact SlR.ld1 (HNw.mono hq) hx1 rfl | exact SlR.ld (HNw.mono hq) hx3 rfl | exact SlR.ld1 (HNw.mono hq) hx3 rfl)) ?_)
  (refine at0 12 rfl (fun w' hq => pv_move rfl) ?_)
  (refine at0 13 rfl (fun w' hq => pv_ia (tS rfl) rfl rfl (by omega)) ?_)
  (refine at0 14 rfl (fun w' hq => pv_load (t1 rfl) rfl (by first | exact PT.ld0 (HW.mono hq) rfl | exact PT.ld (HW.mono hq) rfl | exact SlR.ld (HNw.mono hq) hx0 rfl | exact SlR.ld1 (HNw.mono hq) hx0 rfl | exact SlR.ld (HNw.mono hq) hx1 rfl | exact SlR.ld1 (HNw.mono hq) hx1 rfl | exact SlR.ld (HNw.mono hq) hx3 rfl | exact SlR.ld1 (HNw.mono hq) hx3 rfl)) ?_)
  (refine at0 16 rfl (fun w' hq => pv_move rfl) ?_)
  (refine at0 17 rfl (fun w' hq => pv_ian (tS rfl) rfl rfl (by omega)) ?_)
  (refine at0 18 rfl (fun w' hq => pv_load (t1 rfl) rfl (by first | exact PT.ld0 (HW.mono hq) rfl | exact PT.ld (HW.mono hq) rfl | exact SlR.ld (HNw.mono hq) hx0 rfl | exact SlR.ld1 (HNw.mono hq) hx0 rfl | exact SlR.ld (HNw.mono hq) hx1 rfl | exact SlR.ld1 (HNw.mono hq) hx1 rfl | exact SlR.ld (HNw.mono hq) hx3 rfl | exact SlR.ld1 (HNw.mono hq) hx3 rfl)) ?_)
  refine aw_act 7 (by kernel_rfl) rfl rfl rfl ?_
  refine act_call (f := 85) (by kernel_rfl) rfl (at_c n0 rfl (HOs.mono hS)) ?_; rintro e1 w1 ⟨⟨i, rfl, hi⟩, hb1⟩; refine ⟨_, rfl, grow_trans hS hb1, fun hS => ?_⟩
  refine aw_act 15 (by kernel_rfl) rfl rfl rfl ?_
  refine act_call (f := 85) (by kernel_rfl) rfl (at_c n1 rfl (HOs.mono hS)) ?_; rintro e1 w1 ⟨⟨j, rfl, hj⟩, hb1⟩; refine ⟨_, rfl, grow_trans hS hb1, fun hS => ?_⟩
  (refine at0 19 rfl (fun w' hq => pv_assign rfl) ?_)
  (refine at0 20 rfl (fun w' hq => pv_assign rfl) ?_)
  (refine at0 21 rfl (fun w' hq => pv_assign rfl) ?_)
  refine aw_done (by kernel_rfl) ?_
  replace hw := hS; clear hS hNP
  have hb2 := grow_trans hb0 hw
  rcases hi with ⟨rfl, hi⟩ | ⟨i, r, rfl, hxi, hri, hi⟩
  · have hf : findP p n0 = none := find_none hi
    rw [hf] at hR
    rw [hR]
    rcases hj with ⟨rfl, hj⟩ | ⟨j, s, rfl, hxj, hrj, hj⟩
    all_goals repeat' (first | (refine lw_pure rfl (pv_move rfl) ?_) | (refine lw_pure rfl (pv_assign rfl) ?_) | (refine is_cw ?_; first | (refine cw_seq ?_) | (refine cw_region ?_) | (refine cw_true rfl rfl ?_) | (refine cw_block ?_) | (refine cw_ret ?_)) | (refine is_qw ?_; first | (with_reducible refine qw_then ?_) | (with_reducible refine qw_then_ret ?_) | (with_reducible refine qw_in_ret ?_)) | (refine lw_nil ?_) | (refine is_guarded ?_; first | (refine lw_not rfl rfl rfl rfl ?_)) | ((refine is_bin ?_; first | (refine lw_pure rfl (pv_lss rfl rfl) ?_))) | (refine lw_pure rfl (pv_pick_t rfl rfl rfl) ?_))
    all_goals exact qw_ret1 rfl rfl ⟨rfl, by simp, hb2⟩
  · have hf : findP p n0 = some r := find_at hxi hri hi
    have hrid : r.id = n0 := by simpa using hri
    rcases hj with ⟨rfl, hj⟩ | ⟨j, s, rfl, hxj, hrj, hj⟩
    · have hg : findP p n1 = none := find_none hj
      rw [hf, hg] at hR
      rw [hR]
      repeat' (first | (refine lw_pure rfl (pv_move rfl) ?_) | (refine lw_pure rfl (pv_assign rfl) ?_) | (refine is_cw ?_; first | (refine cw_seq ?_) | (refine cw_region ?_) | (refine cw_true rfl rfl ?_) | (refine cw_block ?_) | (refine cw_ret ?_)) | (refine is_qw ?_; first | (with_reducible refine qw_then ?_) | (with_reducible refine qw_then_ret ?_) | (with_reducible refine qw_in_ret ?_)) | (refine lw_nil ?_) | (refine is_guarded ?_; first | (refine lw_on rfl rfl rfl ?_)) | ((refine is_bin ?_; first | (refine lw_pure rfl (pv_lss rfl rfl) ?_))) | (refine lw_pure rfl (pv_pick_f rfl rfl rfl) ?_))
      all_goals exact qw_ret1 rfl rfl ⟨rfl, by simp, hb2⟩
    · have hg : findP p n1 = some s := find_at hxj hrj hj
      have hsid : s.id = n1 := by simpa using hrj
      rw [hf, hg] at hR
      dsimp only at hR
      rw [hR]
      have hlti : i < p.length := (List.getElem?_eq_some_iff.1 hxi).1
      have hltj : j < p.length := (List.getElem?_eq_some_iff.1 hxj).1
      have hij : i = j ↔ n0 = n1 := by
        constructor
        · rintro rfl; rw [hxi] at hxj; injection hxj with hxj; subst hxj; rw [← hrid, ← hsid]
        · intro e
          have hrs : r = s := inj_of_nodup hnd (List.mem_of_getElem? hxi) (List.mem_of_getElem? hxj) (by rw [hrid, hsid, e])
          subst hrs
          have h1 : (p.map (·.id))[i]? = some r.id := by rw [List.getElem?_map, hxi]; rfl
          have h2 : (p.map (·.id))[j]? = some r.id := by rw [List.getElem?_map, hxj]; rfl
          rcases Nat.lt_trichotomy i j with h3 | h3 | h3
          · exact absurd rfl (pwg_get (List.nodup_iff_pairwise_ne.1 hnd) h3 h1 h2)
          · exact h3
          · exact absurd rfl (pwg_get (List.nodup_iff_pairwise_ne.1 hnd) h3 h2 h1)
      obtain ⟨ob, oo, rfl, -, -⟩ := HOs.at (by intro h; rw [h] at hlti; simp at hlti)
      obtain ⟨hob1, hob2⟩ := hob _ rfl
      simp only at hob1 hob2; subst hob2
      have hrl := hpos r (List.mem_of_getElem? hxi)
      have hsl := hpos s (List.mem_of_getElem? hxj)
      have HOw := HOs
      by_cases hbad : n0 = n1 ∨ r.left < n3 ∨ s.left < n3
      · rw [if_pos hbad]
        repeat' (first | (refine lw_pure rfl (pv_move rfl) ?_) | (refine lw_pure rfl (pv_assign rfl) ?_) | (refine is_cw ?_; first | (refine cw_seq ?_) | (refine cw_region ?_) | (refine cw_true rfl rfl ?_) | (refine cw_false rfl rfl ?_) | (refine cw_true rfl (by first | assumption | exact decide_eq_true (by omega) | exact dec_notT (by omega)) ?_) | (refine cw_block ?_) | (refine cw_ret ?_)) | (refine is_qw ?_; first | (with_reducible refine qw_then ?_) | (with_reducible refine qw_then_ret ?_) | (with_reducible refine qw_in_ret ?_)) | (refine lw_nil ?_) | (refine is_guarded ?_; first | (refine lw_not rfl rfl rfl rfl ?_) | (refine lw_on rfl rfl rfl ?_) | (refine lw_on rfl rfl (by first | assumption | exact decide_eq_true (by omega) | exact decide_eq_false (by omega) | exact dec_notT (by omega) | exact dec_notF (by omega)) ?_) | (refine lw_not rfl rfl rfl (by first | assumption | exact decide_eq_true (by omega) | exact decide_eq_false (by omega) | exact dec_notT (by omega) | exact dec_notF (by omega)) ?_) | (refine lw_gs_f rfl rfl rfl (fun hc => ?_) (fun hc => ?_) <;> (first | replace hc := of_decide_eq_true hc | replace hc := of_decide_eq_false hc | replace hc := dec_nT hc | replace hc := dec_nF hc | skip) <;> (try (exfalso; omega)))) | ((refine is_bin ?_; first | (refine lw_pure rfl (pv_lss rfl rfl) ?_) | (refine lw_pure rfl (pv_eql rfl rfl) ?_) | (refine lw_pure rfl (pv_gtr rfl rfl) ?_))) | ((refine is_load ?_; first | (refine lw_pure rfl (pv_load (t1 rfl) rfl (by first | exact PT.ld0 (HW.mono hw) rfl | exact PT.ld (HW.mono hw) rfl | exact SlR.ld (HOw.mono hw) hxi rfl | exact SlR.ld1 (HOw.mono hw) hxi rfl | exact SlR.ld (HOw.mono hw) hxj rfl | exact SlR.ld1 (HOw.mono hw) hxj rfl)) ?_))) | ((refine is_fa ?_; first | (refine lw_pure rfl (pv_fa (tF rfl) rfl) ?_))) | ((refine is_ia ?_; first | (refine lw_pure rfl (pv_ian (tS rfl) rfl rfl (by omega)) ?_))) | (refine lw_pure rfl (pv_pick_t rfl rfl rfl) ?_) | (refine lw_pure rfl (pv_pick_f rfl rfl rfl) ?_) | (refine lw_pure rfl (pv_pick_t rfl (by first | assumption | exact decide_eq_true (by omega) | exact dec_notT (by omega)) rfl) ?_) | (refine lw_pure rfl (pv_pick_f rfl (by first | assumption | exact decide_eq_false (by omega) | exact dec_notF (by omega)) rfl) ?_) | (refine lw_pure rfl (pv_nilp rfl) ?_))
        all_goals first | (exfalso; omega) | exact qw_ret1 rfl rfl ⟨rfl, by simp, hb2⟩
      · rw [if_neg hbad]
        have hne : ¬ i = j := fun e => hbad (Or.inl (hij.1 e))
        have hg1 : ¬ r.left < n3 := fun e => hbad (Or.inr (Or.inl e))
        have hg2 : ¬ s.left < n3 := fun e => hbad (Or.inr (Or.inr e))
        repeat' (first | (refine lw_pure rfl (pv_move rfl) ?_) | (refine lw_pure rfl (pv_assign rfl) ?_) | (refine is_cw ?_; first | (refine cw_seq ?_) | (refine cw_region ?_) | (refine cw_false rfl rfl ?_) | (refine cw_false rfl (by first | assumption | exact decide_eq_false (by omega) | exact dec_notF (by omega)) ?_) | (refine cw_skip ?_) | (refine cw_block ?_)) | (refine is_qw ?_; first | (with_reducible refine qw_then ?_) | (with_reducible refine qw_in ?_)) | (refine lw_nil ?_) | (refine is_guarded ?_; first | (refine lw_on rfl rfl rfl ?_) | (refine lw_on rfl rfl (by first | assumption | exact decide_eq_true (by omega) | exact decide_eq_false (by omega) | exact dec_notT (by omega) | exact dec_notF (by omega)) ?_)) | ((refine is_bin ?_; first | (refine lw_pure rfl (pv_lss rfl rfl) ?_) | (refine lw_pure rfl (pv_eql rfl rfl) ?_) | (refine lw_pure rfl (pv_gtr rfl rfl) ?_) | (refine lw_pure rfl (pv_sub rfl rfl (by omega)) ?_))) | ((refine is_load ?_; first | (refine lw_pure rfl (pv_load (t1 rfl) rfl (by first | exact PT.ld0 (HW.mono hw) rfl | exact PT.ld (HW.mono hw) rfl | exact SlR.ld (HOw.mono hw) hxi rfl | exact SlR.ld1 (HOw.mono hw) hxi rfl | exact SlR.ld (HOw.mono hw) hxj rfl | exact SlR.ld1 (HOw.mono hw) hxj rfl)) ?_))) | ((refine is_fa ?_; first | (refine lw_pure rfl (pv_fa (tF rfl) rfl) ?_))) | ((refine is_ia ?_; first | (refine lw_pure rfl (pv_ian (tS rfl) rfl rfl (by omega)) ?_))) | (refine lw_pure rfl (pv_pick_f rfl rfl rfl) ?_) | (refine lw_pure rfl (pv_pick_f rfl (by first | assumption | exact decide_eq_false (by omega) | exact dec_notF (by omega)) rfl) ?_) | (refine lw_pure rfl (pv_nilp rfl) ?_))
        refine lw_storeF (i := i) (f := 5) (u := { r with left := r.left - n3 }) encP_len (tZ rfl) rfl (by omega) rfl rfl (HO.mono hw) hxi rfl (by omega) ?_; intro w3 hO3 hg3 hz3
        have HW3 := (HW.mono hw).grown hg3 (own_pt_ne (HO.mono hw) (HW.mono hw) (by decide))
        have hT3 := (HT.mono hw).kept hg3 (own_ne_T (HT.mono hw) (HO.mono hw) (by decide))
        have hb3 := hb2.grown hg3 hb2.size (by intro q hq; injection hq with hq; omega)
        have hl3 : (p.set i { r with left := r.left - n3 }).length = p.length := List.length_set
        rw [← hl3] at hO3
        obtain ⟨a3, c3, hv3, HO3, -⟩ := Own.slR encP_len hO3
        injection hv3 with hv31 _ hv33; subst hv31 hv33
        have hxj3 : (p.set i { r with left := r.left - n3 })[j]? = some s := by rw [List.getElem?_set, if_neg hne]; exact hxj
        have hltj3 : j < (p.set i { r with left := r.left - n3 }).length := by omega
        clear hw
        have hw := Below.refl w3.heap.size w3
        repeat' (first | (refine lw_pure rfl (pv_move rfl) ?_) | (refine is_cw ?_; first | (refine cw_seq ?_) | (refine cw_region ?_)) | (refine is_qw ?_; first | (with_reducible refine qw_then ?_)) | (refine lw_nil ?_) | ((refine is_bin ?_; first | (refine lw_pure rfl (pv_sub rfl rfl (by omega)) ?_))) | ((refine is_load ?_; first | (refine lw_pure rfl (pv_load (t1 rfl) rfl (by first | exact PT.ld0 (HW3.mono hw) rfl | exact PT.ld (HW3.mono hw) rfl | exact SlR.ld (HO3.mono hw) hxj3 rfl | exact SlR.ld1 (HO3.mono hw) hxj3 rfl)) ?_))) | ((refine is_fa ?_; first | (refine lw_pure rfl (pv_fa (tF rfl) rfl) ?_))) | ((refine is_ia ?_; first | (refine lw_pure rfl (pv_ian (tS rfl) rfl rfl (by omega)) ?_))) | (refine lw_pure rfl (pv_nilp rfl) ?_))
        refine lw_storeF (i := j) (f := 5) (u := { s with left := s.left - n3 }) encP_len (tZ rfl) rfl (by omega) rfl rfl hO3 hxj3 rfl (by omega) ?_; intro w4 hO4 hg4 hz4
        have HW4 := HW3.grown hg4 (own_pt_ne hO3 HW3 (by decide))
        have hT4 := hT3.kept hg4 (own_ne_T hT3 hO3 (by decide))
        have hb4 := hb3.grown hg4 hb3.size (by intro q hq; injection hq with hq; omega)
        have hl4 : ((p.set i { r with left := r.left - n3 }).set j { s with left := s.left - n3 }).length = (p.set i { r with left := r.left - n3 }).length := List.length_set
        rw [← hl4] at hO4
        clear hw
        have hw := Below.refl w4.heap.size w4
        have hte := traded_eq (q := n3) hxi hxj hnd (fun x hx => (hpos x hx).1) (by rw [hrid, hsid]; exact fun e => hbad (Or.inl e)) (by omega) (by omega)
        repeat' (first | (refine lw_pure rfl (pv_move rfl) ?_) | (refine is_cw ?_; first | (refine cw_seq ?_) | (refine cw_region ?_)) | (refine is_qw ?_; first | (with_reducible refine qw_then ?_)) | (refine lw_nil ?_) | ((refine is_load ?_; first | (refine lw_pure rfl (pv_load (t1 rfl) rfl (by first | exact PT.ld0 (HW4.mono hw) rfl | exact PT.ld (HW4.mono hw) rfl)) ?_))) | ((refine is_fa ?_; first | (refine lw_pure rfl (pv_fa (tF rfl) rfl) ?_))) | (refine lw_pure rfl (pv_nilp rfl) ?_))
        rw [← hl3, ← hl4]
        refine lw_call (f := 91) (by kernel_rfl) rfl rfl (delfg_P w0.heap.size (fun o => o.left == 0) 92 #[] (by kernel_rfl) hb4.size (fun x _ w' _ => by simpa using zeroF_c x w') hO4) ?_; rintro e1 w5 ⟨⟨v', rfl, hO5⟩, hg5, hb5⟩; refine ⟨_, rfl, ?_⟩
        have HW5 := HW4.grown hg5 (own_pt_ne hO4 HW4 (by decide))
        have hT5 := hT4.kept hg5 (own_ne_T hT4 hO4 (by decide))
        have hb6 := hb4.trans hb5
        obtain ⟨va, vc, rfl, -, -⟩ := Own.slR encP_len hO5
        clear hw
        have hw := Below.refl w5.heap.size w5
        repeat' (first | ((refine is_fa ?_; first | (refine lw_pure rfl (pv_fa (tF rfl) rfl) ?_))) | (refine lw_pure rfl (pv_nilp rfl) ?_))
        refine lw_store HW5 (tZ rfl) rfl rfl rfl (by simp) ?_; intro w6 HW6 hg6 hz6
        have hO6 := hO5.kept hg6 (Or.inr (own_pt_ne hO5 HW5 (by decide)))
        have hT6 := hT5.kept hg6 (Or.inr (own_pt_ne hT5 HW5 (by decide)))
        have hb7 := hb6.grown hg6 hb6.size (by intro q hq; injection hq with hq; omega)
        have hw := Below.refl w6.heap.size w6
        repeat' (first | (refine lw_pure rfl (pv_assign rfl) ?_) | (refine is_cw ?_; first | (refine cw_seq ?_) | (refine cw_region ?_) | (refine cw_ret ?_)) | (refine is_qw ?_; first | (with_reducible refine qw_then ?_)) | (refine lw_nil ?_))
        refine qw_ret1 rfl rfl ⟨rfl, fun _ => ⟨_, _, ⟨HW6, ?_, hT6, hNb⟩⟩, hb7⟩
        rw [hte, hrid, hsid] at hO6 ⊢; exact hO6
end Go.Proofs.YtnffmbfdfhokeaaGreatDoor
namespace Go.Proofs.YtnffmbfdfhokeaaGreatDoor
open Go.RowKit Go.PlainAid Go.ChangeShapes Go.WideShapes Go.Maps

section
variable {κ ν : Type} [DecidableEq κ] {eK : κ → Value} {eV : ν → Value} {P : Program} {n : Nat} {l : Fr} {w : World} {B : Nat} {Q : Exit → Act → World → Prop} {ops : Array Oper} {os : List Oper} {d : Option Nat} {ty : TypeId} {pos : String} {af : Array Edge} {g : Option (Nat × Bool)} {T K V : TypeId} {x y z : Operand}
theorem lw_insertM (ht : P.underlying T = some (.map K V)) (E : KeyE P K eK) {m : List (κ × ν)} (k : κ) (v : ν) (hx : ev l x = some (.map (some B))) (hy : ev l y = some (eK k)) (hz : ev l z = some (eV v)) (h : Mp eK eV w B m)
    (hc : ∀ w', Mp eK eV w' B (putM m k v) → w.grownBy w' (some B) → w'.heap.size = w.heap.size → LW P n ops Q os l w') : LW P n ops Q (⟨none, .insert T x y z, ty, pos, af, none⟩ :: os) l w :=
  lw_skips (Φ := fun w' => Mp eK eV w' B (putM m k v) ∧ w.grownBy w' (some B) ∧ w'.heap.size = w.heap.size) (fun A hA => by
    obtain ⟨w', h1, h2⟩ := run_updateM (w := w) ht E h k v
    exact ⟨w', by simp [execOp, hA.ev hx, hA.ev hy, hA.ev hz, h1], h2⟩) fun w' ⟨h1, h2, h3⟩ => hc w' h1 h2 h3
end
def kU (q : Fin 256) : Value := .int .u8 (q.val : Int)
def vF (f : Option Nat) : Value := match f with | some f => .func (.func f) #[] #[] | none => .nilFunc
theorem keyU : KeyE Tryz.prog 5 kU := ⟨int_keyed Tryz.underlying5, fun q => ⟨_, keyOf_int_mk Tryz.underlying5 (by have := q.isLt; simp only [Lit.wf, Bool.and_eq_true, decide_eq_true_eq]; exact ⟨show (0 : Int) ≤ _ by omega, show _ ≤ (255 : Int) by omega⟩)⟩, fun a b h => by
  simp only [kU, Value.int.injEq, true_and] at h
  exact Fin.ext (by omega)⟩
theorem zF (w : World) : (zeroValue 81).run Tryz.prog w = .ok (vF none) w := by kernel_rfl
def doesM : List (Fin 256 × Option Nat) := [(11, some 65), (12, some 66), (13, some 67), (14, some 68), (16, some 68), (18, some 69), (19, some 69)]
set_option maxRecDepth 20000 in
set_option maxHeartbeats 1000000 in
theorem does_c (w : World) : Calls Tryz.prog 38 #[] w fun e w' => (∃ N, e = .returned (.map (some N)) ∧ Mp kU vF w' N doesM ∧ w.heap.size ≤ N) ∧ Below w.heap.size w w' := by
  have hW := Below.refl w.heap.size w
  refine fn_enter 3 Tryz.func38 rfl rfl rfl ?_
  have hw := Below.refl w.heap.size w
  repeat' (first | (refine lw_pure rfl (pv_assign rfl) ?_) | (refine is_cw ?_; first | (refine cw_seq ?_) | (refine cw_region ?_)) | (refine is_qw ?_; first | (with_reducible refine qw_then ?_)) | (refine lw_nil ?_))
  refine lw_makeMap kU vF rfl ?_; intro N w1 hN HM hb
  replace hW := hW.trans hb
  refine lw_insertM (eV := vF) Tryz.underlying83 keyU 11 (some 65) rfl rfl rfl HM ?_; clear HM; intro w1 HM hg hz; replace hW := hW.grown hg hW.size (by intro q hq; injection hq with hq; omega); clear hg hz
  refine lw_insertM (eV := vF) Tryz.underlying83 keyU 12 (some 66) rfl rfl rfl HM ?_; clear HM; intro w1 HM hg hz; replace hW := hW.grown hg hW.size (by intro q hq; injection hq with hq; omega); clear hg hz
  refine lw_insertM (eV := vF) Tryz.underlying83 keyU 13 (some 67) rfl rfl rfl HM ?_; clear HM; intro w1 HM hg hz; replace hW := hW.grown hg hW.size (by intro q hq; injection hq with hq; omega); clear hg hz
  refine lw_insertM (eV := vF) Tryz.underlying83 keyU 14 (some 68) rfl rfl rfl HM ?_; clear HM; intro w1 HM hg hz; replace hW := hW.grown hg hW.size (by intro q hq; injection hq with hq; omega); clear hg hz
  refine lw_insertM (eV := vF) Tryz.underlying83 keyU 16 (some 68) rfl rfl rfl HM ?_; clear HM; intro w1 HM hg hz; replace hW := hW.grown hg hW.size (by intro q hq; injection hq with hq; omega); clear hg hz
  refine lw_insertM (eV := vF) Tryz.underlying83 keyU 18 (some 69) rfl rfl rfl HM ?_; clear HM; intro w1 HM hg hz; replace hW := hW.grown hg hW.size (by intro q hq; injection hq with hq; omega); clear hg hz
  refine lw_insertM (eV := vF) Tryz.underlying83 keyU 19 (some 69) rfl rfl rfl HM ?_; clear HM; intro w1 HM hg hz; replace hW := hW.grown hg hW.size (by intro q hq; injection hq with hq; omega); clear hg hz
  clear hw
  have hw := Below.refl w1.heap.size w1
  repeat' (first | (refine lw_pure rfl (pv_move rfl) ?_) | (refine lw_pure rfl (pv_assign rfl) ?_) | (refine is_cw ?_; first | (refine cw_ret ?_)) | (refine is_qw ?_; first | (with_reducible refine qw_then ?_)) | (refine lw_nil ?_))
  exact qw_ret1 rfl rfl ⟨⟨N, rfl, HM, hN⟩, hW⟩
theorem fld11 : fieldsR 3 11 = some ({ data := #[111, 97, 105, 115, 112, 113] }, false) := by kernel_rfl
theorem fld12 : fieldsR 3 12 = some ({ data := #[111] }, false) := by kernel_rfl
theorem fld13 : fieldsR 3 13 = some ({ data := #[111, 111, 112, 113, 122] }, false) := by kernel_rfl
theorem fld14 : fieldsR 3 14 = some ({ data := #[99, 97, 105, 113, 109, 109, 116] }, false) := by kernel_rfl
theorem fld16 : fieldsR 3 16 = some ({ data := #[99, 97, 105, 113, 109, 116] }, false) := by kernel_rfl
theorem fld18 : fieldsR 3 18 = some ({ data := #[99, 97, 109, 122] }, false) := by kernel_rfl
theorem fld19 : fieldsR 3 19 = some ({ data := #[99] }, false) := by kernel_rfl
theorem nums11 {e : Evt} (h : mayE e = true) (hv : e.v = 3) (hk : e.kind = 11) : ∃ n0 n1 n2 n3 n4 n5, e.nums = [n0, n1, n2, n3, n4, n5] ∧ (1 ≤ n0 ∧ n0 ≤ 1099511627776) ∧ (1 ≤ n1 ∧ n1 ≤ 64) ∧ (1 ≤ n2 ∧ n2 ≤ 16) ∧ (1 ≤ n3 ∧ n3 ≤ 2) ∧ (1 ≤ n4 ∧ n4 ≤ 1073741824) ∧ (1 ≤ n5 ∧ n5 ≤ 1048576) := by
  have h1 : allR 3 [111, 97, 105, 115, 112, 113] e.nums = true := (may_nums h hv hk fld11).1
  obtain ⟨n0, r0, e0, f0, h1⟩ := all_cons h1
  obtain ⟨n1, r1, rfl, f1, h1⟩ := all_cons h1
  obtain ⟨n2, r2, rfl, f2, h1⟩ := all_cons h1
  obtain ⟨n3, r3, rfl, f3, h1⟩ := all_cons h1
  obtain ⟨n4, r4, rfl, f4, h1⟩ := all_cons h1
  obtain ⟨n5, r5, rfl, f5, h1⟩ := all_cons h1
  have h2 := all_nil h1; subst h2
  exact ⟨n0, n1, n2, n3, n4, n5, e0, fits_lo f0 bnd_o, fits_lo f1 bnd_a, fits_lo f2 bnd_i, fits_lo f3 bnd_s, fits_lo f4 bnd_p, fits_lo f5 bnd_q⟩
theorem nums12 {e : Evt} (h : mayE e = true) (hv : e.v = 3) (hk : e.kind = 12) : ∃ n0, e.nums = [n0] ∧ (1 ≤ n0 ∧ n0 ≤ 1099511627776) := by
  have h1 : allR 3 [111] e.nums = true := (may_nums h hv hk fld12).1
  obtain ⟨n0, r0, e0, f0, h1⟩ := all_cons h1
  have h2 := all_nil h1; subst h2
  exact ⟨n0, e0, fits_lo f0 bnd_o⟩
theorem nums13 {e : Evt} (h : mayE e = true) (hv : e.v = 3) (hk : e.kind = 13) : ∃ n0 n1 n2 n3 n4, e.nums = [n0, n1, n2, n3, n4] ∧ (1 ≤ n0 ∧ n0 ≤ 1099511627776) ∧ (1 ≤ n1 ∧ n1 ≤ 1099511627776) ∧ (1 ≤ n2 ∧ n2 ≤ 1073741824) ∧ (1 ≤ n3 ∧ n3 ≤ 1048576) ∧ (0 ≤ n4 ∧ n4 ≤ 1125899906842624) := by
  have h1 : allR 3 [111, 111, 112, 113, 122] e.nums = true := (may_nums h hv hk fld13).1
  obtain ⟨n0, r0, e0, f0, h1⟩ := all_cons h1
  obtain ⟨n1, r1, rfl, f1, h1⟩ := all_cons h1
  obtain ⟨n2, r2, rfl, f2, h1⟩ := all_cons h1
  obtain ⟨n3, r3, rfl, f3, h1⟩ := all_cons h1
  obtain ⟨n4, r4, rfl, f4, h1⟩ := all_cons h1
  have h2 := all_nil h1; subst h2
  exact ⟨n0, n1, n2, n3, n4, e0, fits_lo f0 bnd_o, fits_lo f1 bnd_o, fits_lo f2 bnd_p, fits_lo f3 bnd_q, fits_lo f4 bnd_z⟩
theorem nums14 {e : Evt} (h : mayE e = true) (hv : e.v = 3) (hk : e.kind = 14 ∨ e.kind = 16) : ∃ n0 n1 n2 n3 r, e.nums = n0 :: n1 :: n2 :: n3 :: r ∧ (1 ≤ n0 ∧ n0 ≤ 1099511627776) ∧ (1 ≤ n1 ∧ n1 ≤ 64) ∧ (1 ≤ n2 ∧ n2 ≤ 16) ∧ (1 ≤ n3 ∧ n3 ≤ 1048576) := by
  have key : ∃ cs, allR 3 (99 :: 97 :: 105 :: 113 :: cs) e.nums = true := by
    rcases hk with hk | hk
    · exact ⟨[109, 109, 116], (may_nums h hv hk fld14).1⟩
    · exact ⟨[109, 116], (may_nums h hv hk fld16).1⟩
  obtain ⟨cs, h1⟩ := key
  obtain ⟨n0, r0, e0, f0, h1⟩ := all_cons h1
  obtain ⟨n1, r1, rfl, f1, h1⟩ := all_cons h1
  obtain ⟨n2, r2, rfl, f2, h1⟩ := all_cons h1
  obtain ⟨n3, r3, rfl, f3, h1⟩ := all_cons h1
  exact ⟨n0, n1, n2, n3, r3, e0, fits_lo f0 bnd_c, fits_lo f1 bnd_a, fits_lo f2 bnd_i, fits_lo f3 bnd_q⟩
theorem nums18 {e : Evt} (h : mayE e = true) (hv : e.v = 3) (hk : e.kind = 18) : ∃ n0 n1 n2 n3, e.nums = [n0, n1, n2, n3] ∧ (1 ≤ n0 ∧ n0 ≤ 1099511627776) ∧ (1 ≤ n1 ∧ n1 ≤ 64) ∧ (1 ≤ n2 ∧ n2 ≤ 1125899906842624) ∧ (0 ≤ n3 ∧ n3 ≤ 1125899906842624) := by
  have h1 : allR 3 [99, 97, 109, 122] e.nums = true := (may_nums h hv hk fld18).1
  obtain ⟨n0, r0, e0, f0, h1⟩ := all_cons h1
  obtain ⟨n1, r1, rfl, f1, h1⟩ := all_cons h1
  obtain ⟨n2, r2, rfl, f2, h1⟩ := all_cons h1
  obtain ⟨n3, r3, rfl, f3, h1⟩ := all_cons h1
  have h2 := all_nil h1; subst h2
  exact ⟨n0, n1, n2, n3, e0, fits_lo f0 bnd_c, fits_lo f1 bnd_a, fits_lo f2 bnd_m, fits_lo f3 bnd_z⟩
theorem nums19 {e : Evt} (h : mayE e = true) (hv : e.v = 3) (hk : e.kind = 19) : ∃ n0, e.nums = [n0] ∧ (1 ≤ n0 ∧ n0 ≤ 1099511627776) := by
  have h1 : allR 3 [99] e.nums = true := (may_nums h hv hk fld19).1
  obtain ⟨n0, r0, e0, f0, h1⟩ := all_cons h1
  have h2 := all_nil h1; subst h2
  exact ⟨n0, e0, fits_lo f0 bnd_c⟩
def methR (k : Int) : Option Nat := if k = 11 then some 65 else if k = 12 then some 66 else if k = 13 then some 67 else if k = 14 ∨ k = 16 then some 68 else if k = 18 ∨ k = 19 then some 69 else none
set_option maxHeartbeats 1000000 in
theorem meth_c {p : List Opn} {t : List Lt} {ev0 : Evt} {w0 w : World} {N m F : Nat} {a : Option Addr} {c : Nat} {vo vt : Value} (hF : methR ev0.kind = some F) (hM : MayV p t) (hE : mayE ev0 = true) (hv : ev0.v = 3) (hm : ev0.nums.length = m) (hb0 : Below w0.heap.size w0 w) (hW : WkO w0.heap.size w N p t vo vt) (HN : SlR encI 1 w0 a c ev0.nums) :
    Calls Tryz.prog F #[.pointer (some ⟨N, 0, none⟩), .slice a m c] w fun e w' => e = .returned (.int .i64 (doneR p t ev0).2.2) ∧ ((doneR p t ev0).2.2 = 0 → ∃ vo vt, WkO w0.heap.size w' N (doneR p t ev0).1 (doneR p t ev0).2.1 vo vt) ∧ Below w0.heap.size w0 w' := by
  obtain ⟨⟨hl1, hl2⟩, hp1, ht1, hmo, hnd, hml⟩ := hM
  subst hm
  unfold methR at hF
  unfold doneR
  by_cases k1 : ev0.kind = 11
  · rw [if_pos k1] at hF ⊢
    injection hF with hF; subst hF
    obtain ⟨n0, n1, n2, n3, n4, n5, hn, h0, h1, h2, h3, h4, h5⟩ := nums11 hE hv k1
    rw [hn] at HN ⊢
    exact placed_c hn hb0 hW HN hp1 hl1 (by omega)
  rw [if_neg k1] at hF ⊢
  by_cases k2 : ev0.kind = 12
  · rw [if_pos k2] at hF ⊢
    injection hF with hF; subst hF
    obtain ⟨n0, hn, h0⟩ := nums12 hE hv k2
    rw [hn] at HN ⊢
    exact cancelled_c hn hb0 hW HN hnd (fun x hx => by have := hmo x hx; unfold MayO at this; omega) hl1
  rw [if_neg k2] at hF ⊢
  by_cases k3 : ev0.kind = 13
  · rw [if_pos k3] at hF ⊢
    injection hF with hF; subst hF
    obtain ⟨n0, n1, n2, n3, n4, hn, h0, h1, h2, h3, h4⟩ := nums13 hE hv k3
    exact traded_c rfl rfl (by rw [hn]; rfl) (by rw [hn]; rfl) (by rw [hn]; rfl) h3 hb0 hW HN hnd (fun x hx => by have := hmo x hx; unfold MayO at this; omega)
  rw [if_neg k3] at hF ⊢
  by_cases k4 : ev0.kind = 14 ∨ ev0.kind = 16
  · rw [if_pos k4] at hF ⊢
    injection hF with hF; subst hF
    obtain ⟨n0, n1, n2, n3, r, hn, h0, h1, h2, h3⟩ := nums14 hE hv k4
    exact opened_c rfl rfl (by rw [hn]; rfl) (by rw [hn]; rfl) (by rw [hn]; rfl) (by rw [hn]; rfl) hb0 hW HN ht1 hl2
  rw [if_neg k4] at hF ⊢
  by_cases k5 : ev0.kind = 18 ∨ ev0.kind = 19
  · rw [if_pos k5] at hF ⊢
    injection hF with hF; subst hF
    have key : ∃ n0, ev0.nums[0]? = some n0 := by
      rcases k5 with k5 | k5
      · obtain ⟨n0, n1, n2, n3, hn, _⟩ := nums18 hE hv k5; exact ⟨n0, by rw [hn]; rfl⟩
      · obtain ⟨n0, hn, _⟩ := nums19 hE hv k5; exact ⟨n0, by rw [hn]; rfl⟩
    obtain ⟨n0, hn⟩ := key
    exact gone_c rfl rfl hn hb0 hW HN ht1 hl2
  rw [if_neg k5] at hF; cases hF

theorem err_empty (p : List Opn) (t : List Lt) (e : Evt) : (doneR p t e).2.2 = 0 ∨ ((doneR p t e).1 = [] ∧ (doneR p t e).2.1 = []) := by
  unfold doneR placedR cancelR tradedR openedR goneR
  (repeat' split) <;> first | exact Or.inl rfl | exact Or.inr ⟨rfl, rfl⟩
theorem event_no {p : List Opn} {t : List Lt} {e : Evt} (h : ¬ (mayV p t = true ∧ e.v = 3 ∧ mayE e = true)) : eventR p t e = ([], [], 4) := by unfold eventR; rw [if_neg h]
theorem event_yes {p : List Opn} {t : List Lt} {e : Evt} (h : mayV p t = true ∧ e.v = 3 ∧ mayE e = true) : eventR p t e = doneR p t e := by unfold eventR; rw [if_pos h]
theorem mayV_e {p : List Opn} {t : List Lt} {m n : Nat} {a b : Option Addr} {ca cb : Nat} {r : Bool} {w : World} (h : mayV p t = r) (hm : p.length = m) (hn : t.length = n) (HP : SlR encP 6 w a ca p) (HL : SlR encL 4 w b cb t) : Calls Tryz.prog 26 #[.slice a m ca, .slice b n cb] w fun e w' => e = .returned (.bool r) ∧ Below w.heap.size w w' := by
  subst h; exact mayV_c hm hn HP HL
theorem mayE_e {e : Evt} {m n : Nat} {a b : Option Addr} {ca cb : Nat} {r : Bool} {w : World} (h : mayE e = r) (h8 : 0 ≤ e.kind ∧ e.kind ≤ 255) (hm : e.nums.length = m) (hn : e.texts.length = n) (HN : SlR encI 1 w a ca e.nums) (HT : SlR encT 1 w b cb e.texts) (hT : TxtIn e.texts) (hK : KnW w) : Calls Tryz.prog 27 #[.agg #[.int .u8 e.v, .int .u8 e.kind, .slice a m ca, .slice b n cb]] w fun e1 w' => e1 = .returned (.bool r) ∧ Below w.heap.size w w' := by
  subst h; exact mayE_c h8 hm hn HN HT hT hK
def keyOf8 (k : Int) (h : 0 ≤ k ∧ k ≤ 255) : Fin 256 := ⟨k.toNat, by omega⟩
theorem kU_of (k : Int) (h : 0 ≤ k ∧ k ≤ 255) : kU (keyOf8 k h) = .int .u8 k := by unfold kU keyOf8; congr 1; simp; omega
set_option maxRecDepth 20000 in
theorem does_at : (List.range 256).all (fun k => decide ((getM doesM (Fin.ofNat 256 k)) = (methR (k : Nat)).map some)) = true := by kernel_rfl
theorem does_get (k : Int) (h : 0 ≤ k ∧ k ≤ 255) : getM doesM (keyOf8 k h) = (methR k).map some := by
  have h1 := List.all_eq_true.1 does_at k.toNat (List.mem_range.2 (by omega))
  have h2 := of_decide_eq_true h1
  rw [show ((k.toNat : Nat) : Int) = k by omega] at h2
  rw [← h2]
  congr 1
  apply Fin.ext
  show k.toNat = k.toNat % 256
  omega
set_option maxRecDepth 20000 in
theorem meth_enters {k : Int} {F : Nat} (h : methR k = some F) : entersB Tryz.prog F = true := by
  unfold methR at h
  (repeat' split at h) <;> first | (injection h with h; subst h; kernel_rfl) | (cases h; done)
theorem done_none {p : List Opn} {t : List Lt} {e : Evt} (h : methR e.kind = none) : doneR p t e = (p, t, 0) := by
  unfold methR at h
  unfold doneR
  by_cases k1 : e.kind = 11
  · rw [if_pos k1] at h; cases h
  rw [if_neg k1] at h ⊢
  by_cases k2 : e.kind = 12
  · rw [if_pos k2] at h; cases h
  rw [if_neg k2] at h ⊢
  by_cases k3 : e.kind = 13
  · rw [if_pos k3] at h; cases h
  rw [if_neg k3] at h ⊢
  by_cases k4 : e.kind = 14 ∨ e.kind = 16
  · rw [if_pos k4] at h; cases h
  rw [if_neg k4] at h ⊢
  by_cases k5 : e.kind = 18 ∨ e.kind = 19
  · rw [if_pos k5] at h; cases h
  rw [if_neg k5]
theorem look_e {P : Program} {n : Nat} {l : Fr} {w : World} {d : Option Nat} {ty : TypeId} {pos : String} {af : Array Edge} {g : Option (Nat × Bool)} {T K V : TypeId} {x y : Operand} {B : Nat} {κ ν : Type} [DecidableEq κ] {eK : κ → Value} {eV : ν → Value} (ht : P.underlying T = some (.map K V)) (E : KeyE P K eK) {zv : ν} (hz : ∀ w, (zeroValue V).run P w = .ok (eV zv) w) {m : List (κ × ν)} {k : κ} {o : Option ν} (ho : getM m k = o) (hx : ev l x = some (.map (some B))) (hy : ev l y = some (eK k)) (h : Mp eK eV w B m) :
    Pv P n l ⟨d, .lookup T x y true, ty, pos, af, g⟩ (.tuple #[eV (o.getD zv), .bool o.isSome]) w := by subst ho; exact pv_lookupM_ok ht E hz hx hy h
set_option maxRecDepth 20000 in
set_option maxHeartbeats 8000000 in
theorem ev_c {p : List Opn} {t : List Lt} {e : Evt} {mp mt mn mx : Nat} {ap at_ an ax : Option Addr} {cp ct cn cx : Nat} {w : World} (h8 : 0 ≤ e.kind ∧ e.kind ≤ 255) (hmp : p.length = mp) (hmt : t.length = mt) (hmn : e.nums.length = mn) (hmx : e.texts.length = mx) (HP : SlR encP 6 w ap cp p) (HL : SlR encL 4 w at_ ct t) (HN : SlR encI 1 w an cn e.nums) (HX : SlR encT 1 w ax cx e.texts) (hT : TxtIn e.texts) (hK : KnW w) :
    Calls Tryz.prog 12 #[.slice ap mp cp, .slice at_ mt ct, .agg #[.int .u8 e.v, .int .u8 e.kind, .slice an mn cn, .slice ax mx cx]] w fun e1 w' => (∃ vo vt, e1 = .returned (.tuple #[vo, vt, .int .i64 (eventR p t e).2.2]) ∧ Own encP 6 69 w.heap.size w' vo (eventR p t e).1 ∧ Own encL 4 73 w.heap.size w' vt (eventR p t e).2.1) ∧ Below w.heap.size w w' := by
  subst hmp hmt hmn hmx
  have hw := Below.refl w.heap.size w
  refine fn_enter 57 Tryz.func12 rfl rfl rfl ?_
  repeat' (first | (refine is_cw ?_; first | (refine cw_seq ?_) | (refine cw_region ?_)))
  refine lw_boxN rfl rfl (cs := [.int .u8 e.v, .int .u8 e.kind, .slice an e.nums.length cn, .slice ax e.texts.length cx]) rfl ?_; intro NE w1 hNE H hb
  replace hw := grow_trans hw hb
  clear hb
  have hE := Ext.mk hw
  replace HP := HP.mono hw
  replace HL := HL.mono hw
  have HN1 := HN.mono hw
  replace HX := HX.mono hw
  replace hK := hK.mono hw
  have hw0 := hw
  clear hw
  have hw := Below.refl w1.heap.size w1
  by_cases hgood : mayV p t = true ∧ e.v = 3 ∧ mayE e = true
  · rw [event_yes hgood]
    obtain ⟨hg1, hg2, hg3⟩ := hgood
    have hM := mayV_iff.1 hg1
    have hl1 := hM.1
    repeat' (first | (refine lw_pure rfl (pv_move rfl) ?_) | (refine lw_pure rfl (pv_assign rfl) ?_) | (refine lw_call (f := 26) (by kernel_rfl) rfl rfl (mayV_e hg1 rfl rfl HP HL) ?_; rintro e w1 ⟨rfl, hb⟩; refine ⟨_, rfl, ?_⟩; replace hw := grow_trans hw hb; clear hb) | (refine lw_call (f := 27) (by kernel_rfl) rfl rfl (mayE_e hg3 h8 rfl rfl (HN1.mono hw) (HX.mono hw) hT (hK.mono hw)) ?_; rintro e w1 ⟨rfl, hb⟩; refine ⟨_, rfl, ?_⟩; replace hw := grow_trans hw hb; clear hb) | (refine is_cw ?_; first | (refine cw_seq ?_) | (refine cw_region ?_) | (refine cw_false rfl rfl ?_) | (refine cw_skip ?_)) | (refine is_qw ?_; first | (with_reducible refine qw_then ?_)) | (refine lw_nil ?_) | (refine is_guarded ?_; first | (refine lw_on rfl rfl rfl ?_) | (refine lw_on rfl rfl (by first | assumption | exact decide_eq_true (by omega) | exact decide_eq_false (by omega) | exact dec_notT (by omega) | exact dec_notF (by omega)) ?_)) | ((refine is_bin ?_; first | (refine lw_pure rfl (pv_neq rfl rfl) ?_))) | ((refine is_load ?_; first | (refine lw_pure rfl (pv_load (t1 rfl) rfl (by first | exact PT.ld0 (H.mono hw) rfl | exact PT.ld (H.mono hw) rfl)) ?_) | (refine lw_pure rfl (pv_loada (tA rfl) rfl (by first | exact PT.lda (H.mono hw)) (by rfl)) ?_))) | ((refine is_fa ?_; first | (refine lw_pure rfl (pv_fa (tF rfl) rfl) ?_))) | ((refine is_un ?_; first | (refine lw_pure rfl (pv_not rfl) ?_))) | (refine lw_pure rfl (pv_pick_f rfl rfl rfl) ?_) | (refine lw_pure rfl (pv_pick_f rfl (by first | assumption | exact decide_eq_false (by omega) | exact dec_notF (by omega)) rfl) ?_))
    refine lw_call (f := 36) (by kernel_rfl) rfl rfl (clone_P rfl (HP.mono hw) (by omega)) ?_; rintro e1 w2 ⟨⟨vo, rfl, hO⟩, hb⟩; refine ⟨_, rfl, ?_⟩
    have hz1 := hw.size
    have hze := hE.le
    replace hw := grow_trans hw hb
    replace hO := hO.weaken (Nat.le_trans hze hz1)
    obtain ⟨oa, oc, rfl, -, -⟩ := Own.slR encP_len hO
    clear hb
    repeat' (first | (refine lw_pure rfl (pv_move rfl) ?_))
    refine lw_call (f := 37) (by kernel_rfl) rfl rfl (clone_L rfl (HL.mono hw) (by omega)) ?_; rintro e1 w3 ⟨⟨vt, rfl, hTt⟩, hb⟩; refine ⟨_, rfl, ?_⟩
    have hz2 := hw.size
    replace hw := grow_trans hw hb
    replace hO := hO.mono hb
    replace hTt := hTt.weaken (Nat.le_trans hze hz2)
    obtain ⟨ta, tc, rfl, -, -⟩ := Own.slR encL_len hTt
    clear hb
    repeat' (first | ((refine is_bd ?_; first | (refine lw_pure rfl (tyB_80 rfl rfl rfl) ?_))))
    refine lw_boxN rfl rfl (cs := [.slice oa p.length oc, .slice ta t.length tc]) rfl ?_; intro NW w4 hNW HW hb
    have hz3 := hw.size
    replace hw := grow_trans hw hb
    replace hO := hO.mono hb
    replace hTt := hTt.mono hb
    clear hb
    have hb0 := grow_trans hw0 hw
    have hWk : WkO w.heap.size w4 NW p t (.slice oa p.length oc) (.slice ta t.length tc) := ⟨HW, hO, hTt, by omega⟩
    replace H := H.mono hw
    clear hw
    have hw := Below.refl w4.heap.size w4
    repeat' (first | (refine lw_pure rfl (pv_assign rfl) ?_) | (refine is_cw ?_; first | (refine cw_seq ?_)) | (refine is_qw ?_; first | (with_reducible refine qw_then ?_)) | (refine lw_nil ?_))
    cases hmr : methR e.kind with
    | none =>
      have hget : getM doesM (keyOf8 e.kind h8) = none := by rw [does_get, hmr]; rfl
      rw [done_none hmr]
      refine cw_drawn (fun w' => Below w4.heap.size w4 w') (by kernel_rfl) (by repeat (first | exact NoPanic.body | with_reducible refine NoPanic.then ?_ | with_reducible refine NoPanic.inBlock ?_)) (fun hNP => ?_)
      have hS := hw.drew
      (refine at0 1 rfl (fun w' hq => pv_fa (tF rfl) rfl) ?_)
      (refine at0 2 rfl (fun w' hq => pv_load (t1 rfl) rfl (by first | exact PT.ld0 (H.mono hq) rfl | exact PT.ld (H.mono hq) rfl)) ?_)
      refine aw_act 0 (by kernel_rfl) rfl rfl rfl ?_
      refine act_call (f := 38) (by kernel_rfl) rfl (does_c _) ?_; rintro e1 w5 ⟨⟨NM, rfl, HM, hNM⟩, hb5⟩; refine ⟨_, rfl, grow_trans hS hb5, fun hS => ?_⟩
      refine aw_act 3 (by kernel_rfl) rfl rfl rfl ?_
      refine act_pv (look_e (k := keyOf8 e.kind h8) Tryz.underlying83 keyU zF hget rfl (by rw [kU_of]; rfl) HM) ?_; refine ⟨hS, fun hS => ?_⟩
      (refine at0 4 rfl (fun w' hq => pv_move rfl) ?_)
      (refine at0 5 rfl (fun w' hq => pv_extract rfl rfl) ?_)
      (refine at0 6 rfl (fun w' hq => pv_extract rfl rfl) ?_)
      (refine at0 7 rfl (fun w' hq => pv_assign rfl) ?_)
      (refine at0 8 rfl (fun w' hq => pv_assign rfl) ?_)
      refine aw_done (by kernel_rfl) ?_
      replace hw := hS; clear hS hNP
      repeat' (first | (refine lw_pure rfl (pv_move rfl) ?_) | (refine is_cw ?_; first | (refine cw_seq ?_) | (refine cw_region ?_) | (refine cw_false rfl rfl ?_) | (refine cw_skip ?_)) | (refine is_qw ?_; first | (with_reducible refine qw_then ?_)) | (refine lw_nil ?_))
      refine cw_drawn (fun w' => Below w4.heap.size w4 w') (by kernel_rfl) (by repeat (first | exact NoPanic.body | with_reducible refine NoPanic.then ?_ | with_reducible refine NoPanic.inBlock ?_)) (fun hNP => ?_)
      have hS := hw.drew
      (refine at0 0 rfl (fun w' hq => pv_move rfl) ?_)
      (refine at0 1 rfl (fun w' hq => pv_nilp rfl) ?_)
      (refine at0 2 rfl (fun w' hq => pv_fa (tF rfl) rfl) ?_)
      (refine at0 3 rfl (fun w' hq => pv_load (t1 rfl) rfl (by first | exact PT.ld0 (HW.mono hq) rfl | exact PT.ld (HW.mono hq) rfl)) ?_)
      (refine at0 4 rfl (fun w' hq => pv_move rfl) ?_)
      (refine at0 5 rfl (fun w' hq => pv_nilp rfl) ?_)
      (refine at0 6 rfl (fun w' hq => pv_fa (tF rfl) rfl) ?_)
      (refine at0 7 rfl (fun w' hq => pv_load (t1 rfl) rfl (by first | exact PT.ld0 (HW.mono hq) rfl | exact PT.ld (HW.mono hq) rfl)) ?_)
      (refine at0 8 rfl (fun w' hq => pv_assign rfl) ?_)
      (refine at0 9 rfl (fun w' hq => pv_assign rfl) ?_)
      (refine at0 10 rfl (fun w' hq => pv_assign rfl) ?_)
      refine aw_done (by kernel_rfl) ?_
      replace hw := hS; clear hS hNP
      have hbz := grow_trans hb0 hw
      repeat' (first | (refine is_cw ?_; first | (refine cw_ret ?_)) | (refine is_qw ?_; first | (with_reducible refine qw_then ?_)))
      exact qw_ret3 rfl rfl rfl rfl ⟨⟨_, _, rfl, hO.mono hw, hTt.mono hw⟩, hbz⟩
    | some F =>
      have hget : getM doesM (keyOf8 e.kind h8) = some (some F) := by rw [does_get, hmr]; rfl
      refine cw_drawn (fun w' => Below w4.heap.size w4 w') (by kernel_rfl) (by repeat (first | exact NoPanic.body | with_reducible refine NoPanic.then ?_ | with_reducible refine NoPanic.inBlock ?_)) (fun hNP => ?_)
      have hS := hw.drew
      (refine at0 1 rfl (fun w' hq => pv_fa (tF rfl) rfl) ?_)
      (refine at0 2 rfl (fun w' hq => pv_load (t1 rfl) rfl (by first | exact PT.ld0 (H.mono hq) rfl | exact PT.ld (H.mono hq) rfl)) ?_)
      refine aw_act 0 (by kernel_rfl) rfl rfl rfl ?_
      refine act_call (f := 38) (by kernel_rfl) rfl (does_c _) ?_; rintro e1 w5 ⟨⟨NM, rfl, HM, hNM⟩, hb5⟩; refine ⟨_, rfl, grow_trans hS hb5, fun hS => ?_⟩
      refine aw_act 3 (by kernel_rfl) rfl rfl rfl ?_
      refine act_pv (look_e (k := keyOf8 e.kind h8) Tryz.underlying83 keyU zF hget rfl (by rw [kU_of]; rfl) HM) ?_; refine ⟨hS, fun hS => ?_⟩
      (refine at0 4 rfl (fun w' hq => pv_move rfl) ?_)
      (refine at0 5 rfl (fun w' hq => pv_extract rfl rfl) ?_)
      (refine at0 6 rfl (fun w' hq => pv_extract rfl rfl) ?_)
      (refine at0 7 rfl (fun w' hq => pv_assign rfl) ?_)
      (refine at0 8 rfl (fun w' hq => pv_assign rfl) ?_)
      refine aw_done (by kernel_rfl) ?_
      replace hw := hS; clear hS hNP
      repeat' (first | (refine lw_pure rfl (pv_move rfl) ?_) | (refine is_cw ?_; first | (refine cw_seq ?_) | (refine cw_region ?_) | (refine cw_true rfl rfl ?_)) | (refine is_qw ?_; first | (with_reducible refine qw_then ?_)) | (refine lw_nil ?_) | ((refine is_load ?_; first | (refine lw_pure rfl (pv_load (t1 rfl) rfl (by first | exact PT.ld0 (H.mono hw) rfl | exact PT.ld (H.mono hw) rfl)) ?_))) | ((refine is_fa ?_; first | (refine lw_pure rfl (pv_fa (tF rfl) rfl) ?_))))
      refine lw_callv (f := F) rfl (meth_enters hmr) rfl rfl (by simpa using meth_c hmr hM hg3 hg2 rfl (grow_trans hb0 hw) (hWk.mono hw) HN) ?_; rintro e1 w6 ⟨rfl, hpost, hb6⟩; refine ⟨_, rfl, ?_⟩
      clear hw
      have hw := Below.refl w6.heap.size w6
      by_cases h0 : (doneR p t e).2.2 = 0
      · obtain ⟨vo2, vt2, HW6, hO6, hT6, -⟩ := hpost h0
        repeat' (first | (refine lw_pure rfl (pv_move rfl) ?_) | (refine lw_pure rfl (pv_assign rfl) ?_) | (refine is_cw ?_; first | (refine cw_seq ?_) | (refine cw_region ?_) | (refine cw_false rfl (by first | assumption | exact decide_eq_false (by omega) | exact dec_notF (by omega)) ?_) | (refine cw_skip ?_)) | (refine is_qw ?_; first | (with_reducible refine qw_then ?_)) | (refine lw_nil ?_) | ((refine is_bin ?_; first | (refine lw_pure rfl (pv_neq rfl rfl) ?_))))
        refine cw_drawn (fun w' => Below w6.heap.size w6 w') (by kernel_rfl) (by repeat (first | exact NoPanic.body | with_reducible refine NoPanic.then ?_ | with_reducible refine NoPanic.inBlock ?_)) (fun hNP => ?_)
        have hS := hw.drew
        (refine at0 0 rfl (fun w' hq => pv_move rfl) ?_)
        (refine at0 1 rfl (fun w' hq => pv_nilp rfl) ?_)
        (refine at0 2 rfl (fun w' hq => pv_fa (tF rfl) rfl) ?_)
        (refine at0 3 rfl (fun w' hq => pv_load (t1 rfl) rfl (by first | exact PT.ld0 (HW6.mono hq) rfl | exact PT.ld (HW6.mono hq) rfl)) ?_)
        (refine at0 4 rfl (fun w' hq => pv_move rfl) ?_)
        (refine at0 5 rfl (fun w' hq => pv_nilp rfl) ?_)
        (refine at0 6 rfl (fun w' hq => pv_fa (tF rfl) rfl) ?_)
        (refine at0 7 rfl (fun w' hq => pv_load (t1 rfl) rfl (by first | exact PT.ld0 (HW6.mono hq) rfl | exact PT.ld (HW6.mono hq) rfl)) ?_)
        (refine at0 8 rfl (fun w' hq => pv_assign rfl) ?_)
        (refine at0 9 rfl (fun w' hq => pv_assign rfl) ?_)
        (refine at0 10 rfl (fun w' hq => pv_assign rfl) ?_)
        refine aw_done (by kernel_rfl) ?_
        replace hw := hS; clear hS hNP
        have hbz := grow_trans hb6 hw
        repeat' (first | (refine is_cw ?_; first | (refine cw_ret ?_)) | (refine is_qw ?_; first | (with_reducible refine qw_then ?_)))
        exact qw_ret3 rfl rfl rfl rfl ⟨⟨_, _, by rw [h0], hO6.mono hw, hT6.mono hw⟩, hbz⟩
      · obtain ⟨he1, he2⟩ := (err_empty p t e).resolve_left h0
        repeat' (first | (refine lw_pure rfl (pv_move rfl) ?_) | (refine lw_pure rfl (pv_assign rfl) ?_) | (refine is_cw ?_; first | (refine cw_seq ?_) | (refine cw_region ?_) | (refine cw_true rfl (by first | assumption | exact decide_eq_true (by omega) | exact dec_notT (by omega)) ?_) | (refine cw_ret ?_)) | (refine is_qw ?_; first | (with_reducible refine qw_then ?_) | (with_reducible refine qw_then_ret ?_)) | (refine lw_nil ?_) | ((refine is_bin ?_; first | (refine lw_pure rfl (pv_neq rfl rfl) ?_))))
        refine qw_ret3 rfl rfl rfl rfl ⟨⟨_, _, rfl, ?_, ?_⟩, hb6⟩
        · rw [he1]; exact Own.nil _
        · rw [he2]; exact Own.nil _
  · rw [event_no hgood]
    cases hg1 : mayV p t with
    | false =>
      repeat' (first | (refine lw_pure rfl (pv_move rfl) ?_) | (refine lw_pure rfl (pv_assign rfl) ?_) | (refine lw_call (f := 26) (by kernel_rfl) rfl rfl (mayV_e hg1 rfl rfl HP HL) ?_; rintro e w1 ⟨rfl, hb⟩; refine ⟨_, rfl, ?_⟩; replace hw := grow_trans hw hb; clear hb) | (refine is_cw ?_; first | (refine cw_seq ?_) | (refine cw_region ?_) | (refine cw_true rfl rfl ?_) | (refine cw_ret ?_)) | (refine is_qw ?_; first | (with_reducible refine qw_then ?_) | (with_reducible refine qw_then_ret ?_)) | (refine lw_nil ?_) | (refine is_guarded ?_; first | (refine lw_not rfl rfl rfl rfl ?_)) | ((refine is_un ?_; first | (refine lw_pure rfl (pv_not rfl) ?_))) | (refine lw_pure rfl (pv_pick_t rfl rfl rfl) ?_))
      all_goals exact qw_ret3 rfl rfl rfl rfl ⟨⟨_, _, rfl, Own.nil _, Own.nil _⟩, grow_trans hw0 hw⟩
    | true =>
      by_cases hg2 : e.v = 3
      · have hg3 : mayE e = false := by rw [Bool.eq_false_iff]; exact fun h => hgood ⟨hg1, hg2, h⟩
        repeat' (first | (refine lw_pure rfl (pv_move rfl) ?_) | (refine lw_pure rfl (pv_assign rfl) ?_) | (refine lw_call (f := 26) (by kernel_rfl) rfl rfl (mayV_e hg1 rfl rfl HP HL) ?_; rintro e w1 ⟨rfl, hb⟩; refine ⟨_, rfl, ?_⟩; replace hw := grow_trans hw hb; clear hb) | (refine lw_call (f := 27) (by kernel_rfl) rfl rfl (mayE_e hg3 h8 rfl rfl (HN1.mono hw) (HX.mono hw) hT (hK.mono hw)) ?_; rintro e w1 ⟨rfl, hb⟩; refine ⟨_, rfl, ?_⟩; replace hw := grow_trans hw hb; clear hb) | (refine is_cw ?_; first | (refine cw_seq ?_) | (refine cw_region ?_) | (refine cw_true rfl rfl ?_) | (refine cw_ret ?_)) | (refine is_qw ?_; first | (with_reducible refine qw_then ?_) | (with_reducible refine qw_then_ret ?_)) | (refine lw_nil ?_) | (refine is_guarded ?_; first | (refine lw_on rfl rfl rfl ?_) | (refine lw_on rfl rfl (by first | assumption | exact decide_eq_true (by omega) | exact decide_eq_false (by omega) | exact dec_notT (by omega) | exact dec_notF (by omega)) ?_)) | ((refine is_bin ?_; first | (refine lw_pure rfl (pv_neq rfl rfl) ?_))) | ((refine is_load ?_; first | (refine lw_pure rfl (pv_load (t1 rfl) rfl (by first | exact PT.ld0 (H.mono hw) rfl | exact PT.ld (H.mono hw) rfl)) ?_) | (refine lw_pure rfl (pv_loada (tA rfl) rfl (by first | exact PT.lda (H.mono hw)) (by rfl)) ?_))) | ((refine is_fa ?_; first | (refine lw_pure rfl (pv_fa (tF rfl) rfl) ?_))) | ((refine is_un ?_; first | (refine lw_pure rfl (pv_not rfl) ?_))) | (refine lw_pure rfl (pv_pick_f rfl rfl rfl) ?_) | (refine lw_pure rfl (pv_pick_f rfl (by first | assumption | exact decide_eq_false (by omega) | exact dec_notF (by omega)) rfl) ?_))
        all_goals exact qw_ret3 rfl rfl rfl rfl ⟨⟨_, _, rfl, Own.nil _, Own.nil _⟩, grow_trans hw0 hw⟩
      · repeat' (first | (refine lw_pure rfl (pv_move rfl) ?_) | (refine lw_pure rfl (pv_assign rfl) ?_) | (refine lw_call (f := 26) (by kernel_rfl) rfl rfl (mayV_e hg1 rfl rfl HP HL) ?_; rintro e w1 ⟨rfl, hb⟩; refine ⟨_, rfl, ?_⟩; replace hw := grow_trans hw hb; clear hb) | (refine is_cw ?_; first | (refine cw_seq ?_) | (refine cw_region ?_) | (refine cw_true rfl rfl ?_) | (refine cw_ret ?_)) | (refine is_qw ?_; first | (with_reducible refine qw_then ?_) | (with_reducible refine qw_then_ret ?_)) | (refine lw_nil ?_) | (refine is_guarded ?_; first | (refine lw_on rfl rfl rfl ?_) | (refine lw_not rfl rfl rfl (by first | assumption | exact decide_eq_true (by omega) | exact decide_eq_false (by omega) | exact dec_notT (by omega) | exact dec_notF (by omega)) ?_)) | ((refine is_bin ?_; first | (refine lw_pure rfl (pv_neq rfl rfl) ?_))) | ((refine is_load ?_; first | (refine lw_pure rfl (pv_load (t1 rfl) rfl (by first | exact PT.ld0 (H.mono hw) rfl | exact PT.ld (H.mono hw) rfl)) ?_))) | ((refine is_fa ?_; first | (refine lw_pure rfl (pv_fa (tF rfl) rfl) ?_))) | ((refine is_un ?_; first | (refine lw_pure rfl (pv_not rfl) ?_))) | (refine lw_pure rfl (pv_pick_f rfl rfl rfl) ?_) | (refine lw_pure rfl (pv_pick_t rfl (by first | assumption | exact decide_eq_true (by omega) | exact dec_notT (by omega)) rfl) ?_))
        all_goals exact qw_ret3 rfl rfl rfl rfl ⟨⟨_, _, rfl, Own.nil _, Own.nil _⟩, grow_trans hw0 hw⟩
end Go.Proofs.YtnffmbfdfhokeaaGreatDoor
