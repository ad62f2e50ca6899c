/-
  Part 2 of the texts of: StmtNames: its row and its card: whatever the input: true; the input reads as it did. Conditions: what the row prints (the table of functions reads as the program's text lays it).
-/
import Derived.Test.YtnffmbfdfhokeaaDoorZO1
import Derived.Test.YtnffmbfdfhokeaaDoorRows
import Derived.ProofKit
import Derived.OpenShut
import Derived.ChangeArms
import Derived.FnData
import Derived.LaidMore
import Derived.LaidOnce
import Derived.LaidHandle
import Derived.Laws.IdiomArrays
import Derived.Laws.StructEq
import Derived.RangeFuncNested
import Derived.RangeFuncLeaves
import Derived.LoopNIn
import Derived.TacticsIn
namespace Go.Proofs.YtnffmbfdfhokeaaDoor
open Go.RowKit Go.PlainAid

theorem elemLn : ElemT Tryd.prog 27 30 5 40 := elem_of Tryd.underlying27 (by kernel_rfl) (by omega)
theorem zN (w : World) : (zeroValue 30).run Tryd.prog w = .ok (.agg (encN ⟨0, 0, 0, 0, 0⟩).toArray) w := by kernel_rfl
set_option maxRecDepth 20000 in
theorem clone_N {xs : List Ln} {m : Nat} {ad : Option Addr} {cap : Nat} {w : World} (hm : xs.length = m) (HS : SlR encN 5 w ad cap xs) (hl : xs.length ≤ 1048576) : Calls Tryd.prog 25 #[.slice ad m cap] w fun e w' => (∃ v, e = .returned v ∧ Own encN 5 30 w.heap.size w' v xs) ∧ Below w.heap.size w w' := by
  subst hm
  have hw := Below.refl w.heap.size w
  refine fn_enter 8 Tryd.func25 rfl rfl rfl ?_
  cases ad with
  | none =>
    obtain ⟨rfl, rfl⟩ := HS.ofNone rfl
    repeat' (first | (refine lw_pure rfl (pv_move rfl) ?_) | (refine lw_pure rfl (pv_assign rfl) ?_) | (refine lw_pure rfl (pv_slnil (tS rfl) rfl rfl) ?_) | (refine is_cw ?_; first | (refine cw_seq ?_) | (refine cw_region ?_) | (refine cw_true rfl rfl ?_) | (refine cw_false rfl rfl ?_) | (refine is_cd ?_; refine cw_true rfl (by first | assumption | exact decide_eq_true (by omega) | exact dec_notT (by omega)) ?_) | (refine is_cd ?_; refine cw_false rfl (by first | assumption | exact decide_eq_false (by omega) | exact dec_notF (by omega)) ?_) | (refine cw_skip ?_) | (refine cw_ret ?_)) | (refine is_qw ?_; first | (with_reducible refine qw_then ?_) | (with_reducible refine qw_then_ret ?_)) | (refine lw_nil ?_) | ((refine is_bin ?_; first | (refine lw_pure rfl (pv_eql rfl rfl) ?_))))
    exact qw_ret1 rfl rfl ⟨⟨_, rfl, Own.nil _⟩, hw⟩
  | some ad =>
    repeat' (first | (refine lw_pure rfl (pv_move rfl) ?_) | (refine lw_pure rfl (pv_assign rfl) ?_) | (refine lw_pure rfl (pv_slnil (tS rfl) rfl rfl) ?_) | (refine is_cw ?_; first | (refine cw_seq ?_) | (refine cw_region ?_) | (refine cw_true rfl rfl ?_) | (refine cw_false rfl rfl ?_) | (refine is_cd ?_; refine cw_true rfl (by first | assumption | exact decide_eq_true (by omega) | exact dec_notT (by omega)) ?_) | (refine is_cd ?_; refine cw_false rfl (by first | assumption | exact decide_eq_false (by omega) | exact dec_notF (by omega)) ?_) | (refine cw_skip ?_) | (refine cw_ret ?_)) | (refine is_qw ?_; first | (with_reducible refine qw_then ?_) | (with_reducible refine qw_then_ret ?_)) | (refine lw_nil ?_) | ((refine is_bin ?_; first | (refine lw_pure rfl (pv_eql rfl rfl) ?_))))
    refine lw_bs0 (enc := encN) elemLn rfl ?_; intro wn hO hb hz
    repeat' (first | (refine lw_pure rfl (pv_move rfl) ?_) | (refine lw_pure rfl (pv_assign rfl) ?_) | (refine is_cw ?_; first | (refine cw_seq ?_) | (refine cw_region ?_) | (refine cw_true rfl rfl ?_) | (refine cw_false rfl rfl ?_) | (refine is_cd ?_; refine cw_true rfl (by first | assumption | exact decide_eq_true (by omega) | exact dec_notT (by omega)) ?_) | (refine is_cd ?_; refine cw_false rfl (by first | assumption | exact decide_eq_false (by omega) | exact dec_notF (by omega)) ?_) | (refine cw_skip ?_) | (refine cw_ret ?_)) | (refine is_qw ?_; first | (with_reducible refine qw_then ?_) | (with_reducible refine qw_then_ret ?_)) | (refine lw_nil ?_) | ((refine is_bin ?_; first | (refine lw_pure rfl (pv_eql rfl rfl) ?_))))
    refine lw_app elemLn encN_len encN_one rfl rfl rfl hO (HS.mono (grow_trans hw hb)) rfl (by omega) (by simp; omega) (by simp [maxLen]; omega) ?_; intro vm wn hOm hg hb9
    replace hb := hb.trans hb9
    repeat' (first | (refine lw_pure rfl (pv_move rfl) ?_) | (refine lw_pure rfl (pv_assign rfl) ?_) | (refine is_cw ?_; first | (refine cw_seq ?_) | (refine cw_region ?_) | (refine cw_true rfl rfl ?_) | (refine cw_false rfl rfl ?_) | (refine is_cd ?_; refine cw_true rfl (by first | assumption | exact decide_eq_true (by omega) | exact dec_notT (by omega)) ?_) | (refine is_cd ?_; refine cw_false rfl (by first | assumption | exact decide_eq_false (by omega) | exact dec_notF (by omega)) ?_) | (refine cw_skip ?_) | (refine cw_ret ?_)) | (refine is_qw ?_; first | (with_reducible refine qw_then ?_) | (with_reducible refine qw_then_ret ?_)) | (refine lw_nil ?_) | ((refine is_bin ?_; first | (refine lw_pure rfl (pv_eql rfl rfl) ?_))))
    exact qw_ret1 rfl rfl ⟨⟨_, rfl, hOm⟩, hb⟩

set_option maxRecDepth 20000 in
theorem indexf_N {xs : List Ln} {m : Nat} {ad : Option Addr} {cap : Nat} {w : World} (base : Nat) (p : Ln → Bool) (F : FuncId) (caps : Array Value) (he : entersB Tryd.prog F = true) (hbw : base ≤ w.heap.size) (hF : ∀ x, x ∈ xs → ∀ w', Below base w w' → Calls Tryd.prog F (#[] ++ [Value.agg (encN x).toArray].toArray ++ caps) w' fun e w'' => e = .returned (.bool (p x)) ∧ Below w'.heap.size w' w'') (hm : xs.length = m) (HS : SlR encN 5 w ad cap xs) : Calls Tryd.prog 52 #[.slice ad m cap, .func (.func F) #[] caps] w fun e w' => (∃ i, e = .returned (.int .i64 i) ∧ ((i = -1 ∧ ∀ x ∈ xs, p x = false) ∨ ∃ (k : Nat) (r : Ln), i = k ∧ xs[k]? = some r ∧ p r = true ∧ ∀ x ∈ xs.take k, p x = false)) ∧ Below w.heap.size w w' := by
  subst hm
  have hw := Below.refl w.heap.size w
  have hla := HS.le
  have hma := HS.max
  refine fn_enter 19 Tryd.func52 rfl rfl rfl ?_
  repeat' (first | (refine lw_pure rfl (pv_move rfl) ?_) | (refine lw_pure rfl (pv_assign rfl) ?_) | (refine is_cw ?_; first | (refine cw_seq ?_) | (refine cw_region ?_) | (refine cw_true rfl rfl ?_) | (refine cw_false rfl rfl ?_) | (refine is_cd ?_; refine cw_true rfl (by first | assumption | exact decide_eq_true (by omega) | exact dec_notT (by omega)) ?_) | (refine is_cd ?_; refine cw_false rfl (by first | assumption | exact decide_eq_false (by omega) | exact dec_notF (by omega)) ?_) | (refine cw_skip ?_) | (refine cw_block ?_) | (refine cw_exit ?_) | (refine cw_ret ?_)) | (refine is_qw ?_; first | (with_reducible refine qw_then ?_) | (with_reducible refine qw_in ?_) | (with_reducible refine qw_in_hit ?_) | (refine qw_in_miss rfl ?_) | (with_reducible refine qw_then_exit ?_) | (with_reducible refine qw_then_ret ?_) | (with_reducible refine qw_in_ret ?_)) | (refine lw_nil ?_) | ((refine is_bin ?_; first | (refine lw_pure rfl (pv_lss rfl rfl) ?_) | (refine lw_pure rfl (pv_inc rfl rfl (by omega)) ?_) | (refine lw_pure rfl (pv_add rfl rfl (by omega)) ?_))) | ((refine is_load ?_; first | (refine lw_pure rfl (pv_load (t1 rfl) rfl (by first | fail)) ?_) | (refine lw_pure rfl (pv_loada (tA rfl) rfl (by first | fail) (by rfl)) ?_))) | ((refine is_ia ?_; first | (refine lw_pure rfl (pv_ian (tS rfl) rfl rfl (by omega)) ?_) | (refine lw_pure rfl (pv_ia (tS rfl) rfl rfl (by omega)) ?_))) | ((refine is_bi ?_; first | (refine lw_pure rfl (pv_lenl (tS rfl) rfl) ?_) | (refine lw_pure rfl (pv_lens (tStr rfl) rfl) ?_))))
  refine cw_loop (σ := Nat) (fun k => [(0, .slice ad xs.length cap), (1, .func (.func F) #[] caps), (7, .int .i64 (xs.length : Nat)), (8, .int .i64 (k : Nat))]) (fun k wr => k ≤ xs.length ∧ Below w.heap.size w wr ∧ ∀ x ∈ xs.take k, p x = false) (fun k => xs.length - k) 0 (by repeat' (first | exact trivial | refine ⟨rfl, ?_⟩)) ⟨Nat.zero_le _, hw, by simp⟩ ?_
  clear hw
  rintro k wr ⟨hk, hw, hn⟩
  by_cases hlt : k < xs.length
  · have hxk : xs[k]? = some xs[k] := List.getElem?_eq_getElem hlt
    have hmem := List.getElem_mem hlt
    obtain ⟨ab, ao, rfl, -, -⟩ := HS.at (by intro h; rw [h] at hlt; simp at hlt)
    generalize xs[k] = x at hxk hmem
    repeat' (first | (refine lw_pure rfl (pv_move rfl) ?_) | (refine lw_pure rfl (pv_assign rfl) ?_) | (refine is_cw ?_; first | (refine cw_seq ?_) | (refine cw_region ?_) | (refine cw_true rfl rfl ?_) | (refine cw_false rfl rfl ?_) | (refine is_cd ?_; refine cw_true rfl (by first | assumption | exact decide_eq_true (by omega) | exact dec_notT (by omega)) ?_) | (refine is_cd ?_; refine cw_false rfl (by first | assumption | exact decide_eq_false (by omega) | exact dec_notF (by omega)) ?_) | (refine cw_skip ?_) | (refine cw_block ?_) | (refine cw_exit ?_) | (refine cw_ret ?_)) | (refine is_qw ?_; first | (with_reducible refine qw_then ?_) | (with_reducible refine qw_in ?_) | (with_reducible refine qw_in_hit ?_) | (refine qw_in_miss rfl ?_) | (with_reducible refine qw_then_exit ?_) | (with_reducible refine qw_then_ret ?_) | (with_reducible refine qw_in_ret ?_)) | (refine lw_nil ?_) | ((refine is_bin ?_; first | (refine lw_pure rfl (pv_lss rfl rfl) ?_) | (refine lw_pure rfl (pv_inc rfl rfl (by omega)) ?_) | (refine lw_pure rfl (pv_add rfl rfl (by omega)) ?_))) | ((refine is_load ?_; first | (refine lw_pure rfl (pv_load (t1 rfl) rfl (by first | exact SlR.ld (HS.mono hw) hxk rfl | exact SlR.ld1 (HS.mono hw) hxk rfl)) ?_) | (refine lw_pure rfl (pv_loada (tA rfl) rfl (by first | exact SlR.lda (HS.mono hw) hxk) (by rfl)) ?_))) | ((refine is_ia ?_; first | (refine lw_pure rfl (pv_ian (tS rfl) rfl rfl (by omega)) ?_) | (refine lw_pure rfl (pv_ia (tS rfl) rfl rfl (by omega)) ?_))) | ((refine is_bi ?_; first | (refine lw_pure rfl (pv_lenl (tS rfl) rfl) ?_) | (refine lw_pure rfl (pv_lens (tStr rfl) rfl) ?_))))
    refine lw_callv (f := F) rfl he rfl rfl (hF x hmem _ (hw.mono hbw)) ?_; rintro e w1 ⟨rfl, hb⟩; refine ⟨_, rfl, ?_⟩; replace hw := grow_trans hw hb; clear hb
    cases hp : p x with
    | true =>
      repeat' (first | (refine lw_pure rfl (pv_move rfl) ?_) | (refine lw_pure rfl (pv_assign rfl) ?_) | (refine is_cw ?_; first | (refine cw_seq ?_) | (refine cw_region ?_) | (refine cw_true rfl rfl ?_) | (refine cw_false rfl rfl ?_) | (refine is_cd ?_; refine cw_true rfl (by first | assumption | exact decide_eq_true (by omega) | exact dec_notT (by omega)) ?_) | (refine is_cd ?_; refine cw_false rfl (by first | assumption | exact decide_eq_false (by omega) | exact dec_notF (by omega)) ?_) | (refine cw_skip ?_) | (refine cw_block ?_) | (refine cw_exit ?_) | (refine cw_ret ?_)) | (refine is_qw ?_; first | (with_reducible refine qw_then ?_) | (with_reducible refine qw_in ?_) | (with_reducible refine qw_in_hit ?_) | (refine qw_in_miss rfl ?_) | (with_reducible refine qw_then_exit ?_) | (with_reducible refine qw_then_ret ?_) | (with_reducible refine qw_in_ret ?_)) | (refine lw_nil ?_) | ((refine is_bin ?_; first | (refine lw_pure rfl (pv_lss rfl rfl) ?_) | (refine lw_pure rfl (pv_inc rfl rfl (by omega)) ?_) | (refine lw_pure rfl (pv_add rfl rfl (by omega)) ?_))) | ((refine is_load ?_; first | (refine lw_pure rfl (pv_load (t1 rfl) rfl (by first | fail)) ?_) | (refine lw_pure rfl (pv_loada (tA rfl) rfl (by first | fail) (by rfl)) ?_))) | ((refine is_ia ?_; first | (refine lw_pure rfl (pv_ian (tS rfl) rfl rfl (by omega)) ?_) | (refine lw_pure rfl (pv_ia (tS rfl) rfl rfl (by omega)) ?_))) | ((refine is_bi ?_; first | (refine lw_pure rfl (pv_lenl (tS rfl) rfl) ?_) | (refine lw_pure rfl (pv_lens (tStr rfl) rfl) ?_))))
      exact qw_ret1 rfl rfl ⟨⟨_, rfl, Or.inr ⟨k, x, rfl, hxk, hp, hn⟩⟩, hw⟩
    | false =>
      repeat' (first | (refine lw_pure rfl (pv_move rfl) ?_) | (refine lw_pure rfl (pv_assign rfl) ?_) | (refine is_cw ?_; first | (refine cw_seq ?_) | (refine cw_region ?_) | (refine cw_true rfl rfl ?_) | (refine cw_false rfl rfl ?_) | (refine is_cd ?_; refine cw_true rfl (by first | assumption | exact decide_eq_true (by omega) | exact dec_notT (by omega)) ?_) | (refine is_cd ?_; refine cw_false rfl (by first | assumption | exact decide_eq_false (by omega) | exact dec_notF (by omega)) ?_) | (refine cw_skip ?_) | (refine cw_block ?_) | (refine cw_exit ?_) | (refine cw_ret ?_)) | (refine is_qw ?_; first | (with_reducible refine qw_then ?_) | (with_reducible refine qw_in ?_) | (with_reducible refine qw_in_hit ?_) | (refine qw_in_miss rfl ?_) | (with_reducible refine qw_then_exit ?_) | (with_reducible refine qw_then_ret ?_) | (with_reducible refine qw_in_ret ?_)) | (refine lw_nil ?_) | ((refine is_bin ?_; first | (refine lw_pure rfl (pv_lss rfl rfl) ?_) | (refine lw_pure rfl (pv_inc rfl rfl (by omega)) ?_) | (refine lw_pure rfl (pv_add rfl rfl (by omega)) ?_))) | ((refine is_load ?_; first | (refine lw_pure rfl (pv_load (t1 rfl) rfl (by first | fail)) ?_) | (refine lw_pure rfl (pv_loada (tA rfl) rfl (by first | fail) (by rfl)) ?_))) | ((refine is_ia ?_; first | (refine lw_pure rfl (pv_ian (tS rfl) rfl rfl (by omega)) ?_) | (refine lw_pure rfl (pv_ia (tS rfl) rfl rfl (by omega)) ?_))) | ((refine is_bi ?_; first | (refine lw_pure rfl (pv_lenl (tS rfl) rfl) ?_) | (refine lw_pure rfl (pv_lens (tStr rfl) rfl) ?_))))
      refine qw_round (k + 1) (by repeat' (first | exact trivial | refine ⟨rfl, ?_⟩)) ⟨by omega, hw, ?_⟩ (by omega)
      intro y hy
      rw [List.take_add_one, hxk] at hy
      rcases List.mem_append.1 hy with hy | hy
      · exact hn y hy
      · simp at hy; subst hy; exact hp
  · have hkl : k = xs.length := by omega
    subst hkl
    rw [List.take_length] at hn
    repeat' (first | (refine lw_pure rfl (pv_move rfl) ?_) | (refine lw_pure rfl (pv_assign rfl) ?_) | (refine is_cw ?_; first | (refine cw_seq ?_) | (refine cw_region ?_) | (refine cw_true rfl rfl ?_) | (refine cw_false rfl rfl ?_) | (refine is_cd ?_; refine cw_true rfl (by first | assumption | exact decide_eq_true (by omega) | exact dec_notT (by omega)) ?_) | (refine is_cd ?_; refine cw_false rfl (by first | assumption | exact decide_eq_false (by omega) | exact dec_notF (by omega)) ?_) | (refine cw_skip ?_) | (refine cw_block ?_) | (refine cw_exit ?_) | (refine cw_ret ?_)) | (refine is_qw ?_; first | (with_reducible refine qw_then ?_) | (with_reducible refine qw_in ?_) | (with_reducible refine qw_in_hit ?_) | (refine qw_in_miss rfl ?_) | (with_reducible refine qw_then_exit ?_) | (with_reducible refine qw_then_ret ?_) | (with_reducible refine qw_in_ret ?_)) | (refine lw_nil ?_) | ((refine is_bin ?_; first | (refine lw_pure rfl (pv_lss rfl rfl) ?_) | (refine lw_pure rfl (pv_inc rfl rfl (by omega)) ?_) | (refine lw_pure rfl (pv_add rfl rfl (by omega)) ?_))) | ((refine is_load ?_; first | (refine lw_pure rfl (pv_load (t1 rfl) rfl (by first | fail)) ?_) | (refine lw_pure rfl (pv_loada (tA rfl) rfl (by first | fail) (by rfl)) ?_))) | ((refine is_ia ?_; first | (refine lw_pure rfl (pv_ian (tS rfl) rfl rfl (by omega)) ?_) | (refine lw_pure rfl (pv_ia (tS rfl) rfl rfl (by omega)) ?_))) | ((refine is_bi ?_; first | (refine lw_pure rfl (pv_lenl (tS rfl) rfl) ?_) | (refine lw_pure rfl (pv_lens (tStr rfl) rfl) ?_))))
    exact qw_ret1 rfl rfl ⟨⟨_, rfl, Or.inl ⟨rfl, hn⟩⟩, hw⟩

set_option maxRecDepth 20000 in
set_option maxHeartbeats 1000000 in
theorem delf_N {xs : List Ln} {v : Value} {w : World} (base : Nat) (p : Ln → Bool) (F : FuncId) (caps : Array Value) (he : entersB Tryd.prog F = true) (hbw : base ≤ w.heap.size) (hF : ∀ x, x ∈ xs → ∀ w', Below base w w' → Calls Tryd.prog F (#[] ++ [Value.agg (encN x).toArray].toArray ++ caps) w' fun e w'' => e = .returned (.bool (p x)) ∧ Below w'.heap.size w' w'') (hO : Own encN 5 30 base w v xs) : Calls Tryd.prog 30 #[v, .func (.func F) #[] caps] w fun e w' => (∃ v', e = .returned v' ∧ Own encN 5 30 base w' v' (xs.filter fun x => !p x)) ∧ Below base w w' := by
  have hw := Below.refl w.heap.size w
  obtain ⟨ad, cap, rfl, HS, hbase⟩ := Own.slR encN_len hO
  have hla := HS.le
  have hma := HS.max
  refine fn_enter 42 Tryd.func30 rfl rfl rfl ?_
  repeat' (first | (refine lw_pure rfl (pv_move rfl) ?_) | (refine lw_pure rfl (pv_assign rfl) ?_) | (refine is_cw ?_; first | (refine cw_seq ?_) | (refine cw_region ?_) | (refine cw_true rfl rfl ?_) | (refine cw_false rfl rfl ?_) | (refine is_cd ?_; refine cw_true rfl (by first | assumption | exact decide_eq_true (by omega) | exact dec_notT (by omega)) ?_) | (refine is_cd ?_; refine cw_false rfl (by first | assumption | exact decide_eq_false (by omega) | exact dec_notF (by omega)) ?_) | (refine cw_skip ?_) | (refine cw_block ?_) | (refine cw_exit ?_) | (refine cw_ret ?_)) | (refine is_qw ?_; first | (with_reducible refine qw_then ?_) | (with_reducible refine qw_in ?_) | (with_reducible refine qw_in_hit ?_) | (refine qw_in_miss rfl ?_) | (with_reducible refine qw_then_exit ?_) | (with_reducible refine qw_then_ret ?_) | (with_reducible refine qw_in_ret ?_)) | (refine lw_nil ?_) | ((refine is_bin ?_; first | (refine lw_pure rfl (pv_lss rfl rfl) ?_) | (refine lw_pure rfl (pv_eql rfl rfl) ?_) | (refine lw_pure rfl (pv_inc rfl rfl (by omega)) ?_) | (refine lw_pure rfl (pv_add rfl rfl (by omega)) ?_))) | ((refine is_load ?_; first | (refine lw_pure rfl (pv_load (t1 rfl) rfl (by first | fail)) ?_) | (refine lw_pure rfl (pv_loada (tA rfl) rfl (by first | fail) (by rfl)) ?_))) | ((refine is_ia ?_; first | (refine lw_pure rfl (pv_ian (tS rfl) rfl rfl (by omega)) ?_) | (refine lw_pure rfl (pv_ia (tS rfl) rfl rfl (by omega)) ?_))) | ((refine is_un ?_; first | (refine lw_pure rfl (pv_not rfl) ?_))) | ((refine is_bi ?_; first | (refine lw_pure rfl (pv_lenl (tS rfl) rfl) ?_) | (refine lw_pure rfl (pv_lens (tStr rfl) rfl) ?_))) | (refine is_sl ?_; refine lw_pure rfl (pv_slice_l (tS rfl) rfl rfl (by omega)) ?_) | (refine is_sl ?_; refine lw_pure rfl (pv_slice_h (tS rfl) rfl rfl (by omega)) ?_) | (refine is_sl ?_; refine lw_pure rfl (pv_slice_lh (tS rfl) rfl rfl rfl (by omega)) ?_))
  refine lw_call (f := 52) (by kernel_rfl) rfl rfl (indexf_N base p F caps he hbw hF rfl HS) ?_; rintro e w1 ⟨⟨i, rfl, hi⟩, hb⟩; refine ⟨_, rfl, ?_⟩; replace hw := grow_trans hw hb; replace hO := hO.mono hb; clear hb
  rcases hi with ⟨rfl, hn⟩ | ⟨i, r, rfl, hxi, hr, hn⟩
  · repeat' (first | (refine lw_pure rfl (pv_move rfl) ?_) | (refine lw_pure rfl (pv_assign rfl) ?_) | (refine is_cw ?_; first | (refine cw_seq ?_) | (refine cw_region ?_) | (refine cw_true rfl rfl ?_) | (refine cw_false rfl rfl ?_) | (refine is_cd ?_; refine cw_true rfl (by first | assumption | exact decide_eq_true (by omega) | exact dec_notT (by omega)) ?_) | (refine is_cd ?_; refine cw_false rfl (by first | assumption | exact decide_eq_false (by omega) | exact dec_notF (by omega)) ?_) | (refine cw_skip ?_) | (refine cw_block ?_) | (refine cw_exit ?_) | (refine cw_ret ?_)) | (refine is_qw ?_; first | (with_reducible refine qw_then ?_) | (with_reducible refine qw_in ?_) | (with_reducible refine qw_in_hit ?_) | (refine qw_in_miss rfl ?_) | (with_reducible refine qw_then_exit ?_) | (with_reducible refine qw_then_ret ?_) | (with_reducible refine qw_in_ret ?_)) | (refine lw_nil ?_) | ((refine is_bin ?_; first | (refine lw_pure rfl (pv_lss rfl rfl) ?_) | (refine lw_pure rfl (pv_eql rfl rfl) ?_) | (refine lw_pure rfl (pv_inc rfl rfl (by omega)) ?_) | (refine lw_pure rfl (pv_add rfl rfl (by omega)) ?_))) | ((refine is_load ?_; first | (refine lw_pure rfl (pv_load (t1 rfl) rfl (by first | fail)) ?_) | (refine lw_pure rfl (pv_loada (tA rfl) rfl (by first | fail) (by rfl)) ?_))) | ((refine is_ia ?_; first | (refine lw_pure rfl (pv_ian (tS rfl) rfl rfl (by omega)) ?_) | (refine lw_pure rfl (pv_ia (tS rfl) rfl rfl (by omega)) ?_))) | ((refine is_un ?_; first | (refine lw_pure rfl (pv_not rfl) ?_))) | ((refine is_bi ?_; first | (refine lw_pure rfl (pv_lenl (tS rfl) rfl) ?_) | (refine lw_pure rfl (pv_lens (tStr rfl) rfl) ?_))) | (refine is_sl ?_; refine lw_pure rfl (pv_slice_l (tS rfl) rfl rfl (by omega)) ?_) | (refine is_sl ?_; refine lw_pure rfl (pv_slice_h (tS rfl) rfl rfl (by omega)) ?_) | (refine is_sl ?_; refine lw_pure rfl (pv_slice_lh (tS rfl) rfl rfl rfl (by omega)) ?_))
    refine qw_ret1 rfl rfl ⟨⟨_, rfl, ?_⟩, hw.mono hbw⟩
    rw [List.filter_eq_self.2 (fun x hx => by simp [hn x hx])]; exact hO
  · have hil : i < xs.length := (List.getElem?_eq_some_iff.1 hxi).1
    obtain ⟨g, rfl⟩ : ∃ g, ad = some ⟨g, 0, none⟩ := by
      cases ad with
      | none => have := (HS.ofNone rfl).1; subst this; simp at hil
      | some a =>
        obtain ⟨b, o, sp⟩ := a
        obtain ⟨h1, _⟩ := HS.ofSome _ rfl (by have := HS.le; omega)
        have h2 := (hbase _ rfl).2
        simp only at h1 h2
        exact ⟨b, by rw [h1, h2]⟩
    have hgb : base ≤ g := (hbase _ rfl).1
    replace hw := hw.mono hbw
    have hs1 : base ≤ w1.heap.size := Nat.le_trans hbw hw.size
    repeat' (first | (refine lw_pure rfl (pv_move rfl) ?_) | (refine lw_pure rfl (pv_assign rfl) ?_) | (refine is_cw ?_; first | (refine cw_seq ?_) | (refine cw_region ?_) | (refine cw_true rfl rfl ?_) | (refine cw_false rfl rfl ?_) | (refine is_cd ?_; refine cw_true rfl (by first | assumption | exact decide_eq_true (by omega) | exact dec_notT (by omega)) ?_) | (refine is_cd ?_; refine cw_false rfl (by first | assumption | exact decide_eq_false (by omega) | exact dec_notF (by omega)) ?_) | (refine cw_skip ?_) | (refine cw_block ?_) | (refine cw_exit ?_) | (refine cw_ret ?_)) | (refine is_qw ?_; first | (with_reducible refine qw_then ?_) | (with_reducible refine qw_in ?_) | (with_reducible refine qw_in_hit ?_) | (refine qw_in_miss rfl ?_) | (with_reducible refine qw_then_exit ?_) | (with_reducible refine qw_then_ret ?_) | (with_reducible refine qw_in_ret ?_)) | (refine lw_nil ?_) | ((refine is_bin ?_; first | (refine lw_pure rfl (pv_lss rfl rfl) ?_) | (refine lw_pure rfl (pv_eql rfl rfl) ?_) | (refine lw_pure rfl (pv_inc rfl rfl (by omega)) ?_) | (refine lw_pure rfl (pv_add rfl rfl (by omega)) ?_))) | ((refine is_load ?_; first | (refine lw_pure rfl (pv_load (t1 rfl) rfl (by first | fail)) ?_) | (refine lw_pure rfl (pv_loada (tA rfl) rfl (by first | fail) (by rfl)) ?_))) | ((refine is_ia ?_; first | (refine lw_pure rfl (pv_ian (tS rfl) rfl rfl (by omega)) ?_) | (refine lw_pure rfl (pv_ia (tS rfl) rfl rfl (by omega)) ?_))) | ((refine is_un ?_; first | (refine lw_pure rfl (pv_not rfl) ?_))) | ((refine is_bi ?_; first | (refine lw_pure rfl (pv_lenl (tS rfl) rfl) ?_) | (refine lw_pure rfl (pv_lens (tStr rfl) rfl) ?_))) | (refine is_sl ?_; refine lw_pure rfl (pv_slice_l (tS rfl) rfl rfl (by omega)) ?_) | (refine is_sl ?_; refine lw_pure rfl (pv_slice_h (tS rfl) rfl rfl (by omega)) ?_) | (refine is_sl ?_; refine lw_pure rfl (pv_slice_lh (tS rfl) rfl rfl rfl (by omega)) ?_))
    refine cw_loop (σ := (Nat × Nat) × List Ln) (fun s => [(0, .slice (some ⟨g, 0, none⟩) xs.length cap), (1, .func (.func F) #[] caps), (5, .int .i64 (s.1.1 : Nat)), (6, .int .i64 (s.1.2 : Nat))]) (fun s wr => (s.1.2 ≤ xs.length ∧ s.1.1 < s.1.2) ∧ Below base w wr ∧ Own encN 5 30 base wr (.slice (some ⟨g, 0, none⟩) xs.length cap) s.2 ∧ s.2.length = xs.length ∧ s.2.take s.1.1 = (xs.take s.1.2).filter (fun x => !p x) ∧ s.2.drop s.1.2 = xs.drop s.1.2) (fun s => xs.length - s.1.2) ((i, i + 1), xs) (by repeat' (first | exact trivial | refine ⟨rfl, ?_⟩)) ⟨⟨by show i + 1 ≤ _; omega, by show i < i + 1; omega⟩, hw, hO, rfl, ?_, rfl⟩ ?_
    · show xs.take i = _
      rw [List.take_add_one, hxi, List.filter_append, List.filter_eq_self.2 (fun x hx => by simp [hn x hx])]
      simp [hr]
    clear hw hO
    rintro ⟨⟨i, j⟩, ys⟩ wr ⟨⟨hj, hij⟩, hw, hO, hyl, hti, hdj⟩
    change CW _ _ _ _ [(0, .slice (some ⟨g, 0, none⟩) xs.length cap), (1, .func (.func F) #[] caps), (5, .int .i64 (i : Nat)), (6, .int .i64 (j : Nat))] wr
    dsimp only at hj hij hO hyl hti hdj
    rw [← hyl] at hO
    have hbr : base ≤ wr.heap.size := Nat.le_trans hbw hw.size
    by_cases hlt : j < xs.length
    · have hxj : xs[j]? = some xs[j] := List.getElem?_eq_getElem hlt
      have hyj : ys[j]? = some xs[j] := by
        have := congrArg (fun l => l[0]?) hdj
        simp only [List.getElem?_drop, Nat.add_zero] at this
        rw [this, hxj]
      have hmem := List.getElem_mem hlt
      generalize xs[j] = x at hxj hyj hmem
      obtain ⟨a', c', hv', HY, -⟩ := Own.slR encN_len hO
      injection hv' with h1 h2 h3
      subst h1 h3
      have hw0 := hw
      clear hw
      have hw := Below.refl wr.heap.size wr
      repeat' (first | (refine lw_pure rfl (pv_move rfl) ?_) | (refine lw_pure rfl (pv_assign rfl) ?_) | (refine is_cw ?_; first | (refine cw_seq ?_) | (refine cw_region ?_) | (refine cw_true rfl rfl ?_) | (refine cw_false rfl rfl ?_) | (refine is_cd ?_; refine cw_true rfl (by first | assumption | exact decide_eq_true (by omega) | exact dec_notT (by omega)) ?_) | (refine is_cd ?_; refine cw_false rfl (by first | assumption | exact decide_eq_false (by omega) | exact dec_notF (by omega)) ?_) | (refine cw_skip ?_) | (refine cw_block ?_) | (refine cw_exit ?_) | (refine cw_ret ?_)) | (refine is_qw ?_; first | (with_reducible refine qw_then ?_) | (with_reducible refine qw_in ?_) | (with_reducible refine qw_in_hit ?_) | (refine qw_in_miss rfl ?_) | (with_reducible refine qw_then_exit ?_) | (with_reducible refine qw_then_ret ?_) | (with_reducible refine qw_in_ret ?_)) | (refine lw_nil ?_) | ((refine is_bin ?_; first | (refine lw_pure rfl (pv_lss rfl rfl) ?_) | (refine lw_pure rfl (pv_eql rfl rfl) ?_) | (refine lw_pure rfl (pv_inc rfl rfl (by omega)) ?_) | (refine lw_pure rfl (pv_add rfl rfl (by omega)) ?_))) | ((refine is_load ?_; first | (refine lw_pure rfl (pv_load (t1 rfl) rfl (by first | exact SlR.ld (HY.mono hw) hyj rfl | exact SlR.ld1 (HY.mono hw) hyj rfl)) ?_) | (refine lw_pure rfl (pv_loada (tA rfl) rfl (by first | exact SlR.lda (HY.mono hw) hyj) (by rfl)) ?_))) | ((refine is_ia ?_; first | (refine lw_pure rfl (pv_ian (tS rfl) rfl rfl (by omega)) ?_) | (refine lw_pure rfl (pv_ia (tS rfl) rfl rfl (by omega)) ?_))) | ((refine is_un ?_; first | (refine lw_pure rfl (pv_not rfl) ?_))) | ((refine is_bi ?_; first | (refine lw_pure rfl (pv_lenl (tS rfl) rfl) ?_) | (refine lw_pure rfl (pv_lens (tStr rfl) rfl) ?_))) | (refine is_sl ?_; refine lw_pure rfl (pv_slice_l (tS rfl) rfl rfl (by omega)) ?_) | (refine is_sl ?_; refine lw_pure rfl (pv_slice_h (tS rfl) rfl rfl (by omega)) ?_) | (refine is_sl ?_; refine lw_pure rfl (pv_slice_lh (tS rfl) rfl rfl rfl (by omega)) ?_))
      refine lw_varN rfl (by first | exact tyv_29 | exact tyv_30 | exact tyv_34 | exact tyv_35 | exact tyv_37 | exact tyv_43 | exact tyv_53 | exact tyv_54 | exact tyv_55 | exact tyv_56 | exact tyv_112 | exact tyv_113 | exact tyv_121 | exact tyv_122) rfl (tZ rfl) (fun _ => rfl) rfl rfl ?_; intro N wn hN HX hb; replace hN := Nat.le_trans hw.size hN; replace hw := grow_trans hw hb; clear hb
      replace hO := hO.mono hw
      replace hw0 := hw0.trans (hw.mono hbr)
      ; clear hw; have hw := Below.refl wn.heap.size wn
      repeat' (first | (refine lw_pure rfl (pv_move rfl) ?_) | (refine lw_pure rfl (pv_assign rfl) ?_) | (refine is_cw ?_; first | (refine cw_seq ?_) | (refine cw_region ?_) | (refine cw_true rfl rfl ?_) | (refine cw_false rfl rfl ?_) | (refine is_cd ?_; refine cw_true rfl (by first | assumption | exact decide_eq_true (by omega) | exact dec_notT (by omega)) ?_) | (refine is_cd ?_; refine cw_false rfl (by first | assumption | exact decide_eq_false (by omega) | exact dec_notF (by omega)) ?_) | (refine cw_skip ?_) | (refine cw_block ?_) | (refine cw_exit ?_) | (refine cw_ret ?_)) | (refine is_qw ?_; first | (with_reducible refine qw_then ?_) | (with_reducible refine qw_in ?_) | (with_reducible refine qw_in_hit ?_) | (refine qw_in_miss rfl ?_) | (with_reducible refine qw_then_exit ?_) | (with_reducible refine qw_then_ret ?_) | (with_reducible refine qw_in_ret ?_)) | (refine lw_nil ?_) | ((refine is_bin ?_; first | (refine lw_pure rfl (pv_lss rfl rfl) ?_) | (refine lw_pure rfl (pv_eql rfl rfl) ?_) | (refine lw_pure rfl (pv_inc rfl rfl (by omega)) ?_) | (refine lw_pure rfl (pv_add rfl rfl (by omega)) ?_))) | ((refine is_load ?_; first | (refine lw_pure rfl (pv_load (t1 rfl) rfl (by first | exact PT.ld0 (HX.mono hw) rfl | exact PT.ld (HX.mono hw) rfl)) ?_) | (refine lw_pure rfl (pv_loada (tA rfl) rfl (by first | exact PT.lda (HX.mono hw)) (by rfl)) ?_))) | ((refine is_ia ?_; first | (refine lw_pure rfl (pv_ian (tS rfl) rfl rfl (by omega)) ?_) | (refine lw_pure rfl (pv_ia (tS rfl) rfl rfl (by omega)) ?_))) | ((refine is_un ?_; first | (refine lw_pure rfl (pv_not rfl) ?_))) | ((refine is_bi ?_; first | (refine lw_pure rfl (pv_lenl (tS rfl) rfl) ?_) | (refine lw_pure rfl (pv_lens (tStr rfl) rfl) ?_))) | (refine is_sl ?_; refine lw_pure rfl (pv_slice_l (tS rfl) rfl rfl (by omega)) ?_) | (refine is_sl ?_; refine lw_pure rfl (pv_slice_h (tS rfl) rfl rfl (by omega)) ?_) | (refine is_sl ?_; refine lw_pure rfl (pv_slice_lh (tS rfl) rfl rfl rfl (by omega)) ?_))
      refine lw_callv (f := F) rfl he rfl rfl (hF x hmem _ hw0) ?_; rintro e w2 ⟨rfl, hb⟩; refine ⟨_, rfl, ?_⟩
      replace hO := hO.mono hb
      replace HX := HX.mono hb
      replace hw0 := hw0.trans (hb.mono (Nat.le_trans hbw hw0.size))
      clear hb hw
      have hw := Below.refl w2.heap.size w2
      cases hp : p x with
      | true =>
        repeat' (first | (refine lw_pure rfl (pv_move rfl) ?_) | (refine lw_pure rfl (pv_assign rfl) ?_) | (refine is_cw ?_; first | (refine cw_seq ?_) | (refine cw_region ?_) | (refine cw_true rfl rfl ?_) | (refine cw_false rfl rfl ?_) | (refine is_cd ?_; refine cw_true rfl (by first | assumption | exact decide_eq_true (by omega) | exact dec_notT (by omega)) ?_) | (refine is_cd ?_; refine cw_false rfl (by first | assumption | exact decide_eq_false (by omega) | exact dec_notF (by omega)) ?_) | (refine cw_skip ?_) | (refine cw_block ?_) | (refine cw_exit ?_) | (refine cw_ret ?_)) | (refine is_qw ?_; first | (with_reducible refine qw_then ?_) | (with_reducible refine qw_in ?_) | (with_reducible refine qw_in_hit ?_) | (refine qw_in_miss rfl ?_) | (with_reducible refine qw_then_exit ?_) | (with_reducible refine qw_then_ret ?_) | (with_reducible refine qw_in_ret ?_)) | (refine lw_nil ?_) | ((refine is_bin ?_; first | (refine lw_pure rfl (pv_lss rfl rfl) ?_) | (refine lw_pure rfl (pv_eql rfl rfl) ?_) | (refine lw_pure rfl (pv_inc rfl rfl (by omega)) ?_) | (refine lw_pure rfl (pv_add rfl rfl (by omega)) ?_))) | ((refine is_load ?_; first | (refine lw_pure rfl (pv_load (t1 rfl) rfl (by first | fail)) ?_) | (refine lw_pure rfl (pv_loada (tA rfl) rfl (by first | fail) (by rfl)) ?_))) | ((refine is_ia ?_; first | (refine lw_pure rfl (pv_ian (tS rfl) rfl rfl (by omega)) ?_) | (refine lw_pure rfl (pv_ia (tS rfl) rfl rfl (by omega)) ?_))) | ((refine is_un ?_; first | (refine lw_pure rfl (pv_not rfl) ?_))) | ((refine is_bi ?_; first | (refine lw_pure rfl (pv_lenl (tS rfl) rfl) ?_) | (refine lw_pure rfl (pv_lens (tStr rfl) rfl) ?_))) | (refine is_sl ?_; refine lw_pure rfl (pv_slice_l (tS rfl) rfl rfl (by omega)) ?_) | (refine is_sl ?_; refine lw_pure rfl (pv_slice_h (tS rfl) rfl rfl (by omega)) ?_) | (refine is_sl ?_; refine lw_pure rfl (pv_slice_lh (tS rfl) rfl rfl rfl (by omega)) ?_))
        refine qw_round ((i, j + 1), ys) (by repeat' (first | exact trivial | refine ⟨rfl, ?_⟩)) ⟨⟨by show j + 1 ≤ _; omega, by show i < j + 1; omega⟩, hw0, by rw [← hyl]; exact hO, hyl, ?_, ?_⟩ (by show xs.length - (j + 1) < xs.length - j; omega)
        · show ys.take i = (xs.take (j + 1)).filter _
          rw [hti, List.take_add_one, hxj, List.filter_append]; simp [hp]
        · show ys.drop (j + 1) = xs.drop (j + 1)
          rw [← List.drop_drop, hdj, List.drop_drop]
      | false =>
        have hiy : i < ys.length := by omega
        repeat' (first | (refine lw_pure rfl (pv_move rfl) ?_) | (refine lw_pure rfl (pv_assign rfl) ?_) | (refine is_cw ?_; first | (refine cw_seq ?_) | (refine cw_region ?_) | (refine cw_true rfl rfl ?_) | (refine cw_false rfl rfl ?_) | (refine is_cd ?_; refine cw_true rfl (by first | assumption | exact decide_eq_true (by omega) | exact dec_notT (by omega)) ?_) | (refine is_cd ?_; refine cw_false rfl (by first | assumption | exact decide_eq_false (by omega) | exact dec_notF (by omega)) ?_) | (refine cw_skip ?_) | (refine cw_block ?_) | (refine cw_exit ?_) | (refine cw_ret ?_)) | (refine is_qw ?_; first | (with_reducible refine qw_then ?_) | (with_reducible refine qw_in ?_) | (with_reducible refine qw_in_hit ?_) | (refine qw_in_miss rfl ?_) | (with_reducible refine qw_then_exit ?_) | (with_reducible refine qw_then_ret ?_) | (with_reducible refine qw_in_ret ?_)) | (refine lw_nil ?_) | ((refine is_bin ?_; first | (refine lw_pure rfl (pv_lss rfl rfl) ?_) | (refine lw_pure rfl (pv_eql rfl rfl) ?_) | (refine lw_pure rfl (pv_inc rfl rfl (by omega)) ?_) | (refine lw_pure rfl (pv_add rfl rfl (by omega)) ?_))) | ((refine is_load ?_; first | (refine lw_pure rfl (pv_load (t1 rfl) rfl (by first | exact PT.ld0 (HX.mono hw) rfl | exact PT.ld (HX.mono hw) rfl)) ?_) | (refine lw_pure rfl (pv_loada (tA rfl) rfl (by first | exact PT.lda (HX.mono hw)) (by rfl)) ?_))) | ((refine is_ia ?_; first | (refine lw_pure rfl (pv_ian (tS rfl) rfl rfl (by omega)) ?_) | (refine lw_pure rfl (pv_ia (tS rfl) rfl rfl (by omega)) ?_))) | ((refine is_un ?_; first | (refine lw_pure rfl (pv_not rfl) ?_))) | ((refine is_bi ?_; first | (refine lw_pure rfl (pv_lenl (tS rfl) rfl) ?_) | (refine lw_pure rfl (pv_lens (tStr rfl) rfl) ?_))) | (refine is_sl ?_; refine lw_pure rfl (pv_slice_l (tS rfl) rfl rfl (by omega)) ?_) | (refine is_sl ?_; refine lw_pure rfl (pv_slice_h (tS rfl) rfl rfl (by omega)) ?_) | (refine is_sl ?_; refine lw_pure rfl (pv_slice_lh (tS rfl) rfl rfl rfl (by omega)) ?_))
        refine lw_storeO (i := i) (u := x) (tZ rfl) encN_len encN_one rfl (by omega) rfl rfl hO hiy ?_; intro w3 hO3 hg3 hz3
        replace hw0 := hw0.grown hg3 (Nat.le_trans hbw hw0.size) (by intro q hq; injection hq with hq; omega)
        repeat' (first | (refine lw_pure rfl (pv_move rfl) ?_) | (refine lw_pure rfl (pv_assign rfl) ?_) | (refine is_cw ?_; first | (refine cw_seq ?_) | (refine cw_region ?_) | (refine cw_true rfl rfl ?_) | (refine cw_false rfl rfl ?_) | (refine is_cd ?_; refine cw_true rfl (by first | assumption | exact decide_eq_true (by omega) | exact dec_notT (by omega)) ?_) | (refine is_cd ?_; refine cw_false rfl (by first | assumption | exact decide_eq_false (by omega) | exact dec_notF (by omega)) ?_) | (refine cw_skip ?_) | (refine cw_block ?_) | (refine cw_exit ?_) | (refine cw_ret ?_)) | (refine is_qw ?_; first | (with_reducible refine qw_then ?_) | (with_reducible refine qw_in ?_) | (with_reducible refine qw_in_hit ?_) | (refine qw_in_miss rfl ?_) | (with_reducible refine qw_then_exit ?_) | (with_reducible refine qw_then_ret ?_) | (with_reducible refine qw_in_ret ?_)) | (refine lw_nil ?_) | ((refine is_bin ?_; first | (refine lw_pure rfl (pv_lss rfl rfl) ?_) | (refine lw_pure rfl (pv_eql rfl rfl) ?_) | (refine lw_pure rfl (pv_inc rfl rfl (by omega)) ?_) | (refine lw_pure rfl (pv_add rfl rfl (by omega)) ?_))) | ((refine is_load ?_; first | (refine lw_pure rfl (pv_load (t1 rfl) rfl (by first | fail)) ?_) | (refine lw_pure rfl (pv_loada (tA rfl) rfl (by first | fail) (by rfl)) ?_))) | ((refine is_ia ?_; first | (refine lw_pure rfl (pv_ian (tS rfl) rfl rfl (by omega)) ?_) | (refine lw_pure rfl (pv_ia (tS rfl) rfl rfl (by omega)) ?_))) | ((refine is_un ?_; first | (refine lw_pure rfl (pv_not rfl) ?_))) | ((refine is_bi ?_; first | (refine lw_pure rfl (pv_lenl (tS rfl) rfl) ?_) | (refine lw_pure rfl (pv_lens (tStr rfl) rfl) ?_))) | (refine is_sl ?_; refine lw_pure rfl (pv_slice_l (tS rfl) rfl rfl (by omega)) ?_) | (refine is_sl ?_; refine lw_pure rfl (pv_slice_h (tS rfl) rfl rfl (by omega)) ?_) | (refine is_sl ?_; refine lw_pure rfl (pv_slice_lh (tS rfl) rfl rfl rfl (by omega)) ?_))
        refine qw_round ((i + 1, j + 1), ys.set i x) (by repeat' (first | exact trivial | refine ⟨rfl, ?_⟩)) ⟨⟨by show j + 1 ≤ _; omega, by show i + 1 < j + 1; omega⟩, hw0, by rw [← hyl]; exact hO3, by rw [List.length_set]; exact hyl, ?_, ?_⟩ (by show xs.length - (j + 1) < xs.length - j; omega)
        · show (ys.set i x).take (i + 1) = (xs.take (j + 1)).filter _
          rw [List.take_add_one, List.getElem?_set, if_pos rfl, if_pos hiy, List.take_set_of_le (Nat.le_refl _), hti, List.take_add_one, hxj, List.filter_append]; simp [hp]
        · show (ys.set i x).drop (j + 1) = xs.drop (j + 1)
          rw [List.drop_set_of_lt (by omega), ← List.drop_drop, hdj, List.drop_drop]
    · have hjl : j = xs.length := by omega
      subst hjl
      rw [List.take_length] at hti
      have hw0 := hw
      clear hw
      have hw := Below.refl wr.heap.size wr
      repeat' (first | (refine lw_pure rfl (pv_move rfl) ?_) | (refine lw_pure rfl (pv_assign rfl) ?_) | (refine is_cw ?_; first | (refine cw_seq ?_) | (refine cw_region ?_) | (refine cw_true rfl rfl ?_) | (refine cw_false rfl rfl ?_) | (refine is_cd ?_; refine cw_true rfl (by first | assumption | exact decide_eq_true (by omega) | exact dec_notT (by omega)) ?_) | (refine is_cd ?_; refine cw_false rfl (by first | assumption | exact decide_eq_false (by omega) | exact dec_notF (by omega)) ?_) | (refine cw_skip ?_) | (refine cw_block ?_) | (refine cw_exit ?_) | (refine cw_ret ?_)) | (refine is_qw ?_; first | (with_reducible refine qw_then ?_) | (with_reducible refine qw_in ?_) | (with_reducible refine qw_in_hit ?_) | (refine qw_in_miss rfl ?_) | (with_reducible refine qw_then_exit ?_) | (with_reducible refine qw_then_ret ?_) | (with_reducible refine qw_in_ret ?_)) | (refine lw_nil ?_) | ((refine is_bin ?_; first | (refine lw_pure rfl (pv_lss rfl rfl) ?_) | (refine lw_pure rfl (pv_eql rfl rfl) ?_) | (refine lw_pure rfl (pv_inc rfl rfl (by omega)) ?_) | (refine lw_pure rfl (pv_add rfl rfl (by omega)) ?_))) | ((refine is_load ?_; first | (refine lw_pure rfl (pv_load (t1 rfl) rfl (by first | fail)) ?_) | (refine lw_pure rfl (pv_loada (tA rfl) rfl (by first | fail) (by rfl)) ?_))) | ((refine is_ia ?_; first | (refine lw_pure rfl (pv_ian (tS rfl) rfl rfl (by omega)) ?_) | (refine lw_pure rfl (pv_ia (tS rfl) rfl rfl (by omega)) ?_))) | ((refine is_un ?_; first | (refine lw_pure rfl (pv_not rfl) ?_))) | ((refine is_bi ?_; first | (refine lw_pure rfl (pv_lenl (tS rfl) rfl) ?_) | (refine lw_pure rfl (pv_lens (tStr rfl) rfl) ?_))) | (refine is_sl ?_; refine lw_pure rfl (pv_slice_l (tS rfl) rfl rfl (by omega)) ?_) | (refine is_sl ?_; refine lw_pure rfl (pv_slice_h (tS rfl) rfl rfl (by omega)) ?_) | (refine is_sl ?_; refine lw_pure rfl (pv_slice_lh (tS rfl) rfl rfl rfl (by omega)) ?_))
      refine lw_clear (i := i) elemLn encN_len zN rfl rfl rfl ?_ (by rw [hyl]; simp) (by simp) hO (by omega) ?_
      · have hci : ¬ cap = i := by omega
        simp only [Int.toNat_natCast, if_neg hci, Option.map_some, Addr.add_lit, Nat.zero_add]
      intro w3 hg3 hO3
      replace hw0 := hw0.grown hg3 (Nat.le_trans hbw hw0.size) (by intro q hq; injection hq with hq; omega)
      repeat' (first | (refine lw_pure rfl (pv_move rfl) ?_) | (refine lw_pure rfl (pv_assign rfl) ?_) | (refine is_cw ?_; first | (refine cw_seq ?_) | (refine cw_region ?_) | (refine cw_true rfl rfl ?_) | (refine cw_false rfl rfl ?_) | (refine is_cd ?_; refine cw_true rfl (by first | assumption | exact decide_eq_true (by omega) | exact dec_notT (by omega)) ?_) | (refine is_cd ?_; refine cw_false rfl (by first | assumption | exact decide_eq_false (by omega) | exact dec_notF (by omega)) ?_) | (refine cw_skip ?_) | (refine cw_block ?_) | (refine cw_exit ?_) | (refine cw_ret ?_)) | (refine is_qw ?_; first | (with_reducible refine qw_then ?_) | (with_reducible refine qw_in ?_) | (with_reducible refine qw_in_hit ?_) | (refine qw_in_miss rfl ?_) | (with_reducible refine qw_then_exit ?_) | (with_reducible refine qw_then_ret ?_) | (with_reducible refine qw_in_ret ?_)) | (refine lw_nil ?_) | ((refine is_bin ?_; first | (refine lw_pure rfl (pv_lss rfl rfl) ?_) | (refine lw_pure rfl (pv_eql rfl rfl) ?_) | (refine lw_pure rfl (pv_inc rfl rfl (by omega)) ?_) | (refine lw_pure rfl (pv_add rfl rfl (by omega)) ?_))) | ((refine is_load ?_; first | (refine lw_pure rfl (pv_load (t1 rfl) rfl (by first | fail)) ?_) | (refine lw_pure rfl (pv_loada (tA rfl) rfl (by first | fail) (by rfl)) ?_))) | ((refine is_ia ?_; first | (refine lw_pure rfl (pv_ian (tS rfl) rfl rfl (by omega)) ?_) | (refine lw_pure rfl (pv_ia (tS rfl) rfl rfl (by omega)) ?_))) | ((refine is_un ?_; first | (refine lw_pure rfl (pv_not rfl) ?_))) | ((refine is_bi ?_; first | (refine lw_pure rfl (pv_lenl (tS rfl) rfl) ?_) | (refine lw_pure rfl (pv_lens (tStr rfl) rfl) ?_))) | (refine is_sl ?_; refine lw_pure rfl (pv_slice_l (tS rfl) rfl rfl (by omega)) ?_) | (refine is_sl ?_; refine lw_pure rfl (pv_slice_h (tS rfl) rfl rfl (by omega)) ?_) | (refine is_sl ?_; refine lw_pure rfl (pv_slice_lh (tS rfl) rfl rfl rfl (by omega)) ?_))
      refine qw_ret1 rfl rfl ⟨⟨_, rfl, ?_⟩, hw0⟩
      rw [← hti]
      simpa using hO3

set_option maxRecDepth 20000 in
theorem ofLF_c (r : Ln) (a : Int) (N1 : Nat) (w : World) (h1 : PT w N1 3 [.int .i64 a]) : Calls Tryd.prog 31 #[.agg (encN r).toArray, .pointer (some ⟨N1, 0, none⟩)] w fun e w' => e = .returned (.bool (decide (r.acct ≠ a))) ∧ Below w.heap.size w w' := by
  have hw := Below.refl w.heap.size w
  refine fn_enter 8 Tryd.func31 rfl rfl rfl ?_
  refine cw_seq (cw_region ?_)
  refine lw_boxN rfl rfl (cs := encN r) rfl ?_; intro N wn hN HA hb
  replace h1 := h1.mono hb
  have hw0 := grow_trans hw hb
  clear hb hw
  have hw := Below.refl wn.heap.size wn
  repeat' (first | (refine lw_pure rfl (pv_move rfl) ?_) | (refine lw_pure rfl (pv_assign rfl) ?_) | (refine is_cw ?_; first | (refine cw_seq ?_) | (refine cw_region ?_) | (refine cw_ret ?_)) | (refine is_qw ?_; first | (with_reducible refine qw_then ?_) | (with_reducible refine qw_then_ret ?_)) | (refine lw_nil ?_) | ((refine is_bin ?_; first | (refine lw_pure rfl (pv_neq rfl rfl) ?_))) | ((refine is_load ?_; first | (refine lw_pure rfl (pv_load (t1 rfl) rfl (by first | exact PT.ld0 (HA.mono hw) rfl | exact PT.ld (HA.mono hw) rfl | exact PT.ld0 (h1.mono hw) rfl | exact PT.ld (h1.mono hw) rfl)) ?_) | (refine lw_pure rfl (pv_loada (tA rfl) rfl (by first | exact PT.lda (HA.mono hw) | exact PT.lda (h1.mono hw)) (by rfl)) ?_))) | ((refine is_fa ?_; first | (refine lw_pure rfl (pv_fa (tF rfl) rfl) ?_))) | (refine is_cw ?_; refine cw_split rfl (fun hc => ?_) (fun hc => ?_) <;> (first | replace hc := of_decide_eq_true hc | replace hc := of_decide_eq_false hc | replace hc := dec_nT hc | replace hc := dec_nF hc | skip) <;> (try (exfalso; omega))))
  all_goals (refine qw_ret1 rfl rfl ⟨ret_bool ?_, hw0⟩; first | (simp [*]; done) | (simp; omega))
set_option maxRecDepth 20000 in
theorem ofL_c {l : List Ln} {m : Nat} {ad : Option Addr} {cap : Nat} {w : World} (a : Int) (hm : l.length = m) (HS : SlR encN 5 w ad cap l) (hl : l.length ≤ 1048576) : Calls Tryd.prog 16 #[.slice ad m cap, .int .i64 a] w fun e w' => (∃ v, e = .returned v ∧ Own encN 5 30 w.heap.size w' v (ofL l a)) ∧ Below w.heap.size w w' := by
  have hw := Below.refl w.heap.size w
  refine fn_enter 9 Tryd.func16 rfl rfl rfl ?_
  refine cw_seq (cw_region ?_)
  refine lw_boxN rfl rfl (cs := [.int .i64 a]) rfl ?_; intro N wn hN HA hb
  have hNlt := HA.lt
  replace hw := grow_trans hw hb
  replace HS := HS.mono hb
  repeat' (first | (refine lw_pure rfl (pv_move rfl) ?_) | (refine lw_pure rfl (pv_assign rfl) ?_) | (refine is_cw ?_; first | (refine cw_seq ?_) | (refine cw_region ?_) | (refine cw_ret ?_)) | (refine is_qw ?_; first | (with_reducible refine qw_then ?_) | (with_reducible refine qw_then_ret ?_)) | (refine lw_nil ?_) | (refine lw_pure rfl (pv_makeFunc rfl rfl) ?_))
  refine lw_call (f := 25) (by kernel_rfl) rfl rfl (clone_N hm HS hl) ?_; rintro e w1 ⟨⟨v, rfl, hO⟩, hb1⟩; refine ⟨_, rfl, ?_⟩
  replace HA := HA.mono hb1
  repeat' (first | (refine lw_pure rfl (pv_move rfl) ?_) | (refine lw_pure rfl (pv_assign rfl) ?_) | (refine is_cw ?_; first | (refine cw_seq ?_) | (refine cw_region ?_) | (refine cw_ret ?_)) | (refine is_qw ?_; first | (with_reducible refine qw_then ?_) | (with_reducible refine qw_then_ret ?_)) | (refine lw_nil ?_) | (refine lw_pure rfl (pv_makeFunc rfl rfl) ?_))
  refine lw_call (f := 30) (by kernel_rfl) rfl rfl (delf_N wn.heap.size (fun r => decide (r.acct ≠ a)) 31 #[.pointer (some ⟨N, 0, none⟩)] (by kernel_rfl) hb1.size (fun x _ w' h => ofLF_c x a N w' ((h.block N hNlt).trans HA)) hO) ?_; rintro e w2 ⟨⟨v', rfl, hO2⟩, hb2⟩; refine ⟨_, rfl, ?_⟩
  repeat' (first | (refine lw_pure rfl (pv_move rfl) ?_) | (refine lw_pure rfl (pv_assign rfl) ?_) | (refine is_cw ?_; first | (refine cw_seq ?_) | (refine cw_region ?_) | (refine cw_ret ?_)) | (refine is_qw ?_; first | (with_reducible refine qw_then ?_) | (with_reducible refine qw_then_ret ?_)) | (refine lw_nil ?_) | (refine lw_pure rfl (pv_makeFunc rfl rfl) ?_))
  refine qw_ret1 rfl rfl ⟨⟨_, rfl, ?_⟩, (hw.trans (hb1.mono hw.size)).trans (hb2.mono hw.size)⟩
  have e : (l.filter fun x => !decide (x.acct ≠ a)) = ofL l a := by
    unfold ofL; refine List.filter_congr fun x _ => ?_
    by_cases h : x.acct = a <;> simp [h]
  rw [← e]; exact hO2.weaken hw.size
def PageV (base : Nat) (w : World) (v : Value) (ys : List Ln) : Prop := (v = .slice none 0 0 ∧ ys = []) ∨ ∃ g cap f all, v = .slice (some ⟨g, f * 5, none⟩) ys.length (cap - f) ∧ Own encN 5 30 base w (.slice (some ⟨g, 0, none⟩) all.length cap) all ∧ ys = (all.drop f).take ys.length ∧ f < all.length
set_option maxRecDepth 20000 in
theorem pageL_c {l : List Ln} {m : Nat} {ad : Option Addr} {cap : Nat} {w : World} (a from_ n : Int) (hm : l.length = m) (HS : SlR encN 5 w ad cap l) (hl : l.length ≤ 1048576) : Calls Tryd.prog 14 #[.slice ad m cap, .int .i64 a, .int .i64 from_, .int .i64 n] w fun e w' => (∃ v, e = .returned v ∧ PageV w.heap.size w' v (pageL l a from_ n)) ∧ Below w.heap.size w w' := by
  have hw := Below.refl w.heap.size w
  refine fn_enter 34 Tryd.func14 rfl rfl rfl ?_
  repeat' (first | (refine lw_pure rfl (pv_move rfl) ?_) | (refine lw_pure rfl (pv_assign rfl) ?_) | (refine is_cw ?_; first | (refine cw_seq ?_) | (refine cw_region ?_) | (refine cw_true rfl rfl ?_) | (refine cw_false rfl rfl ?_) | (refine is_cd ?_; refine cw_true rfl (by first | assumption | exact decide_eq_true (by omega) | exact dec_notT (by omega)) ?_) | (refine is_cd ?_; refine cw_false rfl (by first | assumption | exact decide_eq_false (by omega) | exact dec_notF (by omega)) ?_) | (refine cw_skip ?_) | (refine cw_ret ?_)) | (refine is_qw ?_; first | (with_reducible refine qw_then ?_) | (with_reducible refine qw_then_ret ?_)) | (refine lw_nil ?_) | (refine is_guarded ?_; first | (refine lw_not rfl rfl rfl rfl ?_) | (refine lw_not_u rfl rfl rfl ?_) | (refine lw_on rfl rfl rfl ?_)) | ((refine is_bin ?_; first | (refine lw_pure rfl (pv_lss rfl rfl) ?_) | (refine lw_pure rfl (pv_geq rfl rfl) ?_))) | ((refine is_bi ?_; first | (refine lw_pure rfl (pv_lenl (tS rfl) rfl) ?_) | (refine lw_pure rfl (pv_lens (tStr rfl) rfl) ?_) | (refine lw_pure rfl (pv_min rfl rfl) ?_))) | (refine is_pk ?_; refine lw_pure rfl (pv_pick_t rfl rfl rfl) ?_) | (refine is_pk ?_; refine lw_pure rfl (pv_pick_f rfl rfl rfl) ?_) | (refine is_pk ?_; refine lw_pure rfl (pv_pick_t rfl (by first | assumption | exact decide_eq_true (by omega) | exact dec_notT (by omega)) rfl) ?_) | (refine is_pk ?_; refine lw_pure rfl (pv_pick_f rfl (by first | assumption | exact decide_eq_false (by omega) | exact dec_notF (by omega)) rfl) ?_) | (refine is_pk ?_; refine lw_pure rfl (pv_pick rfl rfl rfl) ?_) | (refine is_sl ?_; refine lw_pure rfl (pv_slice_l (tS rfl) rfl rfl (by omega)) ?_) | (refine is_sl ?_; refine lw_pure rfl (pv_slice_h (tS rfl) rfl rfl (by omega)) ?_) | (refine is_sl ?_; refine lw_pure rfl (pv_slice_lh (tS rfl) rfl rfl rfl (by omega)) ?_))
  refine lw_call (f := 16) (by kernel_rfl) rfl rfl (ofL_c a hm HS hl) ?_; rintro e w1 ⟨⟨v, rfl, hO⟩, hb1⟩; refine ⟨_, rfl, ?_⟩
  replace hw := hb1
  unfold pageL
  obtain ⟨ab, ac, rfl, HY, hbs⟩ := Own.slR encN_len hO
  generalize ofL l a = ys at hO HY
  have hle := HY.le
  have hmx := HY.max
  by_cases h1 : from_ < 0
  · rw [if_pos (Or.inl h1)]
    repeat' (first | (refine lw_pure rfl (pv_move rfl) ?_) | (refine lw_pure rfl (pv_assign rfl) ?_) | (refine is_cw ?_; first | (refine cw_seq ?_) | (refine cw_region ?_) | (refine cw_true rfl rfl ?_) | (refine cw_false rfl rfl ?_) | (refine is_cd ?_; refine cw_true rfl (by first | assumption | exact decide_eq_true (by omega) | exact dec_notT (by omega)) ?_) | (refine is_cd ?_; refine cw_false rfl (by first | assumption | exact decide_eq_false (by omega) | exact dec_notF (by omega)) ?_) | (refine cw_skip ?_) | (refine cw_ret ?_)) | (refine is_qw ?_; first | (with_reducible refine qw_then ?_) | (with_reducible refine qw_then_ret ?_)) | (refine lw_nil ?_) | (refine is_guarded ?_; first | (refine lw_not rfl rfl rfl rfl ?_) | (refine lw_not_u rfl rfl rfl ?_) | (refine lw_on rfl rfl rfl ?_) | (refine lw_on rfl rfl (by first | assumption | exact decide_eq_true (by omega) | exact decide_eq_false (by omega) | exact dec_notT (by omega) | exact dec_notF (by omega)) ?_) | (refine lw_not rfl rfl rfl (by first | assumption | exact decide_eq_true (by omega) | exact decide_eq_false (by omega) | exact dec_notT (by omega) | exact dec_notF (by omega)) ?_) | (refine lw_gs_t rfl rfl rfl (fun hc => ?_) (fun hc => ?_) <;> (first | replace hc := of_decide_eq_true hc | replace hc := of_decide_eq_false hc | replace hc := dec_nT hc | replace hc := dec_nF hc | skip) <;> (try (exfalso; omega))) | (refine lw_gs_f rfl rfl rfl (fun hc => ?_) (fun hc => ?_) <;> (first | replace hc := of_decide_eq_true hc | replace hc := of_decide_eq_false hc | replace hc := dec_nT hc | replace hc := dec_nF hc | skip) <;> (try (exfalso; omega)))) | ((refine is_bin ?_; first | (refine lw_pure rfl (pv_lss rfl rfl) ?_) | (refine lw_pure rfl (pv_geq rfl rfl) ?_))) | ((refine is_bi ?_; first | (refine lw_pure rfl (pv_lenl (tS rfl) rfl) ?_) | (refine lw_pure rfl (pv_lens (tStr rfl) rfl) ?_) | (refine lw_pure rfl (pv_min rfl rfl) ?_))) | (refine is_pk ?_; refine lw_pure rfl (pv_pick_t rfl rfl rfl) ?_) | (refine is_pk ?_; refine lw_pure rfl (pv_pick_f rfl rfl rfl) ?_) | (refine is_pk ?_; refine lw_pure rfl (pv_pick_t rfl (by first | assumption | exact decide_eq_true (by omega) | exact dec_notT (by omega)) rfl) ?_) | (refine is_pk ?_; refine lw_pure rfl (pv_pick_f rfl (by first | assumption | exact decide_eq_false (by omega) | exact dec_notF (by omega)) rfl) ?_) | (refine is_pk ?_; refine lw_pure rfl (pv_pick rfl rfl rfl) ?_) | (refine is_sl ?_; refine lw_pure rfl (pv_slice_l (tS rfl) rfl rfl (by omega)) ?_) | (refine is_sl ?_; refine lw_pure rfl (pv_slice_h (tS rfl) rfl rfl (by omega)) ?_) | (refine is_sl ?_; refine lw_pure rfl (pv_slice_lh (tS rfl) rfl rfl rfl (by omega)) ?_) | (refine is_cw ?_; refine cw_split rfl (fun hc => ?_) (fun hc => ?_) <;> (first | replace hc := of_decide_eq_true hc | replace hc := of_decide_eq_false hc | replace hc := dec_nT hc | replace hc := dec_nF hc | skip) <;> (try (exfalso; omega))))
    all_goals exact qw_ret1 rfl rfl ⟨⟨_, rfl, Or.inl ⟨rfl, rfl⟩⟩, hw⟩
  by_cases h2 : n < 0
  · rw [if_pos (Or.inr (Or.inl h2))]
    repeat' (first | (refine lw_pure rfl (pv_move rfl) ?_) | (refine lw_pure rfl (pv_assign rfl) ?_) | (refine is_cw ?_; first | (refine cw_seq ?_) | (refine cw_region ?_) | (refine cw_true rfl rfl ?_) | (refine cw_false rfl rfl ?_) | (refine is_cd ?_; refine cw_true rfl (by first | assumption | exact decide_eq_true (by omega) | exact dec_notT (by omega)) ?_) | (refine is_cd ?_; refine cw_false rfl (by first | assumption | exact decide_eq_false (by omega) | exact dec_notF (by omega)) ?_) | (refine cw_skip ?_) | (refine cw_ret ?_)) | (refine is_qw ?_; first | (with_reducible refine qw_then ?_) | (with_reducible refine qw_then_ret ?_)) | (refine lw_nil ?_) | (refine is_guarded ?_; first | (refine lw_not rfl rfl rfl rfl ?_) | (refine lw_not_u rfl rfl rfl ?_) | (refine lw_on rfl rfl rfl ?_) | (refine lw_on rfl rfl (by first | assumption | exact decide_eq_true (by omega) | exact decide_eq_false (by omega) | exact dec_notT (by omega) | exact dec_notF (by omega)) ?_) | (refine lw_not rfl rfl rfl (by first | assumption | exact decide_eq_true (by omega) | exact decide_eq_false (by omega) | exact dec_notT (by omega) | exact dec_notF (by omega)) ?_) | (refine lw_gs_t rfl rfl rfl (fun hc => ?_) (fun hc => ?_) <;> (first | replace hc := of_decide_eq_true hc | replace hc := of_decide_eq_false hc | replace hc := dec_nT hc | replace hc := dec_nF hc | skip) <;> (try (exfalso; omega))) | (refine lw_gs_f rfl rfl rfl (fun hc => ?_) (fun hc => ?_) <;> (first | replace hc := of_decide_eq_true hc | replace hc := of_decide_eq_false hc | replace hc := dec_nT hc | replace hc := dec_nF hc | skip) <;> (try (exfalso; omega)))) | ((refine is_bin ?_; first | (refine lw_pure rfl (pv_lss rfl rfl) ?_) | (refine lw_pure rfl (pv_geq rfl rfl) ?_))) | ((refine is_bi ?_; first | (refine lw_pure rfl (pv_lenl (tS rfl) rfl) ?_) | (refine lw_pure rfl (pv_lens (tStr rfl) rfl) ?_) | (refine lw_pure rfl (pv_min rfl rfl) ?_))) | (refine is_pk ?_; refine lw_pure rfl (pv_pick_t rfl rfl rfl) ?_) | (refine is_pk ?_; refine lw_pure rfl (pv_pick_f rfl rfl rfl) ?_) | (refine is_pk ?_; refine lw_pure rfl (pv_pick_t rfl (by first | assumption | exact decide_eq_true (by omega) | exact dec_notT (by omega)) rfl) ?_) | (refine is_pk ?_; refine lw_pure rfl (pv_pick_f rfl (by first | assumption | exact decide_eq_false (by omega) | exact dec_notF (by omega)) rfl) ?_) | (refine is_pk ?_; refine lw_pure rfl (pv_pick rfl rfl rfl) ?_) | (refine is_sl ?_; refine lw_pure rfl (pv_slice_l (tS rfl) rfl rfl (by omega)) ?_) | (refine is_sl ?_; refine lw_pure rfl (pv_slice_h (tS rfl) rfl rfl (by omega)) ?_) | (refine is_sl ?_; refine lw_pure rfl (pv_slice_lh (tS rfl) rfl rfl rfl (by omega)) ?_) | (refine is_cw ?_; refine cw_split rfl (fun hc => ?_) (fun hc => ?_) <;> (first | replace hc := of_decide_eq_true hc | replace hc := of_decide_eq_false hc | replace hc := dec_nT hc | replace hc := dec_nF hc | skip) <;> (try (exfalso; omega))))
    all_goals exact qw_ret1 rfl rfl ⟨⟨_, rfl, Or.inl ⟨rfl, rfl⟩⟩, hw⟩
  by_cases h3 : (ys.length : Int) ≤ from_
  · rw [if_pos (Or.inr (Or.inr h3))]
    repeat' (first | (refine lw_pure rfl (pv_move rfl) ?_) | (refine lw_pure rfl (pv_assign rfl) ?_) | (refine is_cw ?_; first | (refine cw_seq ?_) | (refine cw_region ?_) | (refine cw_true rfl rfl ?_) | (refine cw_false rfl rfl ?_) | (refine is_cd ?_; refine cw_true rfl (by first | assumption | exact decide_eq_true (by omega) | exact dec_notT (by omega)) ?_) | (refine is_cd ?_; refine cw_false rfl (by first | assumption | exact decide_eq_false (by omega) | exact dec_notF (by omega)) ?_) | (refine cw_skip ?_) | (refine cw_ret ?_)) | (refine is_qw ?_; first | (with_reducible refine qw_then ?_) | (with_reducible refine qw_then_ret ?_)) | (refine lw_nil ?_) | (refine is_guarded ?_; first | (refine lw_not rfl rfl rfl rfl ?_) | (refine lw_not_u rfl rfl rfl ?_) | (refine lw_on rfl rfl rfl ?_) | (refine lw_on rfl rfl (by first | assumption | exact decide_eq_true (by omega) | exact decide_eq_false (by omega) | exact dec_notT (by omega) | exact dec_notF (by omega)) ?_) | (refine lw_not rfl rfl rfl (by first | assumption | exact decide_eq_true (by omega) | exact decide_eq_false (by omega) | exact dec_notT (by omega) | exact dec_notF (by omega)) ?_) | (refine lw_gs_t rfl rfl rfl (fun hc => ?_) (fun hc => ?_) <;> (first | replace hc := of_decide_eq_true hc | replace hc := of_decide_eq_false hc | replace hc := dec_nT hc | replace hc := dec_nF hc | skip) <;> (try (exfalso; omega))) | (refine lw_gs_f rfl rfl rfl (fun hc => ?_) (fun hc => ?_) <;> (first | replace hc := of_decide_eq_true hc | replace hc := of_decide_eq_false hc | replace hc := dec_nT hc | replace hc := dec_nF hc | skip) <;> (try (exfalso; omega)))) | ((refine is_bin ?_; first | (refine lw_pure rfl (pv_lss rfl rfl) ?_) | (refine lw_pure rfl (pv_geq rfl rfl) ?_))) | ((refine is_bi ?_; first | (refine lw_pure rfl (pv_lenl (tS rfl) rfl) ?_) | (refine lw_pure rfl (pv_lens (tStr rfl) rfl) ?_) | (refine lw_pure rfl (pv_min rfl rfl) ?_))) | (refine is_pk ?_; refine lw_pure rfl (pv_pick_t rfl rfl rfl) ?_) | (refine is_pk ?_; refine lw_pure rfl (pv_pick_f rfl rfl rfl) ?_) | (refine is_pk ?_; refine lw_pure rfl (pv_pick_t rfl (by first | assumption | exact decide_eq_true (by omega) | exact dec_notT (by omega)) rfl) ?_) | (refine is_pk ?_; refine lw_pure rfl (pv_pick_f rfl (by first | assumption | exact decide_eq_false (by omega) | exact dec_notF (by omega)) rfl) ?_) | (refine is_pk ?_; refine lw_pure rfl (pv_pick rfl rfl rfl) ?_) | (refine is_sl ?_; refine lw_pure rfl (pv_slice_l (tS rfl) rfl rfl (by omega)) ?_) | (refine is_sl ?_; refine lw_pure rfl (pv_slice_h (tS rfl) rfl rfl (by omega)) ?_) | (refine is_sl ?_; refine lw_pure rfl (pv_slice_lh (tS rfl) rfl rfl rfl (by omega)) ?_) | (refine is_cw ?_; refine cw_split rfl (fun hc => ?_) (fun hc => ?_) <;> (first | replace hc := of_decide_eq_true hc | replace hc := of_decide_eq_false hc | replace hc := dec_nT hc | replace hc := dec_nF hc | skip) <;> (try (exfalso; omega))))
    all_goals exact qw_ret1 rfl rfl ⟨⟨_, rfl, Or.inl ⟨rfl, rfl⟩⟩, hw⟩
  rw [if_neg (by omega)]
  obtain ⟨f, rfl⟩ : ∃ f : Nat, from_ = (f : Int) := ⟨from_.toNat, by omega⟩
  obtain ⟨k, rfl⟩ : ∃ k : Nat, n = (k : Int) := ⟨n.toNat, by omega⟩
  have hf : f < ys.length := by omega
  obtain ⟨g, rfl⟩ : ∃ g, ab = some ⟨g, 0, none⟩ := by
    cases ab with
    | none => have := (HY.ofNone rfl).1; subst this; simp at hf
    | some q =>
      obtain ⟨b, o, sp⟩ := q
      obtain ⟨h1, _⟩ := HY.ofSome _ rfl (by omega)
      have h2 := (hbs _ rfl).2
      simp only at h1 h2
      exact ⟨b, by rw [h1, h2]⟩
  repeat' (first | (refine lw_pure rfl (pv_move rfl) ?_) | (refine lw_pure rfl (pv_assign rfl) ?_) | (refine is_cw ?_; first | (refine cw_seq ?_) | (refine cw_region ?_) | (refine cw_true rfl rfl ?_) | (refine cw_false rfl rfl ?_) | (refine is_cd ?_; refine cw_true rfl (by first | assumption | exact decide_eq_true (by omega) | exact dec_notT (by omega)) ?_) | (refine is_cd ?_; refine cw_false rfl (by first | assumption | exact decide_eq_false (by omega) | exact dec_notF (by omega)) ?_) | (refine cw_skip ?_) | (refine cw_ret ?_)) | (refine is_qw ?_; first | (with_reducible refine qw_then ?_) | (with_reducible refine qw_then_ret ?_)) | (refine lw_nil ?_) | (refine is_guarded ?_; first | (refine lw_not rfl rfl rfl rfl ?_) | (refine lw_not_u rfl rfl rfl ?_) | (refine lw_on rfl rfl rfl ?_) | (refine lw_on rfl rfl (by first | assumption | exact decide_eq_true (by omega) | exact decide_eq_false (by omega) | exact dec_notT (by omega) | exact dec_notF (by omega)) ?_) | (refine lw_not rfl rfl rfl (by first | assumption | exact decide_eq_true (by omega) | exact decide_eq_false (by omega) | exact dec_notT (by omega) | exact dec_notF (by omega)) ?_) | (refine lw_gs_t rfl rfl rfl (fun hc => ?_) (fun hc => ?_) <;> (first | replace hc := of_decide_eq_true hc | replace hc := of_decide_eq_false hc | replace hc := dec_nT hc | replace hc := dec_nF hc | skip) <;> (try (exfalso; omega))) | (refine lw_gs_f rfl rfl rfl (fun hc => ?_) (fun hc => ?_) <;> (first | replace hc := of_decide_eq_true hc | replace hc := of_decide_eq_false hc | replace hc := dec_nT hc | replace hc := dec_nF hc | skip) <;> (try (exfalso; omega)))) | ((refine is_bin ?_; first | (refine lw_pure rfl (pv_lss rfl rfl) ?_) | (refine lw_pure rfl (pv_geq rfl rfl) ?_))) | ((refine is_bi ?_; first | (refine lw_pure rfl (pv_lenl (tS rfl) rfl) ?_) | (refine lw_pure rfl (pv_lens (tStr rfl) rfl) ?_) | (refine lw_pure rfl (pv_min rfl rfl) ?_))) | (refine is_pk ?_; refine lw_pure rfl (pv_pick_t rfl rfl rfl) ?_) | (refine is_pk ?_; refine lw_pure rfl (pv_pick_f rfl rfl rfl) ?_) | (refine is_pk ?_; refine lw_pure rfl (pv_pick_t rfl (by first | assumption | exact decide_eq_true (by omega) | exact dec_notT (by omega)) rfl) ?_) | (refine is_pk ?_; refine lw_pure rfl (pv_pick_f rfl (by first | assumption | exact decide_eq_false (by omega) | exact dec_notF (by omega)) rfl) ?_) | (refine is_pk ?_; refine lw_pure rfl (pv_pick rfl rfl rfl) ?_) | (refine is_sl ?_; refine lw_pure rfl (pv_slice_l (tS rfl) rfl rfl (by omega)) ?_) | (refine is_sl ?_; refine lw_pure rfl (pv_slice_h (tS rfl) rfl rfl (by omega)) ?_) | (refine is_sl ?_; refine lw_pure rfl (pv_slice_lh (tS rfl) rfl rfl rfl (by omega)) ?_) | (refine is_cw ?_; refine cw_split rfl (fun hc => ?_) (fun hc => ?_) <;> (first | replace hc := of_decide_eq_true hc | replace hc := of_decide_eq_false hc | replace hc := dec_nT hc | replace hc := dec_nF hc | skip) <;> (try (exfalso; omega))))
  refine qw_ret1 rfl rfl ⟨⟨_, rfl, Or.inr ⟨g, ac, f, ys, ?_, hO, ?_, hf⟩⟩, hw⟩
  · have hc : ¬ ac = f := by omega
    have e1 : (if ((ys.length - f : Nat) : Int) < (k : Int) then ((ys.length - f : Nat) : Int) else (k : Int)).toNat = ((ys.drop f).take k).length := by
      rw [List.length_take, List.length_drop]
      split <;> omega
    simp only [Int.toNat_natCast, if_neg hc, Option.map_some, Addr.add_lit, Nat.zero_add, e1]
  · simp
end Go.Proofs.YtnffmbfdfhokeaaDoor
namespace Go.Proofs.YtnffmbfdfhokeaaDoor
open Go.RowKit

section
variable {P : Program} {ops : Array Oper} {Q : Exit → Act → World → Prop} {md : Region.Mode} {U : World → Prop} {f : Nat}
def wpAnyF (P : Program) (md : Region.Mode) (ops : Array Oper) (Q : Exit → Act → World → Prop) (f : Nat) (U : World → Prop) : Nat → Array Bool → Act → World → Prop
  | 0, listed, a, w => Region.ready md ops listed = [] ∧ Q .normal a w
  | fuel + 1, listed, a, w =>
    (Region.ready md ops listed = [] → Q .normal a w) ∧
    ∀ i ∈ Region.ready md ops listed, wpOp P ops Q i (fun a' w' => ((listed.setIfInBounds i true).getD f true = false → U w') ∧ wpAnyF P md ops Q f U fuel (listed.setIfInBounds i true) a' w') a w
theorem wpAny_of_F : ∀ (fuel : Nat) (listed : Array Bool) (a : Act) (w : World), wpAnyF P md ops Q f U fuel listed a w → wpAny P md ops Q fuel listed a w
  | 0, _, _, _, h => h
  | fuel + 1, _, _, _, h => ⟨h.1, fun i hi => wpOp_mono (fun a' w' h' => wpAny_of_F fuel _ a' w' h'.2) (h.2 i hi)⟩
theorem wpAnyF_first {i : Nat} {oi : Oper} {v : Value} (hif : i ≠ f) (hwait : ∃ o, ops[f]? = some o ∧ ∃ e ∈ o.after, Region.binds md e = true ∧ e.on = i) (hi : ops[i]? = some oi) (hsel : ∀ (j : Nat) (o : Oper) cs b, ops[j]? = some o → o.op ≠ .select cs b)
    (hQ : ∀ c a w, Q (.panic c) (a.put oi.dst v) w → Q (.panic c) a w) :
    ∀ (fuel : Nat) (listed : Array Bool) (a : Act) (w : World),
      (∀ j oj, ops[j]? = some oj → j ≠ i → listed.getD j true = false → (∀ e ∈ oj.after, Region.binds md e = true → e.on ≠ i) → oi.apart ops oj = true) →
      i ∈ Region.ready md ops listed → listed.getD f true = false → YieldsIf P ops U oi v a → U w →
      wpAnyF P md ops Q f U fuel (listed.setIfInBounds i true) (a.put oi.dst v) w → wpAnyF P md ops Q f U (fuel + 1) listed a w := by
  intro fuel
  induction fuel with
  | zero =>
    intro listed a w _ hr _ hy hS H
    refine ⟨fun h => (by rw [h] at hr; cases hr), fun j hj => ?_⟩
    by_cases hji : j = i
    · subst hji; exact hy.wpOp hi hS ⟨fun _ => hS, H⟩
    · have := ready_mono hj hji
      rw [H.1] at this
      cases this
  | succ fuel ih =>
    intro listed a w hfree hr hf hy hS H
    refine ⟨fun h => (by rw [h] at hr; cases hr), fun j hj => ?_⟩
    by_cases hji : j = i
    · subst hji; exact hy.wpOp hi hS ⟨fun _ => hS, H⟩
    · have h1 := H.2 j (ready_mono hj hji)
      obtain ⟨hjun, oj, hoj, hall⟩ := mem_ready.1 hj
      have hun : ∀ e ∈ oj.after, Region.binds md e = true → e.on ≠ i := fun e he hb heq => by
        have h1 := hall e he hb
        have h0 := (mem_ready.1 hr).1
        rw [heq] at h1
        rcases Nat.lt_or_ge i listed.size with h' | h'
        · simp [h'] at h0 h1; rw [h0] at h1; cases h1
        · simp [Array.getElem?_eq_none h'] at h1
      have hjf : j ≠ f := fun e => by
        subst e
        obtain ⟨o, ho, e, he, hb, heq⟩ := hwait
        rw [hoj] at ho; injection ho with ho; subst ho
        exact hun e he hb heq
      have h2 := wpOp_putIf hoj (hfree j oj hoj hji hjun hun) (fun cs b => hsel i oi cs b hi) (fun cs b => hsel j oj cs b hoj) hQ hy h1
      have hfree' : ∀ k ok, ops[k]? = some ok → k ≠ i → (listed.setIfInBounds j true).getD k true = false →
          (∀ e ∈ ok.after, Region.binds md e = true → e.on ≠ i) → oi.apart ops ok = true := fun k ok hk hki hun hno => by
        refine hfree k ok hk hki ?_ hno
        by_cases hjk : j = k
        · subst hjk; exact hjun
        · rw [getD_set_ne true hjk] at hun; exact hun
      refine wpOp_mono (fun a' w' h3 => ?_) h2
      have hU' : U w' := h3.2.1 (by rw [getD_set_ne true hjf, getD_set_ne true hif]; exact hf)
      refine ⟨fun _ => hU', ih (listed.setIfInBounds j true) a' w' hfree' (ready_mono hr (Ne.symm hji)) (by rw [getD_set_ne true hjf]; exact hf) h3.1 hU' ?_⟩
      rw [Array.setIfInBounds_comm _ _ hji]
      exact h3.2.2
end
def waits (ops : Array Oper) (f i : Nat) : Bool := match ops[f]? with
  | some o => o.after.toList.any fun e => Region.binds .any e && Nat.beq e.on i
  | none => false
theorem waits_of {ops : Array Oper} {f i : Nat} (h : waits ops f i = true) : ∃ o, ops[f]? = some o ∧ ∃ e ∈ o.after, Region.binds .any e = true ∧ e.on = i := by
  unfold waits at h
  cases ho : ops[f]? with
  | none => rw [ho] at h; cases h
  | some o =>
    rw [ho] at h
    rw [List.any_eq_true] at h
    obtain ⟨e, he, h2⟩ := h
    rw [Bool.and_eq_true] at h2
    exact ⟨o, rfl, e, by simpa using he, h2.1, Nat.eq_of_beq_eq_true h2.2⟩
section
variable {n : Nat} {l : Fr} {P : Program} {w : World} {Q : Exit → Act → World → Prop} {ops : Array Oper} {U : World → Prop} {fuel : Nat} {listed : Array Bool} {f : Nat}
structure FW (P : Program) (n : Nat) (ops : Array Oper) (Q : Exit → Act → World → Prop) (f : Nat) (U : World → Prop) (fuel : Nat) (listed : Array Bool) (l : Fr) (w : World) : Prop where
  out : ∀ a, Holds n l a → wpAnyF P .any ops Q f U fuel listed a w
theorem cw_drawnF {i : Nat} {ops : Array Oper} (f : Nat) (U : World → Prop) (hm : P.follows .mixedOrders = true) (hQ : NoPanic Q) (h : NoPanic Q → FW P n ops Q f U ops.size (Array.replicate ops.size false) l w.drew) : CW P n (.region i ops true) Q l w :=
  ⟨fun a ha => wp_region_any hm (wpAny_of_F _ _ _ _ ((h hQ).out a ha))⟩
theorem fw_take (i : Nat) {d : Nat} {op : Op} {ty : TypeId} {pos : String} {af : Array Edge} {v : Value} (ho : ops[i]? = some ⟨some d, op, ty, pos, af, none⟩) (hwt : waits ops f i = true) (hif : Nat.beq i f = false) (hfl : listed.getD f true = false)
    (hs : Region.noSelect ops = true) (hf : Region.free .any ops listed i = true) (hr : (Region.ready .any ops listed).contains i = true) (hQ : NoPanic Q) (hU : U w) (hd : Nat.blt d n = true)
    (hv : ∀ w, U w → Pv P n l ⟨some d, op, ty, pos, af, none⟩ v w) (h : FW P n ops Q f U fuel (listed.setIfInBounds i true) ((d, v) :: l) w) : FW P n ops Q f U (fuel + 1) listed l w := ⟨fun a ha =>
  wpAnyF_first (fun e => by subst e; simp at hif) (waits_of hwt) ho (Region.noSelect_spec hs) (fun c a w => hQ c _ v a w) fuel listed a w (Region.free_spec ho hf) (by simpa using hr) hfl (Or.inl ⟨rfl, fun w hw => (hv w hw).out a ha⟩) hU (h.out _ (ha.put hd v))⟩
theorem fw_last {o : Oper} (hr : Region.ready .any ops listed = [f]) (ho : ops[f]? = some o) (hg : guardOn ops l o.guard = true) (hd : inD o.dst n = true) (hfs : (listed.setIfInBounds f true).getD f true = true) (he : Region.ready .any ops (listed.setIfInBounds f true) = [])
    (h : Act1 P n l o w fun v w' => QW n Q .normal (putD o.dst v l) w') : FW P n ops Q f U (fuel + 1) listed l w := ⟨fun a ha => by
  refine ⟨fun h0 => (by rw [hr] at h0; cases h0), fun j hj => ?_⟩
  rw [hr, List.mem_singleton] at hj; subst hj
  unfold wpOp; rw [ho]
  dsimp only
  rw [if_pos (wanted_of ha hg)]
  refine Or.inl (h.out a ha _ _ fun v w' hZ => ⟨fun hf => (by rw [hfs] at hf; cases hf), ?_⟩)
  have hq := hZ.out _ (ha.putD hd v)
  cases fuel with
  | zero => exact ⟨he, hq⟩
  | succ m => exact ⟨fun _ => hq, by rw [he]; simp⟩⟩
theorem act_store {T t : TypeId} {N i : Nat} {cs : List Value} {v : Value} {x y : Operand} {ty : TypeId} {pos : String} {af : Array Edge} {g : Option (Nat × Bool)} {d : Option Nat} {Z : Value → World → Prop} (hp : PT w N T cs) (ht : sizeB P t 1 = true) (hx : ev l x = some (.pointer (some ⟨N, i, none⟩))) (hy : ev l y = some v) (h1 : v.oneCell' = true) (hi : i < cs.length) (h : ∀ w', PT w' N T (cs.set i v) → w.grownBy w' (some N) → w'.heap.size = w.heap.size → Z undef w') : Act1 P n l ⟨d, .store t x y, ty, pos, af, g⟩ w Z := by
  obtain ⟨w', a, b, c, e⟩ := sv_store (d := d) (ty := ty) (pos := pos) (af := af) (g := g) (P := P) (n := n) hp ht hx hy h1 hi
  exact act_sv a (h w' b c e)
theorem act_storea {T t : TypeId} {N m : Nat} {cs vs : List Value} {x y : Operand} {ty : TypeId} {pos : String} {af : Array Edge} {g : Option (Nat × Bool)} {d : Option Nat} {Z : Value → World → Prop} (hp : PT w N T cs) (ht : sizeB P t m = true) (hx : ev l x = some (.pointer (some ⟨N, 0, none⟩))) (hy : ev l y = some (.agg vs.toArray)) (hm : vs.length = m) (hc : cs.length = m) (h1 : ∀ v ∈ vs, v.oneCell' = true) (h : ∀ w', PT w' N T vs → w.grownBy w' (some N) → w'.heap.size = w.heap.size → Z undef w') : Act1 P n l ⟨d, .store t x y, ty, pos, af, g⟩ w Z := by
  obtain ⟨w', a, b, c, e⟩ := sv_storea (d := d) (ty := ty) (pos := pos) (af := af) (g := g) (P := P) (n := n) (i := 0) hp ht hx hy hm h1 (by omega)
  refine act_sv a (h w' ?_ c e)
  have e1 : cs.take 0 ++ vs ++ cs.drop (0 + m) = vs := by rw [List.drop_of_length_le (by omega)]; simp
  rwa [e1] at b
end
theorem act_alloc {P : Program} {n : Nat} {l : Fr} {w : World} {d : Option Nat} {t ty : TypeId} {pos : String} {af : Array Edge} {g : Option (Nat × Bool)} {z : Value} {Z : Value → World → Prop} (hz : ∀ w, (zeroValue t).run P w = .ok z w) {cs : List Value} (hcs : z.cells.toList = cs) (h : ∀ N w', w.heap.size ≤ N → PT w' N t cs → Below w.heap.size w w' → Z (.pointer (some ⟨N, 0, none⟩)) w') : Act1 P n l ⟨d, .alloc t, ty, pos, af, g⟩ w Z := by
  refine act_ev (ev_alloc hz) (h _ _ (Nat.le_refl _) (hcs ▸ PT.new w _ _) (below_alloc _ _))

section
variable {n : Nat} {l : Fr} {P : Program} {w : World} {Q : Exit → Act → World → Prop} {ops : Array Oper} {U : World → Prop} {fuel : Nat} {listed : Array Bool} {f : Nat}
theorem fw_act (i : Nat) {o : Oper} (hr : Region.ready .any ops listed = [i]) (ho : ops[i]? = some o) (hg : guardOn ops l o.guard = true) (hd : inD o.dst n = true)
    (h : Act1 P n l o w fun v w' => U w' ∧ (U w' → FW P n ops Q f U fuel (listed.setIfInBounds i true) (putD o.dst v l) w')) : FW P n ops Q f U (fuel + 1) listed l w := ⟨fun a ha => by
  refine ⟨fun h0 => (by rw [hr] at h0; cases h0), fun j hj => ?_⟩
  rw [hr, List.mem_singleton] at hj; subst hj
  unfold wpOp; rw [ho]
  dsimp only
  rw [if_pos (wanted_of ha hg)]
  exact Or.inl (h.out a ha _ _ fun v w' hZ => ⟨fun _ => hZ.1, (hZ.2 hZ.1).out _ (ha.putD hd v)⟩)⟩
theorem act_pv {d : Option Nat} {op : Op} {ty : TypeId} {pos : String} {af : Array Edge} {g : Option (Nat × Bool)} {v : Value} {Z : Value → World → Prop} (hv : Pv P n l ⟨d, op, ty, pos, af, g⟩ v w) (h : Z v w) : Act1 P n l ⟨d, op, ty, pos, af, g⟩ w Z := ⟨fun a ha K Q hK => by
  unfold Oper.wp; rw [hv.out a ha]; exact hK _ _ h⟩
end
theorem own_pt_ne {α : Type} {enc : α → List Value} {k : Nat} {T T' : TypeId} {B : Nat} {w : World} {v : Value} {xs : List α} {N : Nat} {cs : List Value} (h : Own enc k T B w v xs) (hp : PT w N T' cs) (hT : T ≠ T') : v.ownBlock ≠ some N := by
  obtain ⟨_, h2⟩ := h
  rcases h2 with ⟨rfl, _⟩ | ⟨g, cap, cur, rfl, _, hg, _⟩
  · simp [Value.ownBlock]
  · intro e
    have e2 : g = N := by simpa [Value.ownBlock] using e
    subst e2
    unfold PT at hp
    rw [hg] at hp; injection hp with hp; injection hp with _ hp _; exact hT hp
section
variable {α : Type} {enc : α → List Value} {k : Nat} {T t : TypeId} {base : Nat} {w : World} {g cap : Nat} {xs : List α} {P : Program} {n : Nat} {l : Fr} {Q : Exit → Act → World → Prop} {ops : Array Oper} {os : List Oper} {ty : TypeId} {pos : String} {af : Array Edge} {x y : Operand}
theorem flat_set (hk : ∀ x, (enc x).length = k) : ∀ {xs : List α} {i : Nat} {a u : α} {f : Nat} {v : Value}, xs[i]? = some a → enc u = (enc a).set f v → f < k → (xs.set i u).flatMap enc = (xs.flatMap enc).set (i * k + f) v
  | [], _, _, _, _, _, h, _, _ => by simp at h
  | b :: r, 0, a, u, f, v, h, hu, hf => by
    simp at h; subst h
    rw [List.set_cons_zero, List.flatMap_cons, List.flatMap_cons, hu, Nat.zero_mul, Nat.zero_add, List.set_append_left _ _ (by rw [hk]; exact hf)]
  | b :: r, i + 1, a, u, f, v, h, hu, hf => by
    have h' : r[i]? = some a := by simpa using h
    rw [List.set_cons_succ, List.flatMap_cons, List.flatMap_cons, flat_set hk h' hu hf, List.set_append_right _ _ (by rw [hk, Nat.add_mul]; omega), hk]
    congr 2
    rw [Nat.add_mul]; omega
theorem lw_storeF (hk : ∀ x, (enc x).length = k) (ht : sizeB P t 1 = true) {i f o : Nat} {v : Value} {a u : α} (hx : ev l x = some (.pointer (some ⟨g, o, none⟩))) (ho : o = i * k + f) (hy : ev l y = some v) (h1 : v.oneCell' = true) (hO : Own enc k T base w (.slice (some ⟨g, 0, none⟩) xs.length cap) xs) (ha : xs[i]? = some a) (hu : enc u = (enc a).set f v) (hf : f < k)
    (h : ∀ w', Own enc k T base w' (.slice (some ⟨g, 0, none⟩) xs.length cap) (xs.set i u) → w.grownBy w' (some g) → w'.heap.size = w.heap.size → LW P n ops Q os l w') : LW P n ops Q (⟨none, .store t x y, ty, pos, af, none⟩ :: os) l w := by
  subst ho
  obtain ⟨cur, hb, hg, hle, hmax, hsz, htk⟩ := Own.heap' hO
  have hi : i < xs.length := (List.getElem?_eq_some_iff.1 ha).1
  have hik : i * k + f < xs.length * k := by
    have := Nat.mul_le_mul_right k (show i + 1 ≤ xs.length from hi); rw [Nat.add_mul, Nat.one_mul] at this; omega
  have hck : xs.length * k ≤ cap * k := Nat.mul_le_mul_right k hle
  have hp : PT w g T cur.toList := by unfold PT; simpa using hg
  obtain ⟨w', a1, b1, c1, e1⟩ := sv_store (P := P) (n := n) (l := l) (d := none) (ty := ty) (pos := pos) (af := af) (g := none) hp ht hx hy h1 (by rw [Array.length_toList, hsz]; omega)
  refine lw_skip a1 (h w' ⟨by rw [flat_len enc k hk, List.length_set], Or.inr ⟨g, cap, (cur.toList.set (i * k + f) v).toArray, by rw [List.length_set], hb, b1, by rw [List.length_set]; exact hle, hmax, by simp [hsz], ?_⟩⟩ c1 e1)
  rw [List.length_set, flat_set hk ha hu hf, ← htk]
  simp only [List.take_set]
end
end Go.Proofs.YtnffmbfdfhokeaaDoor
namespace Go.Proofs.YtnffmbfdfhokeaaDoor
open Go.RowKit Go.PlainAid

def waitsT (ops : Array Oper) : Nat → Nat → Nat → Bool
  | 0, _, _ => false
  | m + 1, f, i => match ops[f]? with
    | some o => o.after.toList.any fun e => Region.binds .any e && (Nat.beq e.on i || waitsT ops m e.on i)
    | none => false
def ClosedL (ops : Array Oper) (listed : Array Bool) : Prop := ∀ (j : Nat) (o : Oper), ops[j]? = some o → listed.getD j false = true → ∀ e ∈ o.after, Region.binds .any e = true → listed.getD e.on false = true
def closedB (ops : Array Oper) (listed : Array Bool) : Bool := (List.range ops.size).all fun j => match ops[j]? with
  | some o => !listed.getD j false || o.after.toList.all fun e => !Region.binds .any e || listed.getD e.on false
  | none => true
theorem closed_of {ops : Array Oper} {listed : Array Bool} (h : closedB ops listed = true) : ClosedL ops listed := fun j o ho hl e he hb => by
  have hj : j < ops.size := (Array.getElem?_eq_some_iff.1 ho).1
  have h1 := List.all_eq_true.1 h j (List.mem_range.2 hj)
  rw [ho] at h1
  dsimp only at h1
  rw [hl] at h1
  simp only [Bool.not_true, Bool.false_or] at h1
  have h2 := List.all_eq_true.1 h1 e (by simpa using he)
  rw [hb] at h2
  simpa using h2
theorem ClosedL.step {ops : Array Oper} {listed : Array Bool} (h : ClosedL ops listed) {i : Nat} (hi : i ∈ Region.ready .any ops listed) : ClosedL ops (listed.setIfInBounds i true) := fun j o ho hl e he hb => by
  by_cases hij : i = j
  · subst hij
    obtain ⟨_, o', ho', hall⟩ := mem_ready.1 hi
    rw [ho] at ho'; injection ho' with ho'; subst ho'
    exact getD_set_true (hall e he hb)
  · rw [getD_set_ne false hij] at hl
    exact getD_set_true (h j o ho hl e he hb)
theorem waitsT_listed {ops : Array Oper} {listed : Array Bool} (hc : ClosedL ops listed) : ∀ {m f i : Nat}, waitsT ops m f i = true → (∀ o, ops[f]? = some o → ∀ e ∈ o.after, Region.binds .any e = true → listed.getD e.on false = true) → listed.getD i false = true
  | 0, _, _, h, _ => by cases h
  | m + 1, f, i, h, hf => by
    unfold waitsT at h
    cases ho : ops[f]? with
    | none => rw [ho] at h; cases h
    | some o =>
      rw [ho] at h
      rw [List.any_eq_true] at h
      obtain ⟨e, he, h2⟩ := h
      rw [Bool.and_eq_true] at h2
      have hl := hf o ho e (by simpa using he) h2.1
      rcases (Bool.or_eq_true _ _).mp h2.2 with h3 | h3
      · rw [← Nat.eq_of_beq_eq_true h3]; exact hl
      · exact waitsT_listed hc h3 fun o' ho' e' he' hb' => hc e.on o' ho' hl e' he' hb'
section
variable {P : Program} {ops : Array Oper} {Q : Exit → Act → World → Prop} {U : World → Prop} {f : Nat}
theorem wpAnyF_firstT {i : Nat} {oi : Oper} {v : Value} {m : Nat} (hif : i ≠ f) (hwait : waitsT ops m f i = true) (hi : ops[i]? = some oi) (hsel : ∀ (j : Nat) (o : Oper) cs b, ops[j]? = some o → o.op ≠ .select cs b)
    (hQ : ∀ c a w, Q (.panic c) (a.put oi.dst v) w → Q (.panic c) a w) :
    ∀ (fuel : Nat) (listed : Array Bool) (a : Act) (w : World), ClosedL ops listed →
      (∀ j oj, ops[j]? = some oj → j ≠ i → listed.getD j true = false → (∀ e ∈ oj.after, Region.binds .any e = true → e.on ≠ i) → oi.apart ops oj = true) →
      i ∈ Region.ready .any ops listed → listed.getD f true = false → YieldsIf P ops U oi v a → U w →
      wpAnyF P .any ops Q f U fuel (listed.setIfInBounds i true) (a.put oi.dst v) w → wpAnyF P .any ops Q f U (fuel + 1) listed a w := by
  intro fuel
  induction fuel with
  | zero =>
    intro listed a w _ _ hr _ hy hS H
    refine ⟨fun h => (by rw [h] at hr; cases hr), fun j hj => ?_⟩
    by_cases hji : j = i
    · subst hji; exact hy.wpOp hi hS ⟨fun _ => hS, H⟩
    · have := ready_mono hj hji
      rw [H.1] at this
      cases this
  | succ fuel ih =>
    intro listed a w hcl hfree hr hf hy hS H
    refine ⟨fun h => (by rw [h] at hr; cases hr), fun j hj => ?_⟩
    by_cases hji : j = i
    · subst hji; exact hy.wpOp hi hS ⟨fun _ => hS, H⟩
    · have h1 := H.2 j (ready_mono hj hji)
      obtain ⟨hjun, oj, hoj, hall⟩ := mem_ready.1 hj
      have h0 := (mem_ready.1 hr).1
      have hlt : i < listed.size := by
        rcases Nat.lt_or_ge i listed.size with h' | h'
        · exact h'
        · simp [Array.getElem?_eq_none h'] at h0
      have h00 : listed.getD i false = false := by simpa [hlt] using h0
      have hun : ∀ e ∈ oj.after, Region.binds .any e = true → e.on ≠ i := fun e he hb heq => by
        have h1 := hall e he hb
        rw [heq, h00] at h1; cases h1
      have hjf : j ≠ f := fun e => by
        subst e
        have := waitsT_listed hcl hwait fun o' ho' e' he' hb' => by
          rw [hoj] at ho'; injection ho' with ho'; subst ho'
          exact hall e' he' hb'
        rw [h00] at this; cases this
      have h2 := wpOp_putIf hoj (hfree j oj hoj hji hjun hun) (fun cs b => hsel i oi cs b hi) (fun cs b => hsel j oj cs b hoj) hQ hy h1
      have hfree' : ∀ k ok, ops[k]? = some ok → k ≠ i → (listed.setIfInBounds j true).getD k true = false →
          (∀ e ∈ ok.after, Region.binds .any e = true → e.on ≠ i) → oi.apart ops ok = true := fun k ok hk hki hun hno => by
        refine hfree k ok hk hki ?_ hno
        by_cases hjk : j = k
        · subst hjk; exact hjun
        · rw [getD_set_ne true hjk] at hun; exact hun
      refine wpOp_mono (fun a' w' h3 => ?_) h2
      have hU' : U w' := h3.2.1 (by rw [getD_set_ne true hjf, getD_set_ne true hif]; exact hf)
      refine ⟨fun _ => hU', ih (listed.setIfInBounds j true) a' w' (hcl.step hj) hfree' (ready_mono hr (Ne.symm hji)) (by rw [getD_set_ne true hjf]; exact hf) h3.1 hU' ?_⟩
      rw [Array.setIfInBounds_comm _ _ hji]
      exact h3.2.2
end
section
variable {n : Nat} {l : Fr} {P : Program} {w : World} {Q : Exit → Act → World → Prop} {ops : Array Oper} {U : World → Prop} {fuel : Nat} {listed : Array Bool} {f : Nat}
theorem fw_takeT (i m : Nat) {d : Nat} {op : Op} {ty : TypeId} {pos : String} {af : Array Edge} {v : Value} (ho : ops[i]? = some ⟨some d, op, ty, pos, af, none⟩) (hwt : waitsT ops m f i = true) (hcl : closedB ops listed = true) (hif : Nat.beq i f = false) (hfl : listed.getD f true = false)
    (hs : Region.noSelect ops = true) (hf : Region.free .any ops listed i = true) (hr : (Region.ready .any ops listed).contains i = true) (hQ : NoPanic Q) (hU : U w) (hd : Nat.blt d n = true)
    (hv : ∀ w, U w → Pv P n l ⟨some d, op, ty, pos, af, none⟩ v w) (h : FW P n ops Q f U fuel (listed.setIfInBounds i true) ((d, v) :: l) w) : FW P n ops Q f U (fuel + 1) listed l w := ⟨fun a ha =>
  wpAnyF_firstT (fun e => by subst e; simp at hif) hwt ho (Region.noSelect_spec hs) (fun c a w => hQ c _ v a w) fuel listed a w (closed_of hcl) (Region.free_spec ho hf) (by simpa using hr) hfl (Or.inl ⟨rfl, fun w hw => (hv w hw).out a ha⟩) hU (h.out _ (ha.put hd v))⟩
theorem fw_one (i : Nat) {o : Oper} (hr : Region.ready .any ops listed = [i]) (ho : ops[i]? = some o) (hg : guardOn ops l o.guard = true) (hd : inD o.dst n = true) (hfs : (listed.setIfInBounds i true).getD f true = true)
    (h : Act1 P n l o w fun v w' => FW P n ops Q f U fuel (listed.setIfInBounds i true) (putD o.dst v l) w') : FW P n ops Q f U (fuel + 1) listed l w := ⟨fun a ha => by
  refine ⟨fun h0 => (by rw [hr] at h0; cases h0), fun j hj => ?_⟩
  rw [hr, List.mem_singleton] at hj; subst hj
  unfold wpOp; rw [ho]
  dsimp only
  rw [if_pos (wanted_of ha hg)]
  exact Or.inl (h.out a ha _ _ fun v w' hZ => ⟨fun hf => (by rw [hfs] at hf; cases hf), hZ.out _ (ha.putD hd v)⟩)⟩
theorem fw_done (hr : Region.ready .any ops listed = []) (h : QW n Q .normal l w) : FW P n ops Q f U fuel listed l w := ⟨fun a ha => by
  cases fuel with
  | zero => exact ⟨hr, h.out a ha⟩
  | succ m => exact ⟨fun _ => h.out a ha, by rw [hr]; simp⟩⟩
end
section
variable {P : Program} {n : Nat} {l : Fr} {w : World} {d : Option Nat} {t t' ty : TypeId} {x y : Operand} {pos : String} {af : Array Edge} {g : Option (Nat × Bool)} {a b : Int}
theorem u64_in (a : Int) (h : 0 ≤ a ∧ a ≤ 18446744073709551615) : IntKind.u64.wrap a = a := by
  rw [IntKind.wrap_u64]; omega
theorem pv_addu (hx : ev l x = some (.int .u64 a)) (hy : ev l y = some (.int .u64 b)) (h : 0 ≤ a + b ∧ a + b ≤ 18446744073709551615) : Pv P n l ⟨d, .binOp .add t x y t', ty, pos, af, g⟩ (.int .u64 (a + b)) w := by
  have := pv_add_w (P := P) (n := n) (w := w) (d := d) (ty := ty) (pos := pos) (af := af) (g := g) (t := t) (t' := t') hx hy
  rwa [u64_in _ h] at this
theorem pv_mulu (hx : ev l x = some (.int .u64 a)) (hy : ev l y = some (.int .u64 b)) (h : 0 ≤ a * b ∧ a * b ≤ 18446744073709551615) : Pv P n l ⟨d, .binOp .mul t x y t', ty, pos, af, g⟩ (.int .u64 (a * b)) w := by
  have := pv_mul_w (P := P) (n := n) (w := w) (d := d) (ty := ty) (pos := pos) (af := af) (g := g) (t := t) (t' := t') hx hy
  rwa [u64_in _ h] at this
theorem pv_convu (ht : cvB P t t' .u64 = true) {k : IntKind} (hx : ev l x = some (.int k a)) (h : 0 ≤ a ∧ a ≤ 18446744073709551615) : Pv P n l ⟨d, .convert t t' x, ty, pos, af, g⟩ (.int .u64 a) w := by
  have := pv_conv_w (P := P) (n := n) (w := w) (d := d) (ty := ty) (pos := pos) (af := af) (g := g) ht hx
  rwa [u64_in _ h] at this
theorem u64_and32 (n : Int) : bits .and .u64 n 4294967295 = n % 4294967296 := by
  have h127 : (BitVec.ofInt 64 4294967295).toNat = 2 ^ 32 - 1 := by decide
  have key : (BitVec.ofInt 64 n &&& BitVec.ofInt 64 4294967295).toNat = (n % ((2 ^ 64 : Nat) : Int)).toNat % 2 ^ 32 := by
    rw [BitVec.toNat_and, BitVec.toNat_ofInt, h127, Nat.and_two_pow_sub_one_eq_mod]
  show IntKind.u64.wrap ((BitVec.ofInt 64 n &&& BitVec.ofInt 64 4294967295).toNat : Nat) = n % 4294967296
  rw [key, IntKind.wrap_u64]
  omega
theorem pv_and32u (hx : ev l x = some (.int .u64 a)) (hy : ev l y = some (.int .u64 4294967295)) : Pv P n l ⟨d, .binOp .and t x y t', ty, pos, af, g⟩ (.int .u64 (a % 4294967296)) w := ⟨fun A hA => by
  have h : (Op.intBits .and .u64 a 4294967295 : Sem Value) = pure (.int .u64 (a % 4294967296)) := by rw [← u64_and32 a]; rfl
  simp [execOp, hA.ev hx, hA.ev hy, eqGuard, binOp, h]⟩
theorem pv_shr32u {k' : IntKind} (hx : ev l x = some (.int .u64 a)) (hy : ev l y = some (.int k' 32)) : Pv P n l ⟨d, .binOp .shr t x y t', ty, pos, af, g⟩ (.int .u64 (a / 4294967296)) w := by
  have h := pv_shr (P := P) (n := n) (w := w) (d := d) (ty := ty) (pos := pos) (af := af) (g := g) (t := t) (t' := t') hx hy (by omega)
  have e : a.fdiv (2 ^ (min (32 : Int).toNat IntKind.u64.bits)) = a / 4294967296 := by
    rw [show ((2 : Int) ^ (min (32 : Int).toNat IntKind.u64.bits)) = 4294967296 by decide, Int.fdiv_eq_ediv_of_nonneg _ (by omega)]
  rwa [e] at h
theorem pv_half {k k' : IntKind} {m q : Nat} (hx : ev l x = some (.int k a)) (hy : ev l y = some (.int k' 1)) (ha : a = (m : Int)) (hq : m / 2 = q) (hk : 1 ≤ k.bits) : Pv P n l ⟨d, .binOp .shr t x y t', ty, pos, af, g⟩ (.int k (q : Nat)) w := by
  have h := pv_shr (P := P) (n := n) (w := w) (d := d) (ty := ty) (pos := pos) (af := af) (g := g) (t := t) (t' := t') hx hy (by omega)
  have e : a.fdiv (2 ^ (min (1 : Int).toNat k.bits)) = (q : Nat) := by
    rw [show min (1 : Int).toNat k.bits = 1 by have : (1 : Int).toNat = 1 := rfl; omega, Int.fdiv_eq_ediv_of_nonneg _ (by decide), ha, ← hq]
    omega
  rwa [e] at h
end
end Go.Proofs.YtnffmbfdfhokeaaDoor
namespace Go.Proofs.YtnffmbfdfhokeaaDoor
open Go.RowKit Go.PlainAid Go.Maps Go.WideMaps

def In64N (l : List Ln) : Prop := ∀ x ∈ l, (-9223372036854775808 ≤ x.acct ∧ x.acct ≤ 9223372036854775807) ∧ (-9223372036854775808 ≤ x.seq ∧ x.seq ≤ 9223372036854775807) ∧ (-9223372036854775808 ≤ x.delta ∧ x.delta ≤ 9223372036854775807) ∧ (-9223372036854775808 ≤ x.bal ∧ x.bal ≤ 9223372036854775807)
abbrev KI := { n : Int // -9223372036854775808 ≤ n ∧ n ≤ 9223372036854775807 }
def kI (q : KI) : Value := .int .i64 q.1
def vI (n : Int) : Value := .int .i64 n
theorem wf64 {n : Int} (h : -9223372036854775808 ≤ n ∧ n ≤ 9223372036854775807) : (Lit.int .i64 n).wf = true := by
  simp only [Lit.wf, Bool.and_eq_true, decide_eq_true_eq]
  exact h
theorem keyI : KeyE Tryd.prog 3 kI := ⟨int_keyed Tryd.underlying3, fun q => ⟨_, keyOf_int_mk Tryd.underlying3 (wf64 q.2)⟩, fun a b h => by
  simp only [kI, Value.int.injEq, true_and] at h
  exact Subtype.ext h⟩
theorem zI (w : World) : (zeroValue 2).run Tryd.prog w = .ok (vI 0) w := by kernel_rfl
def LastM (m : List (KI × Int)) (l : List Ln) : Prop := ∀ q : KI, (getM m q).getD 0 = balL l q.1
theorem LastM.put {m : List (KI × Int)} {l : List Ln} {x : Ln} (h : LastM m l) {q : KI} (hq : x.acct = q.1) : LastM (putM m q x.bal) (l ++ [x]) := by
  intro p
  rw [getM_put, balL_snoc]
  by_cases hp : p = q
  · subst hp; rw [if_pos rfl, if_pos hq]; rfl
  · rw [if_neg hp, if_neg (fun e => hp (Subtype.ext (by omega)))]; exact h p
theorem tailM {l : List Ln} {k : Nat} {x : Ln} (h : l[k]? = some x) : l.take (k + 1) = l.take k ++ [x] := by rw [List.take_add_one, h]; rfl
set_option maxRecDepth 20000 in
set_option maxHeartbeats 4000000 in
theorem mayL_c {l : List Ln} {m : Nat} {ad : Option Addr} {cap : Nat} {w : World} (hm : l.length = m) (HS : SlR encN 5 w ad cap l) (hin : In64N l) : Calls Tryd.prog 13 #[.slice ad m cap] w fun e w' => e = .returned (.bool (mayLn l)) ∧ Below w.heap.size w w' := by
  subst hm
  have hw := Below.refl w.heap.size w
  have hla := HS.le
  have hma := HS.max
  have HS0 := HS
  refine fn_enter 81 Tryd.func13 rfl rfl rfl ?_
  repeat' (first | (refine lw_pure rfl (pv_move rfl) ?_) | (refine lw_pure rfl (pv_assign rfl) ?_) | (refine lw_makeMap kI vI rfl ?_; intro M wm hM HM hb; replace hw := grow_trans hw hb; clear hb) | (refine is_cw ?_; first | (refine cw_seq ?_) | (refine cw_region ?_) | (refine cw_block ?_)) | (refine is_qw ?_; first | (with_reducible refine qw_then ?_)) | (refine lw_nil ?_) | ((refine is_bi ?_; first | (refine lw_pure rfl (pv_lenl (tS rfl) rfl) ?_))))
  refine cw_loop (σ := Nat × Int × List (KI × Int)) (fun s => [(0, .slice ad l.length cap), (3, .map (some M)), (4, .int .i64 s.2.1), (10, .slice ad l.length cap), (11, .int .i64 (l.length : Nat)), (12, .int .i64 (s.1 : Nat))]) (fun s wr => s.1 ≤ l.length ∧ Below w.heap.size w wr ∧ Mp kI vI wr M s.2.2 ∧ LastM s.2.2 (l.take s.1) ∧ mayLn (l.take s.1) = true ∧ s.2.1 = seqL (l.take s.1)) (fun s => l.length - s.1) (0, 0, []) (by repeat' (first | exact trivial | refine ⟨rfl, ?_⟩)) ⟨Nat.zero_le _, hw, HM, fun q => by simp [getM, balL_nil], by rw [List.take_zero]; rfl, by rw [List.take_zero]; rfl⟩ ?_
  clear hw HM
  rintro ⟨k, sq, m⟩ wr ⟨hk, hw, HM, hl, hn, hsq⟩
  replace hsq : sq = seqL (l.take k) := hsq
  replace hk : k ≤ l.length := hk
  replace hn : mayLn (l.take k) = true := hn
  replace hl : LastM m (l.take k) := hl
  replace HM : Mp kI vI wr M m := HM
  by_cases hlt : k < l.length
  · have hxk : l[k]? = some l[k] := List.getElem?_eq_getElem hlt
    obtain ⟨ab, ao, rfl, -, -⟩ := HS0.at (by intro h; rw [h] at hlt; simp at hlt)
    have hxin := hin _ (List.getElem_mem hlt)
    generalize l[k] = x at hxk hxin
    have hno : ¬ OkLn (l.take k) x → mayLn l = false := fun h => mayLn_no hxk h
    have hbal := bal_in hn x.acct
    have hlq := hl ⟨x.acct, hxin.1⟩
    have hw0 := hw
    replace HS := HS.mono hw
    clear hw
    have hw := Below.refl wr.heap.size wr
    repeat' (first | (refine is_cw ?_; first | (refine cw_seq ?_) | (refine cw_region ?_) | (refine is_cd ?_; refine cw_true rfl (by first | assumption | exact decide_eq_true (by omega) | exact dec_notT (by omega)) ?_) | (refine cw_skip ?_) | (refine cw_block ?_)) | (refine is_qw ?_; first | (with_reducible refine qw_then ?_)) | (refine lw_nil ?_) | ((refine is_bin ?_; first | (refine lw_pure rfl (pv_lss rfl rfl) ?_))) | ((refine is_load ?_; first | (refine lw_pure rfl (pv_loada (tA rfl) rfl (by first | exact SlR.lda (HS.mono hw) hxk) (by rfl)) ?_))) | ((refine is_ia ?_; first | (refine lw_pure rfl (pv_ian (tS rfl) rfl rfl (by omega)) ?_))))
    refine lw_varN rfl (by first | exact tyv_29 | exact tyv_30 | exact tyv_34 | exact tyv_35 | exact tyv_37 | exact tyv_43 | exact tyv_53 | exact tyv_54 | exact tyv_55 | exact tyv_56 | exact tyv_112 | exact tyv_113 | exact tyv_121 | exact tyv_122) rfl (tZ rfl) (fun _ => rfl) rfl rfl ?_; intro N6 wn hN6 HX hb; replace hN6 := Nat.le_trans hw.size hN6; replace hw := grow_trans hw hb; clear hb
    have hwx := hw0.trans (hw.mono hw0.size)
    have hMlt := HM.bound
    replace HM := HM.mono hw
    clear hw hw0
    have hw := Below.refl wn.heap.size wn
    repeat' (first | (refine lw_pure rfl (pv_move rfl) ?_) | (refine lw_pure rfl (pv_lookupM (k := (⟨x.acct, hxin.1⟩ : KI)) Tryd.underlying67 keyI zI rfl rfl (HM.mono hw)) ?_) | (refine is_cw ?_; first | (refine cw_seq ?_) | (refine cw_region ?_)) | (refine is_qw ?_; first | (with_reducible refine qw_then ?_)) | (refine lw_nil ?_) | ((refine is_load ?_; first | (refine lw_pure rfl (pv_load (t1 rfl) rfl (by first | exact PT.ld0 (HX.mono hw) rfl | exact PT.ld (HX.mono hw) rfl)) ?_))) | ((refine is_fa ?_; first | (refine lw_pure rfl (pv_fa (tF rfl) rfl) ?_))))
    refine lw_call (f := 26) (by kernel_rfl) rfl rfl (madd_c ((getM m (⟨x.acct, hxin.1⟩ : KI)).getD 0) x.delta wn (by rw [hlq]; show _ ≤ balL (l.take k) x.acct ∧ balL (l.take k) x.acct ≤ _; omega) hxin.2.2.1) ?_; rintro e w1 ⟨rfl, hb⟩; refine ⟨_, rfl, ?_⟩
    rw [hlq]
    replace hwx := grow_trans hwx hb
    replace HX := HX.mono hb
    replace HM := HM.mono hb
    clear hb hw
    have hw := Below.refl w1.heap.size w1
    show LW _ _ _ _ _ _ _
    generalize hz : balL (l.take k) x.acct + x.delta = z
    have hno7 : ¬ ((1 ≤ x.acct ∧ x.acct ≤ 64) ∧ (0 ≤ x.seq ∧ x.seq < 1048576) ∧ seqL (l.take k) ≤ x.seq) → mayLn l = false := fun h => hno fun H => h ⟨H.1, H.2.1, H.2.2.1⟩
    have hno8 : ¬ (kindB x.kind = true ∧ x.delta ≠ 0 ∧ (0 ≤ x.bal ∧ x.bal ≤ 1125899906842624)) → mayLn l = false := fun h => hno fun H => h ⟨H.2.2.2.1, H.2.2.2.2.1, H.2.2.2.2.2.1⟩
    have hno9 : ¬ z = x.bal → mayLn l = false := fun h => hno fun H => h (by rw [← hz]; exact H.2.2.2.2.2.2)
    repeat' (first | (refine lw_pure rfl (pv_move rfl) ?_) | (refine lw_pure rfl (pv_assign rfl) ?_) | (refine lw_call (f := 23) (by kernel_rfl) rfl rfl (batch_c _ _) ?_; rintro e w2 ⟨rfl, hb2⟩; refine ⟨_, rfl, ?_⟩; replace hw := grow_trans hw hb2; clear hb2) | (refine is_cw ?_; first | (refine cw_seq ?_) | (refine cw_region ?_) | (refine cw_true rfl rfl ?_) | (refine cw_skip ?_) | (refine cw_block ?_) | (refine cw_exit ?_) | (refine cw_ret ?_)) | (refine is_qw ?_; first | (with_reducible refine qw_then ?_) | (with_reducible refine qw_in ?_) | (with_reducible refine qw_in_hit ?_) | (with_reducible refine qw_then_exit ?_) | (with_reducible refine qw_then_ret ?_) | (with_reducible refine qw_in_ret ?_)) | (refine lw_nil ?_) | (refine is_guarded ?_; first | (refine lw_not rfl rfl rfl rfl ?_) | (refine lw_on rfl rfl (by first | assumption | exact decide_eq_true (by omega) | exact decide_eq_false (by omega) | exact dec_notT (by omega) | exact dec_notF (by omega)) ?_) | (refine lw_not rfl rfl rfl (by first | assumption | exact decide_eq_true (by omega) | exact decide_eq_false (by omega) | exact dec_notT (by omega) | exact dec_notF (by omega)) ?_) | (refine lw_gs_f rfl rfl rfl (fun hc => ?_) (fun hc => ?_) <;> (first | replace hc := of_decide_eq_true hc | replace hc := of_decide_eq_false hc | replace hc := dec_nT hc | replace hc := dec_nF hc | skip) <;> (try (exfalso; omega)))) | ((refine is_bin ?_; first | (refine lw_pure rfl (pv_lss rfl rfl) ?_) | (refine lw_pure rfl (pv_gtr rfl rfl) ?_))) | ((refine is_load ?_; first | (refine lw_pure rfl (pv_load (t1 rfl) rfl (by first | exact PT.ld0 (HX.mono hw) rfl | exact PT.ld (HX.mono hw) rfl)) ?_))) | ((refine is_fa ?_; first | (refine lw_pure rfl (pv_fa (tF rfl) rfl) ?_))) | ((refine is_un ?_; first | (refine lw_pure rfl (pv_not rfl) ?_))) | (refine is_pk ?_; refine lw_pure rfl (pv_pick_t rfl rfl rfl) ?_) | (refine is_pk ?_; refine lw_pure rfl (pv_pick_t rfl (by first | assumption | exact decide_eq_true (by omega) | exact dec_notT (by omega)) rfl) ?_) | (refine is_pk ?_; refine lw_pure rfl (pv_pick_f rfl (by first | assumption | exact decide_eq_false (by omega) | exact dec_notF (by omega)) rfl) ?_) | (refine lw_pure rfl (pv_extract rfl rfl) ?_) | (refine is_cw ?_; refine cw_split rfl (fun hc => ?_) (fun hc => ?_) <;> (first | replace hc := of_decide_eq_true hc | replace hc := of_decide_eq_false hc | replace hc := dec_nT hc | replace hc := dec_nF hc | skip) <;> (try (exfalso; omega))))
    all_goals first | (refine qw_ret1 rfl rfl ⟨ret_bool (hno7 ?_).symm, grow_trans hwx hw⟩; first | omega | (simp at *; omega)) | skip
    have h7 : (1 ≤ x.acct ∧ x.acct ≤ 64) ∧ (0 ≤ x.seq ∧ x.seq < 1048576) ∧ seqL (l.take k) ≤ x.seq := by first | omega | (simp at *; omega)
    refine cw_drawn (fun w' => Below w1.heap.size w1 w') (by kernel_rfl) (by repeat (first | exact NoPanic.body | with_reducible refine NoPanic.then ?_ | with_reducible refine NoPanic.inBlock ?_)) (fun hNP => ?_)
    have hS := hw.drew
    all_goals (refine at0 1 rfl (fun w' hq => pv_fa (tF rfl) rfl) ?_)
    all_goals (refine at0 2 rfl (fun w' hq => pv_load (t1 rfl) rfl (by first | exact PT.ld0 (HX.mono hq) rfl | exact PT.ld (HX.mono hq) rfl)) ?_)
    all_goals (refine aw_act 0 (by kernel_rfl) rfl rfl rfl ?_; refine act_call (f := 29) (by kernel_rfl) rfl (kinds_c _) ?_; rintro e w3 ⟨⟨N, rfl, HK⟩, hb⟩; refine ⟨_, rfl, grow_trans hS hb, fun hS => ?_⟩; clear hb)
    all_goals (refine aw_act 3 (by kernel_rfl) rfl rfl rfl ?_; refine act_call (f := 28) (by kernel_rfl) rfl (containsK_c x.kind HK) ?_; rintro e w4 ⟨rfl, hb⟩; refine ⟨_, rfl, grow_trans hS hb, fun hS => ?_⟩; clear hb)
    all_goals (refine at0 4 rfl (fun w' hq => pv_not rfl) ?_)
    all_goals (refine at0 5 rfl (fun w' hq => pv_move rfl) ?_)
    all_goals (refine aw_gs 6 rfl rfl rfl (by kernel_rfl) (by kernel_rfl) (by kernel_rfl) hNP hS rfl (fun hc w' hq => pv_fa (tF rfl) rfl) (fun hc => ?_) (fun hc => ?_) <;> (first | replace hc := of_decide_eq_true hc | replace hc := of_decide_eq_false hc | replace hc := dec_nT hc | replace hc := dec_nF hc | skip) <;> (try (exfalso; omega)))
    all_goals first | (refine an2 7 rfl rfl rfl ?_) | (refine at2 7 rfl rfl rfl (fun w' hq => pv_load (t1 rfl) rfl (by first | exact PT.ld0 (HX.mono hq) rfl | exact PT.ld (HX.mono hq) rfl)) ?_)
    all_goals first | (refine an2 8 rfl rfl rfl ?_) | (refine at2 8 rfl rfl rfl (fun w' hq => pv_eql rfl rfl) ?_)
    all_goals first | (refine at0 9 rfl (fun w' hq => pv_pick_t rfl (by first | assumption | exact decide_eq_true (by omega) | exact dec_notT (by omega)) rfl) ?_) | (refine at0 9 rfl (fun w' hq => pv_pick_f rfl (by first | assumption | exact decide_eq_false (by omega) | exact dec_notF (by omega)) rfl) ?_)
    all_goals (refine at0 10 rfl (fun w' hq => pv_move rfl) ?_)
    all_goals first | (refine an1 11 rfl rfl rfl rfl ?_) | (refine aw_gs 11 rfl rfl rfl (by kernel_rfl) (by kernel_rfl) (by kernel_rfl) hNP hS rfl (fun hc w' hq => pv_fa (tF rfl) rfl) (fun hc => ?_) (fun hc => ?_) <;> (first | replace hc := of_decide_eq_true hc | replace hc := of_decide_eq_false hc | replace hc := dec_nT hc | replace hc := dec_nF hc | skip) <;> (try (exfalso; omega)))
    all_goals first | (refine an1 12 rfl rfl rfl rfl ?_) | (refine an2 12 rfl rfl rfl ?_) | (refine at2 12 rfl rfl rfl (fun w' hq => pv_load (t1 rfl) rfl (by first | exact PT.ld0 (HX.mono hq) rfl | exact PT.ld (HX.mono hq) rfl)) ?_)
    all_goals first | (refine an3 13 rfl rfl rfl ?_) | (refine an0 13 rfl rfl rfl ?_) | (refine aw_act_g 13 (by kernel_rfl) rfl rfl rfl (by first | rfl | assumption | exact decide_eq_true (by omega) | exact decide_eq_false (by omega) | exact dec_notT (by omega) | exact dec_notF (by omega)) rfl ?_; refine act_call (f := 27) (by kernel_rfl) rfl (fitsL_c _ _) ?_; rintro e w5 ⟨rfl, hb⟩; refine ⟨_, rfl, grow_trans hS hb, fun hS => ?_⟩; clear hb)
    all_goals first | (refine an1 14 rfl rfl rfl rfl ?_) | (refine an2 14 rfl rfl rfl ?_) | (refine at2 14 rfl rfl rfl (fun w' hq => pv_not rfl) ?_)
    all_goals first | (refine at0 15 rfl (fun w' hq => pv_pick_t rfl rfl rfl) ?_) | (refine at0 15 rfl (fun w' hq => pv_pick_t rfl (by first | assumption | exact decide_eq_true (by omega) | exact dec_notT (by omega)) rfl) ?_) | (refine at0 15 rfl (fun w' hq => pv_pick_f rfl (by first | assumption | exact decide_eq_false (by omega) | exact dec_notF (by omega)) rfl) ?_)
    all_goals (refine at0 16 rfl (fun w' hq => pv_assign rfl) ?_)
    all_goals (refine aw_done (by kernel_rfl) ?_; replace hw := hS; clear hS hNP)
    have hA : z = x.bal → (0 ≤ x.bal ∧ x.bal ≤ 1125899906842624) → toldE z = 0 ∧ toldN z = x.bal := fun e h => by
      have : farS z = false := by rw [e]; unfold farS; simp; omega
      unfold toldN toldE; rw [this]; exact ⟨rfl, e⟩
    have hB : toldE z = 0 → toldN z = z := fun e => by
      unfold toldE at e; unfold toldN
      split at e
      · cases e
      · rename_i h; rw [if_neg h]
    all_goals repeat' (first | (refine lw_pure rfl (pv_move rfl) ?_) | (refine lw_pure rfl (pv_assign rfl) ?_) | (refine is_cw ?_; first | (refine cw_seq ?_) | (refine cw_region ?_) | (refine cw_true rfl rfl ?_) | (refine cw_skip ?_) | (refine cw_exit ?_) | (refine cw_ret ?_)) | (refine is_qw ?_; first | (with_reducible refine qw_then ?_) | (with_reducible refine qw_in ?_) | (with_reducible refine qw_in_hit ?_) | (refine qw_in_miss rfl ?_) | (with_reducible refine qw_then_exit ?_) | (with_reducible refine qw_then_ret ?_) | (with_reducible refine qw_in_ret ?_)) | (refine lw_nil ?_) | (refine is_guarded ?_; first | (refine lw_on rfl rfl (by first | assumption | exact decide_eq_true (by omega) | exact decide_eq_false (by omega) | exact dec_notT (by omega) | exact dec_notF (by omega)) ?_) | (refine lw_not rfl rfl rfl (by first | assumption | exact decide_eq_true (by omega) | exact decide_eq_false (by omega) | exact dec_notT (by omega) | exact dec_notF (by omega)) ?_) | (refine lw_gs_f rfl rfl rfl (fun hc => ?_) (fun hc => ?_) <;> (first | replace hc := of_decide_eq_true hc | replace hc := of_decide_eq_false hc | replace hc := dec_nT hc | replace hc := dec_nF hc | skip) <;> (try (exfalso; omega)))) | ((refine is_bin ?_; first | (refine lw_pure rfl (pv_neq rfl rfl) ?_))) | ((refine is_load ?_; first | (refine lw_pure rfl (pv_load (t1 rfl) rfl (by first | exact PT.ld0 (HX.mono hw) rfl | exact PT.ld (HX.mono hw) rfl)) ?_))) | ((refine is_fa ?_; first | (refine lw_pure rfl (pv_fa (tF rfl) rfl) ?_))) | (refine is_pk ?_; refine lw_pure rfl (pv_pick_t rfl (by first | assumption | exact decide_eq_true (by omega) | exact dec_notT (by omega)) rfl) ?_) | (refine is_pk ?_; refine lw_pure rfl (pv_pick_f rfl (by first | assumption | exact decide_eq_false (by omega) | exact dec_notF (by omega)) rfl) ?_) | (refine is_cw ?_; refine cw_split rfl (fun hc => ?_) (fun hc => ?_) <;> (first | replace hc := of_decide_eq_true hc | replace hc := of_decide_eq_false hc | replace hc := dec_nT hc | replace hc := dec_nF hc | skip) <;> (try (exfalso; omega))))
    all_goals first | (refine qw_ret1 rfl rfl ⟨ret_bool (hno8 ?_).symm, grow_trans hwx hw⟩; unfold kindB; first | omega | (simp at *; omega)) | (refine qw_ret1 rfl rfl ⟨ret_bool (hno9 (fun e => ?_)).symm, grow_trans hwx hw⟩; have hA := hA e (by assumption); omega) | skip
    have h8 : OkLn (l.take k) x := by
      refine ⟨h7.1, h7.2.1, h7.2.2, ?_, by assumption, by assumption, ?_⟩
      · unfold kindB; exact decide_eq_true (by assumption)
      · have hB := hB (by assumption); rw [hz]; omega
    have hwy := hwx.trans (hw.mono hwx.size)
    have hMw : M < w5.heap.size := by have := hw.size; have := HM.bound; omega
    replace HX := HX.mono hw
    replace HM := HM.mono hw
    have hMN : N6 ≠ M := by omega
    have e4 : seqL (l.take (k + 1)) = x.seq := by rw [tailM hxk, seqL_snoc]
    clear hw hA hB hno hno7 hno8 hno9
    have hw := Below.refl w5.heap.size w5
    refine cw_drawn (fun w' => PT w' N6 30 (encN x)) (by kernel_rfl) (by repeat (first | exact NoPanic.body | with_reducible refine NoPanic.then ?_ | with_reducible refine NoPanic.inBlock ?_)) (fun hNP => ?_)
    have hS := HX.mono (below_drew _)
    (refine at0 0 rfl (fun w' hq => pv_move rfl) ?_)
    (refine at0 1 rfl (fun w' hq => pv_fa (tF rfl) rfl) ?_)
    (refine at0 2 rfl (fun w' hq => pv_load (t1 rfl) rfl (by first | exact PT.ld0 hq rfl | exact PT.ld hq rfl)) ?_)
    (refine at0 3 rfl (fun w' hq => pv_fa (tF rfl) rfl) ?_)
    (refine at0 4 rfl (fun w' hq => pv_load (t1 rfl) rfl (by first | exact PT.ld0 hq rfl | exact PT.ld hq rfl)) ?_)
    (refine at0 5 rfl (fun w' hq => pv_fa (tF rfl) rfl) ?_)
    (refine at0 6 rfl (fun w' hq => pv_load (t1 rfl) rfl (by first | exact PT.ld0 hq rfl | exact PT.ld hq rfl)) ?_)
    refine aw_act 7 (by kernel_rfl) rfl rfl rfl ?_
    refine act_svs (some_updateM (k := (⟨x.acct, hxin.1⟩ : KI)) (v := x.bal) Tryd.underlying67 keyI rfl rfl rfl (HM.mono (below_drew _))) ?_; rintro w6 ⟨HM6, hg6, hz6⟩; have hwz := (grow_trans hwy hw.drew).grown hg6 (by have := hwy.size; have := hw.drew.size; omega) (fun q e => by injection e with e; omega); refine ⟨(hg6.block N6 (HX.mono (below_drew _)).lt (fun e => by injection e with e; omega)).trans (HX.mono (below_drew _)), fun hS => ?_⟩
    (refine at0 8 rfl (fun w' hq => pv_assign rfl) ?_)
    refine aw_done (by kernel_rfl) ?_
    replace HX6 := hS; clear hS hNP
    clear hw
    have hw := Below.refl w6.heap.size w6
    repeat' (first | (refine lw_pure rfl (pv_move rfl) ?_) | (refine is_cw ?_; first | (refine cw_region ?_)) | (refine is_qw ?_; first | (with_reducible refine qw_then ?_) | (with_reducible refine qw_in ?_)) | (refine lw_nil ?_) | ((refine is_bin ?_; first | (refine lw_pure rfl (pv_inc rfl rfl (by omega)) ?_))))
    refine qw_round (k + 1, x.seq, _) (by repeat' (first | exact trivial | refine ⟨rfl, ?_⟩)) ⟨by show k + 1 ≤ _; omega, hwz, HM6, ?_, ?_, e4.symm⟩ (by show l.length - (k + 1) < l.length - k; omega)
    · show LastM _ (l.take (k + 1))
      rw [tailM hxk]; exact hl.put rfl
    · show mayLn (l.take (k + 1)) = true
      rw [tailM hxk]; exact mayLn_snoc hn h8
  · have hkl : k = l.length := by omega
    subst hkl
    rw [List.take_length] at hn
    repeat' (first | (refine lw_pure rfl (pv_assign rfl) ?_) | (refine is_cw ?_; first | (refine cw_seq ?_) | (refine cw_region ?_) | (refine is_cd ?_; refine cw_false rfl (by first | assumption | exact decide_eq_false (by omega) | exact dec_notF (by omega)) ?_) | (refine cw_exit ?_) | (refine cw_ret ?_)) | (refine is_qw ?_; first | (with_reducible refine qw_then ?_) | (with_reducible refine qw_in_hit ?_) | (with_reducible refine qw_then_exit ?_)) | (refine lw_nil ?_) | ((refine is_bin ?_; first | (refine lw_pure rfl (pv_lss rfl rfl) ?_))))
    exact qw_ret1 rfl rfl ⟨by rw [hn], hw⟩
end Go.Proofs.YtnffmbfdfhokeaaDoor
namespace Go.Proofs.YtnffmbfdfhokeaaDoor
open Go.ChangeShapes Go.WideShapes Go.ChangeAt Go.RowKit Go.Deep Go.WideElems Go.Joins
section
variable {H : Type} {enc : TypeId × Value → H} {W : World} {base : Nat} {sp : Nat → Bool} {held : Bool} {b0 : Nat} {v : Value} {d : DataW H} {p : List MemPlace}
abbrev LnIn (x : Ln) : Prop := (-9223372036854775808 ≤ x.acct ∧ x.acct ≤ 9223372036854775807) ∧ (-9223372036854775808 ≤ x.seq ∧ x.seq ≤ 9223372036854775807) ∧ (-9223372036854775808 ≤ x.delta ∧ x.delta ≤ 9223372036854775807) ∧ (-9223372036854775808 ≤ x.bal ∧ x.bal ≤ 9223372036854775807)
set_option maxRecDepth 20000 in
theorem line_dec (n : Nat) (cs : List Value) (y : DataW H × List MemPlace) (h : DataW.trod enc Tryd.prog W base sp held n 30 cs = some y) : ∃ r : Ln, cs = encN r ∧ LnIn r := by
  obtain ⟨xs, m, _, rfl, hl, hlen, hf⟩ := DataW.trod_struct Tryd.underlying30 h
  rw [show Tryd.prog.cellsOf 30 = 5 by kernel_rfl] at hl
  match xs, hlen, cs, hl with
  | [y0, y1, y2, y3, y4], _, [c0, c1, c2, c3, c4], _ =>
    obtain ⟨a, rfl, ha⟩ := trod_i64 (c := c0) Tryd.underlying3 (hf 0 _ rfl)
    obtain ⟨b, rfl, hb⟩ := trod_i64 (c := c1) Tryd.underlying2 (hf 1 _ rfl)
    obtain ⟨s, rfl, _⟩ := trod_u8 (c := c2) Tryd.underlying5 (hf 2 _ rfl)
    obtain ⟨q, rfl, hq⟩ := trod_i64 (c := c3) Tryd.underlying2 (hf 3 _ rfl)
    obtain ⟨l, rfl, hl⟩ := trod_i64 (c := c4) Tryd.underlying2 (hf 4 _ rfl)
    exact ⟨⟨a, b, s, q, l⟩, rfl, ha, hb, hq, hl⟩
set_option maxRecDepth 20000 in
theorem lines_open (hv : Value.okWide Tryd.prog W .any b0 27 v) (h : DataW.Trod enc Tryd.prog W base sp held 27 v d p) : ∃ a cap, ∃ xs : List Ln, v = .slice a xs.length cap ∧ SlR encN 5 W a cap xs ∧ In64N xs :=
  open_slP encN 5 LnIn encN_len Tryd.underlying27 (by kernel_rfl) line_dec hv h
set_option maxRecDepth 20000 in
theorem u8_open {t : TypeId} (ht : Tryd.prog.underlying t = some (.int .u8)) (hv : Value.okWide Tryd.prog W .any b0 t v) (h : DataW.Trod enc Tryd.prog W base sp held t v d p) : ∃ n : Int, v = .int .u8 n ∧ 0 ≤ n ∧ n ≤ 255 := by
  obtain ⟨n, e, h1, h2⟩ := int_open ht hv h
  rw [show IntKind.u8.min = 0 from rfl] at h1
  rw [show IntKind.u8.max = 255 from rfl] at h2
  exact ⟨n, e, h1, h2⟩
end
end Go.Proofs.YtnffmbfdfhokeaaDoor
namespace Go.Proofs.YtnffmbfdfhokeaaDoor
open Go.ChangeShapes Go.WideShapes Go.ChangeAt Go.RowKit

theorem str_back (s : ByteArray) : (⟨s.data.toList.toArray⟩ : ByteArray) = s := by cases s; simp
set_option maxRecDepth 20000 in
theorem krow_dec {W : World} {n : Nat} {cs : List Value} {y : DataW Unit × List MemPlace} (h : DataW.trod (fun _ => ()) Tryd.prog W 0 (fun _ => true) false n 113 cs = some y) : cs = encK (krowOf y.1) := by
  obtain ⟨xs, m, _, rfl, hl, hlen, hf⟩ := DataW.trod_struct Tryd.underlying113 h
  have hstr : Tryd.prog.underlying 9 = some .string := Tryd.underlying9
  rw [show Tryd.prog.cellsOf 113 = 5 by kernel_rfl] at hl
  match xs, hlen, cs, hl with
  | [y0, y1, y2], _, [c0, c1, c2, c3, c4], _ =>
    have h0 := hf 0 _ rfl
    have h1 := hf 1 _ rfl
    have h2 := hf 2 _ rfl
    obtain ⟨s, e0, x0, _⟩ := DataW.trod_string hstr h0
    obtain ⟨z0, z1, z2, n', hx, g0, g1, g2⟩ := trod_array3 (c0 := c1) (c1 := c2) (c2 := c3) Tryd.underlying111 (by kernel_rfl) h1
    obtain ⟨s0, f0, w0, _⟩ := DataW.trod_string hstr g0
    obtain ⟨s1, f1, w1, _⟩ := DataW.trod_string hstr g1
    obtain ⟨s2, f2, w2, _⟩ := DataW.trod_string hstr g2
    obtain ⟨b, e4, x4⟩ := DataW.trod_bool Tryd.underlying4 h2
    have e0' : c0 = .string s := by
      have : [c0] = [Value.string s] := e0
      injection this
    have e4' : c4 = .bool b := by
      have : [c4] = [Value.bool b] := e4
      injection this
    injection f0 with f0
    injection f1 with f1
    injection f2 with f2
    subst e0' e4' f0 f1 f2 w0 w1 w2 hx x0 x4
    simp [krowOf, encK]
set_option maxRecDepth 20000 in
theorem knW_of {W : World} (h : laidMetH Tryd.prog [("souk/schema.kinds", Rows.laid_souk_schema_kinds)] W) : KnW W := by
  have h1 : laidMet Tryd.prog [("souk/schema.kinds", Rows.laid_souk_schema_kinds)] W := h
  obtain ⟨ps, ⟨g, t, cs, fuel, p, q, hg, ht, hv, hd, -, -⟩, -, -⟩ := h1
  obtain rfl := Option.some.inj ((show Tryd.prog.globalNamed "souk/schema.kinds" = some 0 by kernel_rfl).symm.trans hg)
  obtain rfl := Option.some.inj ((show (Tryd.prog.globals[0]?).map (·.type) = some 137 by kernel_rfl).symm.trans ht)
  have hcell := fun i => World.var?_cell hg hv i
  obtain ⟨xs, m, _, hx, hl, hlen, hf⟩ := DataW.trod_array Tryd.underlying137 hd
  injection hx with hx1 hx2
  have hk : kindsT = xs.map (fun y => krowOf y.1) := by
    unfold kindsT
    rw [hx1]
    simp [partsOf]
  have hC : Tryd.prog.cellsOf 113 = 5 := by kernel_rfl
  have hCt : Tryd.prog.cellsOf 137 = 115 := by kernel_rfl
  rw [hCt] at hl
  have hlt : 0 < W.heap.size := by
    refine Nat.lt_of_not_le fun hle => ?_
    have h9 := hcell 0
    have h8 : W.heap[0]? = none := Array.getElem?_eq_none hle
    have h7 : cs[0]? ≠ none := by
      rw [← Array.getElem?_toList]
      intro h; have := List.getElem?_eq_none_iff.1 h; omega
    rw [← h9] at h7
    simp [World.cell?, h8] at h7
  refine ⟨⟨by rw [kindsT_len]; omega, by omega, (fun h => by cases h), fun ad had _ => ?_⟩⟩
  cases had
  refine ⟨rfl, hlt, fun j x hj i v hi => ?_⟩
  rw [hk, List.getElem?_map, Option.map_eq_some_iff] at hj
  obtain ⟨y, hy, rfl⟩ := hj
  have hj23 : j < 23 := by have := (List.getElem?_eq_some_iff.1 hy).1; omega
  have hfj := hf j hj23
  rw [hy, hC] at hfj
  have he := krow_dec hfj
  have hi5 : i < 5 := by have := (List.getElem?_eq_some_iff.1 hi).1; rw [encK_len] at this; exact this
  rw [hcell, ← Array.getElem?_toList]
  rw [← he, List.getElem?_take, if_pos hi5, List.getElem?_drop] at hi
  rw [show (0 + j * 5 + i) = j * 5 + i by omega]
  exact hi
theorem wt_in {H : Type} {P : Program} {n : Nat} : ∀ {ts : List TypeId} {ds : List (DataW H)} {j : Nat} {t : TypeId} {d : DataW H}, ts[j]? = some t → ds[j]? = some d → n ∈ DataW.weights P t d → n ∈ DataW.weightsEach P ts ds
  | t :: ts, d :: ds, 0, _, _, h1, h2, hn => by
    simp at h1 h2; subst h1 h2
    rw [DataW.weightsEach]; exact List.mem_append_left _ hn
  | t :: ts, d :: ds, j + 1, _, _, h1, h2, hn => by
    rw [DataW.weightsEach]; exact List.mem_append_right _ (wt_in (by simpa using h1) (by simpa using h2) hn)
  | [], _, _, _, _, h1, _, _ => by simp at h1
  | _ :: _, [], _, _, _, _, h2, _ => by simp at h2
theorem wt_of {H : Type} {P : Program} {ts us : List TypeId} {ds gs : List (DataW H)} (hZ : ((DataW.weightsEach P (ts ++ us) (ds ++ gs)).all fun x => decide (x ≤ reachBytes)) = true) {j : Nat} {t : TypeId} {d : DataW H} (ht : ts[j]? = some t) (hd : ds[j]? = some d) : ∀ n ∈ DataW.weights P t d, n ≤ reachBytes := fun n hn => by
  have h1 : (ts ++ us)[j]? = some t := by rw [List.getElem?_append_left (List.getElem?_eq_some_iff.1 ht).1]; exact ht
  have h2 : (ds ++ gs)[j]? = some d := by rw [List.getElem?_append_left (List.getElem?_eq_some_iff.1 hd).1]; exact hd
  exact of_decide_eq_true (List.all_eq_true.1 hZ n (wt_in h1 h2 hn))
set_option maxRecDepth 100000 in
theorem door_met (os : Os) (args : Array Value) : laidMetH Tryd.prog [("souk/schema.kinds", Rows.laid_souk_schema_kinds)] ((World.doorLaid Tryd.prog 200 os).forCall (fun _ _ => 0) ⟨#[], args, []⟩).memory :=
  laidMetH_of_parts (laidMet_of_run' 8 (by kernel_rfl) (by kernel_rfl)) (by kernel_rfl)
end Go.Proofs.YtnffmbfdfhokeaaDoor
namespace Go.Proofs.YtnffmbfdfhokeaaDoor
open Go.RowKit Go.PlainAid

set_option maxRecDepth 20000 in
theorem atF_c (o : Opn) (id : Int) (N : Nat) (w : World) (h : PT w N 2 [.int .i64 id]) : Calls Tryd.prog 84 #[.agg (encP o).toArray, .pointer (some ⟨N, 0, none⟩)] w fun e w' => e = .returned (.bool (o.id == id)) ∧ Below w.heap.size w w' := by
  have hE := Ext.refl w
  have hw := Below.refl w.heap.size w
  refine fn_enter 8 Tryd.func84 rfl rfl rfl ?_
  repeat' (first | (refine lw_pure rfl (pv_move rfl) ?_) | (refine lw_pure rfl (pv_assign rfl) ?_) | (refine is_cw ?_; first | (refine cw_seq ?_) | (refine cw_region ?_) | (refine cw_ret ?_)) | (refine is_qw ?_; first | (with_reducible refine qw_then ?_) | (with_reducible refine qw_then_ret ?_)) | (refine lw_nil ?_) | ((refine is_bin ?_; first | (refine lw_pure rfl (pv_eql rfl rfl) ?_))) | ((refine is_load ?_; first | (refine lw_pure rfl (pv_load (t1 rfl) rfl (by first | fail)) ?_) | (refine lw_pure rfl (pv_loada (tA rfl) rfl (by first | fail) (by rfl)) ?_))) | ((refine is_fa ?_; first | (refine lw_pure rfl (pv_fa (tF rfl) rfl) ?_))))
  refine lw_boxN rfl rfl (cs := encP o) rfl ?_; intro N1 wn hN HA hb
  replace hw := grow_trans hw hb
  clear hb
  replace hE := hE.mono hw; replace h := h.mono hw; clear hw; have hw := Below.refl wn.heap.size wn
  repeat' (first | (refine lw_pure rfl (pv_move rfl) ?_) | (refine lw_pure rfl (pv_assign rfl) ?_) | (refine is_cw ?_; first | (refine cw_seq ?_) | (refine cw_region ?_) | (refine cw_ret ?_)) | (refine is_qw ?_; first | (with_reducible refine qw_then ?_) | (with_reducible refine qw_then_ret ?_)) | (refine lw_nil ?_) | ((refine is_bin ?_; first | (refine lw_pure rfl (pv_eql rfl rfl) ?_))) | ((refine is_load ?_; first | (refine lw_pure rfl (pv_load (t1 rfl) rfl (by first | exact PT.ld0 (HA.mono hw) rfl | exact PT.ld (HA.mono hw) rfl | exact PT.ld0 (h.mono hw) rfl | exact PT.ld (h.mono hw) rfl)) ?_) | (refine lw_pure rfl (pv_loada (tA rfl) rfl (by first | exact PT.lda (HA.mono hw) | exact PT.lda (h.mono hw)) (by rfl)) ?_))) | ((refine is_fa ?_; first | (refine lw_pure rfl (pv_fa (tF rfl) rfl) ?_))))
  exact qw_ret1 rfl rfl ⟨ret_bool rfl, (hE.mono hw).b⟩
set_option maxRecDepth 20000 in
theorem lotF_c (o : Lt) (id : Int) (N : Nat) (w : World) (h : PT w N 2 [.int .i64 id]) : Calls Tryd.prog 85 #[.agg (encL o).toArray, .pointer (some ⟨N, 0, none⟩)] w fun e w' => e = .returned (.bool (o.id == id)) ∧ Below w.heap.size w w' := by
  have hE := Ext.refl w
  have hw := Below.refl w.heap.size w
  refine fn_enter 8 Tryd.func85 rfl rfl rfl ?_
  repeat' (first | (refine lw_pure rfl (pv_move rfl) ?_) | (refine lw_pure rfl (pv_assign rfl) ?_) | (refine is_cw ?_; first | (refine cw_seq ?_) | (refine cw_region ?_) | (refine cw_ret ?_)) | (refine is_qw ?_; first | (with_reducible refine qw_then ?_) | (with_reducible refine qw_then_ret ?_)) | (refine lw_nil ?_) | ((refine is_bin ?_; first | (refine lw_pure rfl (pv_eql rfl rfl) ?_))) | ((refine is_load ?_; first | (refine lw_pure rfl (pv_load (t1 rfl) rfl (by first | fail)) ?_) | (refine lw_pure rfl (pv_loada (tA rfl) rfl (by first | fail) (by rfl)) ?_))) | ((refine is_fa ?_; first | (refine lw_pure rfl (pv_fa (tF rfl) rfl) ?_))))
  refine lw_boxN rfl rfl (cs := encL o) rfl ?_; intro N1 wn hN HA hb
  replace hw := grow_trans hw hb
  clear hb
  replace hE := hE.mono hw; replace h := h.mono hw; clear hw; have hw := Below.refl wn.heap.size wn
  repeat' (first | (refine lw_pure rfl (pv_move rfl) ?_) | (refine lw_pure rfl (pv_assign rfl) ?_) | (refine is_cw ?_; first | (refine cw_seq ?_) | (refine cw_region ?_) | (refine cw_ret ?_)) | (refine is_qw ?_; first | (with_reducible refine qw_then ?_) | (with_reducible refine qw_then_ret ?_)) | (refine lw_nil ?_) | ((refine is_bin ?_; first | (refine lw_pure rfl (pv_eql rfl rfl) ?_))) | ((refine is_load ?_; first | (refine lw_pure rfl (pv_load (t1 rfl) rfl (by first | exact PT.ld0 (HA.mono hw) rfl | exact PT.ld (HA.mono hw) rfl | exact PT.ld0 (h.mono hw) rfl | exact PT.ld (h.mono hw) rfl)) ?_) | (refine lw_pure rfl (pv_loada (tA rfl) rfl (by first | exact PT.lda (HA.mono hw) | exact PT.lda (h.mono hw)) (by rfl)) ?_))) | ((refine is_fa ?_; first | (refine lw_pure rfl (pv_fa (tF rfl) rfl) ?_))))
  exact qw_ret1 rfl rfl ⟨ret_bool rfl, (hE.mono hw).b⟩
def atR {α : Type} (l : List α) (q : α → Bool) (i : Int) : Prop := (i = -1 ∧ ∀ x ∈ l, q x = false) ∨ ∃ (k : Nat) (r : α), i = k ∧ l[k]? = some r ∧ q r = true ∧ ∀ x ∈ l.take k, q x = false
set_option maxRecDepth 20000 in
theorem at_c {p : List Opn} {m : Nat} {a : Option Addr} {ca : Nat} {w : World} (id : Int) (hm : p.length = m) (HP : SlR encP 6 w a ca p) : Calls Tryd.prog 65 #[.slice a m ca, .int .i64 id] w fun e w' => (∃ i, e = .returned (.int .i64 i) ∧ atR p (fun o => o.id == id) i) ∧ Below w.heap.size w w' := by
  have hE := Ext.refl w
  have hw := Below.refl w.heap.size w
  refine fn_enter 8 Tryd.func65 rfl rfl rfl ?_
  repeat' (first | (refine lw_pure rfl (pv_move rfl) ?_) | (refine lw_pure rfl (pv_assign rfl) ?_) | (refine is_cw ?_; first | (refine cw_seq ?_) | (refine cw_region ?_) | (refine cw_ret ?_)) | (refine is_qw ?_; first | (with_reducible refine qw_then ?_) | (with_reducible refine qw_then_ret ?_)) | (refine lw_nil ?_) | (refine lw_pure rfl (pv_makeFunc rfl rfl) ?_))
  refine lw_boxN rfl rfl (cs := [.int .i64 id]) rfl ?_; intro N wn hN HA hb
  replace hw := grow_trans hw hb
  clear hb
  replace hE := hE.mono hw; replace HP := HP.mono hw; clear hw; have hw := Below.refl wn.heap.size wn
  repeat' (first | (refine lw_pure rfl (pv_move rfl) ?_) | (refine lw_pure rfl (pv_assign rfl) ?_) | (refine is_cw ?_; first | (refine cw_seq ?_) | (refine cw_region ?_) | (refine cw_ret ?_)) | (refine is_qw ?_; first | (with_reducible refine qw_then ?_) | (with_reducible refine qw_then_ret ?_)) | (refine lw_nil ?_) | (refine lw_pure rfl (pv_makeFunc rfl rfl) ?_))
  refine lw_call (f := 83) (by kernel_rfl) rfl rfl (indexf_P wn.heap.size (fun o => o.id == id) 84 #[.pointer (some ⟨N, 0, none⟩)] (by kernel_rfl) (Nat.le_refl _) (fun x _ w' hb => by simpa using atF_c x id N w' (HA.mono hb)) hm HP) ?_; rintro e w1 ⟨⟨i, rfl, hi⟩, hb⟩; refine ⟨_, rfl, ?_⟩; replace hw := grow_trans hw hb
  repeat' (first | (refine lw_pure rfl (pv_move rfl) ?_) | (refine lw_pure rfl (pv_assign rfl) ?_) | (refine is_cw ?_; first | (refine cw_seq ?_) | (refine cw_region ?_) | (refine cw_ret ?_)) | (refine is_qw ?_; first | (with_reducible refine qw_then ?_) | (with_reducible refine qw_then_ret ?_)) | (refine lw_nil ?_) | (refine lw_pure rfl (pv_makeFunc rfl rfl) ?_))
  exact qw_ret1 rfl rfl ⟨⟨i, rfl, hi⟩, (hE.mono hw).b⟩
set_option maxRecDepth 20000 in
theorem lot_c {p : List Lt} {m : Nat} {a : Option Addr} {ca : Nat} {w : World} (id : Int) (hm : p.length = m) (HP : SlR encL 4 w a ca p) : Calls Tryd.prog 66 #[.slice a m ca, .int .i64 id] w fun e w' => (∃ i, e = .returned (.int .i64 i) ∧ atR p (fun o => o.id == id) i) ∧ Below w.heap.size w w' := by
  have hE := Ext.refl w
  have hw := Below.refl w.heap.size w
  refine fn_enter 8 Tryd.func66 rfl rfl rfl ?_
  repeat' (first | (refine lw_pure rfl (pv_move rfl) ?_) | (refine lw_pure rfl (pv_assign rfl) ?_) | (refine is_cw ?_; first | (refine cw_seq ?_) | (refine cw_region ?_) | (refine cw_ret ?_)) | (refine is_qw ?_; first | (with_reducible refine qw_then ?_) | (with_reducible refine qw_then_ret ?_)) | (refine lw_nil ?_) | (refine lw_pure rfl (pv_makeFunc rfl rfl) ?_))
  refine lw_boxN rfl rfl (cs := [.int .i64 id]) rfl ?_; intro N wn hN HA hb
  replace hw := grow_trans hw hb
  clear hb
  replace hE := hE.mono hw; replace HP := HP.mono hw; clear hw; have hw := Below.refl wn.heap.size wn
  repeat' (first | (refine lw_pure rfl (pv_move rfl) ?_) | (refine lw_pure rfl (pv_assign rfl) ?_) | (refine is_cw ?_; first | (refine cw_seq ?_) | (refine cw_region ?_) | (refine cw_ret ?_)) | (refine is_qw ?_; first | (with_reducible refine qw_then ?_) | (with_reducible refine qw_then_ret ?_)) | (refine lw_nil ?_) | (refine lw_pure rfl (pv_makeFunc rfl rfl) ?_))
  refine lw_call (f := 61) (by kernel_rfl) rfl rfl (indexf_L wn.heap.size (fun o => o.id == id) 85 #[.pointer (some ⟨N, 0, none⟩)] (by kernel_rfl) (Nat.le_refl _) (fun x _ w' hb => by simpa using lotF_c x id N w' (HA.mono hb)) hm HP) ?_; rintro e w1 ⟨⟨i, rfl, hi⟩, hb⟩; refine ⟨_, rfl, ?_⟩; replace hw := grow_trans hw hb
  repeat' (first | (refine lw_pure rfl (pv_move rfl) ?_) | (refine lw_pure rfl (pv_assign rfl) ?_) | (refine is_cw ?_; first | (refine cw_seq ?_) | (refine cw_region ?_) | (refine cw_ret ?_)) | (refine is_qw ?_; first | (with_reducible refine qw_then ?_) | (with_reducible refine qw_then_ret ?_)) | (refine lw_nil ?_) | (refine lw_pure rfl (pv_makeFunc rfl rfl) ?_))
  exact qw_ret1 rfl rfl ⟨⟨i, rfl, hi⟩, (hE.mono hw).b⟩
theorem find_none {α : Type} {l : List α} {q : α → Bool} (h : ∀ x ∈ l, q x = false) : l.find? q = none := by
  rw [List.find?_eq_none]; intro x hx; simp [h x hx]
theorem find_at {α : Type} {q : α → Bool} : ∀ {l : List α} {k : Nat} {r : α}, l[k]? = some r → q r = true → (∀ x ∈ l.take k, q x = false) → l.find? q = some r
  | [], _, _, h, _, _ => by simp at h
  | y :: l, 0, r, h, hr, _ => by simp at h; subst h; simp [hr]
  | y :: l, k + 1, r, h, hr, hn => by
    rw [List.find?_cons, hn y (by simp)]
    exact find_at (by simpa using h) hr (fun x hx => hn x (by simp [hx]))
def oZ : Opn := ⟨0, 0, 0, 0, 0, 0⟩
def lZ : Lt := ⟨0, 0, 0, 0⟩
set_option maxRecDepth 20000 in
theorem find_c {p : List Opn} {m : Nat} {a : Option Addr} {ca : Nat} {w : World} (id : Int) (hm : p.length = m) (HP : SlR encP 6 w a ca p) : Calls Tryd.prog 48 #[.slice a m ca, .int .i64 id] w fun e w' => e = .returned (.tuple #[.agg (encP ((findP p id).getD oZ)).toArray, .bool (findP p id).isSome]) ∧ Below w.heap.size w w' := by
  subst hm
  have hE := Ext.refl w
  have hw := Below.refl w.heap.size w
  have hca := HP.le
  have hcm := HP.max
  refine fn_enter 17 Tryd.func48 rfl rfl rfl ?_
  repeat' (first | (refine lw_pure rfl (pv_move rfl) ?_) | (refine lw_pure rfl (pv_assign rfl) ?_) | (refine is_cw ?_; first | (refine cw_seq ?_) | (refine cw_region ?_) | (refine cw_true rfl rfl ?_) | (refine cw_false rfl rfl ?_) | (refine is_cd ?_; refine cw_true rfl (by first | assumption | exact decide_eq_true (by omega) | exact dec_notT (by omega)) ?_) | (refine is_cd ?_; refine cw_false rfl (by first | assumption | exact decide_eq_false (by omega) | exact dec_notF (by omega)) ?_) | (refine cw_skip ?_) | (refine cw_ret ?_)) | (refine is_qw ?_; first | (with_reducible refine qw_then ?_) | (with_reducible refine qw_then_ret ?_)) | (refine lw_nil ?_) | ((refine is_bin ?_; first | (refine lw_pure rfl (pv_lss rfl rfl) ?_))) | ((refine is_load ?_; first | (refine lw_pure rfl (pv_load (t1 rfl) rfl (by first | fail)) ?_) | (refine lw_pure rfl (pv_loada (tA rfl) rfl (by first | fail) (by rfl)) ?_))) | ((refine is_ia ?_; first | (refine lw_pure rfl (pv_ian (tS rfl) rfl rfl (by omega)) ?_) | (refine lw_pure rfl (pv_ia (tS rfl) rfl rfl (by omega)) ?_))) | ((refine is_bd ?_; first | (refine lw_pure rfl (tyB_54 rfl rfl rfl) ?_))))
  refine lw_allocN rfl (by first | exact tyv_29 | exact tyv_30 | exact tyv_34 | exact tyv_35 | exact tyv_37 | exact tyv_43 | exact tyv_53 | exact tyv_54 | exact tyv_55 | exact tyv_56 | exact tyv_112 | exact tyv_113 | exact tyv_121 | exact tyv_122) rfl ?_; intro N w1 hN H hb
  replace hE := hE.mono hb
  replace HP := HP.mono hb
  clear hb hw
  have hw := Below.refl w1.heap.size w1
  repeat' (first | (refine lw_pure rfl (pv_move rfl) ?_) | (refine lw_pure rfl (pv_assign rfl) ?_) | (refine is_cw ?_; first | (refine cw_seq ?_) | (refine cw_region ?_) | (refine cw_true rfl rfl ?_) | (refine cw_false rfl rfl ?_) | (refine is_cd ?_; refine cw_true rfl (by first | assumption | exact decide_eq_true (by omega) | exact dec_notT (by omega)) ?_) | (refine is_cd ?_; refine cw_false rfl (by first | assumption | exact decide_eq_false (by omega) | exact dec_notF (by omega)) ?_) | (refine cw_skip ?_) | (refine cw_ret ?_)) | (refine is_qw ?_; first | (with_reducible refine qw_then ?_) | (with_reducible refine qw_then_ret ?_)) | (refine lw_nil ?_) | ((refine is_bin ?_; first | (refine lw_pure rfl (pv_lss rfl rfl) ?_))) | ((refine is_load ?_; first | (refine lw_pure rfl (pv_load (t1 rfl) rfl (by first | fail)) ?_) | (refine lw_pure rfl (pv_loada (tA rfl) rfl (by first | fail) (by rfl)) ?_))) | ((refine is_ia ?_; first | (refine lw_pure rfl (pv_ian (tS rfl) rfl rfl (by omega)) ?_) | (refine lw_pure rfl (pv_ia (tS rfl) rfl rfl (by omega)) ?_))) | ((refine is_bd ?_; first | (refine lw_pure rfl (tyB_54 rfl rfl rfl) ?_))))
  refine lw_call (f := 65) (by kernel_rfl) rfl rfl (at_c id rfl HP) ?_; rintro e w2 ⟨⟨i, rfl, hi⟩, hb⟩; refine ⟨_, rfl, ?_⟩
  replace hE := hE.mono hb
  replace HP := HP.mono hb
  replace H := H.mono hb
  clear hb hw
  have hw := Below.refl w2.heap.size w2
  rcases hi with ⟨rfl, hn⟩ | ⟨k, r, rfl, hxk, hr, hn⟩
  · have hf : findP p id = none := find_none hn
    rw [hf]
    repeat' (first | (refine lw_pure rfl (pv_move rfl) ?_) | (refine lw_pure rfl (pv_assign rfl) ?_) | (refine is_cw ?_; first | (refine cw_seq ?_) | (refine cw_region ?_) | (refine cw_true rfl rfl ?_) | (refine cw_false rfl rfl ?_) | (refine is_cd ?_; refine cw_true rfl (by first | assumption | exact decide_eq_true (by omega) | exact dec_notT (by omega)) ?_) | (refine is_cd ?_; refine cw_false rfl (by first | assumption | exact decide_eq_false (by omega) | exact dec_notF (by omega)) ?_) | (refine cw_skip ?_) | (refine cw_ret ?_)) | (refine is_qw ?_; first | (with_reducible refine qw_then ?_) | (with_reducible refine qw_then_ret ?_)) | (refine lw_nil ?_) | ((refine is_bin ?_; first | (refine lw_pure rfl (pv_lss rfl rfl) ?_))) | ((refine is_load ?_; first | (refine lw_pure rfl (pv_load (t1 rfl) rfl (by first | fail)) ?_) | (refine lw_pure rfl (pv_loada (tA rfl) rfl (by first | fail) (by rfl)) ?_))) | ((refine is_ia ?_; first | (refine lw_pure rfl (pv_ian (tS rfl) rfl rfl (by omega)) ?_) | (refine lw_pure rfl (pv_ia (tS rfl) rfl rfl (by omega)) ?_))) | ((refine is_bd ?_; first | (refine lw_pure rfl (tyB_54 rfl rfl rfl) ?_))))
    refine lw_storea (vs := encP oZ) H (tZ rfl) rfl rfl rfl rfl (encP_one _) ?_; intro w3 H2 hg hz
    replace hE := hE.grown hg (by intro q hq; injection hq with hq; omega)
    have hw := Below.refl w3.heap.size w3
    repeat' (first | (refine lw_pure rfl (pv_move rfl) ?_) | (refine lw_pure rfl (pv_assign rfl) ?_) | (refine is_cw ?_; first | (refine cw_seq ?_) | (refine cw_region ?_) | (refine cw_true rfl rfl ?_) | (refine cw_false rfl rfl ?_) | (refine is_cd ?_; refine cw_true rfl (by first | assumption | exact decide_eq_true (by omega) | exact dec_notT (by omega)) ?_) | (refine is_cd ?_; refine cw_false rfl (by first | assumption | exact decide_eq_false (by omega) | exact dec_notF (by omega)) ?_) | (refine cw_skip ?_) | (refine cw_ret ?_)) | (refine is_qw ?_; first | (with_reducible refine qw_then ?_) | (with_reducible refine qw_then_ret ?_)) | (refine lw_nil ?_) | ((refine is_bin ?_; first | (refine lw_pure rfl (pv_lss rfl rfl) ?_))) | ((refine is_load ?_; first | (refine lw_pure rfl (pv_load (t1 rfl) rfl (by first | fail)) ?_) | (refine lw_pure rfl (pv_loada (tA rfl) rfl (by first | fail) (by rfl)) ?_))) | ((refine is_ia ?_; first | (refine lw_pure rfl (pv_ian (tS rfl) rfl rfl (by omega)) ?_) | (refine lw_pure rfl (pv_ia (tS rfl) rfl rfl (by omega)) ?_))) | ((refine is_bd ?_; first | (refine lw_pure rfl (tyB_54 rfl rfl rfl) ?_))))
    exact qw_retct rfl rfl rfl (agg_ld (tA rfl) rfl (fun i u hu => H2.ld0 hu)) ⟨rfl, hE.b⟩
  · have hf : findP p id = some r := find_at hxk hr hn
    have hlt : k < p.length := (List.getElem?_eq_some_iff.1 hxk).1
    obtain ⟨ab, ao, rfl, -, -⟩ := HP.at (by intro h; rw [h] at hlt; simp at hlt)
    rw [hf]
    repeat' (first | (refine lw_pure rfl (pv_move rfl) ?_) | (refine lw_pure rfl (pv_assign rfl) ?_) | (refine is_cw ?_; first | (refine cw_seq ?_) | (refine cw_region ?_) | (refine cw_true rfl rfl ?_) | (refine cw_false rfl rfl ?_) | (refine is_cd ?_; refine cw_true rfl (by first | assumption | exact decide_eq_true (by omega) | exact dec_notT (by omega)) ?_) | (refine is_cd ?_; refine cw_false rfl (by first | assumption | exact decide_eq_false (by omega) | exact dec_notF (by omega)) ?_) | (refine cw_skip ?_) | (refine cw_ret ?_)) | (refine is_qw ?_; first | (with_reducible refine qw_then ?_) | (with_reducible refine qw_then_ret ?_)) | (refine lw_nil ?_) | ((refine is_bin ?_; first | (refine lw_pure rfl (pv_lss rfl rfl) ?_))) | ((refine is_load ?_; first | (refine lw_pure rfl (pv_load (t1 rfl) rfl (by first | exact SlR.ld (HP.mono hw) hxk rfl | exact SlR.ld1 (HP.mono hw) hxk rfl)) ?_) | (refine lw_pure rfl (pv_loada (tA rfl) rfl (by first | exact SlR.lda (HP.mono hw) hxk) (by rfl)) ?_))) | ((refine is_ia ?_; first | (refine lw_pure rfl (pv_ian (tS rfl) rfl rfl (by omega)) ?_) | (refine lw_pure rfl (pv_ia (tS rfl) rfl rfl (by omega)) ?_))) | ((refine is_bd ?_; first | (refine lw_pure rfl (tyB_54 rfl rfl rfl) ?_))))
    refine lw_storea (vs := encP r) (H.mono hw) (tZ rfl) rfl rfl rfl rfl (encP_one _) ?_; intro w3 H2 hg hz
    replace hE := (hE.mono hw).grown hg (by intro q hq; injection hq with hq; omega)
    clear hw
    have hw := Below.refl w3.heap.size w3
    repeat' (first | (refine lw_pure rfl (pv_move rfl) ?_) | (refine lw_pure rfl (pv_assign rfl) ?_) | (refine is_cw ?_; first | (refine cw_seq ?_) | (refine cw_region ?_) | (refine cw_true rfl rfl ?_) | (refine cw_false rfl rfl ?_) | (refine is_cd ?_; refine cw_true rfl (by first | assumption | exact decide_eq_true (by omega) | exact dec_notT (by omega)) ?_) | (refine is_cd ?_; refine cw_false rfl (by first | assumption | exact decide_eq_false (by omega) | exact dec_notF (by omega)) ?_) | (refine cw_skip ?_) | (refine cw_ret ?_)) | (refine is_qw ?_; first | (with_reducible refine qw_then ?_) | (with_reducible refine qw_then_ret ?_)) | (refine lw_nil ?_) | ((refine is_bin ?_; first | (refine lw_pure rfl (pv_lss rfl rfl) ?_))) | ((refine is_load ?_; first | (refine lw_pure rfl (pv_load (t1 rfl) rfl (by first | fail)) ?_) | (refine lw_pure rfl (pv_loada (tA rfl) rfl (by first | fail) (by rfl)) ?_))) | ((refine is_ia ?_; first | (refine lw_pure rfl (pv_ian (tS rfl) rfl rfl (by omega)) ?_) | (refine lw_pure rfl (pv_ia (tS rfl) rfl rfl (by omega)) ?_))) | ((refine is_bd ?_; first | (refine lw_pure rfl (tyB_54 rfl rfl rfl) ?_))))
    exact qw_retct rfl rfl rfl (agg_ld (tA rfl) rfl (fun i u hu => H2.ld0 hu)) ⟨rfl, hE.b⟩
set_option maxRecDepth 20000 in
theorem lotx_c {p : List Lt} {m : Nat} {a : Option Addr} {ca : Nat} {w : World} (id : Int) (hm : p.length = m) (HP : SlR encL 4 w a ca p) : Calls Tryd.prog 49 #[.slice a m ca, .int .i64 id] w fun e w' => e = .returned (.tuple #[.agg (encL ((findT p id).getD lZ)).toArray, .bool (findT p id).isSome]) ∧ Below w.heap.size w w' := by
  subst hm
  have hE := Ext.refl w
  have hw := Below.refl w.heap.size w
  have hca := HP.le
  have hcm := HP.max
  refine fn_enter 17 Tryd.func49 rfl rfl rfl ?_
  repeat' (first | (refine lw_pure rfl (pv_move rfl) ?_) | (refine lw_pure rfl (pv_assign rfl) ?_) | (refine is_cw ?_; first | (refine cw_seq ?_) | (refine cw_region ?_) | (refine cw_true rfl rfl ?_) | (refine cw_false rfl rfl ?_) | (refine is_cd ?_; refine cw_true rfl (by first | assumption | exact decide_eq_true (by omega) | exact dec_notT (by omega)) ?_) | (refine is_cd ?_; refine cw_false rfl (by first | assumption | exact decide_eq_false (by omega) | exact dec_notF (by omega)) ?_) | (refine cw_skip ?_) | (refine cw_ret ?_)) | (refine is_qw ?_; first | (with_reducible refine qw_then ?_) | (with_reducible refine qw_then_ret ?_)) | (refine lw_nil ?_) | ((refine is_bin ?_; first | (refine lw_pure rfl (pv_lss rfl rfl) ?_))) | ((refine is_load ?_; first | (refine lw_pure rfl (pv_load (t1 rfl) rfl (by first | fail)) ?_) | (refine lw_pure rfl (pv_loada (tA rfl) rfl (by first | fail) (by rfl)) ?_))) | ((refine is_ia ?_; first | (refine lw_pure rfl (pv_ian (tS rfl) rfl rfl (by omega)) ?_) | (refine lw_pure rfl (pv_ia (tS rfl) rfl rfl (by omega)) ?_))) | ((refine is_bd ?_; first | (refine lw_pure rfl (tyB_56 rfl rfl rfl) ?_))))
  refine lw_allocN rfl (by first | exact tyv_29 | exact tyv_30 | exact tyv_34 | exact tyv_35 | exact tyv_37 | exact tyv_43 | exact tyv_53 | exact tyv_54 | exact tyv_55 | exact tyv_56 | exact tyv_112 | exact tyv_113 | exact tyv_121 | exact tyv_122) rfl ?_; intro N w1 hN H hb
  replace hE := hE.mono hb
  replace HP := HP.mono hb
  clear hb hw
  have hw := Below.refl w1.heap.size w1
  repeat' (first | (refine lw_pure rfl (pv_move rfl) ?_) | (refine lw_pure rfl (pv_assign rfl) ?_) | (refine is_cw ?_; first | (refine cw_seq ?_) | (refine cw_region ?_) | (refine cw_true rfl rfl ?_) | (refine cw_false rfl rfl ?_) | (refine is_cd ?_; refine cw_true rfl (by first | assumption | exact decide_eq_true (by omega) | exact dec_notT (by omega)) ?_) | (refine is_cd ?_; refine cw_false rfl (by first | assumption | exact decide_eq_false (by omega) | exact dec_notF (by omega)) ?_) | (refine cw_skip ?_) | (refine cw_ret ?_)) | (refine is_qw ?_; first | (with_reducible refine qw_then ?_) | (with_reducible refine qw_then_ret ?_)) | (refine lw_nil ?_) | ((refine is_bin ?_; first | (refine lw_pure rfl (pv_lss rfl rfl) ?_))) | ((refine is_load ?_; first | (refine lw_pure rfl (pv_load (t1 rfl) rfl (by first | fail)) ?_) | (refine lw_pure rfl (pv_loada (tA rfl) rfl (by first | fail) (by rfl)) ?_))) | ((refine is_ia ?_; first | (refine lw_pure rfl (pv_ian (tS rfl) rfl rfl (by omega)) ?_) | (refine lw_pure rfl (pv_ia (tS rfl) rfl rfl (by omega)) ?_))) | ((refine is_bd ?_; first | (refine lw_pure rfl (tyB_56 rfl rfl rfl) ?_))))
  refine lw_call (f := 66) (by kernel_rfl) rfl rfl (lot_c id rfl HP) ?_; rintro e w2 ⟨⟨i, rfl, hi⟩, hb⟩; refine ⟨_, rfl, ?_⟩
  replace hE := hE.mono hb
  replace HP := HP.mono hb
  replace H := H.mono hb
  clear hb hw
  have hw := Below.refl w2.heap.size w2
  rcases hi with ⟨rfl, hn⟩ | ⟨k, r, rfl, hxk, hr, hn⟩
  · have hf : findT p id = none := find_none hn
    rw [hf]
    repeat' (first | (refine lw_pure rfl (pv_move rfl) ?_) | (refine lw_pure rfl (pv_assign rfl) ?_) | (refine is_cw ?_; first | (refine cw_seq ?_) | (refine cw_region ?_) | (refine cw_true rfl rfl ?_) | (refine cw_false rfl rfl ?_) | (refine is_cd ?_; refine cw_true rfl (by first | assumption | exact decide_eq_true (by omega) | exact dec_notT (by omega)) ?_) | (refine is_cd ?_; refine cw_false rfl (by first | assumption | exact decide_eq_false (by omega) | exact dec_notF (by omega)) ?_) | (refine cw_skip ?_) | (refine cw_ret ?_)) | (refine is_qw ?_; first | (with_reducible refine qw_then ?_) | (with_reducible refine qw_then_ret ?_)) | (refine lw_nil ?_) | ((refine is_bin ?_; first | (refine lw_pure rfl (pv_lss rfl rfl) ?_))) | ((refine is_load ?_; first | (refine lw_pure rfl (pv_load (t1 rfl) rfl (by first | fail)) ?_) | (refine lw_pure rfl (pv_loada (tA rfl) rfl (by first | fail) (by rfl)) ?_))) | ((refine is_ia ?_; first | (refine lw_pure rfl (pv_ian (tS rfl) rfl rfl (by omega)) ?_) | (refine lw_pure rfl (pv_ia (tS rfl) rfl rfl (by omega)) ?_))) | ((refine is_bd ?_; first | (refine lw_pure rfl (tyB_56 rfl rfl rfl) ?_))))
    refine lw_storea (vs := encL lZ) H (tZ rfl) rfl rfl rfl rfl (encL_one _) ?_; intro w3 H2 hg hz
    replace hE := hE.grown hg (by intro q hq; injection hq with hq; omega)
    have hw := Below.refl w3.heap.size w3
    repeat' (first | (refine lw_pure rfl (pv_move rfl) ?_) | (refine lw_pure rfl (pv_assign rfl) ?_) | (refine is_cw ?_; first | (refine cw_seq ?_) | (refine cw_region ?_) | (refine cw_true rfl rfl ?_) | (refine cw_false rfl rfl ?_) | (refine is_cd ?_; refine cw_true rfl (by first | assumption | exact decide_eq_true (by omega) | exact dec_notT (by omega)) ?_) | (refine is_cd ?_; refine cw_false rfl (by first | assumption | exact decide_eq_false (by omega) | exact dec_notF (by omega)) ?_) | (refine cw_skip ?_) | (refine cw_ret ?_)) | (refine is_qw ?_; first | (with_reducible refine qw_then ?_) | (with_reducible refine qw_then_ret ?_)) | (refine lw_nil ?_) | ((refine is_bin ?_; first | (refine lw_pure rfl (pv_lss rfl rfl) ?_))) | ((refine is_load ?_; first | (refine lw_pure rfl (pv_load (t1 rfl) rfl (by first | fail)) ?_) | (refine lw_pure rfl (pv_loada (tA rfl) rfl (by first | fail) (by rfl)) ?_))) | ((refine is_ia ?_; first | (refine lw_pure rfl (pv_ian (tS rfl) rfl rfl (by omega)) ?_) | (refine lw_pure rfl (pv_ia (tS rfl) rfl rfl (by omega)) ?_))) | ((refine is_bd ?_; first | (refine lw_pure rfl (tyB_56 rfl rfl rfl) ?_))))
    exact qw_retct rfl rfl rfl (agg_ld (tA rfl) rfl (fun i u hu => H2.ld0 hu)) ⟨rfl, hE.b⟩
  · have hf : findT p id = some r := find_at hxk hr hn
    have hlt : k < p.length := (List.getElem?_eq_some_iff.1 hxk).1
    obtain ⟨ab, ao, rfl, -, -⟩ := HP.at (by intro h; rw [h] at hlt; simp at hlt)
    rw [hf]
    repeat' (first | (refine lw_pure rfl (pv_move rfl) ?_) | (refine lw_pure rfl (pv_assign rfl) ?_) | (refine is_cw ?_; first | (refine cw_seq ?_) | (refine cw_region ?_) | (refine cw_true rfl rfl ?_) | (refine cw_false rfl rfl ?_) | (refine is_cd ?_; refine cw_true rfl (by first | assumption | exact decide_eq_true (by omega) | exact dec_notT (by omega)) ?_) | (refine is_cd ?_; refine cw_false rfl (by first | assumption | exact decide_eq_false (by omega) | exact dec_notF (by omega)) ?_) | (refine cw_skip ?_) | (refine cw_ret ?_)) | (refine is_qw ?_; first | (with_reducible refine qw_then ?_) | (with_reducible refine qw_then_ret ?_)) | (refine lw_nil ?_) | ((refine is_bin ?_; first | (refine lw_pure rfl (pv_lss rfl rfl) ?_))) | ((refine is_load ?_; first | (refine lw_pure rfl (pv_load (t1 rfl) rfl (by first | exact SlR.ld (HP.mono hw) hxk rfl | exact SlR.ld1 (HP.mono hw) hxk rfl)) ?_) | (refine lw_pure rfl (pv_loada (tA rfl) rfl (by first | exact SlR.lda (HP.mono hw) hxk) (by rfl)) ?_))) | ((refine is_ia ?_; first | (refine lw_pure rfl (pv_ian (tS rfl) rfl rfl (by omega)) ?_) | (refine lw_pure rfl (pv_ia (tS rfl) rfl rfl (by omega)) ?_))) | ((refine is_bd ?_; first | (refine lw_pure rfl (tyB_56 rfl rfl rfl) ?_))))
    refine lw_storea (vs := encL r) (H.mono hw) (tZ rfl) rfl rfl rfl rfl (encL_one _) ?_; intro w3 H2 hg hz
    replace hE := (hE.mono hw).grown hg (by intro q hq; injection hq with hq; omega)
    clear hw
    have hw := Below.refl w3.heap.size w3
    repeat' (first | (refine lw_pure rfl (pv_move rfl) ?_) | (refine lw_pure rfl (pv_assign rfl) ?_) | (refine is_cw ?_; first | (refine cw_seq ?_) | (refine cw_region ?_) | (refine cw_true rfl rfl ?_) | (refine cw_false rfl rfl ?_) | (refine is_cd ?_; refine cw_true rfl (by first | assumption | exact decide_eq_true (by omega) | exact dec_notT (by omega)) ?_) | (refine is_cd ?_; refine cw_false rfl (by first | assumption | exact decide_eq_false (by omega) | exact dec_notF (by omega)) ?_) | (refine cw_skip ?_) | (refine cw_ret ?_)) | (refine is_qw ?_; first | (with_reducible refine qw_then ?_) | (with_reducible refine qw_then_ret ?_)) | (refine lw_nil ?_) | ((refine is_bin ?_; first | (refine lw_pure rfl (pv_lss rfl rfl) ?_))) | ((refine is_load ?_; first | (refine lw_pure rfl (pv_load (t1 rfl) rfl (by first | fail)) ?_) | (refine lw_pure rfl (pv_loada (tA rfl) rfl (by first | fail) (by rfl)) ?_))) | ((refine is_ia ?_; first | (refine lw_pure rfl (pv_ian (tS rfl) rfl rfl (by omega)) ?_) | (refine lw_pure rfl (pv_ia (tS rfl) rfl rfl (by omega)) ?_))) | ((refine is_bd ?_; first | (refine lw_pure rfl (tyB_56 rfl rfl rfl) ?_))))
    exact qw_retct rfl rfl rfl (agg_ld (tA rfl) rfl (fun i u hu => H2.ld0 hu)) ⟨rfl, hE.b⟩

theorem neq_P (x y : Opn) (w : World) : (binOp .neq 54 (.agg (encP x).toArray) (.agg (encP y).toArray)).run Tryd.prog w = .ok (.bool (!decide (x = y))) w := by
  have hS : (Tryd.prog).underlying 54 = some (.struct ((Tryd.prog).fieldsOf 54)) := by kernel_rfl
  have hp : (Tryd.prog).stoodInHeld 54 = false := by kernel_rfl
  unfold encP
  rw [run_neq_struct, show (10000 : Nat) = 9999 + 1 from rfl, run_equalIn_agg w 9999 54 _ _ hS hp]
  have h : (decide (x = y)) = (x.acct == y.acct && (x.id == y.id && (x.inst == y.inst && (x.side == y.side && (x.price == y.price && x.left == y.left))))) := by
    rw [Bool.eq_iff_iff]
    cases x; cases y; simp
  rw [h]
  simp only [Program.fieldsOf, Tryd.underlying54]
  go_simp
  by_cases h1 : x.acct = y.acct <;> by_cases h2 : x.id = y.id <;> by_cases h3 : x.inst = y.inst <;> by_cases h4 : x.side = y.side <;> by_cases h5 : x.price = y.price <;> by_cases h6 : x.left = y.left <;> simp [*]
theorem eql_P (x y : Opn) (w : World) : (binOp .eql 54 (.agg (encP x).toArray) (.agg (encP y).toArray)).run Tryd.prog w = .ok (.bool (decide (x = y))) w := by
  have hS : (Tryd.prog).underlying 54 = some (.struct ((Tryd.prog).fieldsOf 54)) := by kernel_rfl
  have hp : (Tryd.prog).stoodInHeld 54 = false := by kernel_rfl
  unfold encP
  rw [run_eql_struct, show (10000 : Nat) = 9999 + 1 from rfl, run_equalIn_agg w 9999 54 _ _ hS hp]
  have h : (decide (x = y)) = (x.acct == y.acct && (x.id == y.id && (x.inst == y.inst && (x.side == y.side && (x.price == y.price && x.left == y.left))))) := by
    rw [Bool.eq_iff_iff]
    cases x; cases y; simp
  rw [h]
  simp only [Program.fieldsOf, Tryd.underlying54]
  go_simp
  by_cases h1 : x.acct = y.acct <;> by_cases h2 : x.id = y.id <;> by_cases h3 : x.inst = y.inst <;> by_cases h4 : x.side = y.side <;> by_cases h5 : x.price = y.price <;> by_cases h6 : x.left = y.left <;> simp [*]
theorem pv_neqP {n : Nat} {l : Fr} {w : World} {d : Option Nat} {t' ty : TypeId} {x y : Operand} {pos : String} {af : Array Edge} {g : Option (Nat × Bool)} (a b : Opn) (hx : ev l x = some (.agg (encP a).toArray)) (hy : ev l y = some (.agg (encP b).toArray)) : Pv Tryd.prog n l ⟨d, .binOp .neq 54 x y t', ty, pos, af, g⟩ (.bool (!decide (a = b))) w := ⟨fun A hA => by
  have h1 : (eqGuard .neq 54 x y (.agg (encP a).toArray) (.agg (encP b).toArray)).run Tryd.prog w = .ok () w := run_eqGuard_agg w .neq 54 x y _ _ (by kernel_rfl)
  have h2 := neq_P a b w
  simp [execOp, hA.ev hx, hA.ev hy, h1, h2]⟩
theorem pv_eqlP {n : Nat} {l : Fr} {w : World} {d : Option Nat} {t' ty : TypeId} {x y : Operand} {pos : String} {af : Array Edge} {g : Option (Nat × Bool)} (a b : Opn) (hx : ev l x = some (.agg (encP a).toArray)) (hy : ev l y = some (.agg (encP b).toArray)) : Pv Tryd.prog n l ⟨d, .binOp .eql 54 x y t', ty, pos, af, g⟩ (.bool (decide (a = b))) w := ⟨fun A hA => by
  have h1 : (eqGuard .eql 54 x y (.agg (encP a).toArray) (.agg (encP b).toArray)).run Tryd.prog w = .ok () w := run_eqGuard_agg w .eql 54 x y _ _ (by kernel_rfl)
  have h2 := eql_P a b w
  simp [execOp, hA.ev hx, hA.ev hy, h1, h2]⟩

theorem neq_L (x y : Lt) (w : World) : (binOp .neq 56 (.agg (encL x).toArray) (.agg (encL y).toArray)).run Tryd.prog w = .ok (.bool (!decide (x = y))) w := by
  have hS : (Tryd.prog).underlying 56 = some (.struct ((Tryd.prog).fieldsOf 56)) := by kernel_rfl
  have hp : (Tryd.prog).stoodInHeld 56 = false := by kernel_rfl
  unfold encL
  rw [run_neq_struct, show (10000 : Nat) = 9999 + 1 from rfl, run_equalIn_agg w 9999 56 _ _ hS hp]
  have h : (decide (x = y)) = (x.id == y.id && (x.seller == y.seller && (x.inst == y.inst && x.qty == y.qty))) := by
    rw [Bool.eq_iff_iff]
    cases x; cases y; simp
  rw [h]
  simp only [Program.fieldsOf, Tryd.underlying56]
  go_simp
  by_cases h1 : x.id = y.id <;> by_cases h2 : x.seller = y.seller <;> by_cases h3 : x.inst = y.inst <;> by_cases h4 : x.qty = y.qty <;> simp [*]
theorem eql_L (x y : Lt) (w : World) : (binOp .eql 56 (.agg (encL x).toArray) (.agg (encL y).toArray)).run Tryd.prog w = .ok (.bool (decide (x = y))) w := by
  have hS : (Tryd.prog).underlying 56 = some (.struct ((Tryd.prog).fieldsOf 56)) := by kernel_rfl
  have hp : (Tryd.prog).stoodInHeld 56 = false := by kernel_rfl
  unfold encL
  rw [run_eql_struct, show (10000 : Nat) = 9999 + 1 from rfl, run_equalIn_agg w 9999 56 _ _ hS hp]
  have h : (decide (x = y)) = (x.id == y.id && (x.seller == y.seller && (x.inst == y.inst && x.qty == y.qty))) := by
    rw [Bool.eq_iff_iff]
    cases x; cases y; simp
  rw [h]
  simp only [Program.fieldsOf, Tryd.underlying56]
  go_simp
  by_cases h1 : x.id = y.id <;> by_cases h2 : x.seller = y.seller <;> by_cases h3 : x.inst = y.inst <;> by_cases h4 : x.qty = y.qty <;> simp [*]
theorem pv_neqL {n : Nat} {l : Fr} {w : World} {d : Option Nat} {t' ty : TypeId} {x y : Operand} {pos : String} {af : Array Edge} {g : Option (Nat × Bool)} (a b : Lt) (hx : ev l x = some (.agg (encL a).toArray)) (hy : ev l y = some (.agg (encL b).toArray)) : Pv Tryd.prog n l ⟨d, .binOp .neq 56 x y t', ty, pos, af, g⟩ (.bool (!decide (a = b))) w := ⟨fun A hA => by
  have h1 : (eqGuard .neq 56 x y (.agg (encL a).toArray) (.agg (encL b).toArray)).run Tryd.prog w = .ok () w := run_eqGuard_agg w .neq 56 x y _ _ (by kernel_rfl)
  have h2 := neq_L a b w
  simp [execOp, hA.ev hx, hA.ev hy, h1, h2]⟩
theorem pv_eqlL {n : Nat} {l : Fr} {w : World} {d : Option Nat} {t' ty : TypeId} {x y : Operand} {pos : String} {af : Array Edge} {g : Option (Nat × Bool)} (a b : Lt) (hx : ev l x = some (.agg (encL a).toArray)) (hy : ev l y = some (.agg (encL b).toArray)) : Pv Tryd.prog n l ⟨d, .binOp .eql 56 x y t', ty, pos, af, g⟩ (.bool (decide (a = b))) w := ⟨fun A hA => by
  have h1 : (eqGuard .eql 56 x y (.agg (encL a).toArray) (.agg (encL b).toArray)).run Tryd.prog w = .ok () w := run_eqGuard_agg w .eql 56 x y _ _ (by kernel_rfl)
  have h2 := eql_L a b w
  simp [execOp, hA.ev hx, hA.ev hy, h1, h2]⟩





end Go.Proofs.YtnffmbfdfhokeaaDoor
namespace Go.Proofs.YtnffmbfdfhokeaaDoor
open Go.PlainAid

theorem insP_perm (o : Opn) : ∀ p : List Opn, (insP p o).Perm (p ++ [o])
  | [] => List.Perm.refl _
  | x :: r => by
    unfold insP
    split
    · have : (o :: (x :: r)).Perm ((x :: r) ++ [o]) := (List.perm_append_comm (l₁ := [o]) (l₂ := x :: r))
      exact this
    · exact List.Perm.cons x (insP_perm o r)
theorem insT_perm (o : Lt) : ∀ p : List Lt, (insT p o).Perm (p ++ [o])
  | [] => List.Perm.refl _
  | x :: r => by
    unfold insT
    split
    · have : (o :: (x :: r)).Perm ((x :: r) ++ [o]) := (List.perm_append_comm (l₁ := [o]) (l₂ := x :: r))
      exact this
    · exact List.Perm.cons x (insT_perm o r)
theorem insP_pw {o : Opn} : ∀ {p : List Opn}, p.Pairwise keyO → (∀ x ∈ p, keyO x o ∨ keyO o x) → (insP p o).Pairwise keyO
  | [], _, _ => by simp [insP]
  | x :: r, hp, h => by
    obtain ⟨h1, h2⟩ := List.pairwise_cons.1 hp
    unfold insP
    split
    · rename_i hk
      refine List.pairwise_cons.2 ⟨fun y hy => ?_, hp⟩
      rcases List.mem_cons.1 hy with rfl | hy
      · exact hk
      · exact keyO_trans hk (h1 y hy)
    · rename_i hk
      refine List.pairwise_cons.2 ⟨fun y hy => ?_, insP_pw h2 (fun y hy => h y (List.mem_cons_of_mem _ hy))⟩
      rcases List.mem_append.1 ((insP_perm o r).mem_iff.1 hy) with hy | hy
      · exact h1 y hy
      · simp at hy; subst hy
        rcases h x (by simp) with h3 | h3
        · exact h3
        · exact absurd h3 hk
theorem insT_pw {o : Lt} : ∀ {p : List Lt}, p.Pairwise keyT → (∀ x ∈ p, keyT x o ∨ keyT o x) → (insT p o).Pairwise keyT
  | [], _, _ => by simp [insT]
  | x :: r, hp, h => by
    obtain ⟨h1, h2⟩ := List.pairwise_cons.1 hp
    unfold insT
    split
    · rename_i hk
      refine List.pairwise_cons.2 ⟨fun y hy => ?_, hp⟩
      rcases List.mem_cons.1 hy with rfl | hy
      · exact hk
      · exact keyT_trans hk (h1 y hy)
    · rename_i hk
      refine List.pairwise_cons.2 ⟨fun y hy => ?_, insT_pw h2 (fun y hy => h y (List.mem_cons_of_mem _ hy))⟩
      rcases List.mem_append.1 ((insT_perm o r).mem_iff.1 hy) with hy | hy
      · exact h1 y hy
      · simp at hy; subst hy
        rcases h x (by simp) with h3 | h3
        · exact h3
        · exact absurd h3 hk
theorem sortP_eq {l m : List Opn} (hp : l.Perm m) (h1 : l.Pairwise keyO) (h2 : m.Pairwise keyO) : l = m :=
  List.Perm.eq_of_pairwise (le := keyO) (fun _ _ _ _ h g => absurd g (keyO_asymm h)) h1 h2 hp
theorem sortT_eq {l m : List Lt} (hp : l.Perm m) (h1 : l.Pairwise keyT) (h2 : m.Pairwise keyT) : l = m :=
  List.Perm.eq_of_pairwise (le := keyT) (fun _ _ _ _ h g => by unfold keyT at *; omega) h1 h2 hp
theorem findP_none {p : List Opn} {id : Int} (h : findP p id = none) : ∀ x ∈ p, x.id ≠ id := by
  unfold findP at h
  rw [List.find?_eq_none] at h
  intro x hx e; exact h x hx (by simp [e])
theorem findT_none {p : List Lt} {id : Int} (h : findT p id = none) : ∀ x ∈ p, x.id ≠ id := by
  unfold findT at h
  rw [List.find?_eq_none] at h
  intro x hx e; exact h x hx (by simp [e])
theorem key_diff {x o : Opn} (h : x.id ≠ o.id) : keyO x o ∨ keyO o x := by unfold keyO; omega
theorem keyT_diff {x o : Lt} (h : x.id ≠ o.id) : keyT x o ∨ keyT o x := by unfold keyT; omega
theorem put_pw {p : List Opn} {o : Opn} (hp : p.Pairwise keyO) (h : ∀ x ∈ p, x.id ≠ o.id) : (p ++ [o]).Pairwise fun x y => keyO x y ∨ keyO y x := by
  refine List.pairwise_append.2 ⟨hp.imp Or.inl, by simp, fun x hx y hy => ?_⟩
  simp at hy; subst hy; exact key_diff (h x hx)
theorem putT_pw {p : List Lt} {o : Lt} (hp : p.Pairwise keyT) (h : ∀ x ∈ p, x.id ≠ o.id) : (p ++ [o]).Pairwise fun x y => keyT x y ∨ keyT y x := by
  refine List.pairwise_append.2 ⟨hp.imp Or.inl, by simp, fun x hx y hy => ?_⟩
  simp at hy; subst hy; exact keyT_diff (h x hx)
theorem put_sorted {p zs : List Opn} {o : Opn} (hp : p.Pairwise keyO) (h : ∀ x ∈ p, x.id ≠ o.id) (hz : zs.Perm (p ++ [o])) (hs : zs.Pairwise keyO) : zs = insP p o :=
  sortP_eq (hz.trans (insP_perm o p).symm) hs (insP_pw hp (fun x hx => key_diff (h x hx)))
theorem putT_sorted {p zs : List Lt} {o : Lt} (hp : p.Pairwise keyT) (h : ∀ x ∈ p, x.id ≠ o.id) (hz : zs.Perm (p ++ [o])) (hs : zs.Pairwise keyT) : zs = insT p o :=
  sortT_eq (hz.trans (insT_perm o p).symm) hs (insT_pw hp (fun x hx => keyT_diff (h x hx)))
/-! ### what is taken out -/
theorem map_other {p : List Opn} {id q : Int} (h : ∀ x ∈ p, x.id ≠ id) : p.map (cutP id q) = p := by
  have : ∀ x ∈ p, cutP id q x = x := fun x hx => by unfold cutP; rw [if_neg (h x hx)]
  exact (List.map_congr_left this).trans (List.map_id' p)
theorem keep_pos {p : List Opn} (h : ∀ x ∈ p, 0 < x.left) : (p.filter fun o => decide (0 < o.left)) = p := List.filter_eq_self.2 fun x hx => by simp [h x hx]
theorem cancel_eq : ∀ {p : List Opn} {k : Nat} {o : Opn}, p[k]? = some o → (p.map (·.id)).Nodup → (∀ x ∈ p, 0 < x.left) → lessP p o.id o.left = p.eraseIdx k
  | [], _, _, h, _, _ => by simp at h
  | x :: r, 0, o, h, hn, hl => by
    simp at h; subst h
    rw [List.map_cons, List.nodup_cons] at hn
    have hne : ∀ y ∈ r, y.id ≠ x.id := fun y hy e => hn.1 (List.mem_map.2 ⟨y, hy, e⟩)
    unfold lessP
    rw [List.map_cons, map_other hne, List.filter_cons_of_neg (by simp [cutP]), keep_pos (fun y hy => hl y (List.mem_cons_of_mem _ hy))]
    rfl
  | x :: r, k + 1, o, h, hn, hl => by
    have h' : r[k]? = some o := by simpa using h
    rw [List.map_cons, List.nodup_cons] at hn
    have hne : x.id ≠ o.id := fun e => hn.1 (List.mem_map.2 ⟨o, List.mem_of_getElem? h', e.symm⟩)
    have ih := cancel_eq h' hn.2 (fun y hy => hl y (List.mem_cons_of_mem _ hy))
    unfold lessP at ih ⊢
    rw [List.map_cons, show cutP o.id o.left x = x by unfold cutP; rw [if_neg hne], List.filter_cons_of_pos (by simpa using hl x (by simp)), ih]
    rfl
theorem gone_eq : ∀ {t : List Lt} {k : Nat} {o : Lt}, t[k]? = some o → t.Pairwise keyT → gone t o.id = t.eraseIdx k
  | [], _, _, h, _ => by simp at h
  | x :: r, 0, o, h, hp => by
    simp at h; subst h
    obtain ⟨h1, _⟩ := List.pairwise_cons.1 hp
    unfold gone
    rw [List.filter_cons_of_neg (by simp), List.filter_eq_self.2 (fun y hy => by have := h1 y hy; unfold keyT at this; simp; omega)]
    rfl
  | x :: r, k + 1, o, h, hp => by
    have h' : r[k]? = some o := by simpa using h
    obtain ⟨h1, h2⟩ := List.pairwise_cons.1 hp
    have hk := h1 o (List.mem_of_getElem? h')
    unfold keyT at hk
    have ih := gone_eq h' h2
    unfold gone at ih ⊢
    rw [List.filter_cons_of_pos (by simp; omega), ih]
    rfl
/-! ### less of one -/
theorem set_map : ∀ {p : List Opn} {k : Nat} {o : Opn} {q : Int}, p[k]? = some o → (p.map (·.id)).Nodup → p.set k { o with left := o.left - q } = p.map (cutP o.id q)
  | [], _, _, _, h, _ => by simp at h
  | x :: r, 0, o, q, h, hn => by
    simp at h; subst h
    rw [List.map_cons, List.nodup_cons] at hn
    have hne : ∀ y ∈ r, y.id ≠ x.id := fun y hy e => hn.1 (List.mem_map.2 ⟨y, hy, e⟩)
    rw [List.map_cons, map_other hne]
    simp [cutP]
  | x :: r, k + 1, o, q, h, hn => by
    have h' : r[k]? = some o := by simpa using h
    rw [List.map_cons, List.nodup_cons] at hn
    have hne : x.id ≠ o.id := fun e => hn.1 (List.mem_map.2 ⟨o, List.mem_of_getElem? h', e.symm⟩)
    rw [List.set_cons_succ, set_map h' hn.2, List.map_cons, show cutP o.id q x = x by unfold cutP; rw [if_neg hne]]
theorem cut_id (id q : Int) (o : Opn) : (cutP id q o).id = o.id := by unfold cutP; split <;> rfl
theorem map_ids (p : List Opn) (id q : Int) : (p.map (cutP id q)).map (·.id) = p.map (·.id) := by
  rw [List.map_map]; exact List.map_congr_left fun x _ => cut_id id q x
theorem filter_map_filter {α : Type} (P : α → Bool) (f : α → α) (l : List α) (h : ∀ x ∈ l, P x = false → P (f x) = false) : ((l.filter P).map f).filter P = (l.map f).filter P := by
  induction l with
  | nil => rfl
  | cons x l ih =>
    have ih' := ih (fun y hy => h y (List.mem_cons_of_mem _ hy))
    cases hx : P x with
    | true => rw [List.filter_cons_of_pos hx, List.map_cons, List.map_cons, List.filter_cons, List.filter_cons, ih']
    | false =>
      rw [List.filter_cons_of_neg (by simp [hx]), List.map_cons, List.filter_cons_of_neg (by simp [h x (by simp) hx]), ih']
theorem inj_of_nodup {p : List Opn} (hn : (p.map (·.id)).Nodup) {x y : Opn} (hx : x ∈ p) (hy : y ∈ p) (e : x.id = y.id) : x = y := by
  induction p with
  | nil => cases hx
  | cons z r ih =>
    rw [List.map_cons, List.nodup_cons] at hn
    rcases List.mem_cons.1 hx with rfl | hx' <;> rcases List.mem_cons.1 hy with rfl | hy'
    · rfl
    · exact absurd (List.mem_map.2 ⟨y, hy', e.symm⟩) hn.1
    · exact absurd (List.mem_map.2 ⟨x, hx', e⟩) hn.1
    · exact ih hn.2 hx' hy'
theorem cut_ne {id q : Int} {o : Opn} (h : o.id ≠ id) : cutP id q o = o := by unfold cutP; rw [if_neg h]
theorem traded_eq {p : List Opn} {i j : Nat} {a b : Opn} {q : Int} (ha : p[i]? = some a) (hb : p[j]? = some b) (hn : (p.map (·.id)).Nodup) (hl : ∀ x ∈ p, 0 < x.left) (hab : a.id ≠ b.id) (h1 : q ≤ a.left) (h2 : q ≤ b.left) :
    ((p.set i { a with left := a.left - q }).set j { b with left := b.left - q }).filter (fun o => !(o.left == 0)) = lessP (lessP p a.id q) b.id q := by
  rw [set_map ha hn]
  have hb' : (p.map (cutP a.id q))[j]? = some b := by
    rw [List.getElem?_map, hb, Option.map_some]
    unfold cutP; rw [if_neg (fun e => hab e.symm)]
  rw [set_map hb' (by rw [map_ids]; exact hn)]
  unfold lessP
  rw [filter_map_filter]
  · refine List.filter_congr fun x hx => ?_
    obtain ⟨y, hy, rfl⟩ := List.mem_map.1 hx
    obtain ⟨z, hz, rfl⟩ := List.mem_map.1 hy
    have hz0 := hl z hz
    have hge : 0 ≤ (cutP b.id q (cutP a.id q z)).left := by
      unfold cutP
      by_cases e1 : z.id = a.id
      · have hza : z = a := by
          have := List.mem_of_getElem? ha
          exact inj_of_nodup hn hz this e1
        subst hza
        simp [hab]
        omega
      · rw [if_neg e1]
        by_cases e2 : z.id = b.id
        · have hzb : z = b := inj_of_nodup hn hz (List.mem_of_getElem? hb) e2
          subst hzb
          simp; omega
        · rw [if_neg e2]; omega
    by_cases h0 : (cutP b.id q (cutP a.id q z)).left = 0
    · simp [h0]
    · have : 0 < (cutP b.id q (cutP a.id q z)).left := by omega
      simp [h0, this]
  · intro x hx hx0
    obtain ⟨y, hy, rfl⟩ := List.mem_map.1 hx
    simp only [decide_eq_false_iff_not] at hx0 ⊢
    have hy0 := hl y hy
    by_cases e1 : y.id = a.id
    · have e3 : (cutP a.id q y).id ≠ b.id := by rw [cut_id, e1]; exact hab
      rw [cut_ne e3]
      exact hx0
    · rw [cut_ne e1] at hx0
      exact absurd hy0 hx0
end Go.Proofs.YtnffmbfdfhokeaaDoor
namespace Go.Proofs.YtnffmbfdfhokeaaDoor
open Go.RowKit Go.PlainAid

theorem insP_end {o : Opn} : ∀ {l : List Opn}, (∀ x ∈ l, ¬ keyO o x) → insP l o = l ++ [o]
  | [], _ => rfl
  | x :: r, h => by unfold insP; rw [if_neg (h x (by simp)), insP_end (fun y hy => h y (List.mem_cons_of_mem _ hy))]; rfl
theorem insP_here {o y : Opn} (hk : keyO o y) : ∀ {l : List Opn}, (∀ x ∈ l, ¬ keyO o x) → insP (l ++ [y]) o = l ++ [o] ++ [y]
  | [], _ => by simp [insP, hk]
  | x :: r, h => by
    rw [List.cons_append]; unfold insP
    rw [if_neg (h x (by simp)), insP_here hk (fun y hy => h y (List.mem_cons_of_mem _ hy))]; rfl
theorem insP_past {o y : Opn} : ∀ {l : List Opn}, (∃ x ∈ l, keyO o x) → insP (l ++ [y]) o = insP l o ++ [y]
  | [], h => by obtain ⟨x, hx, _⟩ := h; cases hx
  | x :: r, h => by
    rw [List.cons_append]; unfold insP
    by_cases hk : keyO o x
    · rw [if_pos hk, if_pos hk]; rfl
    · rw [if_neg hk, if_neg hk]
      obtain ⟨z, hz, hkz⟩ := h
      rcases List.mem_cons.1 hz with rfl | hz
      · exact absurd hkz hk
      · rw [insP_past ⟨z, hz, hkz⟩]; rfl
theorem insT_end {o : Lt} : ∀ {l : List Lt}, (∀ x ∈ l, ¬ keyT o x) → insT l o = l ++ [o]
  | [], _ => rfl
  | x :: r, h => by unfold insT; rw [if_neg (h x (by simp)), insT_end (fun y hy => h y (List.mem_cons_of_mem _ hy))]; rfl
theorem insT_here {o y : Lt} (hk : keyT o y) : ∀ {l : List Lt}, (∀ x ∈ l, ¬ keyT o x) → insT (l ++ [y]) o = l ++ [o] ++ [y]
  | [], _ => by simp [insT, hk]
  | x :: r, h => by
    rw [List.cons_append]; unfold insT
    rw [if_neg (h x (by simp)), insT_here hk (fun y hy => h y (List.mem_cons_of_mem _ hy))]; rfl
theorem insT_past {o y : Lt} : ∀ {l : List Lt}, (∃ x ∈ l, keyT o x) → insT (l ++ [y]) o = insT l o ++ [y]
  | [], h => by obtain ⟨x, hx, _⟩ := h; cases hx
  | x :: r, h => by
    rw [List.cons_append]; unfold insT
    by_cases hk : keyT o x
    · rw [if_pos hk, if_pos hk]; rfl
    · rw [if_neg hk, if_neg hk]
      obtain ⟨z, hz, hkz⟩ := h
      rcases List.mem_cons.1 hz with rfl | hz
      · exact absurd hkz hk
      · rw [insT_past ⟨z, hz, hkz⟩]; rfl
theorem take_snoc {α : Type} {l : List α} {k : Nat} {x : α} (h : l[k]? = some x) : l.take (k + 1) = l.take k ++ [x] := by rw [List.take_add_one, h]; rfl
def putI (p : List Opn) (o : Opn) (k : Nat) (done : Bool) (L : List Opn) : Prop := (done = false ∧ L = p.take k ∧ ∀ x ∈ p.take k, ¬ keyO o x) ∨ (done = true ∧ L = insP (p.take k) o ∧ ∃ x ∈ p.take k, keyO o x)
theorem putI.len {p : List Opn} {o : Opn} {k : Nat} {d : Bool} {L : List Opn} (h : putI p o k d L) : L.length ≤ k + 1 := by
  have ht : (p.take k).length ≤ k := by rw [List.length_take]; omega
  rcases h with ⟨_, rfl, _⟩ | ⟨_, rfl, _⟩
  · omega
  · have := (insP_perm o (p.take k)).length_eq
    rw [this, List.length_append]; simp; omega
theorem putI.end_f {p : List Opn} {o : Opn} {L : List Opn} (h : putI p o p.length false L) : L ++ [o] = insP p o := by
  rcases h with ⟨_, rfl, h⟩ | ⟨h, _⟩
  · rw [List.take_length] at h ⊢; exact (insP_end h).symm
  · cases h
theorem putI.end_t {p : List Opn} {o : Opn} {L : List Opn} (h : putI p o p.length true L) : L = insP p o := by
  rcases h with ⟨h, _⟩ | ⟨_, rfl, _⟩
  · cases h
  · rw [List.take_length]
theorem putI.past {p : List Opn} {o x : Opn} {k : Nat} {L : List Opn} (h : putI p o k true L) (hx : p[k]? = some x) : putI p o (k + 1) true (L ++ [x]) := by
  rcases h with ⟨h, _⟩ | ⟨_, rfl, z, hz, hk⟩
  · cases h
  · exact Or.inr ⟨rfl, by rw [take_snoc hx, insP_past ⟨z, hz, hk⟩], z, by rw [take_snoc hx]; exact List.mem_append_left _ hz, hk⟩
theorem putI.here {p : List Opn} {o x : Opn} {k : Nat} {L : List Opn} (h : putI p o k false L) (hx : p[k]? = some x) (hk : keyO o x) : putI p o (k + 1) true (L ++ [o] ++ [x]) := by
  rcases h with ⟨_, rfl, h⟩ | ⟨h, _⟩
  · exact Or.inr ⟨rfl, by rw [take_snoc hx, insP_here hk h], x, by rw [take_snoc hx]; simp, hk⟩
  · cases h
theorem putI.yet {p : List Opn} {o x : Opn} {k : Nat} {L : List Opn} (h : putI p o k false L) (hx : p[k]? = some x) (hk : ¬ keyO o x) : putI p o (k + 1) false (L ++ [x]) := by
  rcases h with ⟨_, rfl, h⟩ | ⟨h, _⟩
  · refine Or.inl ⟨rfl, (take_snoc hx).symm, fun y hy => ?_⟩
    rw [take_snoc hx] at hy
    rcases List.mem_append.1 hy with hy | hy
    · exact h y hy
    · simp at hy; subst hy; exact hk
  · cases h
def putJ (p : List Lt) (o : Lt) (k : Nat) (done : Bool) (L : List Lt) : Prop := (done = false ∧ L = p.take k ∧ ∀ x ∈ p.take k, ¬ keyT o x) ∨ (done = true ∧ L = insT (p.take k) o ∧ ∃ x ∈ p.take k, keyT o x)
theorem putJ.len {p : List Lt} {o : Lt} {k : Nat} {d : Bool} {L : List Lt} (h : putJ p o k d L) : L.length ≤ k + 1 := by
  have ht : (p.take k).length ≤ k := by rw [List.length_take]; omega
  rcases h with ⟨_, rfl, _⟩ | ⟨_, rfl, _⟩
  · omega
  · have := (insT_perm o (p.take k)).length_eq
    rw [this, List.length_append]; simp; omega
theorem putJ.end_f {p : List Lt} {o : Lt} {L : List Lt} (h : putJ p o p.length false L) : L ++ [o] = insT p o := by
  rcases h with ⟨_, rfl, h⟩ | ⟨h, _⟩
  · rw [List.take_length] at h ⊢; exact (insT_end h).symm
  · cases h
theorem putJ.end_t {p : List Lt} {o : Lt} {L : List Lt} (h : putJ p o p.length true L) : L = insT p o := by
  rcases h with ⟨h, _⟩ | ⟨_, rfl, _⟩
  · cases h
  · rw [List.take_length]
theorem putJ.past {p : List Lt} {o x : Lt} {k : Nat} {L : List Lt} (h : putJ p o k true L) (hx : p[k]? = some x) : putJ p o (k + 1) true (L ++ [x]) := by
  rcases h with ⟨h, _⟩ | ⟨_, rfl, z, hz, hk⟩
  · cases h
  · exact Or.inr ⟨rfl, by rw [take_snoc hx, insT_past ⟨z, hz, hk⟩], z, by rw [take_snoc hx]; exact List.mem_append_left _ hz, hk⟩
theorem putJ.here {p : List Lt} {o x : Lt} {k : Nat} {L : List Lt} (h : putJ p o k false L) (hx : p[k]? = some x) (hk : keyT o x) : putJ p o (k + 1) true (L ++ [o] ++ [x]) := by
  rcases h with ⟨_, rfl, h⟩ | ⟨h, _⟩
  · exact Or.inr ⟨rfl, by rw [take_snoc hx, insT_here hk h], x, by rw [take_snoc hx]; simp, hk⟩
  · cases h
theorem putJ.yet {p : List Lt} {o x : Lt} {k : Nat} {L : List Lt} (h : putJ p o k false L) (hx : p[k]? = some x) (hk : ¬ keyT o x) : putJ p o (k + 1) false (L ++ [x]) := by
  rcases h with ⟨_, rfl, h⟩ | ⟨h, _⟩
  · refine Or.inl ⟨rfl, (take_snoc hx).symm, fun y hy => ?_⟩
    rw [take_snoc hx] at hy
    rcases List.mem_append.1 hy with hy | hy
    · exact h y hy
    · simp at hy; subst hy; exact hk
  · cases h
theorem less_take {p : List Opn} {k : Nat} {x : Opn} (id q : Int) (h : p[k]? = some x) : lessP (p.take (k + 1)) id q = lessP (p.take k) id q ++ if 0 < (cutP id q x).left then [cutP id q x] else [] := by
  unfold lessP
  rw [take_snoc h, List.map_append, List.filter_append]
  congr 1
  by_cases hl : 0 < (cutP id q x).left <;> simp [hl]
theorem less_len (p : List Opn) (id q : Int) : (lessP p id q).length ≤ p.length := by
  unfold lessP
  exact Nat.le_trans (List.length_filter_le _ _) (by simp)

def capN (n : Nat) : Int := if (n : Int) < 400 then (n : Int) else 400
theorem capN_le (n : Nat) : 0 ≤ capN n ∧ capN n ≤ 400 := by unfold capN; split <;> omega
theorem capN_lt {n : Nat} (h : capN n < 400) : n < 400 := by unfold capN at h; split at h <;> omega
end Go.Proofs.YtnffmbfdfhokeaaDoor
namespace Go.Proofs.YtnffmbfdfhokeaaDoor.R
open Go.RowKit

def fr (r : Option Nat) : Fence := { Fence.wide with round := r }
def up (mk : List Deferred) (a : Act) : Act := ⟨a.tmps, a.defers ++ mk⟩
def lift (mk : List Deferred) (Q : Exit → Act → World → Prop) : Exit → Act → World → Prop := fun e a w => Q e (up mk a) w
class NoOut (Q : Exit → Act → World → Prop) : Prop where
  no : ∀ a w, ¬ Q .outgrown a w
instance NoOut.then {K : Act → World → Prop} {Q : Exit → Act → World → Prop} [h : NoOut Q] : NoOut (Exit.then K Q) := ⟨h.no⟩
instance NoOut.inBlock {i : Nat} {Q : Exit → Act → World → Prop} [h : NoOut Q] : NoOut (Exit.inBlock i Q) := ⟨h.no⟩
instance NoOut.none : NoOut (fun _ _ _ => False) := ⟨fun _ _ h => h⟩
instance NoOut.ownPostG {α : Type} {B : Nat} {Kp : World → World → Prop} {I : List α → World → Prop} {Ix : Code → List α → World → Prop} {xs : List α} {W : World} : NoOut (Go.ownPostG B Kp I Ix xs W) := ⟨fun _ _ h => h⟩
def noDeferL : List Oper → Bool
  | [] => true
  | o :: r => (match o.op with | .defer _ => false | _ => true) && noDeferL r
def noDefer (ops : Array Oper) : Bool := noDeferL ops.toList
theorem noDeferL_spec : ∀ {l : List Oper}, noDeferL l = true → ∀ {i : Nat} {o : Oper}, l[i]? = some o → ∀ c, o.op ≠ .defer c
  | [], _, i, o, ho, _ => by simp at ho
  | x :: r, h, 0, o, ho, c => by
    simp at ho; subst ho
    intro e
    simp only [noDeferL, e, Bool.false_and] at h
    cases h
  | x :: r, h, i + 1, o, ho, c => by
    simp only [noDeferL, Bool.and_eq_true] at h
    exact noDeferL_spec h.2 (i := i) (by simpa using ho) c
theorem noDefer_spec {ops : Array Oper} (h : noDefer ops = true) {i : Nat} {o : Oper} (ho : ops[i]? = some o) : ∀ c, o.op ≠ .defer c :=
  noDeferL_spec h (i := i) (by simpa using ho)
section
variable {P : Program} {ops : Array Oper} {Q : Exit → Act → World → Prop} {mk : List Deferred} {r : Option Nat} {m : Nat}
theorem callsIn_fr {n : Nat} {f : FuncId} {args : Array Value} {w : World} {R : Ending → World → Prop} (h : Calls P f args w R) : CallsIn (fr r) n P f args w R := (callsIn_wide (n := n)).2 h
theorem calls_of_fr {n : Nat} {f : FuncId} {args : Array Value} {w : World} {R : Ending → World → Prop} (h : CallsIn (fr r) n P f args w R) : Calls P f args w R := (callsIn_wide (n := n)).1 h
theorem rowsIn_fr {n : Nat} {row : String} {args : Array Value} {w : World} {R : Value → World → Prop} (h : Rows P row args w R) : RowsIn (fr r) n P row args w R :=
  fun c cs _ => let ⟨v, w', q, s⟩ := h c cs; ⟨v, w', q, stepsIn_wide.2 s⟩
theorem deep_fr : (fr r).depth.isSome = true → 1 ≤ m := fun h => by simp [fr, Fence.wide] at h
theorem about_fr {o : Oper} {w : World} {ρ : Operand → Value} : ∀ f, o.about P w ρ = some f → (fr r).fn f := fun _ _ => trivial
theorem up_put {a : Act} {d : Option Nat} {v : Value} : up mk (a.put d v) = (up mk a).put d v := by cases d <;> rfl
theorem upon_in {o : Oper} {a : Act} {K K' : Act → World → Prop} [hQ : NoOut Q] (hK : ∀ a w, K a w → K' (up mk a) w) {res : Result Next} (h : o.upon P a K (lift mk Q) res) : o.uponIn (fr r) m P (up mk a) K' Q res := by
  cases res with
  | ok n w' =>
    cases n with
    | value v => have := hK _ _ h; rw [up_put] at this; exact this
    | skip => have := hK _ _ h; rw [up_put] at this; exact this
    | defer d => have := hK _ _ h; rw [up_put] at this; exact this
    | enter f args =>
      refine ⟨deep_fr, callsIn_fr (Calls.mono h fun e w'' q => ?_)⟩
      cases e with
      | returned v => have := hK _ _ q; rw [up_put] at this; exact this
      | panicked c => exact q
      | outgrown => obtain ⟨a0, w0, q⟩ := q; exact absurd q (hQ.no _ _)
    | row row args => exact ⟨deep_fr, rowsIn_fr (Rows.mono h fun v w'' q => by have := hK _ _ q; rw [up_put] at this; exact this)⟩
    | _ => exact h.elim
  | halt x w' =>
    cases x with
    | panic v => exact h
    | _ => exact h.elim
theorem ops_in (hd : noDefer ops = true) [hQ : NoOut Q] : ∀ (l : List Nat) (a : Act) (w : World), wpOps P ops (lift mk Q) l a w → wpOpsIn (fr r) m P ops Q l (up mk a) w
  | [], _, _, h => h
  | i :: rest, a, w, h => by
    simp only [wpOps] at h
    simp only [wpOpsIn]
    cases ho : ops[i]? with
    | none => simp only [ho] at h ⊢; exact ops_in hd rest a w h
    | some o =>
      simp only [ho] at h ⊢
      by_cases hw : Region.wanted o (yielded ops a.tmps) = true
      · rw [if_pos hw] at h
        rw [if_pos (show Region.wanted o (yielded ops (up mk a).tmps) = true from hw)]
        rcases h with h | ⟨_, a0, w0, h0⟩
        · refine ⟨about_fr, ?_⟩
          rw [Oper.semAt_eq _ _ _ (noDefer_spec hd ho)]
          exact upon_in (fun a w h => ops_in hd rest a w h) h
        · exact absurd h0 (hQ.no _ _)
      · rw [if_neg hw] at h
        rw [if_neg (show ¬ Region.wanted o (yielded ops (up mk a).tmps) = true from hw)]
        have := ops_in hd rest _ w h
        rw [up_put] at this
        exact ⟨about_fr, this⟩
end

structure CW (r : Option Nat) (m : Nat) (mk : List Deferred) (P : Program) (n : Nat) (c : Code) (Q : Exit → Act → World → Prop) (l : Fr) (w : World) : Prop where
  out : ∀ a, Holds n l a → c.wpIn (fr r) m P Q (up mk a) w
section
variable {r : Option Nat} {m : Nat} {mk : List Deferred} {P : Program} {n : Nat} {Q : Exit → Act → World → Prop} {l : Fr} {w : World}
theorem is_cw {c : Code} (h : CW r m mk P n c Q l w) : CW r m mk P n c Q l w := h
theorem is_cd {c : Operand} {x y : Code} (h : CW r m mk P n (.cond c x y) Q l w) : CW r m mk P n (.cond c x y) Q l w := h
theorem cw_seq {x y : Code} (h : CW r m mk P n x (Exit.then (y.wpIn (fr r) m P Q) Q) l w) : CW r m mk P n (.seq x y) Q l w := ⟨fun a ha => wpIn_seq (h.out a ha)⟩
theorem cw_skip (h : QW n (lift mk Q) .normal l w) : CW r m mk P n .skip Q l w := ⟨fun a ha => wpIn_skip (h.out a ha)⟩
theorem cw_label {i : Nat} (h : QW n (lift mk Q) .normal l w) : CW r m mk P n (.label i) Q l w := ⟨fun a ha => wpIn_label (h.out a ha)⟩
theorem cw_exit {i : Nat} (h : QW n (lift mk Q) (.exit i) l w) : CW r m mk P n (.exit i) Q l w := ⟨fun a ha => wpIn_exit (h.out a ha)⟩
theorem cw_ret (h : QW n (lift mk Q) .ret l w) : CW r m mk P n .ret Q l w := ⟨fun a ha => wpIn_ret (h.out a ha)⟩
theorem cw_block {i : Nat} {c : Code} (h : CW r m mk P n c (Exit.inBlock i Q) l w) : CW r m mk P n (.block i c) Q l w := ⟨fun a ha => wpIn_block (h.out a ha)⟩
theorem up_eval {a : Act} {x : Operand} : (up mk a).eval x = a.eval x := by cases x <;> rfl
theorem cw_true {c : Operand} {x y : Code} {b : Bool} (hc : ev l c = some (.bool b)) (hb : b = true) (h : CW r m mk P n x Q l w) : CW r m mk P n (.cond c x y) Q l w := ⟨fun a ha => wpIn_cond_true (up_eval.trans ((ha.ev hc).trans (by rw [hb]))) (h.out a ha)⟩
theorem cw_false {c : Operand} {x y : Code} {b : Bool} (hc : ev l c = some (.bool b)) (hb : b = false) (h : CW r m mk P n y Q l w) : CW r m mk P n (.cond c x y) Q l w := ⟨fun a ha => wpIn_cond_false (up_eval.trans ((ha.ev hc).trans (by rw [hb]))) (h.out a ha)⟩
theorem cw_split {c : Operand} {x y : Code} {b : Bool} (hc : ev l c = some (.bool b)) (h1 : b = true → CW r m mk P n x Q l w) (h2 : b = false → CW r m mk P n y Q l w) : CW r m mk P n (.cond c x y) Q l w := by
  cases b with
  | true => exact cw_true hc rfl (h1 rfl)
  | false => exact cw_false hc rfl (h2 rfl)
theorem cw_region {i : Nat} {ops : List Oper} [hQ : NoOut Q] (h : LW P n ops.toArray (lift mk Q) ops l w) (hd : noDefer ops.toArray = true := by rfl) : CW r m mk P n (.region i ops.toArray false) Q l w := ⟨fun a ha => wpIn_region (by
  have h1 := h.out a ha
  rw [← wpOps_eq_wpList ops 0 (by simp)] at h1
  rw [List.range_eq_range']
  exact ops_in hd _ _ _ (by simpa using h1))⟩
theorem NoPanicL {Q : Exit → Act → World → Prop} (h : NoPanic Q) : NoPanic (lift mk Q) := fun c d v a w q => h c d v (up mk a) w (by have := q; unfold lift at this; rwa [up_put] at this)
theorem cw_drawn {i : Nat} {ops : Array Oper} (S : World → Prop) (hm : P.follows .mixedOrders = true) (hNP : NoPanic Q) [hQ : NoOut Q] (h : NoPanic (lift mk Q) → AW P n ops (lift mk Q) S ops.size (Array.replicate ops.size false) l w.drew) (hd : noDefer ops = true := by rfl) : CW r m mk P n (.region i ops true) Q l w := ⟨fun a ha =>
  wpIn_region_draw fun t => by
    have h1 := wpAny_of_held _ _ _ _ ((h (NoPanicL hNP)).out a ha)
    have h2 := wpAny_sound ops.size t _ a _ h1
    simp only [Region.schedule, hm, Bool.true_or, if_true]
    exact ops_in hd _ _ _ h2⟩
def Round {σ : Type} (mk : List Deferred) (n : Nat) (L : σ → Fr) (I : σ → World → Prop) (μ : σ → Nat) (k : Nat) (a' : Act) (w' : World) : Prop := ∃ s' b, a' = up mk b ∧ Holds n (L s') b ∧ I s' w' ∧ μ s' < k
theorem cw_loop {σ : Type} {c : Code} (L : σ → Fr) (I : σ → World → Prop) (μ : σ → Nat) (s0 : σ) (h0 : Sub (L s0) l) (hI : I s0 w)
    (h : ∀ s w, I s w → CW r m mk P n c (Exit.then (Round mk n L I μ (μ s)) Q) (L s) w) : CW r m mk P n (.loop c) Q l w := ⟨fun a ha => by
  have key : ∀ k s a w, μ s < k → Holds n (L s) a → I s w → Code.roundsIn (fr r) m P c Q k (up mk a) w := by
    intro k
    induction k with
    | zero => intro s a w hk; exact absurd hk (Nat.not_lt_zero _)
    | succ k ih =>
      intro s a w hk ha hI
      refine wpIn_mono ((h s w hI).out a ha) fun e a' w' q => ?_
      cases e with
      | normal =>
        obtain ⟨s', b, rfl, h1, h2, h3⟩ := q
        exact ih s' b w' (by omega) h1 h2
      | _ => exact q
  exact wpIn_loop_rounds _ (key (μ s0 + 1) s0 a w (Nat.lt_succ_self _) (ha.sub h0) hI)⟩
theorem qw_round {σ : Type} {L : σ → Fr} {I : σ → World → Prop} {μ : σ → Nat} {k : Nat} (s' : σ) (h0 : Sub (L s') l) (hI : I s' w) (hm : μ s' < k) :
    QW n (lift mk (Exit.then (Round mk n L I μ k) Q)) .normal l w := ⟨fun a ha => ⟨s', a, rfl, ha.sub h0, hI, hm⟩⟩
def Join {σ : Type} (mk : List Deferred) (n : Nat) (L : σ → Fr) (I : σ → World → Prop) (a' : Act) (w' : World) : Prop := ∃ s b, a' = up mk b ∧ Holds n (L s) b ∧ I s w'
theorem cw_cut {σ : Type} {x y : Code} (L : σ → Fr) (I : σ → World → Prop) (h1 : CW r m mk P n x (Exit.then (Join mk n L I) Q) l w) (h2 : ∀ s w, I s w → CW r m mk P n y Q (L s) w) : CW r m mk P n (.seq x y) Q l w := ⟨fun a ha => wpIn_seq (wpIn_mono (h1.out a ha) (fun e a' w' q => by
  cases e with
  | normal => obtain ⟨s, b, rfl, h3, h4⟩ := q; exact (h2 s w' h4).out b h3
  | _ => exact q))⟩
theorem cw_cutq {σ : Type} {x y : Code} {Q' : Exit → Act → World → Prop} (L : σ → Fr) (I : σ → World → Prop) (h1 : CW r m mk P n x (Exit.then (Join mk n L I) Q') l w) (h2 : ∀ s w, I s w → CW r m mk P n y Q (L s) w) : CW r m mk P n x (Exit.then (Code.wpIn (fr r) m P y Q) Q') l w := ⟨fun a ha => wpIn_mono (h1.out a ha) (fun e a' w' q => by
  cases e with
  | normal => obtain ⟨s, b, rfl, h3, h4⟩ := q; exact (h2 s w' h4).out b h3
  | _ => exact q)⟩
theorem qw_join {σ : Type} {L : σ → Fr} {I : σ → World → Prop} (s : σ) (h0 : Sub (L s) l) (hI : I s w) : QW n (lift mk (Exit.then (Join mk n L I) Q)) .normal l w := ⟨fun a ha => ⟨s, a, rfl, ha.sub h0, hI⟩⟩
theorem qw_then {y : Code} {Q' : Exit → Act → World → Prop} (h : CW r m mk P n y Q l w) : QW n (lift mk (Exit.then (Code.wpIn (fr r) m P y Q) Q')) .normal l w := ⟨h.out⟩
theorem qw_then_exit {K : Act → World → Prop} {i : Nat} (h : QW n (lift mk Q) (.exit i) l w) : QW n (lift mk (Exit.then K Q)) (.exit i) l w := ⟨h.out⟩
theorem qw_then_ret {K : Act → World → Prop} (h : QW n (lift mk Q) .ret l w) : QW n (lift mk (Exit.then K Q)) .ret l w := ⟨h.out⟩
theorem qw_in {i : Nat} (h : QW n (lift mk Q) .normal l w) : QW n (lift mk (Exit.inBlock i Q)) .normal l w := ⟨h.out⟩
theorem qw_in_ret {i : Nat} (h : QW n (lift mk Q) .ret l w) : QW n (lift mk (Exit.inBlock i Q)) .ret l w := ⟨h.out⟩
theorem qw_in_hit {i : Nat} (h : QW n (lift mk Q) .normal l w) : QW n (lift mk (Exit.inBlock i Q)) (.exit i) l w := ⟨fun a ha => by
  show (if i = i then Q .normal (up mk a) w else Q (.exit i) (up mk a) w)
  rw [if_pos rfl]; exact h.out a ha⟩
theorem qw_in_miss {i j : Nat} (hij : Nat.beq j i = false) (h : QW n (lift mk Q) (.exit j) l w) : QW n (lift mk (Exit.inBlock i Q)) (.exit j) l w := ⟨fun a ha => by
  show (if j = i then Q .normal (up mk a) w else Q (.exit j) (up mk a) w)
  rw [if_neg (fun e => by subst e; simp at hij)]; exact h.out a ha⟩
def postM (m : Nat) (P : Program) (fn : Func) (R : Ending → World → Prop) : Exit → Act → World → Prop
  | .normal, a, w | .ret, a, w => LeavesInM (fr none) m P fn a.tmps R a.defers .returning w
  | _, _, _ => False
instance NoOut.postM {fn : Func} {R : Ending → World → Prop} : NoOut (postM m P fn R) := ⟨fun _ _ h => h⟩
class NP (Q : Exit → Act → World → Prop) : Prop where
  np : NoPanic Q
instance NP.postM {fn : Func} {R : Ending → World → Prop} : NP (Go.Proofs.YtnffmbfdfhokeaaDoor.R.postM m P fn R) := ⟨fun _ _ _ _ _ h => h⟩
instance NP.ownPostG {α : Type} {B : Nat} {Kp : World → World → Prop} {I : List α → World → Prop} {Ix : Code → List α → World → Prop} {xs : List α} {W : World} : NP (Go.ownPostG B Kp I Ix xs W) := ⟨fun _ _ _ _ _ h => h⟩
instance NP.none : NP (fun _ _ _ => False) := ⟨fun _ _ _ _ _ h => h⟩
theorem NoPanic.body {Q : Exit → Act → World → Prop} [h : NP Q] : NoPanic Q := h.np
theorem qw_retM0 {fn : Func} {R : Ending → World → Prop} (h : QW n (bodyPost P fn R) .ret l w) : QW n (lift [] (Go.Proofs.YtnffmbfdfhokeaaDoor.R.postM m P fn R)) .ret l w := ⟨fun a ha => by
  have h1 := h.out a ha
  have e : (up [] a).defers = [] := by show a.defers ++ [] = []; rw [ha.2.1]; rfl
  show LeavesInM (fr none) m P fn a.tmps R (up [] a).defers .returning w
  rw [e]
  exact h1.2⟩
theorem qw_retM1 {fn : Func} {R : Ending → World → Prop} {D : Nat} (hD : w.heap[D]? = some (.deferred (some []))) (h : QW n (bodyPost P fn R) .ret l (w.putObj D (.deferred none))) : QW n (lift [{ target := .collected D, args := #[] }] (Go.Proofs.YtnffmbfdfhokeaaDoor.R.postM m P fn R)) .ret l w := ⟨fun a ha => by
  have h1 := h.out a ha
  have e : (up [{ target := .collected D, args := #[] }] a).defers = [{ target := .collected D, args := #[] }] := by show a.defers ++ _ = _; rw [ha.2.1]; rfl
  show LeavesInM (fr none) m P fn a.tmps R (up _ a).defers .returning w
  rw [e]
  refine ⟨by simp, .inl ⟨D, _, rfl, run_takeDeferred hD, ?_⟩⟩
  exact h1.2⟩
theorem fn_enter {f : FuncId} {fn : Func} {c : Code} {vs : List Value} {R : Ending → World → Prop} (m n : Nat) (hf : P.funcs[f]? = some fn) (hb : fn.body = some c) (hn : fn.ntmps = n) (hle : Nat.ble vs.length n = true)
    (h : CW none m [] P n c (postM m P fn R) (zipN 0 vs) w) : CallsIn (fr none) m P f vs.toArray w R := by
  refine callsIn_of_wp_marks hf hb trivial (wpIn_mono (h.out ⟨_, []⟩ ⟨?_, rfl, fun t v e => ?_⟩) fun e a w q => by cases e <;> first | exact q | exact q.elim)
  · have : vs.length ≤ n := Nat.le_of_ble_eq_true hle
    simp [hn]; omega
  · obtain ⟨_, h2⟩ := look_zipN vs 0 t v e
    rw [Nat.sub_zero] at h2
    have hlt : t < vs.toArray.size := by simpa using (List.getElem?_eq_some_iff.1 h2).1
    show (vs.toArray ++ Array.replicate (fn.ntmps - vs.toArray.size) undef)[t]? = some v
    rw [Array.getElem?_append_left hlt]; simpa using h2
def zipP : List Nat → List Value → Fr → Fr
  | p :: ps, v :: vs, l => zipP ps vs ((p, v) :: l)
  | _, _, l => l
theorem holds_zipP : ∀ (ps : List Nat) (vs : List Value) (l : Fr) (a : Act), Holds n l a → (∀ p ∈ ps, Nat.blt p n = true) → Holds n (zipP ps vs l) { tmps := (ps.zip vs).foldl (fun t (q : Nat × Value) => t.setIfInBounds q.1 q.2) a.tmps, defers := [] }
  | [], vs, l, a, h, _ => by
    have e : a = ⟨a.tmps, []⟩ := by obtain ⟨t, d⟩ := a; obtain ⟨_, h2, _⟩ := h; simp only at h2; subst h2; rfl
    show Holds n l ⟨a.tmps, []⟩
    rw [← e]; exact h
  | p :: ps, [], l, a, h, _ => by
    have e : a = ⟨a.tmps, []⟩ := by obtain ⟨t, d⟩ := a; obtain ⟨_, h2, _⟩ := h; simp only at h2; subst h2; rfl
    show Holds n l ⟨a.tmps, []⟩
    rw [← e]; exact h
  | p :: ps, v :: vs, l, a, h, hp => holds_zipP ps vs ((p, v) :: l) (a.put (some p) v) (h.put (hp p List.mem_cons_self) v) (fun q hq => hp q (List.mem_cons_of_mem _ hq))
theorem cw_range {α σ : Type} {g : Operand} {ps : List Nat} {assign body : Code} {k : Nat} {gf : Nat} {lb : Array Value} (hg : ev l g = some (.func (.func gf) #[] lb)) (he : entersB P gf = true)
    {encs : α → List Value} {Kp : World → World → Prop} {S Sp : List α → Prop} {N : Nat} {w0 : World} (hseq : SeqStopsK (fr none) (k + 1) P gf lb (fun x => (encs x).toArray) Kp S Sp N w0)
    (hKt : ∀ {A B C : World}, Kp A B → Kp B C → Kp A C) (hKb : ∀ (W : World) (l : Nat) (o o' : Obj), w.heap.size ≤ l → W.heap[l]? = some o → o.isCells = false → o.isWalk = false → Kp W (W.putObj l o')) (hb0 : Below w0.heap.size w0 w) (hps : ∀ x, (encs x).length = ps.length) (hpn : ∀ p ∈ ps, Nat.blt p n = true)
    (I : List α → World → Prop) (Ix : Code → List α → World → Prop) (hI : OwnFrom w.heap.size I) (hIx : ∀ c, OwnFrom w.heap.size (Ix c)) (h0 : I [] w) (LB : α → σ → Fr) (F : α → σ → World → Prop) (hF : ∀ x y, OwnFrom w.heap.size (fun (_ : Unit) W => F x y W))
    (hassign : ∀ (ln : Nat) (pre : List α) (x : α) (W : World), I pre W →
      CW (some ln) k [] P n assign (Exit.then (fun a' W' => ∃ y, Holds n (LB x y) a' ∧ F x y W' ∧ KeepsFrom w.heap.size W W' ∧ Kp W W' ∧ I pre W') (fun _ _ _ => False)) (zipP ps (encs x) l) W)
    (hbody : ∀ (ln : Nat) (pre : List α) (x : α) (y : σ) (W : World), w.heap.size ≤ ln → (∃ r, W.heap[ln]? = some (.loop r)) → I pre W → F x y W → pre.length < N → CW (some ln) k [] P n body (ownPostG w.heap.size Kp I Ix (pre ++ [x]) W) (LB x y) W)
    (hdone : ∀ (D : Nat) (xs : List α) (W : World), w.heap.size ≤ D → S xs → I xs W → W.heap[D]? = some (.deferred (some [])) → QW n (lift ({ target := .collected D, args := #[] } :: mk) Q) .normal l W)
    (hstop : ∀ (D : Nat) (c : Code) (pre : List α) (W : World), w.heap.size ≤ D → Sp pre → Ix c pre W → W.heap[D]? = some (.deferred (some [])) → CW none (k + 2) ({ target := .collected D, args := #[] } :: mk) P n c Q l W) :
    CW none (k + 2) mk P n (.rangeFunc g ps.toArray assign body) Q l w := ⟨fun a ha => by
  have hd : a.defers = [] := ha.2.1
  have e0 : ∀ D : Nat, ({ up mk a with defers := { target := .collected D, args := #[] } :: (up mk a).defers } : Act) = up ({ target := .collected D, args := #[] } :: mk) a := fun D => by
    show (⟨a.tmps, _ :: (a.defers ++ mk)⟩ : Act) = ⟨a.tmps, a.defers ++ _ :: mk⟩
    rw [hd]; rfl
  refine wpIn_rangeFunc_ownH (F := fr none) rfl (by omega) (up_eval.trans (ha.ev hg)) trivial (fun args w => run_callFunc he args w) hseq hKt hKb hb0 (fun x => by simpa using hps x) I Ix hI hIx h0 (fun x a' W => ∃ y, Holds n (LB x y) a' ∧ F x y W) (fun x a' _ A B row h hg hr => by obtain ⟨y, h1, h2⟩ := h; exact ⟨y, h1, hF x y () A B row h2 hg hr⟩) ?_ ?_ ?_ ?_
  · intro ln pre x W K hi hK
    have h1 := (hassign ln pre x W hi).out _ (holds_zipP ps (encs x) l a ha hpn)
    have e : up [] ({ tmps := (ps.zip (encs x)).foldl (fun t (q : Nat × Value) => t.setIfInBounds q.1 q.2) a.tmps, defers := [] } : Act) = { tmps := (ps.toArray.zip (encs x).toArray).foldl (fun t (p, v) => t.setIfInBounds p v) (up mk a).tmps, defers := [] } := by
      show (⟨_, [] ++ []⟩ : Act) = _
      congr 1
      rw [List.zip_toArray, List.foldl_toArray]; rfl
    rw [e] at h1
    refine wpIn_mono h1 fun e a' w' q => ?_
    cases e with
    | normal => obtain ⟨y, h2, h6, h3, h4, h5⟩ := q; exact hK a' w' h3 h4 h5 ⟨y, h2, h6⟩
    | _ => exact q
  · intro ln pre x a' W hln hlr hi hax hlen
    obtain ⟨y, hax, hfy⟩ := hax
    have h1 := (hbody ln pre x y W hln hlr hi hfy hlen).out a' hax
    have e : up [] a' = a' := by
      obtain ⟨t, d⟩ := a'
      show (⟨t, d ++ []⟩ : Act) = ⟨t, d⟩
      rw [List.append_nil]
    rw [e] at h1
    exact h1
  · intro D xs W hD hS hi hW
    rw [e0]
    exact (hdone D xs W hD hS hi hW).out a ha
  · intro D c pre W hD hS hi hW
    rw [e0]
    exact (hstop D c pre W hD hS hi hW).out a ha⟩
theorem qw_assign {α σ : Type} {B : Nat} {Kp : World → World → Prop} {I : List α → World → Prop} {x : α} {pre : List α} {LB : α → σ → Fr} {F : α → σ → World → Prop} {W : World} (y : σ) (h0 : Sub (LB x y) l) (hF : F x y w) (h1 : KeepsFrom B W w) (h2 : Kp W w) (h3 : I pre w) : QW n (lift [] (Exit.then (fun a' W' => ∃ y, Holds n (LB x y) a' ∧ F x y W' ∧ KeepsFrom B W W' ∧ Kp W W' ∧ I pre W') (fun _ _ _ => False))) .normal l w := ⟨fun a ha => by
  have e : up [] a = a := by
    obtain ⟨t, d⟩ := a
    show (⟨t, d ++ []⟩ : Act) = ⟨t, d⟩
    rw [List.append_nil]
  show ∃ y, Holds n (LB x y) (up [] a) ∧ _
  rw [e]
  exact ⟨y, ha.sub h0, hF, h1, h2, h3⟩⟩
end
end Go.Proofs.YtnffmbfdfhokeaaDoor.R
namespace Go.Proofs.YtnffmbfdfhokeaaDoor.R
open Go.RowKit

structure LY (r : Option Nat) (m : Nat) (mk : List Deferred) (P : Program) (n : Nat) (ops : Array Oper) (Q : Exit → Act → World → Prop) (os : List Oper) (l : Fr) (w : World) : Prop where
  out : ∀ a, Holds n l a → wpListIn (fr r) m P ops Q os (up mk a) w
section
variable {r : Option Nat} {m : Nat} {mk : List Deferred} {P : Program} {n : Nat} {ops : Array Oper} {Q : Exit → Act → World → Prop} {os : List Oper} {l : Fr} {w : World}
theorem cw_regionY {i : Nat} {os : List Oper} (h : LY r m mk P n os.toArray Q os l w) : CW r m mk P n (.region i os.toArray false) Q l w := ⟨fun a ha => wpIn_region_lit (h.out a ha)⟩
theorem ly_nil (h : QW n (lift mk Q) .normal l w) : LY r m mk P n ops Q [] l w := ⟨fun a ha => wpListIn_nil (h.out a ha)⟩
theorem is_seqr (i : Nat) {os : Array Oper} {d : Bool} {y : Code} (h : CW r m mk P n (.seq (.region i os d) y) Q l w) : CW r m mk P n (.seq (.region i os d) y) Q l w := h
theorem is_seqb {i : Nat} {c y : Code} (h : CW r m mk P n (.seq (.block i c) y) Q l w) : CW r m mk P n (.seq (.block i c) y) Q l w := h
theorem is_blk {i : Nat} {c : Code} (h : CW r m mk P n (.block i c) Q l w) : CW r m mk P n (.block i c) Q l w := h
theorem exec_up {o : Oper} {a : Act} : execOp (up mk a).eval o = execOp a.eval o := by
  have e : (up mk a).eval = a.eval := by funext x; exact up_eval
  rw [e]
theorem not_defer {o : Oper} {a : Act} {v : Value} {w w' : World} (h : (execOp a.eval o).run P w = .ok (.value v) w') : ∀ c, o.op ≠ .defer c := by
  intro c e
  unfold execOp at h
  rw [e] at h
  simp only [Sem.run_bind] at h
  cases hr : (resolve a.eval c o.type).run P w with
  | ok d w1 => rw [hr] at h; simp [Result.andThen] at h
  | halt x w1 => rw [hr] at h; simp [Result.andThen] at h
theorem ly_pure {d : Nat} {op : Op} {ty : TypeId} {pos : String} {af : Array Edge} {v : Value} (hd : Nat.blt d n = true) (hv : Pv P n l ⟨some d, op, ty, pos, af, none⟩ v w) (h : LY r m mk P n ops Q os ((d, v) :: l) w) :
    LY r m mk P n ops Q (⟨some d, op, ty, pos, af, none⟩ :: os) l w := ⟨fun a ha => wpListIn_plain rfl fun K hK => by
  refine ⟨about_fr, ?_⟩
  have h1 := hv.out a ha
  rw [Oper.semAt_eq _ _ _ (not_defer h1), exec_up, h1]
  have h2 := hK _ _ (h.out _ (ha.put hd v))
  rw [up_put] at h2
  exact h2⟩
theorem ly_not {d : Nat} {op : Op} {ty : TypeId} {pos : String} {af : Array Edge} {g : Nat} {t : Nat} {b c : Bool} (hd : Nat.blt d n = true) (hg : (ops[g]?).bind (·.dst) = some t) (ht : look l t = some (.bool c)) (hc : c = !b) (h : LY r m mk P n ops Q os ((d, undef) :: l) w) :
    LY r m mk P n ops Q (⟨some d, op, ty, pos, af, some (g, b)⟩ :: os) l w := ⟨fun a ha => wpListIn_step fun K hK => by
  have hw : Region.wanted ⟨some d, op, ty, pos, af, some (g, b)⟩ (yielded ops (up mk a).tmps) = false := by
    show Region.wanted ⟨some d, op, ty, pos, af, some (g, b)⟩ (yielded ops a.tmps) = false
    simp only [Region.wanted, yielded, hg, Option.bind_some, ha.2.2 t _ ht]
    subst hc; cases b <;> rfl
  rw [if_neg (by rw [hw]; simp)]
  have h2 := hK _ _ (h.out _ (ha.put hd undef))
  rw [up_put] at h2
  exact ⟨about_fr, h2⟩⟩
theorem ly_on {d : Option Nat} {op : Op} {ty : TypeId} {pos : String} {af : Array Edge} {g : Nat} {t : Nat} {b c : Bool} (hg : (ops[g]?).bind (·.dst) = some t) (ht : look l t = some (.bool c)) (hc : c = b) (h : LY r m mk P n ops Q (⟨d, op, ty, pos, af, none⟩ :: os) l w) :
    LY r m mk P n ops Q (⟨d, op, ty, pos, af, some (g, b)⟩ :: os) l w := ⟨fun a ha => by
  have hw : Region.wanted ⟨d, op, ty, pos, af, some (g, b)⟩ (yielded ops (up mk a).tmps) = true := by
    show Region.wanted ⟨d, op, ty, pos, af, some (g, b)⟩ (yielded ops a.tmps) = true
    simp only [Region.wanted, yielded, hg, Option.bind_some, ha.2.2 t _ ht]
    subst hc; simp
  have h1 := h.out a ha
  unfold wpListIn at h1 ⊢
  rw [if_pos hw]
  rw [if_pos (by rfl)] at h1
  exact h1⟩
theorem ly_yield {d : Nat} {x : Operand} {args : List Operand} {ts : Array TypeId} {ty : TypeId} {pos : String} {af : Array Edge} {vs : List Value} {l0 : Nat} {R : Ending → World → Prop} (hd : Nat.blt d n = true) (hx : ev l x = some (.func (.yield l0) #[] #[])) (hvs : evs l args = some vs)
    (hY : YieldAt (fr r) (m - 1) P l0 vs.toArray w R) (h : ∀ e w', R e w' → ∃ v, e = .returned v ∧ LY r m mk P n ops Q os ((d, v) :: l) w') :
    LY r m mk P n ops Q (⟨some d, .call ⟨.value x, args.toArray, ts⟩, ty, pos, af, none⟩ :: os) l w := ⟨fun a ha => wpListIn_plain rfl fun K hK => by
  refine ⟨about_fr, ?_⟩
  obtain ⟨fn, tmps, assign, body, hy, hR⟩ := hY
  rw [Oper.semAt_eq _ _ _ (fun c e => by cases e), exec_up]
  have hrun : (execOp a.eval ⟨some d, .call ⟨.value x, args.toArray, ts⟩, ty, pos, af, none⟩).run P w = .ok (.round l0 fn tmps assign body) w := by
    simp [execOp, resolve, ha.ev hx, Deferred.ofValue, invoke, ha.evs hvs, hy]
  rw [hrun]
  refine ⟨deep_fr, hR.mono fun e w' q => ?_⟩
  obtain ⟨v, rfl, hl⟩ := h e w' q
  have h2 := hK _ _ (hl.out _ (ha.put hd v))
  rw [up_put] at h2
  exact h2⟩
theorem qw_endM0 {fn : Func} {R : Ending → World → Prop} (h : QW n (bodyPost P fn R) .normal l w) : QW n (lift [] (Go.Proofs.YtnffmbfdfhokeaaDoor.R.postM m P fn R)) .normal l w := ⟨fun a ha => by
  have h1 := h.out a ha
  have e : (up [] a).defers = [] := by show a.defers ++ [] = []; rw [ha.2.1]; rfl
  show LeavesInM (fr none) m P fn a.tmps R (up [] a).defers .returning w
  rw [e]
  exact h1.2⟩
end
/-! ### what stays -/
section
variable {W W' : World} {row : Option Nat} {B : Nat}
theorem pt_from {N : Nat} {T : TypeId} {cs : List Value} (h : PT W N T cs) (hg : W.grownBy W' row) (hr : ∀ r, row = some r → B ≤ r ∧ ∃ o : Obj, W.heap[r]? = some o ∧ o.isCells = false) : PT W' N T cs := by
  refine (hg.block N h.lt (fun e => ?_)).trans h
  obtain ⟨_, o, ho, hc⟩ := hr N e.symm
  rw [show W.heap[N]? = _ from h] at ho
  injection ho with ho; subst ho; cases hc
theorem own_from {α : Type} {enc : α → List Value} {k : Nat} {T : TypeId} {base : Nat} {v : Value} {xs : List α} (h : Go.Proofs.YtnffmbfdfhokeaaDoor.Own enc k T base W v xs) (hg : W.grownBy W' row) (hr : ∀ r, row = some r → B ≤ r ∧ ∃ o : Obj, W.heap[r]? = some o ∧ o.isCells = false) : Go.Proofs.YtnffmbfdfhokeaaDoor.Own enc k T base W' v xs := by
  obtain ⟨h1, h2⟩ := h
  refine ⟨h1, ?_⟩
  rcases h2 with h2 | ⟨g, cap, cur, e1, e2, hh, rest⟩
  · exact Or.inl h2
  · refine Or.inr ⟨g, cap, cur, e1, e2, (hg.block g (Array.getElem?_eq_some_iff.1 hh).1 (fun e => ?_)).trans hh, rest⟩
    obtain ⟨_, o, ho, hc⟩ := hr g e.symm
    rw [hh] at ho
    injection ho with ho; subst ho; cases hc
theorem below_from {w0 : World} (h : Below w0.heap.size w0 W) (hB : w0.heap.size ≤ B) (hg : W.grownBy W' row) (hr : ∀ r, row = some r → B ≤ r ∧ ∃ o : Obj, W.heap[r]? = some o ∧ o.isCells = false) : Below w0.heap.size w0 W' :=
  h.grown hg h.size fun q e => Nat.le_trans hB (hr q e).1
theorem keeps_below (h : Below W.heap.size W W') : KeepsFrom B W W' := ⟨h.size, fun k _ _ hk _ => (h.block k (Array.getElem?_eq_some_iff.1 hk).1).trans hk⟩
theorem keeps_row {b : Nat} {T : TypeId} {cs : Array Value} {z : Nat × Nat} (h : W.grownBy W' (some b)) (hb : W.heap[b]? = some (.cells cs T z)) : KeepsFrom B W W' := ⟨h.size, fun k o _ hk ho => by
  refine (h.block k (Array.getElem?_eq_some_iff.1 hk).1 (fun e => ?_)).trans hk
  injection e with e; subst e
  rw [hb] at hk
  injection hk with hk; subst hk; cases ho⟩
theorem keeps_none (h : W.grownBy W' none) : KeepsFrom B W W' := ⟨h.size, fun k _ _ hk _ => (h.block k (Array.getElem?_eq_some_iff.1 hk).1 (fun e => by cases e)).trans hk⟩
theorem keeps_pt {N : Nat} {T : TypeId} {cs : List Value} (hp : PT W N T cs) (h : W.grownBy W' (some N)) : KeepsFrom B W W' := keeps_row h hp
theorem keeps_own {α : Type} {enc : α → List Value} {k : Nat} {T : TypeId} {base : Nat} {v : Value} {xs : List α} (ho : Go.Proofs.YtnffmbfdfhokeaaDoor.Own enc k T base W v xs) (h : W.grownBy W' v.ownBlock) : KeepsFrom B W W' := by
  obtain ⟨_, h2⟩ := ho
  rcases h2 with ⟨rfl, _⟩ | ⟨g, cap, cur, rfl, _, hh, _⟩
  · exact keeps_none h
  · exact keeps_row h hh
end
end Go.Proofs.YtnffmbfdfhokeaaDoor.R
namespace Go.Proofs.YtnffmbfdfhokeaaDoor.R
open Go.RowKit Go.PlainAid

abbrev encX (x : Int × Ln) : List Value := [.int .i64 x.1, .agg (encN x.2).toArray]
set_option maxRecDepth 20000 in
theorem backward_c (a : Option Addr) (m c : Nat) (w : World) : Calls Tryd.prog 32 #[.slice a m c] w fun e w' => (∃ B, e = .returned (.func (.func 53) #[] #[.pointer (some ⟨B, 0, none⟩)]) ∧ PT w' B 27 [.slice a m c]) ∧ Below w.heap.size w w' := by
  have hw := Below.refl w.heap.size w
  refine Go.Proofs.YtnffmbfdfhokeaaDoor.fn_enter 4 Tryd.func32 rfl rfl rfl ?_
  refine Go.Proofs.YtnffmbfdfhokeaaDoor.cw_seq ?_
  refine Go.Proofs.YtnffmbfdfhokeaaDoor.cw_region ?_
  refine lw_boxN rfl rfl (cs := [.slice a m c]) rfl ?_; intro B w2 hB HB hb; replace hw := grow_trans hw hb; clear hb
  refine lw_pure rfl (pv_assign rfl) ?_
  refine lw_nil ?_
  refine Go.Proofs.YtnffmbfdfhokeaaDoor.qw_then ?_
  refine Go.Proofs.YtnffmbfdfhokeaaDoor.cw_seq ?_
  refine Go.Proofs.YtnffmbfdfhokeaaDoor.cw_region ?_
  refine lw_pure rfl (pv_makeFunc rfl rfl) ?_
  refine lw_pure rfl (pv_assign rfl) ?_
  refine lw_nil ?_
  refine Go.Proofs.YtnffmbfdfhokeaaDoor.qw_then ?_
  refine Go.Proofs.YtnffmbfdfhokeaaDoor.cw_ret ?_
  exact qw_ret1 rfl rfl ⟨⟨B, rfl, HB⟩, hw⟩
def Sall (xs : List Ln) (ys : List (Int × Ln)) : Prop := ys.map (·.2) = xs.reverse
def Spre (xs : List Ln) (ys : List (Int × Ln)) : Prop := ∃ r, ys.map (·.2) ++ r = xs.reverse
set_option maxRecDepth 20000 in
theorem back_stops {xs : List Ln} {m B c : Nat} {a : Option Addr} {w : World} (hm : xs.length = m) (HB : PT w B 27 [.slice a m c]) (HS : SlR encN 5 w a c xs) : SeqStopsK (fr none) 1 Tryd.prog 53 #[.pointer (some ⟨B, 0, none⟩)] (fun x => (encX x).toArray) (fun A C => Below w.heap.size A C) (Sall xs) (Spre xs) xs.length w := by
  subst hm
  have hle := HS.le
  have hmx := HS.max
  intro l J Jx W hW hJ hJx hY h0
  show CallsIn (fr none) 1 Tryd.prog _ [Value.func (.yield l) #[] #[], .pointer (some ⟨B, 0, none⟩)].toArray W _
  have hw := hW
  refine R.fn_enter _ 19 Tryd.func53 rfl rfl rfl ?_
  repeat' (first | (refine lw_pure rfl (pv_move rfl) ?_) | (refine lw_pure rfl (pv_assign rfl) ?_) | (refine is_cw ?_; first | (refine cw_seq ?_) | (refine cw_region ?_) | (refine cw_true rfl rfl ?_) | (refine cw_false rfl rfl ?_) | (refine is_cd ?_; refine cw_true rfl (by first | assumption | exact decide_eq_true (by omega) | exact dec_notT (by omega)) ?_) | (refine is_cd ?_; refine cw_false rfl (by first | assumption | exact decide_eq_false (by omega) | exact dec_notF (by omega)) ?_) | (refine cw_skip ?_) | (refine cw_block ?_) | (refine cw_exit ?_) | (refine cw_ret ?_)) | (refine is_qw ?_; first | (with_reducible refine qw_then ?_) | (with_reducible refine qw_in ?_) | (with_reducible refine qw_in_hit ?_) | (refine qw_in_miss rfl ?_) | (with_reducible refine qw_then_exit ?_) | (with_reducible refine qw_then_ret ?_) | (with_reducible refine qw_in_ret ?_)) | (refine lw_nil ?_) | ((refine is_bin ?_; first | (refine lw_pure rfl (pv_geq rfl rfl) ?_) | (refine lw_pure rfl (pv_sub rfl rfl (by omega)) ?_))) | ((refine is_load ?_; first | (refine lw_pure rfl (pv_load (t1 rfl) rfl (by first | exact PT.ld0 (HB.mono hw) rfl | exact PT.ld (HB.mono hw) rfl)) ?_) | (refine lw_pure rfl (pv_loada (tA rfl) rfl (by first | exact PT.lda (HB.mono hw)) (by rfl)) ?_))) | ((refine is_ia ?_; first | (refine lw_pure rfl (pv_ian (tS rfl) rfl rfl (by omega)) ?_) | (refine lw_pure rfl (pv_ia (tS rfl) rfl rfl (by omega)) ?_))) | ((refine is_un ?_; first | (refine lw_pure rfl (pv_not rfl) ?_))) | ((refine is_bi ?_; first | (refine lw_pure rfl (pv_lenl (tS rfl) rfl) ?_) | (refine lw_pure rfl (pv_lens (tStr rfl) rfl) ?_))))
  refine cw_loop (σ := Nat × List (Int × Ln)) (fun s => [(0, .func (.yield l) #[] #[]), (1, .pointer (some ⟨B, 0, none⟩)), (3, .int .i64 (((s.1 : Nat) : Int) - 1))]) (fun s wr => s.1 ≤ xs.length ∧ Below w.heap.size w wr ∧ J s.2 wr ∧ s.2.map (·.2) = (xs.drop s.1).reverse) (fun s => s.1) (xs.length, []) (by repeat' (first | exact trivial | refine ⟨rfl, ?_⟩)) ⟨Nat.le_refl _, hw, h0, by simp⟩ ?_
  clear hw
  rintro ⟨r, pre⟩ wr ⟨hr, hw, hj, hp⟩
  replace hr : r ≤ xs.length := hr
  replace hj : J pre wr := hj
  replace hp : pre.map (·.2) = (xs.drop r).reverse := hp
  change CW none 1 [] Tryd.prog _ _ _ [(0, .func (.yield l) #[] #[]), (1, .pointer (some ⟨B, 0, none⟩)), (3, .int .i64 (((r : Nat) : Int) - 1))] wr
  by_cases h1 : r = 0
  · subst h1
    repeat' (first | (refine lw_pure rfl (pv_move rfl) ?_) | (refine lw_pure rfl (pv_assign rfl) ?_) | (refine is_cw ?_; first | (refine cw_seq ?_) | (refine cw_region ?_) | (refine cw_true rfl rfl ?_) | (refine cw_false rfl rfl ?_) | (refine is_cd ?_; refine cw_true rfl (by first | assumption | exact decide_eq_true (by omega) | exact dec_notT (by omega)) ?_) | (refine is_cd ?_; refine cw_false rfl (by first | assumption | exact decide_eq_false (by omega) | exact dec_notF (by omega)) ?_) | (refine cw_skip ?_) | (refine cw_block ?_) | (refine cw_exit ?_) | (refine cw_ret ?_)) | (refine is_qw ?_; first | (with_reducible refine qw_then ?_) | (with_reducible refine qw_in ?_) | (with_reducible refine qw_in_hit ?_) | (refine qw_in_miss rfl ?_) | (with_reducible refine qw_then_exit ?_) | (with_reducible refine qw_then_ret ?_) | (with_reducible refine qw_in_ret ?_)) | (refine lw_nil ?_) | ((refine is_bin ?_; first | (refine lw_pure rfl (pv_geq rfl rfl) ?_) | (refine lw_pure rfl (pv_sub rfl rfl (by omega)) ?_))) | ((refine is_load ?_; first | (refine lw_pure rfl (pv_load (t1 rfl) rfl (by first | fail)) ?_) | (refine lw_pure rfl (pv_loada (tA rfl) rfl (by first | fail) (by rfl)) ?_))) | ((refine is_ia ?_; first | (refine lw_pure rfl (pv_ian (tS rfl) rfl rfl (by omega)) ?_) | (refine lw_pure rfl (pv_ia (tS rfl) rfl rfl (by omega)) ?_))) | ((refine is_un ?_; first | (refine lw_pure rfl (pv_not rfl) ?_))) | ((refine is_bi ?_; first | (refine lw_pure rfl (pv_lenl (tS rfl) rfl) ?_) | (refine lw_pure rfl (pv_lens (tStr rfl) rfl) ?_))))
    rw [List.drop_zero] at hp
    exact qw_endM0 (qw_end0 rfl ⟨⟨_, rfl⟩, Or.inl ⟨pre, hp, hj⟩⟩)
  · obtain ⟨q, rfl⟩ : ∃ q, r = q + 1 := ⟨r - 1, by omega⟩
    have hlt : q < xs.length := by omega
    have hxk : xs[q]? = some xs[q] := List.getElem?_eq_getElem hlt
    generalize xs[q] = x at hxk
    have hpl : pre.length < xs.length := by
      have := congrArg List.length hp
      simp at this
      omega
    have e1 : (((q + 1 : Nat) : Int) - 1) = (q : Int) := by omega
    rw [e1]
    obtain ⟨ab, ao, rfl, -, -⟩ := HS.at (by intro h; rw [h] at hlt; simp at hlt)
    have hp2 : (pre ++ [((q : Int), x)]).map (·.2) = (xs.drop q).reverse := by
      rw [List.map_append, hp, List.drop_eq_getElem_cons hlt, List.reverse_cons]
      have e2 : xs[q] = x := by rw [List.getElem?_eq_getElem hlt] at hxk; injection hxk
      rw [e2]; rfl
    repeat' ((fail_if_success (refine is_seqr 3 ?_)); first | (refine lw_pure rfl (pv_move rfl) ?_) | (refine lw_pure rfl (pv_assign rfl) ?_) | (refine is_cw ?_; first | (refine cw_seq ?_) | (refine cw_region ?_) | (refine cw_true rfl rfl ?_) | (refine cw_false rfl rfl ?_) | (refine is_cd ?_; refine cw_true rfl (by first | assumption | exact decide_eq_true (by omega) | exact dec_notT (by omega)) ?_) | (refine is_cd ?_; refine cw_false rfl (by first | assumption | exact decide_eq_false (by omega) | exact dec_notF (by omega)) ?_) | (refine cw_skip ?_) | (refine cw_block ?_) | (refine cw_exit ?_) | (refine cw_ret ?_)) | (refine is_qw ?_; first | (with_reducible refine qw_then ?_) | (with_reducible refine qw_in ?_) | (with_reducible refine qw_in_hit ?_) | (refine qw_in_miss rfl ?_) | (with_reducible refine qw_then_exit ?_) | (with_reducible refine qw_then_ret ?_) | (with_reducible refine qw_in_ret ?_)) | (refine lw_nil ?_) | ((refine is_bin ?_; first | (refine lw_pure rfl (pv_geq rfl rfl) ?_) | (refine lw_pure rfl (pv_sub rfl rfl (by omega)) ?_))) | ((refine is_load ?_; first | (refine lw_pure rfl (pv_load (t1 rfl) rfl (by first | fail)) ?_) | (refine lw_pure rfl (pv_loada (tA rfl) rfl (by first | fail) (by rfl)) ?_))) | ((refine is_ia ?_; first | (refine lw_pure rfl (pv_ian (tS rfl) rfl rfl (by omega)) ?_) | (refine lw_pure rfl (pv_ia (tS rfl) rfl rfl (by omega)) ?_))) | ((refine is_un ?_; first | (refine lw_pure rfl (pv_not rfl) ?_))) | ((refine is_bi ?_; first | (refine lw_pure rfl (pv_lenl (tS rfl) rfl) ?_) | (refine lw_pure rfl (pv_lens (tStr rfl) rfl) ?_))))
    refine cw_seq ?_
    refine cw_regionY ?_
    repeat' (first | (refine ly_pure rfl (pv_move rfl) ?_) | (refine ly_pure rfl (pv_assign rfl) ?_) | (refine ly_pure rfl (pv_geq rfl rfl) ?_) | (refine ly_pure rfl (pv_sub rfl rfl (by omega)) ?_) | (refine ly_pure rfl (pv_not rfl) ?_) | (refine ly_pure rfl (pv_lenl (tS rfl) rfl) ?_) | (refine ly_pure rfl (pv_lens (tStr rfl) rfl) ?_) | (refine ly_pure rfl (pv_ian (tS rfl) rfl rfl (by omega)) ?_) | (refine ly_pure rfl (pv_ia (tS rfl) rfl rfl (by omega)) ?_) | (refine ly_pure rfl (pv_load (t1 rfl) rfl (by first | exact PT.ld0 (HB.mono hw) rfl | exact PT.ld (HB.mono hw) rfl | exact SlR.ld (HS.mono hw) hxk rfl | exact SlR.ld1 (HS.mono hw) hxk rfl)) ?_) | (refine ly_pure rfl (pv_loada (tA rfl) rfl (by first | exact PT.lda (HB.mono hw) | exact SlR.lda (HS.mono hw) hxk) (by rfl)) ?_) | (refine ly_not rfl rfl rfl rfl ?_) | (refine ly_on rfl rfl rfl ?_) | (refine ly_on rfl rfl (by first | assumption | exact decide_eq_true (by omega) | exact decide_eq_false (by omega) | exact dec_notT (by omega) | exact dec_notF (by omega)) ?_) | (refine ly_not rfl rfl rfl (by first | assumption | exact decide_eq_true (by omega) | exact decide_eq_false (by omega) | exact dec_notT (by omega) | exact dec_notF (by omega)) ?_))
    refine ly_yield rfl rfl rfl (hY pre ((q : Int), x) wr hj hpl) ?_
    rintro e W' (⟨rfl, hj2, hk⟩ | ⟨rfl, hjx⟩)
    · refine ⟨_, rfl, ?_⟩
      have hw2 : Below w.heap.size w W' := hw.trans hk
      clear hw
      have hw := hw2
      repeat' (first | (refine ly_pure rfl (pv_move rfl) ?_) | (refine ly_pure rfl (pv_assign rfl) ?_) | (refine ly_pure rfl (pv_geq rfl rfl) ?_) | (refine ly_pure rfl (pv_sub rfl rfl (by omega)) ?_) | (refine ly_pure rfl (pv_not rfl) ?_) | (refine ly_pure rfl (pv_lenl (tS rfl) rfl) ?_) | (refine ly_pure rfl (pv_lens (tStr rfl) rfl) ?_) | (refine ly_pure rfl (pv_ian (tS rfl) rfl rfl (by omega)) ?_) | (refine ly_pure rfl (pv_ia (tS rfl) rfl rfl (by omega)) ?_) | (refine ly_pure rfl (pv_load (t1 rfl) rfl (by first | fail)) ?_) | (refine ly_pure rfl (pv_loada (tA rfl) rfl (by first | fail) (by rfl)) ?_) | (refine ly_not rfl rfl rfl rfl ?_) | (refine ly_on rfl rfl rfl ?_) | (refine ly_on rfl rfl (by first | assumption | exact decide_eq_true (by omega) | exact decide_eq_false (by omega) | exact dec_notT (by omega) | exact dec_notF (by omega)) ?_) | (refine ly_not rfl rfl rfl (by first | assumption | exact decide_eq_true (by omega) | exact decide_eq_false (by omega) | exact dec_notT (by omega) | exact dec_notF (by omega)) ?_))
      refine ly_nil ?_
      repeat' (first | (refine lw_pure rfl (pv_move rfl) ?_) | (refine lw_pure rfl (pv_assign rfl) ?_) | (refine is_cw ?_; first | (refine cw_seq ?_) | (refine cw_region ?_) | (refine cw_true rfl rfl ?_) | (refine cw_false rfl rfl ?_) | (refine is_cd ?_; refine cw_true rfl (by first | assumption | exact decide_eq_true (by omega) | exact dec_notT (by omega)) ?_) | (refine is_cd ?_; refine cw_false rfl (by first | assumption | exact decide_eq_false (by omega) | exact dec_notF (by omega)) ?_) | (refine cw_skip ?_) | (refine cw_block ?_) | (refine cw_exit ?_) | (refine cw_ret ?_)) | (refine is_qw ?_; first | (with_reducible refine qw_then ?_) | (with_reducible refine qw_in ?_) | (with_reducible refine qw_in_hit ?_) | (refine qw_in_miss rfl ?_) | (with_reducible refine qw_then_exit ?_) | (with_reducible refine qw_then_ret ?_) | (with_reducible refine qw_in_ret ?_)) | (refine lw_nil ?_) | ((refine is_bin ?_; first | (refine lw_pure rfl (pv_geq rfl rfl) ?_) | (refine lw_pure rfl (pv_sub rfl rfl (by omega)) ?_))) | ((refine is_load ?_; first | (refine lw_pure rfl (pv_load (t1 rfl) rfl (by first | fail)) ?_) | (refine lw_pure rfl (pv_loada (tA rfl) rfl (by first | fail) (by rfl)) ?_))) | ((refine is_ia ?_; first | (refine lw_pure rfl (pv_ian (tS rfl) rfl rfl (by omega)) ?_) | (refine lw_pure rfl (pv_ia (tS rfl) rfl rfl (by omega)) ?_))) | ((refine is_un ?_; first | (refine lw_pure rfl (pv_not rfl) ?_))) | ((refine is_bi ?_; first | (refine lw_pure rfl (pv_lenl (tS rfl) rfl) ?_) | (refine lw_pure rfl (pv_lens (tStr rfl) rfl) ?_))))
      exact qw_round (q, pre ++ [((q : Int), x)]) (by repeat' (first | exact trivial | refine ⟨rfl, ?_⟩)) ⟨by show q ≤ _; omega, hw, hj2, hp2⟩ (by show q < q + 1; omega)
    · refine ⟨_, rfl, ?_⟩
      repeat' (first | (refine ly_pure rfl (pv_move rfl) ?_) | (refine ly_pure rfl (pv_assign rfl) ?_) | (refine ly_pure rfl (pv_geq rfl rfl) ?_) | (refine ly_pure rfl (pv_sub rfl rfl (by omega)) ?_) | (refine ly_pure rfl (pv_not rfl) ?_) | (refine ly_pure rfl (pv_lenl (tS rfl) rfl) ?_) | (refine ly_pure rfl (pv_lens (tStr rfl) rfl) ?_) | (refine ly_pure rfl (pv_ian (tS rfl) rfl rfl (by omega)) ?_) | (refine ly_pure rfl (pv_ia (tS rfl) rfl rfl (by omega)) ?_) | (refine ly_pure rfl (pv_load (t1 rfl) rfl (by first | fail)) ?_) | (refine ly_pure rfl (pv_loada (tA rfl) rfl (by first | fail) (by rfl)) ?_) | (refine ly_not rfl rfl rfl rfl ?_) | (refine ly_on rfl rfl rfl ?_) | (refine ly_on rfl rfl (by first | assumption | exact decide_eq_true (by omega) | exact decide_eq_false (by omega) | exact dec_notT (by omega) | exact dec_notF (by omega)) ?_) | (refine ly_not rfl rfl rfl (by first | assumption | exact decide_eq_true (by omega) | exact decide_eq_false (by omega) | exact dec_notT (by omega) | exact dec_notF (by omega)) ?_))
      refine ly_nil ?_
      repeat' (first | (refine lw_pure rfl (pv_move rfl) ?_) | (refine lw_pure rfl (pv_assign rfl) ?_) | (refine is_cw ?_; first | (refine cw_seq ?_) | (refine cw_region ?_) | (refine cw_true rfl rfl ?_) | (refine cw_false rfl rfl ?_) | (refine is_cd ?_; refine cw_true rfl (by first | assumption | exact decide_eq_true (by omega) | exact dec_notT (by omega)) ?_) | (refine is_cd ?_; refine cw_false rfl (by first | assumption | exact decide_eq_false (by omega) | exact dec_notF (by omega)) ?_) | (refine cw_skip ?_) | (refine cw_block ?_) | (refine cw_exit ?_) | (refine cw_ret ?_)) | (refine is_qw ?_; first | (with_reducible refine qw_then ?_) | (with_reducible refine qw_in ?_) | (with_reducible refine qw_in_hit ?_) | (refine qw_in_miss rfl ?_) | (with_reducible refine qw_then_exit ?_) | (with_reducible refine qw_then_ret ?_) | (with_reducible refine qw_in_ret ?_)) | (refine lw_nil ?_) | ((refine is_bin ?_; first | (refine lw_pure rfl (pv_geq rfl rfl) ?_) | (refine lw_pure rfl (pv_sub rfl rfl (by omega)) ?_))) | ((refine is_load ?_; first | (refine lw_pure rfl (pv_load (t1 rfl) rfl (by first | fail)) ?_) | (refine lw_pure rfl (pv_loada (tA rfl) rfl (by first | fail) (by rfl)) ?_))) | ((refine is_ia ?_; first | (refine lw_pure rfl (pv_ian (tS rfl) rfl rfl (by omega)) ?_) | (refine lw_pure rfl (pv_ia (tS rfl) rfl rfl (by omega)) ?_))) | ((refine is_un ?_; first | (refine lw_pure rfl (pv_not rfl) ?_))) | ((refine is_bi ?_; first | (refine lw_pure rfl (pv_lenl (tS rfl) rfl) ?_) | (refine lw_pure rfl (pv_lens (tStr rfl) rfl) ?_))))
      refine qw_retM0 (qw_ret0 rfl ⟨⟨_, rfl⟩, Or.inr ⟨pre ++ [((q : Int), x)], ⟨(xs.take q).reverse, ?_⟩, hjx⟩⟩)
      rw [hp2, ← List.reverse_append, List.take_append_drop]
end Go.Proofs.YtnffmbfdfhokeaaDoor.R
namespace Go.Proofs.YtnffmbfdfhokeaaDoor.R
open Go.RowKit Go.PlainAid

abbrev encY (x : Int × Int) : List Value := [.int .i64 x.1, .int .i64 x.2]
def notZ (rs : List (Int × Int)) : List (Int × Int) := rs.filter fun r => decide (r.2 ≠ 0)
theorem notZ_snoc (rs : List (Int × Int)) {k : Nat} {x : Int × Int} (h : rs[k]? = some x) : notZ (rs.take (k + 1)) = notZ (rs.take k) ++ (if x.2 ≠ 0 then [x] else []) := by
  unfold notZ
  rw [List.take_add_one, h, List.filter_append]
  congr 1
  by_cases h0 : x.2 = 0 <;> simp [h0]
theorem notZ_pre (rs : List (Int × Int)) (k : Nat) : ∃ r, notZ (rs.take k) ++ r = notZ rs := by
  refine ⟨notZ (rs.drop k), ?_⟩
  unfold notZ
  rw [← List.filter_append, List.take_append_drop]
abbrev Nz := { x : Int × Int // x.2 ≠ 0 ∧ (-9223372036854775808 ≤ x.2 ∧ x.2 ≤ 9223372036854775807) }
def Rall (rs : List (Int × Int)) (ys : List Nz) : Prop := ys.map (·.1) = notZ rs
def Rpre (rs : List (Int × Int)) (ys : List Nz) : Prop := ∃ r, ys.map (·.1) ++ r = notZ rs
set_option maxRecDepth 20000 in
set_option maxHeartbeats 1000000 in
theorem rows_stops {rs : List (Int × Int)} {m A B ca cb : Nat} {a b : Option Addr} {w : World} (hm : rs.length = m) (HA : PT w A 91 [.slice a m ca]) (HB : PT w B 32 [.slice b m cb]) (SA : SlR encI 1 w a ca (rs.map (·.1))) (SB : SlR encI 1 w b cb (rs.map (·.2))) (hin : ∀ r ∈ rs, -9223372036854775808 ≤ r.2 ∧ r.2 ≤ 9223372036854775807) :
    SeqStopsK (fr none) 1 Tryd.prog 47 #[.pointer (some ⟨A, 0, none⟩), .pointer (some ⟨B, 0, none⟩)] (fun x => (encY x.1).toArray) (fun A C => Below w.heap.size A C) (Rall rs) (Rpre rs) rs.length w := by
  subst hm
  have hle := SA.le
  have hmx := SA.max
  have hle2 := SB.le
  have hmx2 := SB.max
  rw [List.length_map] at hle hle2
  intro l J Jx W hW hJ hJx hY h0
  show CallsIn (fr none) 1 Tryd.prog _ [Value.func (.yield l) #[] #[], .pointer (some ⟨A, 0, none⟩), .pointer (some ⟨B, 0, none⟩)].toArray W _
  have hw := hW
  refine R.fn_enter _ 29 Tryd.func47 rfl rfl rfl ?_
  repeat' (first | (refine lw_pure rfl (pv_move rfl) ?_) | (refine lw_pure rfl (pv_assign rfl) ?_) | (refine is_cw ?_; first | (refine cw_seq ?_) | (refine cw_region ?_) | (refine cw_true rfl rfl ?_) | (refine cw_false rfl rfl ?_) | (refine is_cd ?_; refine cw_true rfl (by first | assumption | exact decide_eq_true (by omega) | exact dec_notT (by omega)) ?_) | (refine is_cd ?_; refine cw_false rfl (by first | assumption | exact decide_eq_false (by omega) | exact dec_notF (by omega)) ?_) | (refine cw_skip ?_) | (refine cw_block ?_) | (refine cw_exit ?_) | (refine cw_ret ?_)) | (refine is_qw ?_; first | (with_reducible refine qw_then ?_) | (with_reducible refine qw_in ?_) | (with_reducible refine qw_in_hit ?_) | (refine qw_in_miss rfl ?_) | (with_reducible refine qw_then_exit ?_) | (with_reducible refine qw_then_ret ?_) | (with_reducible refine qw_in_ret ?_)) | (refine lw_nil ?_) | (refine is_guarded ?_; first | (refine lw_not rfl rfl rfl rfl ?_) | (refine lw_not_u rfl rfl rfl ?_) | (refine lw_on rfl rfl rfl ?_)) | ((refine is_bin ?_; first | (refine lw_pure rfl (pv_lss rfl rfl) ?_) | (refine lw_pure rfl (pv_neq rfl rfl) ?_) | (refine lw_pure rfl (pv_inc rfl rfl (by omega)) ?_) | (refine lw_pure rfl (pv_add rfl rfl (by omega)) ?_))) | ((refine is_load ?_; first | (refine lw_pure rfl (pv_load (t1 rfl) rfl (by first | exact PT.ld0 (HA.mono hw) rfl | exact PT.ld (HA.mono hw) rfl | exact PT.ld0 (HB.mono hw) rfl | exact PT.ld (HB.mono hw) rfl)) ?_) | (refine lw_pure rfl (pv_loada (tA rfl) rfl (by first | exact PT.lda (HA.mono hw) | exact PT.lda (HB.mono hw)) (by rfl)) ?_))) | ((refine is_ia ?_; first | (refine lw_pure rfl (pv_ian (tS rfl) rfl rfl (by omega)) ?_) | (refine lw_pure rfl (pv_ia (tS rfl) rfl rfl (by omega)) ?_))) | ((refine is_un ?_; first | (refine lw_pure rfl (pv_not rfl) ?_))) | ((refine is_bi ?_; first | (refine lw_pure rfl (pv_lenl (tS rfl) rfl) ?_) | (refine lw_pure rfl (pv_lens (tStr rfl) rfl) ?_))) | (refine is_pk ?_; refine lw_pure rfl (pv_pick_t rfl rfl rfl) ?_) | (refine is_pk ?_; refine lw_pure rfl (pv_pick_f rfl rfl rfl) ?_) | (refine is_pk ?_; refine lw_pure rfl (pv_pick_t rfl (by first | assumption | exact decide_eq_true (by omega) | exact dec_notT (by omega)) rfl) ?_) | (refine is_pk ?_; refine lw_pure rfl (pv_pick_f rfl (by first | assumption | exact decide_eq_false (by omega) | exact dec_notF (by omega)) rfl) ?_) | (refine is_pk ?_; refine lw_pure rfl (pv_pick rfl rfl rfl) ?_))
  refine cw_loop (σ := Nat × List Nz) (fun s => [(0, .func (.yield l) #[] #[]), (1, .pointer (some ⟨A, 0, none⟩)), (2, .pointer (some ⟨B, 0, none⟩)), (6, .slice a rs.length ca), (7, .int .i64 (rs.length : Nat)), (8, .int .i64 (s.1 : Nat))]) (fun s wr => s.1 ≤ rs.length ∧ Below w.heap.size w wr ∧ J s.2 wr ∧ s.2.map (·.1) = notZ (rs.take s.1)) (fun s => rs.length - s.1) (0, []) (by repeat' (first | exact trivial | refine ⟨rfl, ?_⟩)) ⟨Nat.zero_le _, hw, h0, by simp [notZ]⟩ ?_
  clear hw
  rintro ⟨k, pre⟩ wr ⟨hk, hw, hj, hp⟩
  replace hk : k ≤ rs.length := hk
  replace hj : J pre wr := hj
  replace hp : pre.map (·.1) = notZ (rs.take k) := hp
  change CW none 1 [] Tryd.prog _ _ _ [(0, .func (.yield l) #[] #[]), (1, .pointer (some ⟨A, 0, none⟩)), (2, .pointer (some ⟨B, 0, none⟩)), (6, .slice a rs.length ca), (7, .int .i64 (rs.length : Nat)), (8, .int .i64 (k : Nat))] wr
  by_cases hlt : k < rs.length
  · have hxk : rs[k]? = some rs[k] := List.getElem?_eq_getElem hlt
    have hxi := hin _ (List.getElem_mem hlt)
    generalize rs[k] = x at hxk hxi
    have hx1 : (rs.map (·.1))[k]? = some x.1 := by rw [List.getElem?_map, hxk]; rfl
    have hx2 : (rs.map (·.2))[k]? = some x.2 := by rw [List.getElem?_map, hxk]; rfl
    have hpl : pre.length < rs.length := by
      have h1 : (notZ (rs.take k)).length ≤ (rs.take k).length := List.length_filter_le _ _
      rw [List.length_take] at h1
      have h2 := congrArg List.length hp
      rw [List.length_map] at h2
      omega
    obtain ⟨ab, ao, rfl, -, -⟩ := SA.at (by intro h; rw [h] at hx1; simp at hx1)
    obtain ⟨bb, bo, rfl, -, -⟩ := SB.at (by intro h; rw [h] at hx2; simp at hx2)
    have hp2 := notZ_snoc rs hxk
    rw [← hp] at hp2
    repeat' ((fail_if_success (refine is_seqr 3 ?_)); first | (refine lw_pure rfl (pv_move rfl) ?_) | (refine lw_pure rfl (pv_assign rfl) ?_) | (refine is_cw ?_; first | (refine cw_seq ?_) | (refine cw_region ?_) | (refine cw_true rfl rfl ?_) | (refine cw_false rfl rfl ?_) | (refine is_cd ?_; refine cw_true rfl (by first | assumption | exact decide_eq_true (by omega) | exact dec_notT (by omega)) ?_) | (refine is_cd ?_; refine cw_false rfl (by first | assumption | exact decide_eq_false (by omega) | exact dec_notF (by omega)) ?_) | (refine cw_skip ?_) | (refine cw_block ?_) | (refine cw_exit ?_) | (refine cw_ret ?_)) | (refine is_qw ?_; first | (with_reducible refine qw_then ?_) | (with_reducible refine qw_in ?_) | (with_reducible refine qw_in_hit ?_) | (refine qw_in_miss rfl ?_) | (with_reducible refine qw_then_exit ?_) | (with_reducible refine qw_then_ret ?_) | (with_reducible refine qw_in_ret ?_)) | (refine lw_nil ?_) | (refine is_guarded ?_; first | (refine lw_not rfl rfl rfl rfl ?_) | (refine lw_not_u rfl rfl rfl ?_) | (refine lw_on rfl rfl rfl ?_)) | ((refine is_bin ?_; first | (refine lw_pure rfl (pv_lss rfl rfl) ?_) | (refine lw_pure rfl (pv_neq rfl rfl) ?_) | (refine lw_pure rfl (pv_inc rfl rfl (by omega)) ?_) | (refine lw_pure rfl (pv_add rfl rfl (by omega)) ?_))) | ((refine is_load ?_; first | (refine lw_pure rfl (pv_load (t1 rfl) rfl (by first | exact SlR.ld (SA.mono hw) hx1 rfl | exact SlR.ld1 (SA.mono hw) hx1 rfl)) ?_) | (refine lw_pure rfl (pv_loada (tA rfl) rfl (by first | exact SlR.lda (SA.mono hw) hx1) (by rfl)) ?_))) | ((refine is_ia ?_; first | (refine lw_pure rfl (pv_ian (tS rfl) rfl rfl (by omega)) ?_) | (refine lw_pure rfl (pv_ia (tS rfl) rfl rfl (by omega)) ?_))) | ((refine is_un ?_; first | (refine lw_pure rfl (pv_not rfl) ?_))) | ((refine is_bi ?_; first | (refine lw_pure rfl (pv_lenl (tS rfl) rfl) ?_) | (refine lw_pure rfl (pv_lens (tStr rfl) rfl) ?_))) | (refine is_pk ?_; refine lw_pure rfl (pv_pick_t rfl rfl rfl) ?_) | (refine is_pk ?_; refine lw_pure rfl (pv_pick_f rfl rfl rfl) ?_) | (refine is_pk ?_; refine lw_pure rfl (pv_pick_t rfl (by first | assumption | exact decide_eq_true (by omega) | exact dec_notT (by omega)) rfl) ?_) | (refine is_pk ?_; refine lw_pure rfl (pv_pick_f rfl (by first | assumption | exact decide_eq_false (by omega) | exact dec_notF (by omega)) rfl) ?_) | (refine is_pk ?_; refine lw_pure rfl (pv_pick rfl rfl rfl) ?_))
    refine cw_seq ?_
    refine cw_regionY ?_
    by_cases h2 : x.2 = 0
    · rw [if_neg (by simp [h2]), List.append_nil] at hp2
      repeat' (first | (refine ly_pure rfl (pv_move rfl) ?_) | (refine ly_pure rfl (pv_assign rfl) ?_) | (refine ly_pure rfl (pv_pick_t rfl rfl rfl) ?_) | (refine ly_pure rfl (pv_pick_f rfl rfl rfl) ?_) | (refine ly_pure rfl (pv_pick_t rfl (by first | assumption | exact decide_eq_true (by omega) | exact dec_notT (by omega)) rfl) ?_) | (refine ly_pure rfl (pv_pick_f rfl (by first | assumption | exact decide_eq_false (by omega) | exact dec_notF (by omega)) rfl) ?_) | (refine ly_pure rfl (pv_pick rfl rfl rfl) ?_) | (refine ly_pure rfl (pv_lss rfl rfl) ?_) | (refine ly_pure rfl (pv_neq rfl rfl) ?_) | (refine ly_pure rfl (pv_inc rfl rfl (by omega)) ?_) | (refine ly_pure rfl (pv_add rfl rfl (by omega)) ?_) | (refine ly_pure rfl (pv_not rfl) ?_) | (refine ly_pure rfl (pv_lenl (tS rfl) rfl) ?_) | (refine ly_pure rfl (pv_lens (tStr rfl) rfl) ?_) | (refine ly_pure rfl (pv_ian (tS rfl) rfl rfl (by omega)) ?_) | (refine ly_pure rfl (pv_ia (tS rfl) rfl rfl (by omega)) ?_) | (refine ly_pure rfl (pv_load (t1 rfl) rfl (by first | exact PT.ld0 (HB.mono hw) rfl | exact PT.ld (HB.mono hw) rfl | exact SlR.ld (SB.mono hw) hx2 rfl | exact SlR.ld1 (SB.mono hw) hx2 rfl)) ?_) | (refine ly_pure rfl (pv_loada (tA rfl) rfl (by first | exact PT.lda (HB.mono hw) | exact SlR.lda (SB.mono hw) hx2) (by rfl)) ?_) | (refine ly_not rfl rfl rfl rfl ?_) | (refine ly_on rfl rfl rfl ?_) | (refine ly_on rfl rfl (by first | assumption | exact decide_eq_true (by omega) | exact decide_eq_false (by omega) | exact dec_notT (by omega) | exact dec_notF (by omega)) ?_) | (refine ly_not rfl rfl rfl (by first | assumption | exact decide_eq_true (by omega) | exact decide_eq_false (by omega) | exact dec_notT (by omega) | exact dec_notF (by omega)) ?_))
      refine ly_nil ?_
      repeat' (first | (refine lw_pure rfl (pv_move rfl) ?_) | (refine lw_pure rfl (pv_assign rfl) ?_) | (refine is_cw ?_; first | (refine cw_seq ?_) | (refine cw_region ?_) | (refine cw_true rfl rfl ?_) | (refine cw_false rfl rfl ?_) | (refine is_cd ?_; refine cw_true rfl (by first | assumption | exact decide_eq_true (by omega) | exact dec_notT (by omega)) ?_) | (refine is_cd ?_; refine cw_false rfl (by first | assumption | exact decide_eq_false (by omega) | exact dec_notF (by omega)) ?_) | (refine cw_skip ?_) | (refine cw_block ?_) | (refine cw_exit ?_) | (refine cw_ret ?_)) | (refine is_qw ?_; first | (with_reducible refine qw_then ?_) | (with_reducible refine qw_in ?_) | (with_reducible refine qw_in_hit ?_) | (refine qw_in_miss rfl ?_) | (with_reducible refine qw_then_exit ?_) | (with_reducible refine qw_then_ret ?_) | (with_reducible refine qw_in_ret ?_)) | (refine lw_nil ?_) | (refine is_guarded ?_; first | (refine lw_not rfl rfl rfl rfl ?_) | (refine lw_not_u rfl rfl rfl ?_) | (refine lw_on rfl rfl rfl ?_)) | ((refine is_bin ?_; first | (refine lw_pure rfl (pv_lss rfl rfl) ?_) | (refine lw_pure rfl (pv_neq rfl rfl) ?_) | (refine lw_pure rfl (pv_inc rfl rfl (by omega)) ?_) | (refine lw_pure rfl (pv_add rfl rfl (by omega)) ?_))) | ((refine is_load ?_; first | (refine lw_pure rfl (pv_load (t1 rfl) rfl (by first | fail)) ?_) | (refine lw_pure rfl (pv_loada (tA rfl) rfl (by first | fail) (by rfl)) ?_))) | ((refine is_ia ?_; first | (refine lw_pure rfl (pv_ian (tS rfl) rfl rfl (by omega)) ?_) | (refine lw_pure rfl (pv_ia (tS rfl) rfl rfl (by omega)) ?_))) | ((refine is_un ?_; first | (refine lw_pure rfl (pv_not rfl) ?_))) | ((refine is_bi ?_; first | (refine lw_pure rfl (pv_lenl (tS rfl) rfl) ?_) | (refine lw_pure rfl (pv_lens (tStr rfl) rfl) ?_))) | (refine is_pk ?_; refine lw_pure rfl (pv_pick_t rfl rfl rfl) ?_) | (refine is_pk ?_; refine lw_pure rfl (pv_pick_f rfl rfl rfl) ?_) | (refine is_pk ?_; refine lw_pure rfl (pv_pick_t rfl (by first | assumption | exact decide_eq_true (by omega) | exact dec_notT (by omega)) rfl) ?_) | (refine is_pk ?_; refine lw_pure rfl (pv_pick_f rfl (by first | assumption | exact decide_eq_false (by omega) | exact dec_notF (by omega)) rfl) ?_) | (refine is_pk ?_; refine lw_pure rfl (pv_pick rfl rfl rfl) ?_))
      exact qw_round (k + 1, pre) (by repeat' (first | exact trivial | refine ⟨rfl, ?_⟩)) ⟨by show k + 1 ≤ _; omega, hw, hj, hp2.symm⟩ (by show rs.length - (k + 1) < rs.length - k; omega)
    · rw [if_pos h2] at hp2
      have h2n : decide (x.2 = 0) = false := decide_eq_false h2
      repeat' (first | (refine ly_pure rfl (pv_move rfl) ?_) | (refine ly_pure rfl (pv_assign rfl) ?_) | (refine ly_pure rfl (pv_pick_t rfl rfl rfl) ?_) | (refine ly_pure rfl (pv_pick_f rfl rfl rfl) ?_) | (refine ly_pure rfl (pv_pick_t rfl (by first | assumption | exact decide_eq_true (by omega) | exact dec_notT (by omega)) rfl) ?_) | (refine ly_pure rfl (pv_pick_f rfl (by first | assumption | exact decide_eq_false (by omega) | exact dec_notF (by omega)) rfl) ?_) | (refine ly_pure rfl (pv_pick rfl rfl rfl) ?_) | (refine ly_pure rfl (pv_lss rfl rfl) ?_) | (refine ly_pure rfl (pv_neq rfl rfl) ?_) | (refine ly_pure rfl (pv_inc rfl rfl (by omega)) ?_) | (refine ly_pure rfl (pv_add rfl rfl (by omega)) ?_) | (refine ly_pure rfl (pv_not rfl) ?_) | (refine ly_pure rfl (pv_lenl (tS rfl) rfl) ?_) | (refine ly_pure rfl (pv_lens (tStr rfl) rfl) ?_) | (refine ly_pure rfl (pv_ian (tS rfl) rfl rfl (by omega)) ?_) | (refine ly_pure rfl (pv_ia (tS rfl) rfl rfl (by omega)) ?_) | (refine ly_pure rfl (pv_load (t1 rfl) rfl (by first | exact PT.ld0 (HB.mono hw) rfl | exact PT.ld (HB.mono hw) rfl | exact SlR.ld (SB.mono hw) hx2 rfl | exact SlR.ld1 (SB.mono hw) hx2 rfl)) ?_) | (refine ly_pure rfl (pv_loada (tA rfl) rfl (by first | exact PT.lda (HB.mono hw) | exact SlR.lda (SB.mono hw) hx2) (by rfl)) ?_) | (refine ly_not rfl rfl rfl rfl ?_) | (refine ly_on rfl rfl rfl ?_) | (refine ly_on rfl rfl (by first | assumption | exact decide_eq_true (by omega) | exact decide_eq_false (by omega) | exact dec_notT (by omega) | exact dec_notF (by omega)) ?_) | (refine ly_not rfl rfl rfl (by first | assumption | exact decide_eq_true (by omega) | exact decide_eq_false (by omega) | exact dec_notT (by omega) | exact dec_notF (by omega)) ?_))
      refine ly_yield rfl rfl rfl (hY pre ⟨x, h2, hxi⟩ wr hj hpl) ?_
      rintro e W' (⟨rfl, hj2, hk2⟩ | ⟨rfl, hjx⟩)
      · refine ⟨_, rfl, ?_⟩
        have hw2 : Below w.heap.size w W' := hw.trans hk2
        clear hw
        have hw := hw2
        repeat' (first | (refine ly_pure rfl (pv_move rfl) ?_) | (refine ly_pure rfl (pv_assign rfl) ?_) | (refine ly_pure rfl (pv_pick_t rfl rfl rfl) ?_) | (refine ly_pure rfl (pv_pick_f rfl rfl rfl) ?_) | (refine ly_pure rfl (pv_pick_t rfl (by first | assumption | exact decide_eq_true (by omega) | exact dec_notT (by omega)) rfl) ?_) | (refine ly_pure rfl (pv_pick_f rfl (by first | assumption | exact decide_eq_false (by omega) | exact dec_notF (by omega)) rfl) ?_) | (refine ly_pure rfl (pv_pick rfl rfl rfl) ?_) | (refine ly_pure rfl (pv_lss rfl rfl) ?_) | (refine ly_pure rfl (pv_neq rfl rfl) ?_) | (refine ly_pure rfl (pv_inc rfl rfl (by omega)) ?_) | (refine ly_pure rfl (pv_add rfl rfl (by omega)) ?_) | (refine ly_pure rfl (pv_not rfl) ?_) | (refine ly_pure rfl (pv_lenl (tS rfl) rfl) ?_) | (refine ly_pure rfl (pv_lens (tStr rfl) rfl) ?_) | (refine ly_pure rfl (pv_ian (tS rfl) rfl rfl (by omega)) ?_) | (refine ly_pure rfl (pv_ia (tS rfl) rfl rfl (by omega)) ?_) | (refine ly_pure rfl (pv_load (t1 rfl) rfl (by first | fail)) ?_) | (refine ly_pure rfl (pv_loada (tA rfl) rfl (by first | fail) (by rfl)) ?_) | (refine ly_not rfl rfl rfl rfl ?_) | (refine ly_on rfl rfl rfl ?_) | (refine ly_on rfl rfl (by first | assumption | exact decide_eq_true (by omega) | exact decide_eq_false (by omega) | exact dec_notT (by omega) | exact dec_notF (by omega)) ?_) | (refine ly_not rfl rfl rfl (by first | assumption | exact decide_eq_true (by omega) | exact decide_eq_false (by omega) | exact dec_notT (by omega) | exact dec_notF (by omega)) ?_))
        refine ly_nil ?_
        repeat' (first | (refine lw_pure rfl (pv_move rfl) ?_) | (refine lw_pure rfl (pv_assign rfl) ?_) | (refine is_cw ?_; first | (refine cw_seq ?_) | (refine cw_region ?_) | (refine cw_true rfl rfl ?_) | (refine cw_false rfl rfl ?_) | (refine is_cd ?_; refine cw_true rfl (by first | assumption | exact decide_eq_true (by omega) | exact dec_notT (by omega)) ?_) | (refine is_cd ?_; refine cw_false rfl (by first | assumption | exact decide_eq_false (by omega) | exact dec_notF (by omega)) ?_) | (refine cw_skip ?_) | (refine cw_block ?_) | (refine cw_exit ?_) | (refine cw_ret ?_)) | (refine is_qw ?_; first | (with_reducible refine qw_then ?_) | (with_reducible refine qw_in ?_) | (with_reducible refine qw_in_hit ?_) | (refine qw_in_miss rfl ?_) | (with_reducible refine qw_then_exit ?_) | (with_reducible refine qw_then_ret ?_) | (with_reducible refine qw_in_ret ?_)) | (refine lw_nil ?_) | (refine is_guarded ?_; first | (refine lw_not rfl rfl rfl rfl ?_) | (refine lw_not_u rfl rfl rfl ?_) | (refine lw_on rfl rfl rfl ?_)) | ((refine is_bin ?_; first | (refine lw_pure rfl (pv_lss rfl rfl) ?_) | (refine lw_pure rfl (pv_neq rfl rfl) ?_) | (refine lw_pure rfl (pv_inc rfl rfl (by omega)) ?_) | (refine lw_pure rfl (pv_add rfl rfl (by omega)) ?_))) | ((refine is_load ?_; first | (refine lw_pure rfl (pv_load (t1 rfl) rfl (by first | fail)) ?_) | (refine lw_pure rfl (pv_loada (tA rfl) rfl (by first | fail) (by rfl)) ?_))) | ((refine is_ia ?_; first | (refine lw_pure rfl (pv_ian (tS rfl) rfl rfl (by omega)) ?_) | (refine lw_pure rfl (pv_ia (tS rfl) rfl rfl (by omega)) ?_))) | ((refine is_un ?_; first | (refine lw_pure rfl (pv_not rfl) ?_))) | ((refine is_bi ?_; first | (refine lw_pure rfl (pv_lenl (tS rfl) rfl) ?_) | (refine lw_pure rfl (pv_lens (tStr rfl) rfl) ?_))) | (refine is_pk ?_; refine lw_pure rfl (pv_pick_t rfl rfl rfl) ?_) | (refine is_pk ?_; refine lw_pure rfl (pv_pick_f rfl rfl rfl) ?_) | (refine is_pk ?_; refine lw_pure rfl (pv_pick_t rfl (by first | assumption | exact decide_eq_true (by omega) | exact dec_notT (by omega)) rfl) ?_) | (refine is_pk ?_; refine lw_pure rfl (pv_pick_f rfl (by first | assumption | exact decide_eq_false (by omega) | exact dec_notF (by omega)) rfl) ?_) | (refine is_pk ?_; refine lw_pure rfl (pv_pick rfl rfl rfl) ?_))
        exact qw_round (k + 1, pre ++ [⟨x, h2, hxi⟩]) (by repeat' (first | exact trivial | refine ⟨rfl, ?_⟩)) ⟨by show k + 1 ≤ _; omega, hw, hj2, by rw [List.map_append]; exact hp2.symm⟩ (by show rs.length - (k + 1) < rs.length - k; omega)
      · refine ⟨_, rfl, ?_⟩
        repeat' (first | (refine ly_pure rfl (pv_move rfl) ?_) | (refine ly_pure rfl (pv_assign rfl) ?_) | (refine ly_pure rfl (pv_pick_t rfl rfl rfl) ?_) | (refine ly_pure rfl (pv_pick_f rfl rfl rfl) ?_) | (refine ly_pure rfl (pv_pick_t rfl (by first | assumption | exact decide_eq_true (by omega) | exact dec_notT (by omega)) rfl) ?_) | (refine ly_pure rfl (pv_pick_f rfl (by first | assumption | exact decide_eq_false (by omega) | exact dec_notF (by omega)) rfl) ?_) | (refine ly_pure rfl (pv_pick rfl rfl rfl) ?_) | (refine ly_pure rfl (pv_lss rfl rfl) ?_) | (refine ly_pure rfl (pv_neq rfl rfl) ?_) | (refine ly_pure rfl (pv_inc rfl rfl (by omega)) ?_) | (refine ly_pure rfl (pv_add rfl rfl (by omega)) ?_) | (refine ly_pure rfl (pv_not rfl) ?_) | (refine ly_pure rfl (pv_lenl (tS rfl) rfl) ?_) | (refine ly_pure rfl (pv_lens (tStr rfl) rfl) ?_) | (refine ly_pure rfl (pv_ian (tS rfl) rfl rfl (by omega)) ?_) | (refine ly_pure rfl (pv_ia (tS rfl) rfl rfl (by omega)) ?_) | (refine ly_pure rfl (pv_load (t1 rfl) rfl (by first | fail)) ?_) | (refine ly_pure rfl (pv_loada (tA rfl) rfl (by first | fail) (by rfl)) ?_) | (refine ly_not rfl rfl rfl rfl ?_) | (refine ly_on rfl rfl rfl ?_) | (refine ly_on rfl rfl (by first | assumption | exact decide_eq_true (by omega) | exact decide_eq_false (by omega) | exact dec_notT (by omega) | exact dec_notF (by omega)) ?_) | (refine ly_not rfl rfl rfl (by first | assumption | exact decide_eq_true (by omega) | exact decide_eq_false (by omega) | exact dec_notT (by omega) | exact dec_notF (by omega)) ?_))
        refine ly_nil ?_
        repeat' (first | (refine lw_pure rfl (pv_move rfl) ?_) | (refine lw_pure rfl (pv_assign rfl) ?_) | (refine is_cw ?_; first | (refine cw_seq ?_) | (refine cw_region ?_) | (refine cw_true rfl rfl ?_) | (refine cw_false rfl rfl ?_) | (refine is_cd ?_; refine cw_true rfl (by first | assumption | exact decide_eq_true (by omega) | exact dec_notT (by omega)) ?_) | (refine is_cd ?_; refine cw_false rfl (by first | assumption | exact decide_eq_false (by omega) | exact dec_notF (by omega)) ?_) | (refine cw_skip ?_) | (refine cw_block ?_) | (refine cw_exit ?_) | (refine cw_ret ?_)) | (refine is_qw ?_; first | (with_reducible refine qw_then ?_) | (with_reducible refine qw_in ?_) | (with_reducible refine qw_in_hit ?_) | (refine qw_in_miss rfl ?_) | (with_reducible refine qw_then_exit ?_) | (with_reducible refine qw_then_ret ?_) | (with_reducible refine qw_in_ret ?_)) | (refine lw_nil ?_) | (refine is_guarded ?_; first | (refine lw_not rfl rfl rfl rfl ?_) | (refine lw_not_u rfl rfl rfl ?_) | (refine lw_on rfl rfl rfl ?_)) | ((refine is_bin ?_; first | (refine lw_pure rfl (pv_lss rfl rfl) ?_) | (refine lw_pure rfl (pv_neq rfl rfl) ?_) | (refine lw_pure rfl (pv_inc rfl rfl (by omega)) ?_) | (refine lw_pure rfl (pv_add rfl rfl (by omega)) ?_))) | ((refine is_load ?_; first | (refine lw_pure rfl (pv_load (t1 rfl) rfl (by first | fail)) ?_) | (refine lw_pure rfl (pv_loada (tA rfl) rfl (by first | fail) (by rfl)) ?_))) | ((refine is_ia ?_; first | (refine lw_pure rfl (pv_ian (tS rfl) rfl rfl (by omega)) ?_) | (refine lw_pure rfl (pv_ia (tS rfl) rfl rfl (by omega)) ?_))) | ((refine is_un ?_; first | (refine lw_pure rfl (pv_not rfl) ?_))) | ((refine is_bi ?_; first | (refine lw_pure rfl (pv_lenl (tS rfl) rfl) ?_) | (refine lw_pure rfl (pv_lens (tStr rfl) rfl) ?_))) | (refine is_pk ?_; refine lw_pure rfl (pv_pick_t rfl rfl rfl) ?_) | (refine is_pk ?_; refine lw_pure rfl (pv_pick_f rfl rfl rfl) ?_) | (refine is_pk ?_; refine lw_pure rfl (pv_pick_t rfl (by first | assumption | exact decide_eq_true (by omega) | exact dec_notT (by omega)) rfl) ?_) | (refine is_pk ?_; refine lw_pure rfl (pv_pick_f rfl (by first | assumption | exact decide_eq_false (by omega) | exact dec_notF (by omega)) rfl) ?_) | (refine is_pk ?_; refine lw_pure rfl (pv_pick rfl rfl rfl) ?_))
        refine qw_retM0 (qw_ret0 rfl ⟨⟨_, rfl⟩, Or.inr ⟨pre ++ [⟨x, h2, hxi⟩], ?_, hjx⟩⟩)
        have e9 : (pre ++ [(⟨x, h2, hxi⟩ : Nz)]).map (fun q : Nz => q.1) = pre.map (fun q : Nz => q.1) ++ [x] := by rw [List.map_append]; rfl
        show ∃ r, (pre ++ [(⟨x, h2, hxi⟩ : Nz)]).map (fun q : Nz => q.1) ++ r = notZ rs
        rw [e9]
        rw [← hp2]
        exact notZ_pre rs (k + 1)
  · have hkl : k = rs.length := by omega
    subst hkl
    rw [List.take_length] at hp
    repeat' (first | (refine lw_pure rfl (pv_move rfl) ?_) | (refine lw_pure rfl (pv_assign rfl) ?_) | (refine is_cw ?_; first | (refine cw_seq ?_) | (refine cw_region ?_) | (refine cw_true rfl rfl ?_) | (refine cw_false rfl rfl ?_) | (refine is_cd ?_; refine cw_true rfl (by first | assumption | exact decide_eq_true (by omega) | exact dec_notT (by omega)) ?_) | (refine is_cd ?_; refine cw_false rfl (by first | assumption | exact decide_eq_false (by omega) | exact dec_notF (by omega)) ?_) | (refine cw_skip ?_) | (refine cw_block ?_) | (refine cw_exit ?_) | (refine cw_ret ?_)) | (refine is_qw ?_; first | (with_reducible refine qw_then ?_) | (with_reducible refine qw_in ?_) | (with_reducible refine qw_in_hit ?_) | (refine qw_in_miss rfl ?_) | (with_reducible refine qw_then_exit ?_) | (with_reducible refine qw_then_ret ?_) | (with_reducible refine qw_in_ret ?_)) | (refine lw_nil ?_) | (refine is_guarded ?_; first | (refine lw_not rfl rfl rfl rfl ?_) | (refine lw_not_u rfl rfl rfl ?_) | (refine lw_on rfl rfl rfl ?_)) | ((refine is_bin ?_; first | (refine lw_pure rfl (pv_lss rfl rfl) ?_) | (refine lw_pure rfl (pv_neq rfl rfl) ?_) | (refine lw_pure rfl (pv_inc rfl rfl (by omega)) ?_) | (refine lw_pure rfl (pv_add rfl rfl (by omega)) ?_))) | ((refine is_load ?_; first | (refine lw_pure rfl (pv_load (t1 rfl) rfl (by first | fail)) ?_) | (refine lw_pure rfl (pv_loada (tA rfl) rfl (by first | fail) (by rfl)) ?_))) | ((refine is_ia ?_; first | (refine lw_pure rfl (pv_ian (tS rfl) rfl rfl (by omega)) ?_) | (refine lw_pure rfl (pv_ia (tS rfl) rfl rfl (by omega)) ?_))) | ((refine is_un ?_; first | (refine lw_pure rfl (pv_not rfl) ?_))) | ((refine is_bi ?_; first | (refine lw_pure rfl (pv_lenl (tS rfl) rfl) ?_) | (refine lw_pure rfl (pv_lens (tStr rfl) rfl) ?_))) | (refine is_pk ?_; refine lw_pure rfl (pv_pick_t rfl rfl rfl) ?_) | (refine is_pk ?_; refine lw_pure rfl (pv_pick_f rfl rfl rfl) ?_) | (refine is_pk ?_; refine lw_pure rfl (pv_pick_t rfl (by first | assumption | exact decide_eq_true (by omega) | exact dec_notT (by omega)) rfl) ?_) | (refine is_pk ?_; refine lw_pure rfl (pv_pick_f rfl (by first | assumption | exact decide_eq_false (by omega) | exact dec_notF (by omega)) rfl) ?_) | (refine is_pk ?_; refine lw_pure rfl (pv_pick rfl rfl rfl) ?_))
    exact qw_endM0 (qw_end0 rfl ⟨⟨_, rfl⟩, Or.inl ⟨pre, hp, hj⟩⟩)
end Go.Proofs.YtnffmbfdfhokeaaDoor.R
