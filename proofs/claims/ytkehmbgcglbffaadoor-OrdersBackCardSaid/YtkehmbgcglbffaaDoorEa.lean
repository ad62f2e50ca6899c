/-
  Contracts of all, MayName, May (layer 5), and of the document's. Conditions: the table of kinds lies in memory (KnW) for layer 5's May.
-/
import Derived.Test.YtkehmbgcglbffaaDoorEg
namespace Go.Proofs.YtkehmbgcglbffaaDoor
open Go.RowKit Go.PlainAid

theorem all_len {v : Int} {cs ns : List Int} (h : cs.length ≠ ns.length) : allR v cs ns = false := by simp [allR, h]
theorem all_no {v : Int} {cs ns : List Int} {i : Nat} {c n : Int} (hc : cs[i]? = some c) (hn : ns[i]? = some n) (h : fitsR v c n = false) : allR v cs ns = false := by
  have : ((cs.zip ns).all fun p => fitsR v p.1 p.2) = false := by
    rw [List.all_eq_false]
    refine ⟨(c, n), List.mem_of_getElem? (i := i) ?_, by simp [h]⟩
    rw [List.getElem?_zip_eq_some]; exact ⟨hc, hn⟩
  simp [allR, this]
theorem all_yes {v : Int} {cs ns : List Int} (hl : cs.length = ns.length) (h : ∀ j, j < cs.length → ∀ c n, cs[j]? = some c → ns[j]? = some n → fitsR v c n = true) : allR v cs ns = true := by
  have : ((cs.zip ns).all fun p => fitsR v p.1 p.2) = true := by
    rw [List.all_eq_true]
    rintro ⟨c, n⟩ hm
    obtain ⟨j, hj⟩ := List.mem_iff_getElem?.1 hm
    rw [List.getElem?_zip_eq_some] at hj
    exact h j (List.getElem?_eq_some_iff.1 hj.1).1 c n hj.1 hj.2
  simp [allR, this, hl]
set_option maxRecDepth 20000 in
set_option maxHeartbeats 1000000 in
theorem all_c {cs ns : List Int} {m1 m2 : Nat} {a b : Option Addr} {ca cb : Nat} (v : Int) {w : World} (h1 : cs.length = m1) (h2 : ns.length = m2) (HC : SlR encB 1 w a ca cs) (HN : SlR encI 1 w b cb ns) : Calls Tryd.prog 28 #[.int .u8 v, .slice a m1 ca, .slice b m2 cb] w fun e w' => e = .returned (.bool (allR v cs ns)) ∧ Below w.heap.size w w' := by
  subst h1 h2
  have hw := Below.refl w.heap.size w
  have hca := HC.le
  have hcm := HC.max
  refine fn_enter 30 Tryd.func28 rfl rfl rfl ?_
  by_cases hl : cs.length = ns.length
  · repeat' (first | (refine lw_pure rfl (pv_move rfl) ?_) | (refine lw_pure rfl (pv_assign rfl) ?_) | (refine is_cw ?_; first | (refine cw_seq ?_) | (refine cw_region ?_) | (refine cw_false rfl (by first | assumption | exact decide_eq_false (by omega) | exact dec_notF (by omega)) ?_) | (refine cw_skip ?_) | (refine cw_block ?_)) | (refine is_qw ?_; first | (with_reducible refine qw_then ?_)) | (refine lw_nil ?_) | ((refine is_bin ?_; first | (refine lw_pure rfl (pv_neq rfl rfl) ?_))) | ((refine is_bi ?_; first | (refine lw_pure rfl (pv_lenl (tS rfl) rfl) ?_))))
    refine cw_loop (σ := Nat) (fun k => [(0, .int .u8 v), (2, .slice b ns.length cb), (14, .slice a cs.length ca), (15, .int .i64 (cs.length : Nat)), (16, .int .i64 (k : Nat))]) (fun k wr => k ≤ cs.length ∧ Below w.heap.size w wr ∧ ∀ j, j < k → ∀ c n, cs[j]? = some c → ns[j]? = some n → fitsR v c n = true) (fun k => cs.length - k) 0 (by repeat' (first | exact trivial | refine ⟨rfl, ?_⟩)) ⟨Nat.zero_le _, hw, by omega⟩ ?_
    clear hw
    rintro k wr ⟨hk, hw, hn⟩
    by_cases hlt : k < cs.length
    · have hxc : cs[k]? = some cs[k] := List.getElem?_eq_getElem hlt
      have hxn : ns[k]? = some (ns[k]'(by omega)) := List.getElem?_eq_getElem _
      obtain ⟨ab, ao, rfl, -, -⟩ := HC.at (by intro h; rw [h] at hlt; simp at hlt)
      obtain ⟨bb, bo, rfl, -, -⟩ := HN.at (by intro h; rw [h] at hl; rw [hl] at hlt; simp at hlt)
      generalize cs[k] = c at hxc
      generalize ns[k] = n at hxn
      cases hf : fitsR v c n with
      | true =>
        repeat' (first | (refine lw_pure rfl (pv_move rfl) ?_) | (refine lw_pure rfl (pv_assign rfl) ?_) | (refine lw_call (f := 45) (by kernel_rfl) rfl rfl (fits_e hf _) ?_; rintro e w1 ⟨rfl, hb⟩; refine ⟨_, rfl, ?_⟩; replace hw := grow_trans hw hb; clear hb) | (refine is_cw ?_; first | (refine cw_seq ?_) | (refine cw_region ?_) | (refine cw_false rfl rfl ?_) | (refine cw_true rfl (by first | assumption | exact decide_eq_true (by omega) | exact dec_notT (by omega)) ?_) | (refine cw_skip ?_) | (refine cw_block ?_)) | (refine is_qw ?_; first | (with_reducible refine qw_then ?_) | (with_reducible refine qw_in ?_)) | (refine lw_nil ?_) | ((refine is_bin ?_; first | (refine lw_pure rfl (pv_lss rfl rfl) ?_) | (refine lw_pure rfl (pv_inc rfl rfl (by omega)) ?_))) | ((refine is_load ?_; first | (refine lw_pure rfl (pv_load (t1 rfl) rfl (by first | exact SlR.ld (HC.mono hw) hxc rfl | exact SlR.ld1 (HC.mono hw) hxc rfl | exact SlR.ld (HN.mono hw) hxn rfl | exact SlR.ld1 (HN.mono hw) hxn rfl)) ?_))) | ((refine is_ia ?_; first | (refine lw_pure rfl (pv_ian (tS rfl) rfl rfl (by omega)) ?_))) | ((refine is_un ?_; first | (refine lw_pure rfl (pv_not rfl) ?_))))
        refine qw_round (k + 1) (by repeat' (first | exact trivial | refine ⟨rfl, ?_⟩)) ⟨by omega, hw, ?_⟩ (by omega)
        intro j hj c' n' hc' hn'
        by_cases hjk : j = k
        · subst hjk; rw [hxc] at hc'; rw [hxn] at hn'; injection hc' with hc'; injection hn' with hn'; subst hc' hn'; exact hf
        · exact hn j (by omega) c' n' hc' hn'
      | false =>
        repeat' (first | (refine lw_pure rfl (pv_move rfl) ?_) | (refine lw_pure rfl (pv_assign rfl) ?_) | (refine lw_call (f := 45) (by kernel_rfl) rfl rfl (fits_e hf _) ?_; rintro e w1 ⟨rfl, hb⟩; refine ⟨_, rfl, ?_⟩; replace hw := grow_trans hw hb; clear hb) | (refine is_cw ?_; first | (refine cw_seq ?_) | (refine cw_region ?_) | (refine cw_true rfl rfl ?_) | (refine cw_true rfl (by first | assumption | exact decide_eq_true (by omega) | exact dec_notT (by omega)) ?_) | (refine cw_skip ?_) | (refine cw_block ?_) | (refine cw_ret ?_)) | (refine is_qw ?_; first | (with_reducible refine qw_then ?_) | (with_reducible refine qw_then_ret ?_) | (with_reducible refine qw_in_ret ?_)) | (refine lw_nil ?_) | ((refine is_bin ?_; first | (refine lw_pure rfl (pv_lss rfl rfl) ?_))) | ((refine is_load ?_; first | (refine lw_pure rfl (pv_load (t1 rfl) rfl (by first | exact SlR.ld (HC.mono hw) hxc rfl | exact SlR.ld1 (HC.mono hw) hxc rfl | exact SlR.ld (HN.mono hw) hxn rfl | exact SlR.ld1 (HN.mono hw) hxn rfl)) ?_))) | ((refine is_ia ?_; first | (refine lw_pure rfl (pv_ian (tS rfl) rfl rfl (by omega)) ?_))) | ((refine is_un ?_; first | (refine lw_pure rfl (pv_not rfl) ?_))))
        exact qw_ret1 rfl rfl ⟨ret_bool (all_no hxc hxn hf).symm, hw⟩
    · have hkl : k = cs.length := by omega
      subst hkl
      repeat' (first | (refine lw_pure rfl (pv_assign rfl) ?_) | (refine is_cw ?_; first | (refine cw_seq ?_) | (refine cw_region ?_) | (refine cw_false rfl (by first | assumption | exact decide_eq_false (by omega) | exact dec_notF (by omega)) ?_) | (refine cw_exit ?_) | (refine cw_ret ?_)) | (refine is_qw ?_; first | (with_reducible refine qw_then ?_) | (with_reducible refine qw_in_hit ?_) | (with_reducible refine qw_then_exit ?_)) | (refine lw_nil ?_) | ((refine is_bin ?_; first | (refine lw_pure rfl (pv_lss rfl rfl) ?_))))
      exact qw_ret1 rfl rfl ⟨ret_bool (all_yes hl hn).symm, hw⟩
  · repeat' (first | (refine lw_pure rfl (pv_move rfl) ?_) | (refine lw_pure rfl (pv_assign rfl) ?_) | (refine is_cw ?_; first | (refine cw_seq ?_) | (refine cw_region ?_) | (refine cw_true rfl (by first | assumption | exact decide_eq_true (by omega) | exact dec_notT (by omega)) ?_) | (refine cw_ret ?_)) | (refine is_qw ?_; first | (with_reducible refine qw_then ?_) | (with_reducible refine qw_then_ret ?_)) | (refine lw_nil ?_) | ((refine is_bin ?_; first | (refine lw_pure rfl (pv_neq rfl rfl) ?_))) | ((refine is_bi ?_; first | (refine lw_pure rfl (pv_lenl (tS rfl) rfl) ?_))))
    exact qw_ret1 rfl rfl ⟨ret_bool (all_len hl).symm, hw⟩
end Go.Proofs.YtkehmbgcglbffaaDoor
