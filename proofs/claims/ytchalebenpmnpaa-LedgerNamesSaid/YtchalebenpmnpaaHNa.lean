/-
  The law LedgerNames: walked: it returns true. Conditions: none (a closed statement).
-/
import Derived.Test.YtchalebenpmnpaaGz
import Derived.Test.YtchalebenpmnpaaSk
namespace Go.Proofs.Ytchalebenpmnpaa
open Go.RowKit

theorem elemS : ElemT Try.prog 43 22 1 24 := elem_of Try.underlying43 (by kernel_rfl) (by omega)
def encS (v : Value) : List Value := [v]
theorem encS_len (v : Value) : (encS v).length = 1 := rfl
theorem form_no {l p : List Row} (h : mayR l = false) : postR l p = ([], 4) := by simp [postR, h]
@[irreducible] def zeroP (m : Nat) : List Row := List.replicate m ⟨0, 0, 0, 0⟩
theorem zeroP_len (m : Nat) : (zeroP m).length = m := by unfold zeroP; exact List.length_replicate
theorem zeroP_in (m : Nat) : In64R (zeroP m) := fun r hr => by
  unfold zeroP at hr
  have := (List.mem_replicate.1 hr).2
  subst this; exact ⟨by decide +kernel, by decide +kernel⟩
theorem nm_a : postR [] (zeroP 65) = ([], 40) := by decide +kernel
theorem nm_b : postR [] (zeroP 64) = ([], 0) := by decide +kernel
theorem nm_c : postR [] [⟨1, 0, -1, 0⟩, ⟨2, 0, 2, 0⟩] = ([], 1) := by decide +kernel
theorem nm_d : postR [] [⟨1, 0, -1, 0⟩, ⟨2, 0, 1, 0⟩] = ([], 47) := by decide +kernel
theorem nm_e : moveR [] 0 1 16 1125899906842624 = (([⟨0, 16, -1125899906842624, 0⟩, ⟨1, 16, 1125899906842624, 0⟩] : List Row), 0) := by decide +kernel
theorem nm_f : postR ([⟨0, 16, -1125899906842624, 0⟩, ⟨1, 16, 1125899906842624, 0⟩] : List Row) [⟨0, 16, -1, 0⟩, ⟨1, 16, 0, 1⟩] = ([], 41) := by decide +kernel
theorem nm_g : postR ([⟨0, 16, -1125899906842624, 0⟩, ⟨1, 16, 1125899906842624, 0⟩] : List Row) [⟨2, 16, -1, 0⟩, ⟨1, 16, 0, 1⟩] = ([], 47) := by decide +kernel
theorem nm_h : moveR ([⟨0, 16, -1125899906842624, 0⟩, ⟨1, 16, 1125899906842624, 0⟩] : List Row) 0 2 16 1125899906842625 = ([], 1) := by decide +kernel
theorem nm_i : moveR ([⟨0, 16, -1125899906842624, 0⟩, ⟨1, 16, 1125899906842624, 0⟩] : List Row) 0 0 16 1 = ([], 1) := by decide +kernel
theorem nm_j : moveR ([⟨0, 16, -1125899906842624, 0⟩, ⟨1, 16, 1125899906842624, 0⟩] : List Row) 0 65 16 1 = ([], 1) := by decide +kernel
theorem nm_k : payR ([⟨0, 16, -1125899906842624, 0⟩, ⟨1, 16, 1125899906842624, 0⟩] : List Row) 0 1 16 1 = ([], 1) := by decide +kernel
theorem nm_l : holdR ([⟨0, 16, -1125899906842624, 0⟩, ⟨1, 16, 1125899906842624, 0⟩] : List Row) 0 16 1 = ([], 1) := by decide +kernel
theorem nm_m : releaseR ([⟨0, 16, -1125899906842624, 0⟩, ⟨1, 16, 1125899906842624, 0⟩] : List Row) 1 16 1 = ([], 47) := by decide +kernel
theorem nm_n : holdR ([⟨0, 16, -1125899906842624, 0⟩, ⟨1, 16, 1125899906842624, 0⟩] : List Row) 1 17 1 = ([], 1) := by decide +kernel
theorem nm_nil : mayR [] = true := by decide +kernel
theorem res_e {f : FuncId} {vs : Array Value} {w : World} {r : List Row × Int} {q : List Row} {n : Int} (h : r = (q, n)) (hc : Calls Try.prog f vs w fun e w' => (∃ v, e = .returned (.tuple #[v, .int .i64 r.2]) ∧ OwnL 38 w.heap.size w' v r.1) ∧ Below w.heap.size w w') : Calls Try.prog f vs w fun e w' => (∃ v, e = .returned (.tuple #[v, .int .i64 n]) ∧ OwnL 38 w.heap.size w' v q) ∧ Below w.heap.size w w' := by
  subst h; exact hc
theorem may_nb {l : List Row} {b : Bool} {m : Nat} {ad : Option Addr} {cap : Nat} {w : World} (h : mayR l = b) (hm : l.length = m) (HS : SlL w ad cap l) (hin : In64R l) : Calls Try.prog 16 #[.slice ad m cap] w fun e w' => e = .returned (.bool b) ∧ Below w.heap.size w w' := by
  subst h; exact may_c hm HS hin
set_option maxRecDepth 20000 in
set_option maxHeartbeats 8000000 in
theorem lawNames_c (W : World) : Calls Try.prog 7 #[] W fun e w' => e = .returned (.bool true) ∧ Below W.heap.size W w' := by
  have hw := Below.refl W.heap.size W
  refine fn_enter 250 Try.func7 rfl rfl rfl ?_
  repeat' (first | (refine lw_pure rfl (pv_move rfl) ?_) | (refine lw_pure rfl (pv_assign rfl) ?_) | (refine lw_call (f := 11) (by kernel_rfl) rfl rfl (awake_c _) ?_; rintro e w1 ⟨rfl, hb⟩; refine ⟨_, rfl, ?_⟩; replace hw := grow_trans hw hb; clear hb) | (refine lw_call (f := 16) (by kernel_rfl) rfl rfl (may_nb nm_nil rfl (SlR.nil _) (by decide +kernel)) ?_; rintro e w1 ⟨rfl, hb⟩; refine ⟨_, rfl, ?_⟩; replace hw := grow_trans hw hb; clear hb) | (refine is_cw ?_; first | (refine cw_seq ?_) | (refine cw_region ?_) | (refine cw_false rfl rfl ?_) | (refine cw_skip ?_)) | (refine is_qw ?_; first | (with_reducible refine qw_then ?_)) | (refine lw_nil ?_) | (refine is_guarded ?_; first | (refine lw_on rfl rfl rfl ?_)) | ((refine is_un ?_; first | (refine lw_pure rfl (pv_not rfl) ?_))) | ((refine is_bd ?_; first | (refine lw_pure rfl (tyB_38 rfl rfl rfl) ?_))) | (refine is_pk ?_; refine lw_pure rfl (pv_pick_f rfl rfl rfl) ?_))
  refine lw_bs (vs := [.agg (encR ⟨1, 0, 5, 0⟩).toArray]) (cs := encR ⟨1, 0, 5, 0⟩) elemR rfl rfl rfl (by omega) (by omega) rfl (by simp [Value.cells, encR]) ?_; intro wb0 HB hb hz
  have H0 := HB.slR (xs := [⟨1, 0, 5, 0⟩]) (m := 1) encR_len rfl (by omega)
  replace hw := grow_trans hw hb; clear hb hz HB
  repeat' (first | ((refine is_bd ?_; first | (refine lw_pure rfl (tyB_38 rfl rfl rfl) ?_))))
  refine lw_bs (vs := [.agg (encR ⟨0, 0, -5, 0⟩).toArray, .agg (encR ⟨1, 0, 6, 0⟩).toArray]) (cs := encR ⟨0, 0, -5, 0⟩ ++ encR ⟨1, 0, 6, 0⟩) elemR rfl rfl rfl (by omega) (by omega) rfl (by simp [Value.cells, encR]) ?_; intro wb1 HB hb hz
  have H1 := HB.slR (xs := [⟨0, 0, -5, 0⟩, ⟨1, 0, 6, 0⟩]) (m := 2) encR_len rfl (by omega)
  replace H0 := H0.mono hb; replace hw := grow_trans hw hb; clear hb hz HB
  repeat' (first | ((refine is_bd ?_; first | (refine lw_pure rfl (tyB_38 rfl rfl rfl) ?_))))
  refine lw_bs (vs := [.agg (encR ⟨1, 0, 5, 0⟩).toArray, .agg (encR ⟨0, 0, -5, 0⟩).toArray]) (cs := encR ⟨1, 0, 5, 0⟩ ++ encR ⟨0, 0, -5, 0⟩) elemR rfl rfl rfl (by omega) (by omega) rfl (by simp [Value.cells, encR]) ?_; intro wb2 HB hb hz
  have H2 := HB.slR (xs := [⟨1, 0, 5, 0⟩, ⟨0, 0, -5, 0⟩]) (m := 2) encR_len rfl (by omega)
  replace H0 := H0.mono hb; replace H1 := H1.mono hb; replace hw := grow_trans hw hb; clear hb hz HB
  repeat' (first | ((refine is_bd ?_; first | (refine lw_pure rfl (tyB_38 rfl rfl rfl) ?_))))
  refine lw_bs (vs := [.agg (encR ⟨0, 0, -5, 0⟩).toArray, .agg (encR ⟨65, 0, 5, 0⟩).toArray]) (cs := encR ⟨0, 0, -5, 0⟩ ++ encR ⟨65, 0, 5, 0⟩) elemR rfl rfl rfl (by omega) (by omega) rfl (by simp [Value.cells, encR]) ?_; intro wb3 HB hb hz
  have H3 := HB.slR (xs := [⟨0, 0, -5, 0⟩, ⟨65, 0, 5, 0⟩]) (m := 2) encR_len rfl (by omega)
  replace H0 := H0.mono hb; replace H1 := H1.mono hb; replace H2 := H2.mono hb; replace hw := grow_trans hw hb; clear hb hz HB
  repeat' (first | ((refine is_bd ?_; first | (refine lw_pure rfl (tyB_38 rfl rfl rfl) ?_))))
  refine lw_bs (vs := [.agg (encR ⟨0, 17, -5, 0⟩).toArray, .agg (encR ⟨1, 17, 5, 0⟩).toArray]) (cs := encR ⟨0, 17, -5, 0⟩ ++ encR ⟨1, 17, 5, 0⟩) elemR rfl rfl rfl (by omega) (by omega) rfl (by simp [Value.cells, encR]) ?_; intro wb4 HB hb hz
  have H4 := HB.slR (xs := [⟨0, 17, -5, 0⟩, ⟨1, 17, 5, 0⟩]) (m := 2) encR_len rfl (by omega)
  replace H0 := H0.mono hb; replace H1 := H1.mono hb; replace H2 := H2.mono hb; replace H3 := H3.mono hb; replace hw := grow_trans hw hb; clear hb hz HB
  repeat' (first | ((refine is_bd ?_; first | (refine lw_pure rfl (tyB_38 rfl rfl rfl) ?_))))
  refine lw_bs (vs := [.agg (encR ⟨0, 0, -5, 0⟩).toArray, .agg (encR ⟨1, 0, 5, 0⟩).toArray, .agg (encR ⟨2, 0, 0, 0⟩).toArray]) (cs := encR ⟨0, 0, -5, 0⟩ ++ encR ⟨1, 0, 5, 0⟩ ++ encR ⟨2, 0, 0, 0⟩) elemR rfl rfl rfl (by omega) (by omega) rfl (by simp [Value.cells, encR]) ?_; intro wb5 HB hb hz
  have H5 := HB.slR (xs := [⟨0, 0, -5, 0⟩, ⟨1, 0, 5, 0⟩, ⟨2, 0, 0, 0⟩]) (m := 3) encR_len rfl (by omega)
  replace H0 := H0.mono hb; replace H1 := H1.mono hb; replace H2 := H2.mono hb; replace H3 := H3.mono hb; replace H4 := H4.mono hb; replace hw := grow_trans hw hb; clear hb hz HB
  repeat' (first | ((refine is_bd ?_; first | (refine lw_pure rfl (tyB_38 rfl rfl rfl) ?_))))
  refine lw_bs (vs := [.agg (encR ⟨0, 0, -5, -1⟩).toArray, .agg (encR ⟨1, 0, 6, 0⟩).toArray]) (cs := encR ⟨0, 0, -5, -1⟩ ++ encR ⟨1, 0, 6, 0⟩) elemR rfl rfl rfl (by omega) (by omega) rfl (by simp [Value.cells, encR]) ?_; intro wb6 HB hb hz
  have H6 := HB.slR (xs := [⟨0, 0, -5, -1⟩, ⟨1, 0, 6, 0⟩]) (m := 2) encR_len rfl (by omega)
  replace H0 := H0.mono hb; replace H1 := H1.mono hb; replace H2 := H2.mono hb; replace H3 := H3.mono hb; replace H4 := H4.mono hb; replace H5 := H5.mono hb; replace hw := grow_trans hw hb; clear hb hz HB
  repeat' (first | ((refine is_bd ?_; first | (refine lw_pure rfl (tyB_38 rfl rfl rfl) ?_))))
  refine lw_bs (vs := [.agg (encR ⟨0, 0, 5, 0⟩).toArray, .agg (encR ⟨1, 0, -5, 0⟩).toArray]) (cs := encR ⟨0, 0, 5, 0⟩ ++ encR ⟨1, 0, -5, 0⟩) elemR rfl rfl rfl (by omega) (by omega) rfl (by simp [Value.cells, encR]) ?_; intro wb7 HB hb hz
  have H7 := HB.slR (xs := [⟨0, 0, 5, 0⟩, ⟨1, 0, -5, 0⟩]) (m := 2) encR_len rfl (by omega)
  replace H0 := H0.mono hb; replace H1 := H1.mono hb; replace H2 := H2.mono hb; replace H3 := H3.mono hb; replace H4 := H4.mono hb; replace H5 := H5.mono hb; replace H6 := H6.mono hb; replace hw := grow_trans hw hb; clear hb hz HB
  repeat' (first | ((refine is_bd ?_; first | (refine lw_pure rfl (tyB_38 rfl rfl rfl) ?_))))
  refine lw_bs (vs := [.agg (encR ⟨0, 0, -5, 0⟩).toArray, .agg (encR ⟨1, 0, 6, -1⟩).toArray]) (cs := encR ⟨0, 0, -5, 0⟩ ++ encR ⟨1, 0, 6, -1⟩) elemR rfl rfl rfl (by omega) (by omega) rfl (by simp [Value.cells, encR]) ?_; intro wb8 HB hb hz
  have H8 := HB.slR (xs := [⟨0, 0, -5, 0⟩, ⟨1, 0, 6, -1⟩]) (m := 2) encR_len rfl (by omega)
  replace H0 := H0.mono hb; replace H1 := H1.mono hb; replace H2 := H2.mono hb; replace H3 := H3.mono hb; replace H4 := H4.mono hb; replace H5 := H5.mono hb; replace H6 := H6.mono hb; replace H7 := H7.mono hb; replace hw := grow_trans hw hb; clear hb hz HB
  repeat' (first | ((refine is_bd ?_; first | (refine lw_pure rfl (tyB_38 rfl rfl rfl) ?_))))
  refine lw_bs (vs := [.agg (encR ⟨0, 0, -1125899906842625, 0⟩).toArray, .agg (encR ⟨1, 0, 1125899906842624, 1⟩).toArray]) (cs := encR ⟨0, 0, -1125899906842625, 0⟩ ++ encR ⟨1, 0, 1125899906842624, 1⟩) elemR rfl rfl rfl (by omega) (by omega) rfl (by simp [Value.cells, encR]) ?_; intro wb9 HB hb hz
  have H9 := HB.slR (xs := [⟨0, 0, -1125899906842625, 0⟩, ⟨1, 0, 1125899906842624, 1⟩]) (m := 2) encR_len rfl (by omega)
  replace H0 := H0.mono hb; replace H1 := H1.mono hb; replace H2 := H2.mono hb; replace H3 := H3.mono hb; replace H4 := H4.mono hb; replace H5 := H5.mono hb; replace H6 := H6.mono hb; replace H7 := H7.mono hb; replace H8 := H8.mono hb; replace hw := grow_trans hw hb; clear hb hz HB
  repeat' (first | ((refine is_bd ?_; first | (refine lw_pure rfl (tyB_38 rfl rfl rfl) ?_))))
  refine lw_bs (vs := [.agg (encR ⟨0, 0, -5, 0⟩).toArray, .agg (encR ⟨1, 0, 2, 0⟩).toArray, .agg (encR ⟨1, 0, 3, 0⟩).toArray]) (cs := encR ⟨0, 0, -5, 0⟩ ++ encR ⟨1, 0, 2, 0⟩ ++ encR ⟨1, 0, 3, 0⟩) elemR rfl rfl rfl (by omega) (by omega) rfl (by simp [Value.cells, encR]) ?_; intro wb10 HB hb hz
  have H10 := HB.slR (xs := [⟨0, 0, -5, 0⟩, ⟨1, 0, 2, 0⟩, ⟨1, 0, 3, 0⟩]) (m := 3) encR_len rfl (by omega)
  replace H0 := H0.mono hb; replace H1 := H1.mono hb; replace H2 := H2.mono hb; replace H3 := H3.mono hb; replace H4 := H4.mono hb; replace H5 := H5.mono hb; replace H6 := H6.mono hb; replace H7 := H7.mono hb; replace H8 := H8.mono hb; replace H9 := H9.mono hb; replace hw := grow_trans hw hb; clear hb hz HB
  repeat' (first | ((refine is_bd ?_; first | (refine lw_pure rfl (tyB_38 rfl rfl rfl) ?_))))
  refine lw_bs (vs := [.agg (encR ⟨0, 0, -5, 0⟩).toArray, .agg (encR ⟨0, 1, -5, 0⟩).toArray, .agg (encR ⟨1, 0, 5, 0⟩).toArray]) (cs := encR ⟨0, 0, -5, 0⟩ ++ encR ⟨0, 1, -5, 0⟩ ++ encR ⟨1, 0, 5, 0⟩) elemR rfl rfl rfl (by omega) (by omega) rfl (by simp [Value.cells, encR]) ?_; intro wb11 HB hb hz
  have H11 := HB.slR (xs := [⟨0, 0, -5, 0⟩, ⟨0, 1, -5, 0⟩, ⟨1, 0, 5, 0⟩]) (m := 3) encR_len rfl (by omega)
  replace H0 := H0.mono hb; replace H1 := H1.mono hb; replace H2 := H2.mono hb; replace H3 := H3.mono hb; replace H4 := H4.mono hb; replace H5 := H5.mono hb; replace H6 := H6.mono hb; replace H7 := H7.mono hb; replace H8 := H8.mono hb; replace H9 := H9.mono hb; replace H10 := H10.mono hb; replace hw := grow_trans hw hb; clear hb hz HB
  skip
  generalize hs0 : Value.slice (some ⟨w1.heap.size, 0, none⟩) 1 1 = s0
  generalize hs1 : Value.slice (some ⟨wb0.heap.size, 0, none⟩) 2 2 = s1
  generalize hs2 : Value.slice (some ⟨wb1.heap.size, 0, none⟩) 2 2 = s2
  generalize hs3 : Value.slice (some ⟨wb2.heap.size, 0, none⟩) 2 2 = s3
  generalize hs4 : Value.slice (some ⟨wb3.heap.size, 0, none⟩) 2 2 = s4
  generalize hs5 : Value.slice (some ⟨wb4.heap.size, 0, none⟩) 3 3 = s5
  generalize hs6 : Value.slice (some ⟨wb5.heap.size, 0, none⟩) 2 2 = s6
  generalize hs7 : Value.slice (some ⟨wb6.heap.size, 0, none⟩) 2 2 = s7
  generalize hs8 : Value.slice (some ⟨wb7.heap.size, 0, none⟩) 2 2 = s8
  generalize hs9 : Value.slice (some ⟨wb8.heap.size, 0, none⟩) 2 2 = s9
  generalize hs10 : Value.slice (some ⟨wb9.heap.size, 0, none⟩) 3 3 = s10
  generalize hs11 : Value.slice (some ⟨wb10.heap.size, 0, none⟩) 3 3 = s11
  refine lw_bs (vs := [s0, s1, s2, s3, s4, s5, s6, s7, s8, s9, s10, s11]) (cs := [s0, s1, s2, s3, s4, s5, s6, s7, s8, s9, s10, s11]) elemS rfl rfl rfl (by omega) (by omega) (by subst hs0; subst hs1; subst hs2; subst hs3; subst hs4; subst hs5; subst hs6; subst hs7; subst hs8; subst hs9; subst hs10; subst hs11; rfl) (by subst hs0; subst hs1; subst hs2; subst hs3; subst hs4; subst hs5; subst hs6; subst hs7; subst hs8; subst hs9; subst hs10; subst hs11; simp [Value.cells]) ?_; intro wt HB hb hz
  replace H0 := H0.mono hb; replace H1 := H1.mono hb; replace H2 := H2.mono hb; replace H3 := H3.mono hb; replace H4 := H4.mono hb; replace H5 := H5.mono hb; replace H6 := H6.mono hb; replace H7 := H7.mono hb; replace H8 := H8.mono hb; replace H9 := H9.mono hb; replace H10 := H10.mono hb; replace H11 := H11.mono hb; replace hw := grow_trans hw hb
  have HT := HB.slR (enc := encS) (xs := [s0, s1, s2, s3, s4, s5, s6, s7, s8, s9, s10, s11]) (m := 12) encS_len rfl (by omega)
  have htab : ∀ v ∈ [s0, s1, s2, s3, s4, s5, s6, s7, s8, s9, s10, s11], ∃ a c xs, v = Value.slice a xs.length c ∧ SlL wt a c xs ∧ In64R xs ∧ mayR xs = false := by
    intro v hv
    simp only [List.mem_cons, List.not_mem_nil, or_false] at hv
    rcases hv with rfl | rfl | rfl | rfl | rfl | rfl | rfl | rfl | rfl | rfl | rfl | rfl
    · exact ⟨_, _, [⟨1, 0, 5, 0⟩], hs0.symm, H0, by decide +kernel, by decide +kernel⟩
    · exact ⟨_, _, [⟨0, 0, -5, 0⟩, ⟨1, 0, 6, 0⟩], hs1.symm, H1, by decide +kernel, by decide +kernel⟩
    · exact ⟨_, _, [⟨1, 0, 5, 0⟩, ⟨0, 0, -5, 0⟩], hs2.symm, H2, by decide +kernel, by decide +kernel⟩
    · exact ⟨_, _, [⟨0, 0, -5, 0⟩, ⟨65, 0, 5, 0⟩], hs3.symm, H3, by decide +kernel, by decide +kernel⟩
    · exact ⟨_, _, [⟨0, 17, -5, 0⟩, ⟨1, 17, 5, 0⟩], hs4.symm, H4, by decide +kernel, by decide +kernel⟩
    · exact ⟨_, _, [⟨0, 0, -5, 0⟩, ⟨1, 0, 5, 0⟩, ⟨2, 0, 0, 0⟩], hs5.symm, H5, by decide +kernel, by decide +kernel⟩
    · exact ⟨_, _, [⟨0, 0, -5, -1⟩, ⟨1, 0, 6, 0⟩], hs6.symm, H6, by decide +kernel, by decide +kernel⟩
    · exact ⟨_, _, [⟨0, 0, 5, 0⟩, ⟨1, 0, -5, 0⟩], hs7.symm, H7, by decide +kernel, by decide +kernel⟩
    · exact ⟨_, _, [⟨0, 0, -5, 0⟩, ⟨1, 0, 6, -1⟩], hs8.symm, H8, by decide +kernel, by decide +kernel⟩
    · exact ⟨_, _, [⟨0, 0, -1125899906842625, 0⟩, ⟨1, 0, 1125899906842624, 1⟩], hs9.symm, H9, by decide +kernel, by decide +kernel⟩
    · exact ⟨_, _, [⟨0, 0, -5, 0⟩, ⟨1, 0, 2, 0⟩, ⟨1, 0, 3, 0⟩], hs10.symm, H10, by decide +kernel, by decide +kernel⟩
    · exact ⟨_, _, [⟨0, 0, -5, 0⟩, ⟨0, 1, -5, 0⟩, ⟨1, 0, 5, 0⟩], hs11.symm, H11, by decide +kernel, by decide +kernel⟩
  have hvl : [s0, s1, s2, s3, s4, s5, s6, s7, s8, s9, s10, s11].length = 12 := rfl
  generalize [s0, s1, s2, s3, s4, s5, s6, s7, s8, s9, s10, s11] = vals at *
  clear hb hz HB H0 H1 H2 H3 H4 H5 H6 H7 H8 H9 H10 H11
  replace hw := hw
  have hE := Ext.mk hw
  clear hw
  have hw := Below.refl wt.heap.size wt
  generalize (some ⟨wb11.heap.size, 0, none⟩ : Option Addr) = tb at *
  repeat' (first | (refine lw_pure rfl (pv_move rfl) ?_) | (refine is_cw ?_; first | (refine cw_block ?_)) | (refine is_qw ?_; first | (with_reducible refine qw_then ?_)) | (refine lw_nil ?_) | ((refine is_bi ?_; first | (refine lw_pure rfl (pv_lenl (tS rfl) rfl) ?_))))
  refine cw_loop (σ := Nat) (fun k => [(79, .slice tb 12 12), (80, .int .i64 12), (81, .int .i64 (k : Nat))]) (fun k wr => k ≤ 12 ∧ Below wt.heap.size wt wr) (fun k => 12 - k) 0 (by repeat' (first | exact trivial | refine ⟨rfl, ?_⟩)) ⟨by omega, hw⟩ ?_
  clear hw
  rintro k wr ⟨hk, hw⟩
  by_cases hlt : k < 12
  · have hxk : vals[k]? = some (vals[k]'(by omega)) := List.getElem?_eq_getElem _
    obtain ⟨a, c, xs, hv, hxs, hxi, hxm⟩ := htab _ (List.mem_of_getElem? hxk)
    rw [hv] at hxk
    obtain ⟨tb0, to0, rfl, -, -⟩ := HT.at (by intro h; rw [h] at hvl; cases hvl)
    repeat' (first | (refine lw_pure rfl (pv_move rfl) ?_) | (refine lw_pure rfl (pv_assign rfl) ?_) | (refine is_cw ?_; first | (refine cw_seq ?_) | (refine cw_region ?_) | (refine is_cd ?_; refine cw_true rfl (by first | assumption | exact decide_eq_true (by omega) | exact dec_notT (by omega)) ?_) | (refine cw_skip ?_) | (refine cw_block ?_)) | (refine is_qw ?_; first | (with_reducible refine qw_then ?_)) | (refine lw_nil ?_) | ((refine is_bin ?_; first | (refine lw_pure rfl (pv_lss rfl rfl) ?_))) | ((refine is_load ?_; first | (refine lw_pure rfl (pv_load (t1 rfl) rfl (by first | exact SlR.ld (HT.mono hw) hxk rfl | exact SlR.ld1 (HT.mono hw) hxk rfl)) ?_))) | ((refine is_ia ?_; first | (refine lw_pure rfl (pv_ian (tS rfl) rfl rfl (by omega)) ?_))))
    refine lw_make (enc := encR) elemP (zeroP 65) rfl rfl rfl rfl (zeroP_len _) (by kernel_rfl) rfl rfl ?_; intro wm hO hb
    obtain ⟨za, zc, hz, HZ, -⟩ := Own.slR encR_len hO
    rw [zeroP_len] at hz; injection hz with hz1 hz2 hz3; subst hz1 hz3
    refine lw_call (f := 14) (by kernel_rfl) rfl rfl (res_e (form_no hxm) (post_c rfl (zeroP_len 65) ((hxs.mono hw).mono hb) HZ hxi (zeroP_in 65))) ?_; rintro e w2 ⟨⟨v2, rfl, -⟩, hb2⟩; refine ⟨_, rfl, ?_⟩
    replace hw := grow_trans hw (grow_trans hb hb2)
    clear hb hb2 hO HZ
    repeat' (first | (refine lw_pure rfl (pv_move rfl) ?_) | (refine lw_pure rfl (pv_assign rfl) ?_) | (refine is_cw ?_; first | (refine cw_seq ?_) | (refine cw_region ?_)) | (refine is_qw ?_; first | (with_reducible refine qw_then ?_)) | (refine lw_nil ?_) | (refine lw_pure rfl (pv_extract rfl rfl) ?_))
    refine lw_call (f := 21) (by kernel_rfl) rfl rfl (res_e (by rw [moveR, form_no hxm]) (move_c 7 7 (-1) 0 rfl (hxs.mono hw) hxi)) ?_; rintro e w3 ⟨⟨v3, rfl, -⟩, hb3⟩; refine ⟨_, rfl, ?_⟩
    replace hw := grow_trans hw hb3
    clear hb3
    repeat' (first | (refine lw_pure rfl (pv_move rfl) ?_) | (refine lw_pure rfl (pv_assign rfl) ?_) | (refine lw_call (f := 16) (by kernel_rfl) rfl rfl (may_nb hxm rfl (hxs.mono hw) hxi) ?_; rintro e w1 ⟨rfl, hb⟩; refine ⟨_, rfl, ?_⟩; replace hw := grow_trans hw hb; clear hb) | (refine is_cw ?_; first | (refine cw_seq ?_) | (refine cw_region ?_) | (refine cw_false rfl rfl ?_) | (refine cw_skip ?_)) | (refine is_qw ?_; first | (with_reducible refine qw_then ?_) | (with_reducible refine qw_in ?_)) | (refine lw_nil ?_) | (refine is_guarded ?_; first | (refine lw_on rfl rfl rfl ?_)) | ((refine is_bin ?_; first | (refine lw_pure rfl (pv_neq rfl rfl) ?_) | (refine lw_pure rfl (pv_inc rfl rfl (by omega)) ?_))) | (refine is_pk ?_; refine lw_pure rfl (pv_pick_f rfl rfl rfl) ?_) | (refine lw_pure rfl (pv_extract rfl rfl) ?_))
    exact qw_round (k + 1) (by repeat' (first | exact trivial | refine ⟨rfl, ?_⟩)) ⟨by omega, hw⟩ (by omega)
  have hk12 : k = 12 := by omega
  subst hk12
  replace hE := hE.mono hw
  clear hw
  have hw := Below.refl wr.heap.size wr
  repeat' (first | (refine is_cw ?_; first | (refine cw_seq ?_) | (refine cw_region ?_) | (refine cw_false rfl rfl ?_) | (refine cw_exit ?_)) | (refine is_qw ?_; first | (with_reducible refine qw_then ?_) | (with_reducible refine qw_in_hit ?_) | (with_reducible refine qw_then_exit ?_)) | (refine lw_nil ?_) | ((refine is_bin ?_; first | (refine lw_pure rfl (pv_lss rfl rfl) ?_))))
  refine lw_make (enc := encR) elemP (zeroP 65) rfl rfl rfl rfl (zeroP_len _) (by kernel_rfl) rfl rfl ?_; intro wm hO hb
  obtain ⟨za, zc, hz, HZ, -⟩ := Own.slR encR_len hO
  rw [zeroP_len] at hz; injection hz with hz1 hz2 hz3; subst hz1 hz3
  refine lw_call (f := 14) (by kernel_rfl) rfl rfl (res_e nm_a (post_c (l := []) rfl (zeroP_len 65) (SlR.nil _) HZ (by decide +kernel) (zeroP_in 65))) ?_; rintro e w2 ⟨⟨v1, rfl, O1⟩, hb2⟩; refine ⟨_, rfl, ?_⟩
  obtain ⟨a1, c1, rfl, -, -⟩ := Own.slR encR_len O1
  replace hw := grow_trans hw (grow_trans hb hb2)
  clear hb hb2 hO HZ O1
  repeat' (first | (refine lw_pure rfl (pv_move rfl) ?_) | (refine lw_pure rfl (pv_assign rfl) ?_) | (refine is_cw ?_; first | (refine cw_seq ?_) | (refine cw_region ?_)) | (refine is_qw ?_; first | (with_reducible refine qw_then ?_)) | (refine lw_nil ?_) | (refine lw_pure rfl (pv_extract rfl rfl) ?_))
  refine lw_make (enc := encR) elemP (zeroP 64) rfl rfl rfl rfl (zeroP_len _) (by kernel_rfl) rfl rfl ?_; intro wm hO hb
  obtain ⟨za, zc, hz, HZ, -⟩ := Own.slR encR_len hO
  rw [zeroP_len] at hz; injection hz with hz1 hz2 hz3; subst hz1 hz3
  refine lw_call (f := 14) (by kernel_rfl) rfl rfl (res_e nm_b (post_c (l := []) rfl (zeroP_len 64) (SlR.nil _) HZ (by decide +kernel) (zeroP_in 64))) ?_; rintro e w2 ⟨⟨v2, rfl, O2⟩, hb2⟩; refine ⟨_, rfl, ?_⟩
  obtain ⟨a2, c2, rfl, -, -⟩ := Own.slR encR_len O2
  replace hw := grow_trans hw (grow_trans hb hb2)
  clear hb hb2 hO HZ O2
  repeat' (first | (refine lw_pure rfl (pv_move rfl) ?_) | (refine lw_pure rfl (pv_assign rfl) ?_) | (refine is_cw ?_; first | (refine cw_seq ?_) | (refine cw_region ?_)) | (refine is_qw ?_; first | (with_reducible refine qw_then ?_)) | (refine lw_nil ?_) | ((refine is_bd ?_; first | (refine lw_pure rfl (tyB_34 rfl rfl rfl) ?_))) | (refine lw_pure rfl (pv_extract rfl rfl) ?_))
  refine lw_bs (vs := [.agg (encR ⟨1, 0, -1, 0⟩).toArray, .agg (encR ⟨2, 0, 2, 0⟩).toArray]) (cs := encR ⟨1, 0, -1, 0⟩ ++ encR ⟨2, 0, 2, 0⟩) elemP rfl rfl rfl (by omega) (by omega) rfl (by simp [Value.cells, encR]) ?_; intro wb HB hb hz
  refine lw_call (f := 14) (by kernel_rfl) rfl rfl (res_e nm_c (post_c (l := []) (p := [⟨1, 0, -1, 0⟩, ⟨2, 0, 2, 0⟩]) rfl rfl (SlR.nil _) (HB.slR (xs := [⟨1, 0, -1, 0⟩, ⟨2, 0, 2, 0⟩]) encR_len rfl (by omega)) (by decide +kernel) (by decide +kernel))) ?_; rintro e w2 ⟨⟨v2, rfl, -⟩, hb2⟩; refine ⟨_, rfl, ?_⟩
  replace hw := grow_trans hw (grow_trans hb hb2)
  clear hb hb2 HB hz
  repeat' (first | (refine lw_pure rfl (pv_move rfl) ?_) | (refine lw_pure rfl (pv_assign rfl) ?_) | (refine is_cw ?_; first | (refine cw_seq ?_) | (refine cw_region ?_)) | (refine is_qw ?_; first | (with_reducible refine qw_then ?_)) | (refine lw_nil ?_) | ((refine is_bd ?_; first | (refine lw_pure rfl (tyB_34 rfl rfl rfl) ?_))) | (refine lw_pure rfl (pv_extract rfl rfl) ?_))
  refine lw_bs (vs := [.agg (encR ⟨1, 0, -1, 0⟩).toArray, .agg (encR ⟨2, 0, 1, 0⟩).toArray]) (cs := encR ⟨1, 0, -1, 0⟩ ++ encR ⟨2, 0, 1, 0⟩) elemP rfl rfl rfl (by omega) (by omega) rfl (by simp [Value.cells, encR]) ?_; intro wb HB hb hz
  refine lw_call (f := 14) (by kernel_rfl) rfl rfl (res_e nm_d (post_c (l := []) (p := [⟨1, 0, -1, 0⟩, ⟨2, 0, 1, 0⟩]) rfl rfl (SlR.nil _) (HB.slR (xs := [⟨1, 0, -1, 0⟩, ⟨2, 0, 1, 0⟩]) encR_len rfl (by omega)) (by decide +kernel) (by decide +kernel))) ?_; rintro e w2 ⟨⟨v2, rfl, -⟩, hb2⟩; refine ⟨_, rfl, ?_⟩
  replace hw := grow_trans hw (grow_trans hb hb2)
  clear hb hb2 HB hz
  repeat' (first | (refine lw_pure rfl (pv_move rfl) ?_) | (refine lw_pure rfl (pv_assign rfl) ?_) | (refine is_cw ?_; first | (refine cw_seq ?_) | (refine cw_region ?_)) | (refine is_qw ?_; first | (with_reducible refine qw_then ?_)) | (refine lw_nil ?_) | (refine lw_pure rfl (pv_extract rfl rfl) ?_))
  refine lw_call (f := 21) (by kernel_rfl) rfl rfl (res_e nm_e (move_c (l := []) 0 1 16 1125899906842624 rfl (SlR.nil _) (by decide +kernel))) ?_; rintro e wg ⟨⟨vg, rfl, hG⟩, hb2⟩; refine ⟨_, rfl, ?_⟩
  obtain ⟨ga, gc, rfl, HG, -⟩ := Own.slR encR_len hG
  replace hE := (hE.mono hw).mono hb2
  clear hw hb2 hG
  have hw := Below.refl wg.heap.size wg
  repeat' (first | (refine lw_pure rfl (pv_move rfl) ?_) | (refine lw_pure rfl (pv_assign rfl) ?_) | (refine is_cw ?_; first | (refine cw_seq ?_) | (refine cw_region ?_)) | (refine is_qw ?_; first | (with_reducible refine qw_then ?_)) | (refine lw_nil ?_) | ((refine is_bd ?_; first | (refine lw_pure rfl (tyB_34 rfl rfl rfl) ?_))) | (refine lw_pure rfl (pv_extract rfl rfl) ?_))
  refine lw_bs (vs := [.agg (encR ⟨0, 16, -1, 0⟩).toArray, .agg (encR ⟨1, 16, 0, 1⟩).toArray]) (cs := encR ⟨0, 16, -1, 0⟩ ++ encR ⟨1, 16, 0, 1⟩) elemP rfl rfl rfl (by omega) (by omega) rfl (by simp [Value.cells, encR]) ?_; intro wb HB hb hz
  refine lw_call (f := 14) (by kernel_rfl) rfl rfl (res_e nm_f (post_c (l := ([⟨0, 16, -1125899906842624, 0⟩, ⟨1, 16, 1125899906842624, 0⟩] : List Row)) (p := [⟨0, 16, -1, 0⟩, ⟨1, 16, 0, 1⟩]) rfl rfl ((HG.mono hw).mono hb) (HB.slR (xs := [⟨0, 16, -1, 0⟩, ⟨1, 16, 0, 1⟩]) encR_len rfl (by omega)) (by decide +kernel) (by decide +kernel))) ?_; rintro e w2 ⟨⟨v2, rfl, -⟩, hb2⟩; refine ⟨_, rfl, ?_⟩
  replace hw := grow_trans hw (grow_trans hb hb2)
  clear hb hb2 HB hz
  repeat' (first | (refine lw_pure rfl (pv_move rfl) ?_) | (refine lw_pure rfl (pv_assign rfl) ?_) | (refine is_cw ?_; first | (refine cw_seq ?_) | (refine cw_region ?_)) | (refine is_qw ?_; first | (with_reducible refine qw_then ?_)) | (refine lw_nil ?_) | ((refine is_bd ?_; first | (refine lw_pure rfl (tyB_34 rfl rfl rfl) ?_))) | (refine lw_pure rfl (pv_extract rfl rfl) ?_))
  refine lw_bs (vs := [.agg (encR ⟨2, 16, -1, 0⟩).toArray, .agg (encR ⟨1, 16, 0, 1⟩).toArray]) (cs := encR ⟨2, 16, -1, 0⟩ ++ encR ⟨1, 16, 0, 1⟩) elemP rfl rfl rfl (by omega) (by omega) rfl (by simp [Value.cells, encR]) ?_; intro wb HB hb hz
  refine lw_call (f := 14) (by kernel_rfl) rfl rfl (res_e nm_g (post_c (l := ([⟨0, 16, -1125899906842624, 0⟩, ⟨1, 16, 1125899906842624, 0⟩] : List Row)) (p := [⟨2, 16, -1, 0⟩, ⟨1, 16, 0, 1⟩]) rfl rfl ((HG.mono hw).mono hb) (HB.slR (xs := [⟨2, 16, -1, 0⟩, ⟨1, 16, 0, 1⟩]) encR_len rfl (by omega)) (by decide +kernel) (by decide +kernel))) ?_; rintro e w2 ⟨⟨v2, rfl, -⟩, hb2⟩; refine ⟨_, rfl, ?_⟩
  replace hw := grow_trans hw (grow_trans hb hb2)
  clear hb hb2 HB hz
  repeat' (first | (refine lw_pure rfl (pv_move rfl) ?_) | (refine lw_pure rfl (pv_assign rfl) ?_) | (refine is_cw ?_; first | (refine cw_seq ?_) | (refine cw_region ?_)) | (refine is_qw ?_; first | (with_reducible refine qw_then ?_)) | (refine lw_nil ?_) | (refine lw_pure rfl (pv_extract rfl rfl) ?_))
  refine lw_call (f := 21) (by kernel_rfl) rfl rfl (res_e nm_h (move_c (l := ([⟨0, 16, -1125899906842624, 0⟩, ⟨1, 16, 1125899906842624, 0⟩] : List Row)) 0 2 16 1125899906842625 rfl (HG.mono hw) (by decide +kernel))) ?_; rintro e w2 ⟨⟨v2, rfl, -⟩, hb2⟩; refine ⟨_, rfl, ?_⟩
  replace hw := grow_trans hw hb2
  clear hb2
  repeat' (first | (refine lw_pure rfl (pv_move rfl) ?_) | (refine lw_pure rfl (pv_assign rfl) ?_) | (refine is_cw ?_; first | (refine cw_seq ?_) | (refine cw_region ?_)) | (refine is_qw ?_; first | (with_reducible refine qw_then ?_)) | (refine lw_nil ?_) | (refine lw_pure rfl (pv_extract rfl rfl) ?_))
  refine lw_call (f := 21) (by kernel_rfl) rfl rfl (res_e nm_i (move_c (l := ([⟨0, 16, -1125899906842624, 0⟩, ⟨1, 16, 1125899906842624, 0⟩] : List Row)) 0 0 16 1 rfl (HG.mono hw) (by decide +kernel))) ?_; rintro e w2 ⟨⟨v2, rfl, -⟩, hb2⟩; refine ⟨_, rfl, ?_⟩
  replace hw := grow_trans hw hb2
  clear hb2
  repeat' (first | (refine lw_pure rfl (pv_move rfl) ?_) | (refine lw_pure rfl (pv_assign rfl) ?_) | (refine is_cw ?_; first | (refine cw_seq ?_) | (refine cw_region ?_)) | (refine is_qw ?_; first | (with_reducible refine qw_then ?_)) | (refine lw_nil ?_) | (refine lw_pure rfl (pv_extract rfl rfl) ?_))
  refine lw_call (f := 21) (by kernel_rfl) rfl rfl (res_e nm_j (move_c (l := ([⟨0, 16, -1125899906842624, 0⟩, ⟨1, 16, 1125899906842624, 0⟩] : List Row)) 0 65 16 1 rfl (HG.mono hw) (by decide +kernel))) ?_; rintro e w2 ⟨⟨v2, rfl, -⟩, hb2⟩; refine ⟨_, rfl, ?_⟩
  replace hw := grow_trans hw hb2
  clear hb2
  repeat' (first | (refine lw_pure rfl (pv_move rfl) ?_) | (refine lw_pure rfl (pv_assign rfl) ?_) | (refine is_cw ?_; first | (refine cw_seq ?_) | (refine cw_region ?_)) | (refine is_qw ?_; first | (with_reducible refine qw_then ?_)) | (refine lw_nil ?_) | (refine lw_pure rfl (pv_extract rfl rfl) ?_))
  refine lw_call (f := 22) (by kernel_rfl) rfl rfl (res_e nm_k (pay_c (l := ([⟨0, 16, -1125899906842624, 0⟩, ⟨1, 16, 1125899906842624, 0⟩] : List Row)) 0 1 16 1 rfl (HG.mono hw) (by decide +kernel))) ?_; rintro e w2 ⟨⟨v2, rfl, -⟩, hb2⟩; refine ⟨_, rfl, ?_⟩
  replace hw := grow_trans hw hb2
  clear hb2
  repeat' (first | (refine lw_pure rfl (pv_move rfl) ?_) | (refine lw_pure rfl (pv_assign rfl) ?_) | (refine is_cw ?_; first | (refine cw_seq ?_) | (refine cw_region ?_)) | (refine is_qw ?_; first | (with_reducible refine qw_then ?_)) | (refine lw_nil ?_) | (refine lw_pure rfl (pv_extract rfl rfl) ?_))
  refine lw_call (f := 23) (by kernel_rfl) rfl rfl (res_e nm_l (hold_c (l := ([⟨0, 16, -1125899906842624, 0⟩, ⟨1, 16, 1125899906842624, 0⟩] : List Row)) 0 16 1 rfl (HG.mono hw) (by decide +kernel))) ?_; rintro e w2 ⟨⟨v2, rfl, -⟩, hb2⟩; refine ⟨_, rfl, ?_⟩
  replace hw := grow_trans hw hb2
  clear hb2
  repeat' (first | (refine lw_pure rfl (pv_move rfl) ?_) | (refine lw_pure rfl (pv_assign rfl) ?_) | (refine is_cw ?_; first | (refine cw_seq ?_) | (refine cw_region ?_)) | (refine is_qw ?_; first | (with_reducible refine qw_then ?_)) | (refine lw_nil ?_) | (refine lw_pure rfl (pv_extract rfl rfl) ?_))
  refine lw_call (f := 24) (by kernel_rfl) rfl rfl (res_e nm_m (release_c (l := ([⟨0, 16, -1125899906842624, 0⟩, ⟨1, 16, 1125899906842624, 0⟩] : List Row)) 1 16 1 rfl (HG.mono hw) (by decide +kernel))) ?_; rintro e w2 ⟨⟨v2, rfl, -⟩, hb2⟩; refine ⟨_, rfl, ?_⟩
  replace hw := grow_trans hw hb2
  clear hb2
  repeat' (first | (refine lw_pure rfl (pv_move rfl) ?_) | (refine lw_pure rfl (pv_assign rfl) ?_) | (refine is_cw ?_; first | (refine cw_seq ?_) | (refine cw_region ?_)) | (refine is_qw ?_; first | (with_reducible refine qw_then ?_)) | (refine lw_nil ?_) | (refine lw_pure rfl (pv_extract rfl rfl) ?_))
  refine lw_call (f := 23) (by kernel_rfl) rfl rfl (res_e nm_n (hold_c (l := ([⟨0, 16, -1125899906842624, 0⟩, ⟨1, 16, 1125899906842624, 0⟩] : List Row)) 1 17 1 rfl (HG.mono hw) (by decide +kernel))) ?_; rintro e w2 ⟨⟨v2, rfl, -⟩, hb2⟩; refine ⟨_, rfl, ?_⟩
  replace hw := grow_trans hw hb2
  clear hb2
  repeat' (first | (refine lw_pure rfl (pv_move rfl) ?_) | (refine lw_pure rfl (pv_assign rfl) ?_) | (refine is_cw ?_; first | (refine cw_seq ?_) | (refine cw_region ?_) | (refine cw_ret ?_)) | (refine is_qw ?_; first | (with_reducible refine qw_then ?_)) | (refine lw_nil ?_) | (refine is_guarded ?_; first | (refine lw_on rfl rfl rfl ?_)) | ((refine is_bin ?_; first | (refine lw_pure rfl (pv_eql rfl rfl) ?_))) | ((refine is_bi ?_; first | (refine lw_pure rfl (pv_lenl (tS rfl) rfl) ?_))) | (refine is_pk ?_; refine lw_pure rfl (pv_pick_t rfl rfl rfl) ?_) | (refine lw_pure rfl (pv_extract rfl rfl) ?_))
  exact qw_ret1 rfl rfl ⟨rfl, (hE.mono hw).b⟩
end Go.Proofs.Ytchalebenpmnpaa
