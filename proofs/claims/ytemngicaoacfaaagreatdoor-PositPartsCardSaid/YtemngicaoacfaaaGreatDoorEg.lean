/-
  Contracts of Fields (layer 5), and of the document's Fields. Conditions: the table of kinds lies in memory (KnW); for the document's: none.
-/
import Derived.Test.YtemngicaoacfaaaGreatDoorEf
namespace Go.Proofs.YtemngicaoacfaaaGreatDoor
open Go.RowKit Go.PlainAid

theorem kinds_small : (kindsT.all fun r => decide (r.f1.size ≤ 100) && decide (r.f2.size ≤ 100) && decide (r.f3.size ≤ 100)) = true := by kernel_rfl
theorem field_small (k v : Int) : (fieldV (kindR k) v).size ≤ 100 := by
  have hb : blankS.size ≤ 100 := by decide
  by_cases hk : 1 ≤ k ∧ k ≤ 23
  · have hm := List.mem_of_getElem? (kind_at hk)
    have := List.all_eq_true.1 kinds_small _ hm
    simp only [Bool.and_eq_true, decide_eq_true_eq] at this
    unfold fieldV; (repeat' split) <;> omega
  · rw [kind_out hk]; unfold fieldV blankK; (repeat' split) <;> exact hb
set_option maxRecDepth 20000 in
theorem fields_c (v k : Int) (h8 : 0 ≤ k ∧ k ≤ 255) {w : World} (hK : KnW w) : Calls Tryz.prog 79 #[.int .u8 v, .int .u8 k] w fun e w' => (∃ sv, e = .returned (.tuple #[sv, .bool (fText (fieldsR v k)), .bool (fieldsR v k).isSome]) ∧ Own encB 1 135 w.heap.size w' sv (fBytes (fieldsR v k))) ∧ Below w.heap.size w w' := by
  have hw := Below.refl w.heap.size w
  have hs := field_small k v
  refine fn_enter 14 Tryz.func79 rfl rfl rfl ?_
  repeat' (first | (refine lw_pure rfl (pv_move rfl) ?_) | (refine lw_pure rfl (pv_assign rfl) ?_) | (refine lw_call (f := 105) (by kernel_rfl) rfl rfl (event_c k h8 hK) ?_; rintro e w1 ⟨rfl, hb⟩; refine ⟨_, rfl, ?_⟩; replace hw := grow_trans hw hb; clear hb) | (refine is_cw ?_; first | (refine cw_seq ?_) | (refine cw_region ?_)) | (refine is_qw ?_; first | (with_reducible refine qw_then ?_)) | (refine lw_nil ?_))
  refine lw_call (f := 106) (by kernel_rfl) rfl rfl (told_c (kindR k) v (field_asc k v) (by omega) _) ?_; rintro e w2 ⟨⟨sv, rfl, hO⟩, hb⟩; refine ⟨_, rfl, ?_⟩
  rw [toldF_eq] at hO
  have hO2 := hO.weaken hw.size
  replace hw := grow_trans hw hb
  repeat' (first | (refine lw_pure rfl (pv_assign rfl) ?_) | (refine is_cw ?_; first | (refine cw_ret ?_)) | (refine is_qw ?_; first | (with_reducible refine qw_then ?_)) | (refine lw_nil ?_) | (refine lw_pure rfl (pv_extract rfl rfl) ?_))
  exact qw_ret3 rfl rfl rfl rfl ⟨⟨_, rfl, hO2⟩, hw⟩
/-! ### the document's -/
def sOf (l : List UInt8) : ByteArray := ⟨l.toArray⟩
@[irreducible] def oldR (k : Int) : ByteArray :=
  if k = 1 ∨ k = 2 then { data := #[97] } else if k = 3 ∨ k = 4 ∨ k = 5 then { data := #[105] } else if k = 6 ∨ k = 7 then { data := #[97, 109] } else if k = 8 ∨ k = 9 then { data := #[97, 105, 113] }
  else if k = 10 then { data := #[98] } else if k = 11 then { data := #[111, 97, 105, 115, 112, 113] } else if k = 12 then { data := #[111] } else if k = 13 then { data := #[111, 111, 112, 113] }
  else if k = 14 ∨ k = 16 then { data := #[99, 97, 105, 113, 109, 116] } else if k = 15 ∨ k = 17 ∨ k = 18 then { data := #[99, 97, 109] } else if k = 19 then { data := #[99] } else if k = 20 then { data := #[116] } else { data := #[32] }
@[irreducible] def midR (v k : Int) : ByteArray :=
  if 2 ≤ v then (if k = 3 then { data := #[105, 107] } else if k = 13 then { data := #[111, 111, 112, 113, 122] } else if k = 14 then { data := #[99, 97, 105, 113, 109, 109, 116] } else if k = 18 then { data := #[99, 97, 109, 122] } else if k = 21 then { data := #[97, 97, 109] } else oldR k) else oldR k
@[irreducible] def newR (v k : Int) : ByteArray :=
  if v = 3 then (if k = 22 then { data := #[97] } else if k = 23 then { data := #[105, 107] } else midR v k) else midR v k
theorem fields_out {v k : Int} (h : ¬ (1 ≤ v ∧ v ≤ 3)) : fieldsR v k = none := by unfold fieldsR; rw [if_neg h]
/-- kind by kind, version by version -/
def sameB (v k : Int) : Bool := match fieldsR v k with
  | none => decide (newR v k = blankS)
  | some p => decide (newR v k = p.1) && !decide (newR v k = blankS) && (p.2 == decide (k = 1 ∨ k = 3 ∨ k = 22))
theorem same_in : (((List.range 23).all fun i => (List.range 3).all fun j => sameB ((j : Nat) + 1) ((i : Nat) + 1)) = true) := by kernel_rfl
theorem same_all {v k : Int} (hv : 1 ≤ v ∧ v ≤ 3) : sameB v k = true := by
  by_cases hk : 1 ≤ k ∧ k ≤ 23
  · have h1 := List.all_eq_true.1 same_in (k - 1).toNat (List.mem_range.2 (by omega))
    have h2 := List.all_eq_true.1 h1 (v - 1).toNat (List.mem_range.2 (by omega))
    rwa [show (((v - 1).toNat : Nat) : Int) + 1 = v by omega, show (((k - 1).toNat : Nat) : Int) + 1 = k by omega] at h2
  · have h1 : newR v k = blankS := by
      have n1 : k ≠ 1 := by omega
      have n2 : k ≠ 2 := by omega
      have n3 : k ≠ 3 := by omega
      have n4 : k ≠ 4 := by omega
      have n5 : k ≠ 5 := by omega
      have n6 : k ≠ 6 := by omega
      have n7 : k ≠ 7 := by omega
      have n8 : k ≠ 8 := by omega
      have n9 : k ≠ 9 := by omega
      have n10 : k ≠ 10 := by omega
      have n11 : k ≠ 11 := by omega
      have n12 : k ≠ 12 := by omega
      have n13 : k ≠ 13 := by omega
      have n14 : k ≠ 14 := by omega
      have n15 : k ≠ 15 := by omega
      have n16 : k ≠ 16 := by omega
      have n17 : k ≠ 17 := by omega
      have n18 : k ≠ 18 := by omega
      have n19 : k ≠ 19 := by omega
      have n20 : k ≠ 20 := by omega
      have n21 : k ≠ 21 := by omega
      have n22 : k ≠ 22 := by omega
      have n23 : k ≠ 23 := by omega
      simp [newR, midR, oldR, blankS, n1, n2, n3, n4, n5, n6, n7, n8, n9, n10, n11, n12, n13, n14, n15, n16, n17, n18, n19, n20, n21, n22, n23]
    have h2 : fieldsR v k = none := by
      unfold fieldsR
      rw [if_pos hv, kind_out hk]
      have : fieldV blankK v = blankS := by unfold fieldV blankK; (repeat' split) <;> rfl
      rw [this, if_pos (by decide)]
    unfold sameB
    rw [h2, h1]; simp
set_option maxRecDepth 20000 in
set_option maxHeartbeats 2000000 in
theorem old_c (k : Int) (w : World) : Calls Tryz.prog 115 #[.int .u8 k] w fun e w' => e = .returned (.string (oldR k)) ∧ Below w.heap.size w w' := by
  have hw := Below.refl w.heap.size w
  refine fn_enter 36 Tryz.func115 rfl rfl rfl ?_
  repeat' (first | (refine lw_pure rfl (pv_move rfl) ?_) | (refine lw_pure rfl (pv_assign rfl) ?_) | (refine is_cw ?_; first | (refine cw_seq ?_) | (refine cw_region ?_) | (refine cw_true rfl (by first | assumption | exact decide_eq_true (by omega) | exact dec_notT (by omega)) ?_) | (refine cw_skip ?_) | (refine cw_block ?_) | (refine cw_ret ?_)) | (refine is_qw ?_; first | (with_reducible refine qw_then ?_) | (with_reducible refine qw_in ?_) | (with_reducible refine qw_then_ret ?_) | (with_reducible refine qw_in_ret ?_)) | (refine lw_nil ?_) | ((refine is_bin ?_; first | (refine lw_pure rfl (pv_eql rfl rfl) ?_))) | (refine is_cw ?_; refine cw_split rfl (fun hc => ?_) (fun hc => ?_) <;> (first | replace hc := of_decide_eq_true hc | replace hc := of_decide_eq_false hc | replace hc := dec_nT hc | replace hc := dec_nF hc | skip) <;> (try (exfalso; omega))))
  all_goals (refine qw_ret1 rfl rfl ⟨congrArg Ending.returned (congrArg Value.string ?_), hw⟩; unfold oldR; repeat (first | rw [if_pos (by omega)] | rw [if_neg (by omega)]))
def fStr (R : Option (ByteArray × Bool)) : ByteArray := match R with | some p => p.1 | none => ByteArray.empty
set_option maxRecDepth 20000 in
set_option maxHeartbeats 2000000 in
theorem rfields_c (v k : Int) (w : World) : Calls Tryz.prog 94 #[.int .u8 v, .int .u8 k] w fun e w' => e = .returned (.tuple #[.string (fStr (fieldsR v k)), .bool (fText (fieldsR v k)), .bool (fieldsR v k).isSome]) ∧ Below w.heap.size w w' := by
  have hw := Below.refl w.heap.size w
  refine fn_enter 49 Tryz.func94 rfl rfl rfl ?_
  have hsame := fun (hv : 1 ≤ v ∧ v ≤ 3) => same_all (k := k) hv
  by_cases hv : 1 ≤ v ∧ v ≤ 3
  · replace hsame := hsame hv
    unfold sameB at hsame
    have hv3 : v = 1 ∨ v = 2 ∨ v = 3 := by omega
    have hend : ∀ S, S = newR v k → (decide (S = { data := #[32] }) = true ∧ fieldsR v k = none) ∨ (decide (S = { data := #[32] }) = false ∧ fieldsR v k = some (S, decide (k = 1 ∨ k = 3 ∨ k = 22))) := by
      rintro S rfl
      cases hf : fieldsR v k with
      | none => rw [hf] at hsame; exact Or.inl ⟨hsame, rfl⟩
      | some p =>
        rw [hf] at hsame
        simp only [Bool.and_eq_true, Bool.not_eq_true', decide_eq_true_eq, beq_iff_eq] at hsame
        exact Or.inr ⟨hsame.1.2, by rw [hsame.1.1, ← hsame.2]⟩
    rcases hv3 with rfl | rfl | rfl
    · have h1 : oldR k = newR 1 k := by unfold newR midR; rfl
      repeat' (first | (refine lw_pure rfl (pv_move rfl) ?_) | (refine lw_pure rfl (pv_assign rfl) ?_) | (refine lw_call (f := 115) (by kernel_rfl) rfl rfl (old_c k _) ?_; rintro e w1 ⟨rfl, hb⟩; refine ⟨_, rfl, ?_⟩; replace hw := grow_trans hw hb; clear hb) | (refine is_cw ?_; first | (refine cw_seq ?_) | (refine cw_region ?_) | (refine cw_false rfl rfl ?_) | (refine cw_skip ?_)) | (refine is_qw ?_; first | (with_reducible refine qw_then ?_)) | (refine lw_nil ?_) | (refine is_guarded ?_; first | (refine lw_on rfl rfl rfl ?_)) | ((refine is_bin ?_; first | (refine lw_pure rfl (pv_lss rfl rfl) ?_) | (refine lw_pure rfl (pv_eql rfl rfl) ?_) | (refine lw_pure rfl (pv_gtr rfl rfl) ?_) | (refine lw_pure rfl (pv_geq rfl rfl) ?_) | (refine lw_pure rfl (pv_seqlD rfl rfl) ?_))) | (refine lw_pure rfl (pv_pick_f rfl rfl rfl) ?_))
      rcases hend _ h1 with ⟨hb, hf⟩ | ⟨hb, hf⟩ <;> rw [hf] <;> clear hend hsame hf h1
      · repeat' (first | (refine lw_pure rfl (pv_assign rfl) ?_) | (refine is_cw ?_; first | (refine cw_seq ?_) | (refine cw_region ?_) | (refine cw_true rfl (by first | assumption | exact decide_eq_true (by omega) | exact dec_notT (by omega)) ?_) | (refine cw_ret ?_)) | (refine is_qw ?_; first | (with_reducible refine qw_then ?_) | (with_reducible refine qw_then_ret ?_)) | (refine lw_nil ?_))
        exact qw_ret3 rfl rfl rfl rfl ⟨rfl, hw⟩
      · repeat' (first | (refine lw_pure rfl (pv_move rfl) ?_) | (refine lw_pure rfl (pv_assign rfl) ?_) | (refine is_cw ?_; first | (refine cw_seq ?_) | (refine cw_region ?_) | (refine cw_false rfl (by first | assumption | exact decide_eq_false (by omega) | exact dec_notF (by omega)) ?_) | (refine cw_skip ?_) | (refine cw_ret ?_)) | (refine is_qw ?_; first | (with_reducible refine qw_then ?_)) | (refine lw_nil ?_) | (refine is_guarded ?_; first | (refine lw_not rfl rfl rfl rfl ?_) | (refine lw_on rfl rfl (by first | assumption | exact decide_eq_true (by omega) | exact decide_eq_false (by omega) | exact dec_notT (by omega) | exact dec_notF (by omega)) ?_) | (refine lw_not rfl rfl rfl (by first | assumption | exact decide_eq_true (by omega) | exact decide_eq_false (by omega) | exact dec_notT (by omega) | exact dec_notF (by omega)) ?_) | (refine lw_gs_f rfl rfl rfl (fun hc => ?_) (fun hc => ?_) <;> (first | replace hc := of_decide_eq_true hc | replace hc := of_decide_eq_false hc | replace hc := dec_nT hc | replace hc := dec_nF hc | skip) <;> (try (exfalso; omega)))) | ((refine is_bin ?_; first | (refine lw_pure rfl (pv_eql rfl rfl) ?_))) | (refine lw_pure rfl (pv_pick_t rfl rfl rfl) ?_) | (refine lw_pure rfl (pv_pick_t rfl (by first | assumption | exact decide_eq_true (by omega) | exact dec_notT (by omega)) rfl) ?_) | (refine lw_pure rfl (pv_pick_f rfl (by first | assumption | exact decide_eq_false (by omega) | exact dec_notF (by omega)) rfl) ?_))
        all_goals exact qw_ret3 rfl rfl rfl rfl ⟨by simp [fStr, fText, *], hw⟩
    · have h1 : midR 2 k = newR 2 k := by unfold newR; rfl
      repeat' ((fail_if_success (refine is_seqb ?_)); (fail_if_success (refine is_blk ?_)); first | (refine lw_pure rfl (pv_move rfl) ?_) | (refine lw_pure rfl (pv_assign rfl) ?_) | (refine lw_call (f := 115) (by kernel_rfl) rfl rfl (old_c k _) ?_; rintro e w1 ⟨rfl, hb⟩; refine ⟨_, rfl, ?_⟩; replace hw := grow_trans hw hb; clear hb) | (refine is_cw ?_; first | (refine cw_seq ?_) | (refine cw_region ?_) | (refine cw_true rfl rfl ?_) | (refine cw_false rfl rfl ?_) | (refine cw_skip ?_)) | (refine is_qw ?_; first | (with_reducible refine qw_then ?_)) | (refine lw_nil ?_) | (refine is_guarded ?_; first | (refine lw_on rfl rfl rfl ?_)) | ((refine is_bin ?_; first | (refine lw_pure rfl (pv_lss rfl rfl) ?_) | (refine lw_pure rfl (pv_gtr rfl rfl) ?_) | (refine lw_pure rfl (pv_geq rfl rfl) ?_))) | (refine lw_pure rfl (pv_pick_f rfl rfl rfl) ?_))
      refine cw_cutq (σ := Unit) (fun _ => [(0, .int .u8 2), (1, .int .u8 k), (7, .string (midR 2 k))]) (fun _ w' => Below w.heap.size w w') ?_ ?_
      · repeat' (first | (refine lw_pure rfl (pv_assign rfl) ?_) | (refine is_cw ?_; first | (refine cw_seq ?_) | (refine cw_region ?_) | (refine cw_skip ?_) | (refine cw_block ?_)) | (refine is_qw ?_; first | (with_reducible refine qw_then ?_) | (with_reducible refine qw_in ?_)) | (refine lw_nil ?_) | ((refine is_bin ?_; first | (refine lw_pure rfl (pv_eql rfl rfl) ?_))) | (refine is_cw ?_; refine cw_split rfl (fun hc => ?_) (fun hc => ?_) <;> (first | replace hc := of_decide_eq_true hc | replace hc := of_decide_eq_false hc | replace hc := dec_nT hc | replace hc := dec_nF hc | skip) <;> (try (exfalso; omega))))
        all_goals (refine qw_join () (show Sub [(0, .int .u8 2), (1, .int .u8 k), (7, .string (midR 2 k))] _ from ⟨rfl, rfl, congrArg (fun s => some (Value.string s)) ?_, trivial⟩) hw; unfold midR; repeat (first | rw [if_pos (by omega)] | rw [if_neg (by omega)]))
      clear hw; rintro - w1 hw
      repeat' (first | (refine lw_pure rfl (pv_move rfl) ?_) | (refine is_cw ?_; first | (refine cw_seq ?_) | (refine cw_region ?_) | (refine cw_false rfl rfl ?_) | (refine cw_skip ?_)) | (refine is_qw ?_; first | (with_reducible refine qw_then ?_)) | (refine lw_nil ?_) | ((refine is_bin ?_; first | (refine lw_pure rfl (pv_eql rfl rfl) ?_) | (refine lw_pure rfl (pv_seqlD rfl rfl) ?_))))
      rcases hend _ h1 with ⟨hb, hf⟩ | ⟨hb, hf⟩ <;> rw [hf] <;> clear hend hsame hf h1
      · repeat' (first | (refine lw_pure rfl (pv_assign rfl) ?_) | (refine is_cw ?_; first | (refine cw_seq ?_) | (refine cw_region ?_) | (refine cw_true rfl (by first | assumption | exact decide_eq_true (by omega) | exact dec_notT (by omega)) ?_) | (refine cw_ret ?_)) | (refine is_qw ?_; first | (with_reducible refine qw_then ?_) | (with_reducible refine qw_then_ret ?_)) | (refine lw_nil ?_))
        exact qw_ret3 rfl rfl rfl rfl ⟨rfl, hw⟩
      · repeat' (first | (refine lw_pure rfl (pv_move rfl) ?_) | (refine lw_pure rfl (pv_assign rfl) ?_) | (refine is_cw ?_; first | (refine cw_seq ?_) | (refine cw_region ?_) | (refine cw_false rfl (by first | assumption | exact decide_eq_false (by omega) | exact dec_notF (by omega)) ?_) | (refine cw_skip ?_) | (refine cw_ret ?_)) | (refine is_qw ?_; first | (with_reducible refine qw_then ?_)) | (refine lw_nil ?_) | (refine is_guarded ?_; first | (refine lw_not rfl rfl rfl rfl ?_) | (refine lw_on rfl rfl (by first | assumption | exact decide_eq_true (by omega) | exact decide_eq_false (by omega) | exact dec_notT (by omega) | exact dec_notF (by omega)) ?_) | (refine lw_not rfl rfl rfl (by first | assumption | exact decide_eq_true (by omega) | exact decide_eq_false (by omega) | exact dec_notT (by omega) | exact dec_notF (by omega)) ?_) | (refine lw_gs_f rfl rfl rfl (fun hc => ?_) (fun hc => ?_) <;> (first | replace hc := of_decide_eq_true hc | replace hc := of_decide_eq_false hc | replace hc := dec_nT hc | replace hc := dec_nF hc | skip) <;> (try (exfalso; omega)))) | ((refine is_bin ?_; first | (refine lw_pure rfl (pv_eql rfl rfl) ?_))) | (refine lw_pure rfl (pv_pick_t rfl rfl rfl) ?_) | (refine lw_pure rfl (pv_pick_t rfl (by first | assumption | exact decide_eq_true (by omega) | exact dec_notT (by omega)) rfl) ?_) | (refine lw_pure rfl (pv_pick_f rfl (by first | assumption | exact decide_eq_false (by omega) | exact dec_notF (by omega)) rfl) ?_))
        all_goals exact qw_ret3 rfl rfl rfl rfl ⟨by simp [fStr, fText, *], hw⟩
    · repeat' ((fail_if_success (refine is_seqb ?_)); (fail_if_success (refine is_blk ?_)); first | (refine lw_pure rfl (pv_move rfl) ?_) | (refine lw_pure rfl (pv_assign rfl) ?_) | (refine lw_call (f := 115) (by kernel_rfl) rfl rfl (old_c k _) ?_; rintro e w1 ⟨rfl, hb⟩; refine ⟨_, rfl, ?_⟩; replace hw := grow_trans hw hb; clear hb) | (refine is_cw ?_; first | (refine cw_seq ?_) | (refine cw_region ?_) | (refine cw_true rfl rfl ?_) | (refine cw_false rfl rfl ?_) | (refine cw_skip ?_)) | (refine is_qw ?_; first | (with_reducible refine qw_then ?_)) | (refine lw_nil ?_) | (refine is_guarded ?_; first | (refine lw_on rfl rfl rfl ?_)) | ((refine is_bin ?_; first | (refine lw_pure rfl (pv_lss rfl rfl) ?_) | (refine lw_pure rfl (pv_gtr rfl rfl) ?_) | (refine lw_pure rfl (pv_geq rfl rfl) ?_))) | (refine lw_pure rfl (pv_pick_f rfl rfl rfl) ?_))
      refine cw_cutq (σ := Unit) (fun _ => [(0, .int .u8 3), (1, .int .u8 k), (7, .string (midR 3 k))]) (fun _ w' => Below w.heap.size w w') ?_ ?_
      · repeat' (first | (refine lw_pure rfl (pv_assign rfl) ?_) | (refine is_cw ?_; first | (refine cw_seq ?_) | (refine cw_region ?_) | (refine cw_skip ?_) | (refine cw_block ?_)) | (refine is_qw ?_; first | (with_reducible refine qw_then ?_) | (with_reducible refine qw_in ?_)) | (refine lw_nil ?_) | ((refine is_bin ?_; first | (refine lw_pure rfl (pv_eql rfl rfl) ?_))) | (refine is_cw ?_; refine cw_split rfl (fun hc => ?_) (fun hc => ?_) <;> (first | replace hc := of_decide_eq_true hc | replace hc := of_decide_eq_false hc | replace hc := dec_nT hc | replace hc := dec_nF hc | skip) <;> (try (exfalso; omega))))
        all_goals (refine qw_join () (show Sub [(0, .int .u8 3), (1, .int .u8 k), (7, .string (midR 3 k))] _ from ⟨rfl, rfl, congrArg (fun s => some (Value.string s)) ?_, trivial⟩) hw; unfold midR; repeat (first | rw [if_pos (by omega)] | rw [if_neg (by omega)]))
      clear hw; rintro - w1 hw
      repeat' ((fail_if_success (refine is_seqb ?_)); (fail_if_success (refine is_blk ?_)); first | (refine lw_pure rfl (pv_move rfl) ?_) | (refine is_cw ?_; first | (refine cw_seq ?_) | (refine cw_region ?_) | (refine cw_true rfl rfl ?_)) | (refine is_qw ?_; first | (with_reducible refine qw_then ?_)) | (refine lw_nil ?_) | ((refine is_bin ?_; first | (refine lw_pure rfl (pv_eql rfl rfl) ?_))))
      refine cw_cutq (σ := Unit) (fun _ => [(0, .int .u8 3), (1, .int .u8 k), (7, .string (newR 3 k))]) (fun _ w' => Below w.heap.size w w') ?_ ?_
      · repeat' (first | (refine lw_pure rfl (pv_assign rfl) ?_) | (refine is_cw ?_; first | (refine cw_seq ?_) | (refine cw_region ?_) | (refine cw_skip ?_) | (refine cw_block ?_)) | (refine is_qw ?_; first | (with_reducible refine qw_then ?_) | (with_reducible refine qw_in ?_)) | (refine lw_nil ?_) | ((refine is_bin ?_; first | (refine lw_pure rfl (pv_eql rfl rfl) ?_))) | (refine is_cw ?_; refine cw_split rfl (fun hc => ?_) (fun hc => ?_) <;> (first | replace hc := of_decide_eq_true hc | replace hc := of_decide_eq_false hc | replace hc := dec_nT hc | replace hc := dec_nF hc | skip) <;> (try (exfalso; omega))))
        all_goals (refine qw_join () (show Sub [(0, .int .u8 3), (1, .int .u8 k), (7, .string (newR 3 k))] _ from ⟨rfl, rfl, congrArg (fun s => some (Value.string s)) ?_, trivial⟩) hw; unfold newR; repeat (first | rw [if_pos (by omega)] | rw [if_neg (by omega)]))
      clear hw; rintro - w1 hw
      repeat' (first | (refine lw_pure rfl (pv_move rfl) ?_) | (refine is_cw ?_; first | (refine cw_seq ?_) | (refine cw_region ?_)) | (refine is_qw ?_; first | (with_reducible refine qw_then ?_)) | (refine lw_nil ?_) | ((refine is_bin ?_; first | (refine lw_pure rfl (pv_seqlD rfl rfl) ?_))))
      rcases hend _ rfl with ⟨hb, hf⟩ | ⟨hb, hf⟩ <;> rw [hf] <;> clear hend hsame hf
      · repeat' (first | (refine lw_pure rfl (pv_assign rfl) ?_) | (refine is_cw ?_; first | (refine cw_seq ?_) | (refine cw_region ?_) | (refine cw_true rfl (by first | assumption | exact decide_eq_true (by omega) | exact dec_notT (by omega)) ?_) | (refine cw_ret ?_)) | (refine is_qw ?_; first | (with_reducible refine qw_then ?_) | (with_reducible refine qw_then_ret ?_)) | (refine lw_nil ?_))
        exact qw_ret3 rfl rfl rfl rfl ⟨rfl, hw⟩
      · repeat' (first | (refine lw_pure rfl (pv_move rfl) ?_) | (refine lw_pure rfl (pv_assign rfl) ?_) | (refine is_cw ?_; first | (refine cw_seq ?_) | (refine cw_region ?_) | (refine cw_false rfl (by first | assumption | exact decide_eq_false (by omega) | exact dec_notF (by omega)) ?_) | (refine cw_skip ?_) | (refine cw_ret ?_)) | (refine is_qw ?_; first | (with_reducible refine qw_then ?_)) | (refine lw_nil ?_) | (refine is_guarded ?_; first | (refine lw_not rfl rfl rfl rfl ?_) | (refine lw_on rfl rfl (by first | assumption | exact decide_eq_true (by omega) | exact decide_eq_false (by omega) | exact dec_notT (by omega) | exact dec_notF (by omega)) ?_) | (refine lw_not rfl rfl rfl (by first | assumption | exact decide_eq_true (by omega) | exact decide_eq_false (by omega) | exact dec_notT (by omega) | exact dec_notF (by omega)) ?_) | (refine lw_gs_f rfl rfl rfl (fun hc => ?_) (fun hc => ?_) <;> (first | replace hc := of_decide_eq_true hc | replace hc := of_decide_eq_false hc | replace hc := dec_nT hc | replace hc := dec_nF hc | skip) <;> (try (exfalso; omega)))) | ((refine is_bin ?_; first | (refine lw_pure rfl (pv_eql rfl rfl) ?_))) | (refine lw_pure rfl (pv_pick_t rfl rfl rfl) ?_) | (refine lw_pure rfl (pv_pick_t rfl (by first | assumption | exact decide_eq_true (by omega) | exact dec_notT (by omega)) rfl) ?_) | (refine lw_pure rfl (pv_pick_f rfl (by first | assumption | exact decide_eq_false (by omega) | exact dec_notF (by omega)) rfl) ?_))
        all_goals exact qw_ret3 rfl rfl rfl rfl ⟨by simp [fStr, fText, *], hw⟩
  · rw [fields_out hv]
    repeat' (first | (refine lw_pure rfl (pv_move rfl) ?_) | (refine lw_pure rfl (pv_assign rfl) ?_) | (refine is_cw ?_; first | (refine cw_seq ?_) | (refine cw_region ?_) | (refine cw_true rfl rfl ?_) | (refine cw_true rfl (by first | assumption | exact decide_eq_true (by omega) | exact dec_notT (by omega)) ?_) | (refine cw_ret ?_)) | (refine is_qw ?_; first | (with_reducible refine qw_then ?_) | (with_reducible refine qw_then_ret ?_)) | (refine lw_nil ?_) | (refine is_guarded ?_; first | (refine lw_on rfl rfl (by first | assumption | exact decide_eq_true (by omega) | exact decide_eq_false (by omega) | exact dec_notT (by omega) | exact dec_notF (by omega)) ?_) | (refine lw_not rfl rfl rfl (by first | assumption | exact decide_eq_true (by omega) | exact decide_eq_false (by omega) | exact dec_notT (by omega) | exact dec_notF (by omega)) ?_) | (refine lw_gs_f rfl rfl rfl (fun hc => ?_) (fun hc => ?_) <;> (first | replace hc := of_decide_eq_true hc | replace hc := of_decide_eq_false hc | replace hc := dec_nT hc | replace hc := dec_nF hc | skip) <;> (try (exfalso; omega)))) | ((refine is_bin ?_; first | (refine lw_pure rfl (pv_lss rfl rfl) ?_) | (refine lw_pure rfl (pv_gtr rfl rfl) ?_))) | (refine lw_pure rfl (pv_pick_t rfl (by first | assumption | exact decide_eq_true (by omega) | exact dec_notT (by omega)) rfl) ?_) | (refine lw_pure rfl (pv_pick_f rfl (by first | assumption | exact decide_eq_false (by omega) | exact dec_notF (by omega)) rfl) ?_))
    all_goals exact qw_ret3 rfl rfl rfl rfl ⟨rfl, hw⟩
end Go.Proofs.YtemngicaoacfaaaGreatDoor
