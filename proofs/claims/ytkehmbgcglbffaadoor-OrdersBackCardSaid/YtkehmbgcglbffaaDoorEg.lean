/-
  Contracts of Fields (layer 5), and of the document's Fields. Conditions: the table of kinds lies in memory (KnW); for the document's: none.
-/
import Derived.Test.YtkehmbgcglbffaaDoorEf
namespace Go.Proofs.YtkehmbgcglbffaaDoor
open Go.RowKit Go.PlainAid

theorem kinds_small : (kindsT.all fun r => decide (r.f1.size ≤ 100) && decide (r.f2.size ≤ 100) && decide (r.f3.size ≤ 100)) = true := by kernel_rfl
theorem field_small (k v : Int) : (fieldV (kindR k) v).size ≤ 100 := by
  have hb : blankS.size ≤ 100 := by decide
  by_cases hk : 1 ≤ k ∧ k ≤ 23
  · have hm := List.mem_of_getElem? (kind_at hk)
    have := List.all_eq_true.1 kinds_small _ hm
    simp only [Bool.and_eq_true, decide_eq_true_eq] at this
    unfold fieldV; (repeat' split) <;> omega
  · rw [kind_out hk]; unfold fieldV blankK; (repeat' split) <;> exact hb
set_option maxRecDepth 20000 in
theorem fields_c (v k : Int) (h8 : 0 ≤ k ∧ k ≤ 255) {w : World} (hK : KnW w) : Calls Tryd.prog 27 #[.int .u8 v, .int .u8 k] w fun e w' => (∃ sv, e = .returned (.tuple #[sv, .bool (fText (fieldsR v k)), .bool (fieldsR v k).isSome]) ∧ Own encB 1 85 w.heap.size w' sv (fBytes (fieldsR v k))) ∧ Below w.heap.size w w' := by
  have hw := Below.refl w.heap.size w
  have hs := field_small k v
  refine fn_enter 14 Tryd.func27 rfl rfl rfl ?_
  repeat' (first | (refine lw_pure rfl (pv_move rfl) ?_) | (refine lw_pure rfl (pv_assign rfl) ?_) | (refine lw_call (f := 43) (by kernel_rfl) rfl rfl (event_c k h8 hK) ?_; rintro e w1 ⟨rfl, hb⟩; refine ⟨_, rfl, ?_⟩; replace hw := grow_trans hw hb; clear hb) | (refine is_cw ?_; first | (refine cw_seq ?_) | (refine cw_region ?_)) | (refine is_qw ?_; first | (with_reducible refine qw_then ?_)) | (refine lw_nil ?_))
  refine lw_call (f := 44) (by kernel_rfl) rfl rfl (told_c (kindR k) v (field_asc k v) (by omega) _) ?_; rintro e w2 ⟨⟨sv, rfl, hO⟩, hb⟩; refine ⟨_, rfl, ?_⟩
  rw [toldF_eq] at hO
  have hO2 := hO.weaken hw.size
  replace hw := grow_trans hw hb
  repeat' (first | (refine lw_pure rfl (pv_assign rfl) ?_) | (refine is_cw ?_; first | (refine cw_ret ?_)) | (refine is_qw ?_; first | (with_reducible refine qw_then ?_)) | (refine lw_nil ?_) | (refine lw_pure rfl (pv_extract rfl rfl) ?_))
  exact qw_ret3 rfl rfl rfl rfl ⟨⟨_, rfl, hO2⟩, hw⟩
/-! ### the document's -/
def sOf (l : List UInt8) : ByteArray := ⟨l.toArray⟩
@[irreducible] def oldR (k : Int) : ByteArray :=
  if k = 1 ∨ k = 2 then { data := #[97] } else if k = 3 ∨ k = 4 ∨ k = 5 then { data := #[105] } else if k = 6 ∨ k = 7 then { data := #[97, 109] } else if k = 8 ∨ k = 9 then { data := #[97, 105, 113] }
  else if k = 10 then { data := #[98] } else if k = 11 then { data := #[111, 97, 105, 115, 112, 113] } else if k = 12 then { data := #[111] } else if k = 13 then { data := #[111, 111, 112, 113] }
  else if k = 14 ∨ k = 16 then { data := #[99, 97, 105, 113, 109, 116] } else if k = 15 ∨ k = 17 ∨ k = 18 then { data := #[99, 97, 109] } else if k = 19 then { data := #[99] } else if k = 20 then { data := #[116] } else { data := #[32] }
@[irreducible] def midR (v k : Int) : ByteArray :=
  if 2 ≤ v then (if k = 3 then { data := #[105, 107] } else if k = 13 then { data := #[111, 111, 112, 113, 122] } else if k = 14 then { data := #[99, 97, 105, 113, 109, 109, 116] } else if k = 18 then { data := #[99, 97, 109, 122] } else if k = 21 then { data := #[97, 97, 109] } else oldR k) else oldR k
@[irreducible] def newR (v k : Int) : ByteArray :=
  if v = 3 then (if k = 22 then { data := #[97] } else if k = 23 then { data := #[105, 107] } else midR v k) else midR v k
theorem fields_out {v k : Int} (h : ¬ (1 ≤ v ∧ v ≤ 3)) : fieldsR v k = none := by unfold fieldsR; rw [if_neg h]
/-- kind by kind, version by version -/
def sameB (v k : Int) : Bool := match fieldsR v k with
  | none => decide (newR v k = blankS)
  | some p => decide (newR v k = p.1) && !decide (newR v k = blankS) && (p.2 == decide (k = 1 ∨ k = 3 ∨ k = 22))
theorem same_in : (((List.range 23).all fun i => (List.range 3).all fun j => sameB ((j : Nat) + 1) ((i : Nat) + 1)) = true) := by kernel_rfl
theorem same_all {v k : Int} (hv : 1 ≤ v ∧ v ≤ 3) : sameB v k = true := by
  by_cases hk : 1 ≤ k ∧ k ≤ 23
  · have h1 := List.all_eq_true.1 same_in (k - 1).toNat (List.mem_range.2 (by omega))
    have h2 := List.all_eq_true.1 h1 (v - 1).toNat (List.mem_range.2 (by omega))
    rwa [show (((v - 1).toNat : Nat) : Int) + 1 = v by omega, show (((k - 1).toNat : Nat) : Int) + 1 = k by omega] at h2
  · have h1 : newR v k = blankS := by
      have n1 : k ≠ 1 := by omega
      have n2 : k ≠ 2 := by omega
      have n3 : k ≠ 3 := by omega
      have n4 : k ≠ 4 := by omega
      have n5 : k ≠ 5 := by omega
      have n6 : k ≠ 6 := by omega
      have n7 : k ≠ 7 := by omega
      have n8 : k ≠ 8 := by omega
      have n9 : k ≠ 9 := by omega
      have n10 : k ≠ 10 := by omega
      have n11 : k ≠ 11 := by omega
      have n12 : k ≠ 12 := by omega
      have n13 : k ≠ 13 := by omega
      have n14 : k ≠ 14 := by omega
      have n15 : k ≠ 15 := by omega
      have n16 : k ≠ 16 := by omega
      have n17 : k ≠ 17 := by omega
      have n18 : k ≠ 18 := by omega
      have n19 : k ≠ 19 := by omega
      have n20 : k ≠ 20 := by omega
      have n21 : k ≠ 21 := by omega
      have n22 : k ≠ 22 := by omega
      have n23 : k ≠ 23 := by omega
      simp [newR, midR, oldR, blankS, n1, n2, n3, n4, n5, n6, n7, n8, n9, n10, n11, n12, n13, n14, n15, n16, n17, n18, n19, n20, n21, n22, n23]
    have h2 : fieldsR v k = none := by
      unfold fieldsR
      rw [if_pos hv, kind_out hk]
      have : fieldV blankK v = blankS := by unfold fieldV blankK; (repeat' split) <;> rfl
      rw [this, if_pos (by decide)]
    unfold sameB
    rw [h2, h1]; simp
def fStr (R : Option (ByteArray × Bool)) : ByteArray := match R with | some p => p.1 | none => ByteArray.empty
end Go.Proofs.YtkehmbgcglbffaaDoor
