/-
  LedgerNames: its row: whatever the input: true; the input reads as it did. Conditions: none.
-/
import Derived.Test.YtchalebenpmnpaaQr
import Derived.Test.YtchalebenpmnpaaHNa
namespace Go.Proofs.Ytchalebenpmnpaa
open Go.ChangeShapes Go.WideShapes Go.ChangeAt Go.RowKit

set_option maxRecDepth 100000 in
theorem ledgerNames_lifted (os : Os) (started : os.Started) (H : Type) (enc : TypeId × Value → H) :
    ReturnsInHanded {} Try.checked os 7 .any (Rows.ledgerNamesSpec.pre6 enc Try.prog Try.f7 Rows.ledgerNamesRow.domain false) (Rows.ledgerNamesSpec.post enc Try.prog Try.f7 false true false false) := by
  refine returnsInHanded_of_change (C := Try.checked) seatOwn started (by kernel_rfl) Try.func7
    (ChangeSpec.witness6 (enc := enc) (C := Try.checked) false ⟨#[], #[], []⟩ 8 (by kernel_rfl) (by kernel_rfl) (by kernel_rfl) (by kernel_rfl)) ?_
  intro W base args ds gs before hval0 hW _ _
  have hval : ∀ (j : Nat) t v, Try.f7.params[j]? = some t → args[j]? = some v → Value.okWide Try.prog W .any base t v := hval0
  have hW' := hW
  obtain ⟨p, q, hA0, hV, hpq, hfz, hnd⟩ := hW
  have hA : DataW.TrodAll enc Try.prog W 0 (fun _ => true) true Try.f7.params.toList args.toList ds p := hA0
  rw [Try.params7] at hA hval
  obtain ⟨args⟩ := args
  have hA1 : DataW.TrodAll enc Try.prog W 0 (fun _ => true) true _ args ds p := hA
  clear hA
  obtain ⟨hvn, hdn, hpn⟩ := trodAll_nil hA1
  subst hvn hdn hpn
  obtain ⟨rfl, rfl⟩ := trodVars_none hV
  subst hpq
  refine (lawNames_c W).mono fun e W' ⟨he, hw⟩ => ?_
  subst he
  have hB := below_trodAll hw (by decide +kernel) hA1
  rw [← Try.params7] at hB
  exact ⟨_, rfl, _, _, _, [], _, [], hW', trodAll_mk1 (shut_bool Try.underlying4 true), hB, rfl, hw.frame _, fun h => by cases h⟩
theorem ledgerNames_holds : Rows.LedgerNamesSaid :=
  OpenClaim.holds_of_wide 7 Try.f7 rfl rfl rfl rfl rfl rfl rfl ⟨rfl, rfl, rfl, rfl, rfl⟩ rfl rfl rfl rfl rfl (by kernel_rfl) Try.func7 (by kernel_rfl)
    (of_decide_eq_true (by kernel_rfl)) (by unfold Func.isWrapper; first | (rw [if_pos (by decide +kernel)]; kernel_rfl) | (rw [if_neg (by decide +kernel)]; exact ⟨rfl, rfl⟩))
    (fun os started H enc _ => ledgerNames_lifted os started H enc)
#print axioms ledgerNames_holds
end Go.Proofs.Ytchalebenpmnpaa
