/-
  LedgerMoves: its row: whatever the input: true; the input reads as it did. Conditions: none.
-/
import Derived.Test.YtchalebenpmnpaaQr
import Derived.Test.YtchalebenpmnpaaHMo
namespace Go.Proofs.Ytchalebenpmnpaa
open Go.ChangeShapes Go.WideShapes Go.ChangeAt Go.RowKit

set_option maxRecDepth 100000 in
theorem ledgerMoves_lifted (os : Os) (started : os.Started) (H : Type) (enc : TypeId × Value → H) :
    ReturnsInHanded {} Try.checked os 8 .any (Rows.ledgerMovesSpec.pre6 enc Try.prog Try.f8 Rows.ledgerMovesRow.domain false) (Rows.ledgerMovesSpec.post enc Try.prog Try.f8 false true false false) := by
  refine returnsInHanded_of_change (C := Try.checked) seatOwn started (by kernel_rfl) Try.func8
    (ChangeSpec.witness6 (enc := enc) (C := Try.checked) false ⟨#[], #[.slice none 0 0, .int .i64 0, .int .i64 0, .int .i64 0, .int .i64 0], []⟩ 8 (by kernel_rfl) (by kernel_rfl) (by kernel_rfl) (by kernel_rfl)) ?_
  intro W base args ds gs before hval0 hW _ _
  have hval : ∀ (j : Nat) t v, Try.f8.params[j]? = some t → args[j]? = some v → Value.okWide Try.prog W .any base t v := hval0
  have hW' := hW
  obtain ⟨p, q, hA0, hV, hpq, hfz, hnd⟩ := hW
  have hA : DataW.TrodAll enc Try.prog W 0 (fun _ => true) true Try.f8.params.toList args.toList ds p := hA0
  rw [Try.params8] at hA hval
  obtain ⟨args⟩ := args
  have hA1 : DataW.TrodAll enc Try.prog W 0 (fun _ => true) true _ args ds p := hA
  clear hA
  obtain ⟨v0, vs0, d0, ds0, p0, q0, hv0, hd0, hp0, h0, hr0⟩ := trodAll_cons hA1
  obtain ⟨v1, vs1, d1, ds1, p1, q1, hv1, hd1, hp1, h1, hr1⟩ := trodAll_cons hr0
  obtain ⟨v2, vs2, d2, ds2, p2, q2, hv2, hd2, hp2, h2, hr2⟩ := trodAll_cons hr1
  obtain ⟨v3, vs3, d3, ds3, p3, q3, hv3, hd3, hp3, h3, hr3⟩ := trodAll_cons hr2
  obtain ⟨v4, vs4, d4, ds4, p4, q4, hv4, hd4, hp4, h4, hr4⟩ := trodAll_cons hr3
  obtain ⟨hvn, hdn, hpn⟩ := trodAll_nil hr4
  subst hvn hdn hpn
  subst hv4 hd4 hp4
  subst hv3 hd3 hp3
  subst hv2 hd2 hp2
  subst hv1 hd1 hp1
  subst hv0 hd0 hp0
  obtain ⟨rfl, rfl⟩ := trodVars_none hV
  obtain ⟨la, lc, l, rfl, ls, li⟩ := rows_open (hval 0 _ v0 rfl rfl) h0
  obtain ⟨f, rfl, fl, fu⟩ := i64_open Try.underlying3 (hval 1 _ v1 rfl rfl) h1
  obtain ⟨t, rfl, tl, tu⟩ := i64_open Try.underlying3 (hval 2 _ v2 rfl rfl) h2
  obtain ⟨s, rfl, sl, su⟩ := i64_open Try.underlying3 (hval 3 _ v3 rfl rfl) h3
  obtain ⟨n, rfl, nl, nu⟩ := i64_open Try.underlying2 (hval 4 _ v4 rfl rfl) h4
  subst hpq
  refine (lawMoves_c W ls li ⟨nl, nu⟩).mono fun e W' ⟨he, hw⟩ => ?_
  subst he
  have hB := below_trodAll hw (by decide +kernel) hA1
  rw [← Try.params8] at hB
  exact ⟨_, rfl, _, _, _, [], _, [], hW', trodAll_mk1 (shut_bool Try.underlying4 true), hB, rfl, hw.frame _, fun h => by cases h⟩
theorem ledgerMoves_holds : Rows.LedgerMovesSaid :=
  OpenClaim.holds_of_wide 8 Try.f8 rfl rfl rfl rfl rfl rfl rfl ⟨rfl, rfl, rfl, rfl, rfl⟩ rfl rfl rfl rfl rfl (by kernel_rfl) Try.func8 (by kernel_rfl)
    (of_decide_eq_true (by kernel_rfl)) (by unfold Func.isWrapper; first | (rw [if_pos (by decide +kernel)]; kernel_rfl) | (rw [if_neg (by decide +kernel)]; exact ⟨rfl, rfl⟩))
    (fun os started H enc _ => ledgerMoves_lifted os started H enc)
#print axioms ledgerMoves_holds
end Go.Proofs.Ytchalebenpmnpaa
