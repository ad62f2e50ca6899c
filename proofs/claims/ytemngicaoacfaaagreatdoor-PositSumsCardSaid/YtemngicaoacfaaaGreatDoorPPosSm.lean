/-
  PositSums: its row and its card: whatever the input: true; the input reads as it did. Conditions: what the row prints (the table of functions reads as the program's text lays it).
-/
import Derived.Test.YtemngicaoacfaaaGreatDoorQs
import Derived.Test.YtemngicaoacfaaaGreatDoorKn
import Derived.Test.YtemngicaoacfaaaGreatDoorUl
import Derived.Test.YtemngicaoacfaaaGreatDoorTie
import Derived.Test.YtemngicaoacfaaaGreatDoorCards
import Derived.SevenTiedAt
namespace Go.Proofs.YtemngicaoacfaaaGreatDoor
open Go.ChangeShapes Go.WideShapes Go.ChangeAt Go.RowKit

set_option maxRecDepth 100000 in
theorem positSums_lifted (os : Os) (started : os.Started) (H : Type) (enc : TypeId × Value → H) :
    ReturnsInHanded {} Tryz.checked os 4 .any (fun w args => (Rows.positSumsSpec.pre enc Tryz.prog Tryz.f4 [] false w args ∧ laidMetH Tryz.prog Rows.positSumsRow.laid w) ∧ sizedMet enc Tryz.prog Tryz.f4 (OpenSpec.ofChange Rows.positSumsSpec) false w args)
      (Rows.positSumsSpec.post enc Tryz.prog Tryz.f4 false true false false) := by
  refine returnsInHanded_of_change_and (C := Tryz.checked) (X := fun w _ => laidMetH Tryz.prog Rows.positSumsRow.laid w) (fun _ _ _ hh h => h.of_heap hh) seatOwn started (by kernel_rfl) Tryz.func4
    (ChangeSpec.witness_shaped (enc := enc) (C := Tryz.checked) (os := os) (X := fun w _ => laidMetH Tryz.prog Rows.positSumsRow.laid w) false (World.doorLaid Tryz.prog 200 os) #[.slice none 0 0, .slice none 0 0, .slice none 0 0, .agg #[.int .u8 0, .int .u8 0, .slice none 0 0, .slice none 0 0]] 8 rfl (World.shaped_of_RefB (by kernel_rfl) (by kernel_rfl)) (by kernel_rfl) (by kernel_rfl) (by kernel_rfl) (door_met os _)) ?_
  intro W base args ds gs before hval0 hW _ hZ hL _
  have hval : ∀ (j : Nat) t v, Tryz.f4.params[j]? = some t → args[j]? = some v → Value.okWide Tryz.prog W .any base t v := hval0
  have hW' := hW
  obtain ⟨p, q, hA0, hV, hpq, hfz, hnd⟩ := hW
  have hA : DataW.TrodAll enc Tryz.prog W 0 (fun _ => true) true Tryz.f4.params.toList args.toList ds p := hA0
  rw [Tryz.params4] at hA hval
  obtain ⟨args⟩ := args
  have hA1 : DataW.TrodAll enc Tryz.prog W 0 (fun _ => true) true _ args ds p := hA
  clear hA
  obtain ⟨v0, vs0, d0, ds0, p0, q0, hv0, hd0, hp0, h0, hr0⟩ := trodAll_cons hA1
  obtain ⟨v1, vs1, d1, ds1, p1, q1, hv1, hd1, hp1, h1, hr1⟩ := trodAll_cons hr0
  obtain ⟨v2, vs2, d2, ds2, p2, q2, hv2, hd2, hp2, h2, hr2⟩ := trodAll_cons hr1
  obtain ⟨v3, vs3, d3, ds3, p3, q3, hv3, hd3, hp3, h3, hr3⟩ := trodAll_cons hr2
  obtain ⟨hvn, hdn, hpn⟩ := trodAll_nil hr3
  subst hvn hdn hpn
  subst hv3 hd3 hp3
  subst hv2 hd2 hp2
  subst hv1 hd1 hp1
  subst hv0 hd0 hp0
  obtain ⟨rfl, rfl⟩ := trodVars_none hV
  obtain ⟨lla, llc, ll, rfl, lls, -⟩ := poss_open (hval 0 _ v0 rfl rfl) h0
  obtain ⟨ppa, ppc, pp, rfl, pps, -⟩ := opens_open (hval 1 _ v1 rfl rfl) h1
  obtain ⟨tta, ttc, tt, rfl, tts, -⟩ := lots_open (hval 2 _ v2 rfl rfl) h2
  obtain ⟨eex, ee, rfl, ees⟩ := ev_open (hval 3 _ v3 rfl rfl) h3 (wt_of hZ (j := 3) (by kernel_rfl) rfl)
  have hpr := knW_of hL
  subst hpq
  refine (sums_c rfl rfl rfl lls pps tts ees hpr).mono fun e W' ⟨he, hw⟩ => ?_
  subst he
  have hB := below_trodAll hw (by decide +kernel) hA1
  rw [← Tryz.params4] at hB
  exact ⟨_, rfl, _, _, _, [], _, [], hW', trodAll_mk1 (shut_bool Tryz.underlying4 true), hB, rfl, hw.frame _, fun h => by cases h⟩
theorem positSums_holds : Rows.PositSumsSaid :=
  OpenClaim.holds_of_wide 4 Tryz.f4 rfl rfl rfl rfl rfl rfl rfl ⟨rfl, rfl, rfl, rfl, rfl⟩ rfl rfl rfl rfl rfl (by kernel_rfl) Tryz.func4 (by kernel_rfl)
    (of_decide_eq_true (by kernel_rfl)) (by unfold Func.isWrapper; first | (rw [if_pos (by decide +kernel)]; kernel_rfl) | (rw [if_neg (by decide +kernel)]; exact ⟨rfl, rfl⟩))
    (fun os started H enc _ => positSums_lifted os started H enc)
theorem positSums_card : Rows.PositSumsCardSaid :=
  Claim7.holds_tied_plain_at .later [] [.data] true (true, "bc14626de8671fe056bc101160101831099c9fba5249131a73b1c47841d3af97") false
    positSums_holds (fun _ h => by cases h) (by kernel_rfl) (fun _ h => by cases h) positSums_row_tie rfl ⟨rfl, rfl⟩ (by kernel_rfl) rfl
    (fun f fn hf hfn => by
      obtain rfl : f = 4 := Option.some.inj ((show Tryz.prog.funcNamed Rows.positSumsRow.func = some 4 by kernel_rfl).symm.trans hf) |>.symm
      obtain rfl : fn = Tryz.f4 := (Option.some.inj (Tryz.func4.symm.trans hfn)).symm
      exact ⟨by kernel_rfl, fun j t ht => by
        have hall : (Tryz.f4.params.toList.all fun u => !Tryz.prog.wantsStandIn u) = true := by kernel_rfl
        have hm : t ∈ Tryz.f4.params.toList := Array.mem_toList_iff.2 (Array.mem_of_getElem? ht)
        exact (show Tryz.prog.wantsStandIn t = false by simpa using List.all_eq_true.1 hall t hm)⟩)
    (by kernel_rfl)
#print axioms positSums_card
end Go.Proofs.YtemngicaoacfaaaGreatDoor
