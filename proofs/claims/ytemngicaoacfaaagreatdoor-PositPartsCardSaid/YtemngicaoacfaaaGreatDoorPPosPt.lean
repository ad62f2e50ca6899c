/-
  PositParts: its row and its card: whatever the input: true; the input reads as it did. Conditions: what the row prints (the table of functions reads as the program's text lays it).
-/
import Derived.Test.YtemngicaoacfaaaGreatDoorQs
import Derived.Test.YtemngicaoacfaaaGreatDoorKn
import Derived.Test.YtemngicaoacfaaaGreatDoorUm
import Derived.Test.YtemngicaoacfaaaGreatDoorTie
import Derived.Test.YtemngicaoacfaaaGreatDoorCards
import Derived.SevenTiedAt
namespace Go.Proofs.YtemngicaoacfaaaGreatDoor
open Go.ChangeShapes Go.WideShapes Go.ChangeAt Go.RowKit

set_option maxRecDepth 100000 in
theorem positParts_lifted (os : Os) (started : os.Started) (H : Type) (enc : TypeId × Value → H) :
    ReturnsInHanded {} Tryz.checked os 8 .any (fun w args => (Rows.positPartsSpec.pre enc Tryz.prog Tryz.f8 [] false w args ∧ laidMetH Tryz.prog Rows.positPartsRow.laid w) ∧ sizedMet enc Tryz.prog Tryz.f8 (OpenSpec.ofChange Rows.positPartsSpec) false w args)
      (Rows.positPartsSpec.post enc Tryz.prog Tryz.f8 false true false false) := by
  refine returnsInHanded_of_change_and (C := Tryz.checked) (X := fun w _ => laidMetH Tryz.prog Rows.positPartsRow.laid w) (fun _ _ _ hh h => h.of_heap hh) seatOwn started (by kernel_rfl) Tryz.func8
    (ChangeSpec.witness_shaped (enc := enc) (C := Tryz.checked) (os := os) (X := fun w _ => laidMetH Tryz.prog Rows.positPartsRow.laid w) false (World.doorLaid Tryz.prog 200 os) #[.slice none 0 0, .slice none 0 0, .int .i64 0, .int .i64 0, .int .i64 0, .int .i64 0, .int .i64 0, .int .i64 0, .int .i64 0] 8 rfl (World.shaped_of_RefB (by kernel_rfl) (by kernel_rfl)) (by kernel_rfl) (by kernel_rfl) (by kernel_rfl) (door_met os _)) ?_
  intro W base args ds gs before hval0 hW _ hZ hL _
  have hval : ∀ (j : Nat) t v, Tryz.f8.params[j]? = some t → args[j]? = some v → Value.okWide Tryz.prog W .any base t v := hval0
  have hW' := hW
  obtain ⟨p, q, hA0, hV, hpq, hfz, hnd⟩ := hW
  have hA : DataW.TrodAll enc Tryz.prog W 0 (fun _ => true) true Tryz.f8.params.toList args.toList ds p := hA0
  rw [Tryz.params8] at hA hval
  obtain ⟨args⟩ := args
  have hA1 : DataW.TrodAll enc Tryz.prog W 0 (fun _ => true) true _ args ds p := hA
  clear hA
  obtain ⟨v0, vs0, d0, ds0, p0, q0, hv0, hd0, hp0, h0, hr0⟩ := trodAll_cons hA1
  obtain ⟨v1, vs1, d1, ds1, p1, q1, hv1, hd1, hp1, h1, hr1⟩ := trodAll_cons hr0
  obtain ⟨v2, vs2, d2, ds2, p2, q2, hv2, hd2, hp2, h2, hr2⟩ := trodAll_cons hr1
  obtain ⟨v3, vs3, d3, ds3, p3, q3, hv3, hd3, hp3, h3, hr3⟩ := trodAll_cons hr2
  obtain ⟨v4, vs4, d4, ds4, p4, q4, hv4, hd4, hp4, h4, hr4⟩ := trodAll_cons hr3
  obtain ⟨v5, vs5, d5, ds5, p5, q5, hv5, hd5, hp5, h5, hr5⟩ := trodAll_cons hr4
  obtain ⟨v6, vs6, d6, ds6, p6, q6, hv6, hd6, hp6, h6, hr6⟩ := trodAll_cons hr5
  obtain ⟨v7, vs7, d7, ds7, p7, q7, hv7, hd7, hp7, h7, hr7⟩ := trodAll_cons hr6
  obtain ⟨v8, vs8, d8, ds8, p8, q8, hv8, hd8, hp8, h8, hr8⟩ := trodAll_cons hr7
  obtain ⟨hvn, hdn, hpn⟩ := trodAll_nil hr8
  subst hvn hdn hpn
  subst hv8 hd8 hp8
  subst hv7 hd7 hp7
  subst hv6 hd6 hp6
  subst hv5 hd5 hp5
  subst hv4 hd4 hp4
  subst hv3 hd3 hp3
  subst hv2 hd2 hp2
  subst hv1 hd1 hp1
  subst hv0 hd0 hp0
  obtain ⟨rfl, rfl⟩ := trodVars_none hV
  obtain ⟨lla, llc, ll, rfl, lls, -⟩ := poss_open (hval 0 _ v0 rfl rfl) h0
  obtain ⟨ppa, ppc, pp, rfl, pps, -⟩ := opens_open (hval 1 _ v1 rfl rfl) h1
  obtain ⟨aa, rfl, aal, aau⟩ := i64_open Tryz.underlying2 (hval 2 _ v2 rfl rfl) h2
  obtain ⟨bb, rfl, bbl, bbu⟩ := i64_open Tryz.underlying2 (hval 3 _ v3 rfl rfl) h3
  obtain ⟨cc, rfl, ccl, ccu⟩ := i64_open Tryz.underlying2 (hval 4 _ v4 rfl rfl) h4
  obtain ⟨uu, rfl, uul, uuu⟩ := i64_open Tryz.underlying2 (hval 5 _ v5 rfl rfl) h5
  obtain ⟨vv, rfl, vvl, vvu⟩ := i64_open Tryz.underlying2 (hval 6 _ v6 rfl rfl) h6
  obtain ⟨yy, rfl, yyl, yyu⟩ := i64_open Tryz.underlying2 (hval 7 _ v7 rfl rfl) h7
  obtain ⟨zz, rfl, zzl, zzu⟩ := i64_open Tryz.underlying2 (hval 8 _ v8 rfl rfl) h8
  have hpr := knW_of hL
  subst hpq
  refine (pparts_c rfl rfl lls pps hpr).mono fun e W' ⟨he, hw⟩ => ?_
  subst he
  have hB := below_trodAll hw (by decide +kernel) hA1
  rw [← Tryz.params8] at hB
  exact ⟨_, rfl, _, _, _, [], _, [], hW', trodAll_mk1 (shut_bool Tryz.underlying4 true), hB, rfl, hw.frame _, fun h => by cases h⟩
theorem positParts_holds : Rows.PositPartsSaid :=
  OpenClaim.holds_of_wide 8 Tryz.f8 rfl rfl rfl rfl rfl rfl rfl ⟨rfl, rfl, rfl, rfl, rfl⟩ rfl rfl rfl rfl rfl (by kernel_rfl) Tryz.func8 (by kernel_rfl)
    (of_decide_eq_true (by kernel_rfl)) (by unfold Func.isWrapper; first | (rw [if_pos (by decide +kernel)]; kernel_rfl) | (rw [if_neg (by decide +kernel)]; exact ⟨rfl, rfl⟩))
    (fun os started H enc _ => positParts_lifted os started H enc)
theorem positParts_card : Rows.PositPartsCardSaid :=
  Claim7.holds_tied_plain_at .later [] [.data] true (true, "bc14626de8671fe056bc101160101831099c9fba5249131a73b1c47841d3af97") false
    positParts_holds (fun _ h => by cases h) (by kernel_rfl) (fun _ h => by cases h) positParts_row_tie rfl ⟨rfl, rfl⟩ (by kernel_rfl) rfl
    (fun f fn hf hfn => by
      obtain rfl : f = 8 := Option.some.inj ((show Tryz.prog.funcNamed Rows.positPartsRow.func = some 8 by kernel_rfl).symm.trans hf) |>.symm
      obtain rfl : fn = Tryz.f8 := (Option.some.inj (Tryz.func8.symm.trans hfn)).symm
      exact ⟨by kernel_rfl, fun j t ht => by
        have hall : (Tryz.f8.params.toList.all fun u => !Tryz.prog.wantsStandIn u) = true := by kernel_rfl
        have hm : t ∈ Tryz.f8.params.toList := Array.mem_toList_iff.2 (Array.mem_of_getElem? ht)
        exact (show Tryz.prog.wantsStandIn t = false by simpa using List.all_eq_true.1 hall t hm)⟩)
    (by kernel_rfl)
#print axioms positParts_card
end Go.Proofs.YtemngicaoacfaaaGreatDoor
