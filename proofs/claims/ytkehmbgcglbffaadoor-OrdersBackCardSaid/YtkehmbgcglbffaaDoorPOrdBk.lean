/-
  OrdersBack: its row and its card: whatever the input: true; the input reads as it did. Conditions: what the row prints (the table of functions reads as the program's text lays it).
-/
import Derived.Test.YtkehmbgcglbffaaDoorQo
import Derived.Test.YtkehmbgcglbffaaDoorKn
import Derived.Test.YtkehmbgcglbffaaDoorVk
import Derived.Test.YtkehmbgcglbffaaDoorTie
import Derived.Test.YtkehmbgcglbffaaDoorCards
import Derived.SevenTiedAt
namespace Go.Proofs.YtkehmbgcglbffaaDoor
open Go.ChangeShapes Go.WideShapes Go.ChangeAt Go.RowKit

set_option maxRecDepth 100000 in
theorem ordersBack_lifted (os : Os) (started : os.Started) (H : Type) (enc : TypeId × Value → H) :
    ReturnsInHanded {} Tryd.checked os 4 .any (fun w args => (Rows.ordersBackSpec.pre enc Tryd.prog Tryd.f4 [] false w args ∧ laidMetH Tryd.prog Rows.ordersBackRow.laid w) ∧ sizedMet enc Tryd.prog Tryd.f4 (OpenSpec.ofChange Rows.ordersBackSpec) false w args)
      (Rows.ordersBackSpec.post enc Tryd.prog Tryd.f4 false true false false) := by
  refine returnsInHanded_of_change_and (C := Tryd.checked) (X := fun w _ => laidMetH Tryd.prog Rows.ordersBackRow.laid w) (fun _ _ _ hh h => h.of_heap hh) seatOwn started (by kernel_rfl) Tryd.func4
    (ChangeSpec.witness_shaped (enc := enc) (C := Tryd.checked) (os := os) (X := fun w _ => laidMetH Tryd.prog Rows.ordersBackRow.laid w) false (World.doorLaid Tryd.prog 200 os) #[.slice none 0 0, .slice none 0 0, .agg #[.int .u8 0, .int .u8 0, .slice none 0 0, .slice none 0 0], .int .i64 0, .int .i64 0] 8 rfl (World.shaped_of_RefB (by kernel_rfl) (by kernel_rfl)) (by kernel_rfl) (by kernel_rfl) (by kernel_rfl) (door_met os _)) ?_
  intro W base args ds gs before hval0 hW _ hZ hL _
  have hval : ∀ (j : Nat) t v, Tryd.f4.params[j]? = some t → args[j]? = some v → Value.okWide Tryd.prog W .any base t v := hval0
  have hW' := hW
  obtain ⟨p, q, hA0, hV, hpq, hfz, hnd⟩ := hW
  have hA : DataW.TrodAll enc Tryd.prog W 0 (fun _ => true) true Tryd.f4.params.toList args.toList ds p := hA0
  rw [Tryd.params4] at hA hval
  obtain ⟨args⟩ := args
  have hA1 : DataW.TrodAll enc Tryd.prog W 0 (fun _ => true) true _ args ds p := hA
  clear hA
  obtain ⟨v0, vs0, d0, ds0, p0, q0, hv0, hd0, hp0, h0, hr0⟩ := trodAll_cons hA1
  obtain ⟨v1, vs1, d1, ds1, p1, q1, hv1, hd1, hp1, h1, hr1⟩ := trodAll_cons hr0
  obtain ⟨v2, vs2, d2, ds2, p2, q2, hv2, hd2, hp2, h2, hr2⟩ := trodAll_cons hr1
  obtain ⟨v3, vs3, d3, ds3, p3, q3, hv3, hd3, hp3, h3, hr3⟩ := trodAll_cons hr2
  obtain ⟨v4, vs4, d4, ds4, p4, q4, hv4, hd4, hp4, h4, hr4⟩ := trodAll_cons hr3
  obtain ⟨hvn, hdn, hpn⟩ := trodAll_nil hr4
  subst hvn hdn hpn
  subst hv4 hd4 hp4
  subst hv3 hd3 hp3
  subst hv2 hd2 hp2
  subst hv1 hd1 hp1
  subst hv0 hd0 hp0
  obtain ⟨rfl, rfl⟩ := trodVars_none hV
  obtain ⟨ppa, ppc, pp, rfl, pps, -⟩ := opens_open (hval 0 _ v0 rfl rfl) h0
  obtain ⟨tta, ttc, tt, rfl, tts, -⟩ := lots_open (hval 1 _ v1 rfl rfl) h1
  obtain ⟨eex, ee, rfl, ees⟩ := ev_open (hval 2 _ v2 rfl rfl) h2 (wt_of hZ (j := 2) (by kernel_rfl) rfl)
  obtain ⟨yy, rfl, yyl, yyu⟩ := i64_open Tryd.underlying2 (hval 3 _ v3 rfl rfl) h3
  obtain ⟨qq, rfl, qql, qqu⟩ := i64_open Tryd.underlying2 (hval 4 _ v4 rfl rfl) h4
  have hpr := knW_of hL
  subst hpq
  refine (back_c rfl rfl pps tts ees hpr).mono fun e W' ⟨he, hw⟩ => ?_
  subst he
  have hB := below_trodAll hw (by decide +kernel) hA1
  rw [← Tryd.params4] at hB
  exact ⟨_, rfl, _, _, _, [], _, [], hW', trodAll_mk1 (shut_bool Tryd.underlying4 true), hB, rfl, hw.frame _, fun h => by cases h⟩
theorem ordersBack_holds : Rows.OrdersBackSaid :=
  OpenClaim.holds_of_wide 4 Tryd.f4 rfl rfl rfl rfl rfl rfl rfl ⟨rfl, rfl, rfl, rfl, rfl⟩ rfl rfl rfl rfl rfl (by kernel_rfl) Tryd.func4 (by kernel_rfl)
    (of_decide_eq_true (by kernel_rfl)) (by unfold Func.isWrapper; first | (rw [if_pos (by decide +kernel)]; kernel_rfl) | (rw [if_neg (by decide +kernel)]; exact ⟨rfl, rfl⟩))
    (fun os started H enc _ => ordersBack_lifted os started H enc)
theorem ordersBack_card : Rows.OrdersBackCardSaid :=
  Claim7.holds_tied_plain_at .later [] [.data] true (true, "ee2aeae4d86922263ac58fee5f62ae70e4e1542f742340c12a855bd8dcf4a025") false
    ordersBack_holds (fun _ h => by cases h) (by kernel_rfl) (fun _ h => by cases h) ordersBack_row_tie rfl ⟨rfl, rfl⟩ (by kernel_rfl) rfl
    (fun f fn hf hfn => by
      obtain rfl : f = 4 := Option.some.inj ((show Tryd.prog.funcNamed Rows.ordersBackRow.func = some 4 by kernel_rfl).symm.trans hf) |>.symm
      obtain rfl : fn = Tryd.f4 := (Option.some.inj (Tryd.func4.symm.trans hfn)).symm
      exact ⟨by kernel_rfl, fun j t ht => by
        have hall : (Tryd.f4.params.toList.all fun u => !Tryd.prog.wantsStandIn u) = true := by kernel_rfl
        have hm : t ∈ Tryd.f4.params.toList := Array.mem_toList_iff.2 (Array.mem_of_getElem? ht)
        exact (show Tryd.prog.wantsStandIn t = false by simpa using List.all_eq_true.1 hall t hm)⟩)
    (by kernel_rfl)
#print axioms ordersBack_card
end Go.Proofs.YtkehmbgcglbffaaDoor
