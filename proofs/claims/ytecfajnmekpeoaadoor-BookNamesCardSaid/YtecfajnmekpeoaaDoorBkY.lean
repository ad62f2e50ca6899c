/-
  Contract of layer 16 (book): May, at every list. Conditions: that the slice reads as a list.
-/
import Derived.Test.YtecfajnmekpeoaaDoorSlO
import Derived.Test.YtecfajnmekpeoaaDoorBkL
namespace Go.Proofs.YtecfajnmekpeoaaDoor
open Go.RowKit

set_option maxHeartbeats 2000000 in
theorem may_c (a : Option Addr) (cap : Nat) (xs : List Ord) (w : World) (hs : SlO w a cap xs) :
    Calls Tryd.prog 17 #[.slice a xs.length cap] w fun e w' => e = .returned (.bool (mayL xs)) ∧ Below w.heap.size w w' := by
  have hle := hs.le
  have hmax := hs.max
  by_cases h128 : xs.length ≤ 128
  · have H : decide (128 < (xs.length : Int)) = false := by simp; omega
    have eg : ∀ args w, (callFunc 43 args).run Tryd.prog w = .ok (.enter 43 args) w := Go.Proofs.enters_of Tryd.func43 (by kernel_rfl) rfl
    have hct := contains_O a cap xs w (fun o => !mayOne o) 43 #[] eg hs (fun W x _ _ => may1_c x W)
    clear eg
    cases hany : xs.any (fun o => !mayOne o) with
    | true =>
      have Hr : Hid (mayL xs = false) := Lib.hid (by
        rw [Bool.eq_false_iff, ne_eq, mayL_iff]
        intro ⟨_, h2, _⟩
        obtain ⟨o, ho, hb⟩ := List.any_eq_true.1 hany
        simp [h2 o ho] at hb)
      rw [hany] at hct
      clear hs hany
      generalize xs.length = n at *
      go_enter Tryd.func17, Tryd.ntmps17
      go_wp2_with (go_at_call 42; refine hct.mono ?_; rintro e w1 ⟨rfl, hb1⟩)
      go_ret
      exact ⟨ret_bool Hr.out.symm, hb1⟩
    | false =>
      have hall : ∀ o ∈ xs, mayOne o = true := fun o ho => by have := List.any_eq_false.1 hany o ho; simpa using this
      rw [hany] at hct
      clear hany
      by_cases h0 : xs = []
      · subst h0
        have Hr : Hid (mayL [] = true) := Lib.hid (by rfl)
        clear hs hall
        simp only [List.length_nil] at *
        go_enter Tryd.func17, Tryd.ntmps17
        go_wp2_with (go_at_call 42; refine hct.mono ?_; rintro e w1 ⟨rfl, hb1⟩)
        all_goals
          refine wp_loop_rounds 1 ?_
          rw [rounds_succ]
          go_wp2
          go_ret
          exact ⟨ret_bool Hr.out.symm, hb1⟩
      · obtain ⟨b, off, rfl, hb, hc⟩ := SlR.cells6 hs h0
        have Hr : Hid (mayL xs = true ↔ xs.Pairwise idLt) := Lib.hid (by rw [mayL_iff]; exact ⟨fun h => h.2.2, fun h => ⟨h128, hall, h⟩⟩)
        have HC := Lib.hid hc
        clear hs hc hall
        obtain ⟨n, hn⟩ : ∃ n, n = xs.length := ⟨_, rfl⟩
        have hpos : 0 < n := by rw [hn]; exact List.length_pos_iff.2 h0
        clear h0
        rw [← hn] at hle h128 H hct ⊢
        have HN := Lib.hid hn; clear hn
        have H3 : ¬ (n = 0) := by omega
        have hmin : min (1 : Int) (n : Int) = 1 := by omega
        have Hpos := Lib.hid hpos; clear hpos
        generalize hr : mayL xs = r at Hr
        have HR := Lib.hid hr; clear hr
        by_cases hn1 : n = 1
        · subst hn1
          have Hr' : Hid (r = true) := Lib.hid (Hr.out.2 (pw_of_adj xs fun j x y hx hy => by
            have h1 := (List.getElem?_eq_some_iff.1 hy).1
            have h2 := HN.out
            omega))
          by_cases hcap : cap = 1
          all_goals
            (try subst hcap)
            go_enter Tryd.func17, Tryd.ntmps17
            go_wp2_with (go_at_call 42; refine hct.mono ?_; rintro e w1 ⟨rfl, hb1⟩)
            refine wp_loop_rounds 1 ?_
            rw [rounds_succ]
            go_wp2
            go_ret
            exact ⟨ret_bool Hr'.out.symm, hb1⟩
        · have hcap : ¬ cap = 1 := by omega
          go_enter Tryd.func17, Tryd.ntmps17
          go_wp2_with (go_at_call 42; refine hct.mono ?_; rintro e w1 ⟨rfl, hb1⟩)
          go_loopw [3, 17] (fun v i wr => (∃ k : Nat, k ≤ n - 1 ∧ i = .int .i64 k ∧ Hid (∀ (j : Nat) x y, j < k → xs[j]? = some x → xs[j+1]? = some y → idLt x y)) ∧ Hid (Below w.heap.size w wr)) (fun _ i _ => n - (intOf i).toNat)
          case atStart => exact ⟨⟨0, by omega, rfl, Lib.hid fun j x y hj => absurd hj (Nat.not_lt_zero _)⟩, Lib.hid hb1⟩
          case round =>
            obtain ⟨⟨k, hk, rfl, HP⟩, HB⟩ := hrel
            by_cases hlt : k < n - 1
            · obtain ⟨x, HX⟩ : ∃ x, Hid (xs[k]? = some x) := ⟨_, Lib.hid (List.getElem?_eq_getElem (by have := HN.out; omega))⟩
              obtain ⟨y, HY⟩ : ∃ y, Hid (xs[k+1]? = some y) := ⟨_, Lib.hid (List.getElem?_eq_getElem (by have := HN.out; omega))⟩
              obtain ⟨x0, x1, x2, x3, x4, x5⟩ := HC.out k x HX.out
              obtain ⟨y0, y1, y2, y3, y4, y5⟩ := HC.out (k + 1) y HY.out
              have i0 : (0 : Int) ≤ (k : Int) := Int.natCast_nonneg _
              have i1 : (k : Int) < (n : Int) := by omega
              have i2 : (0 : Int) ≤ (k : Int) + 1 := by omega
              have i3 : (k : Int) + 1 < (n : Int) := by omega
              have i4 : ((k : Int) + 1).toNat = k + 1 := by omega
              have i5 : IntKind.i64.wrap ((k : Int) + 1) = (k : Int) + 1 := IntWalk.i64_in _ (by omega)
              have hcm := @cmpI_neg x.id y.id
              generalize hcv : cmpI x.id y.id = cv at hcm
              have HCV := Lib.hid hcv; clear hcv
              have HCM := Lib.hid hcm; clear hcm
              go_wp2_with fail
              go_region_held3 (fun w' => GrS w w') (first | exact GrS.start HB.out | exact GrS.call (by assumption) hb2) (first | (go_at_call 44; refine (byID_c x y _).mono ?_; rintro e w1 ⟨rfl, hb2⟩))
              clear i0 i1 i2 i3 i4 i5
              rw [HCV.out]
              go_wp2
              · have hge : 0 ≤ cv := by assumption
                go_ret
                refine ⟨ret_bool ?_, GrS.fin (by assumption)⟩
                cases r with
                | false => rfl
                | true => exact absurd (HCM.out.2 (pw_adj (Hr.out.1 rfl) HX.out HY.out)) (by omega)
              · have hlt2 : cv < 0 := by assumption
                go_roundw
                case rel =>
                  refine ⟨⟨k + 1, by omega, by go_num, Lib.hid fun j x' y' hj hx' hy' => ?_⟩, Lib.hid (GrS.fin (by assumption))⟩
                  by_cases e : j = k
                  · subst e
                    have e1 := HX.out.symm.trans hx'
                    have e2 := HY.out.symm.trans hy'
                    injection e1 with e1; injection e2 with e2
                    subst e1; subst e2
                    exact HCM.out.1 hlt2
                  · exact HP.out j x' y' (by omega) hx' hy'
                case measure => simp [intOf]; omega
            · go_wp2
              go_ret
              refine ⟨ret_bool ?_, HB.out⟩
              refine (Hr.out.2 (pw_of_adj xs fun j x y hx hy => HP.out j x y ?_ hx hy)).symm
              have h1 := (List.getElem?_eq_some_iff.1 hy).1
              have h2 := HN.out
              omega
  · have H : decide (128 < (xs.length : Int)) = true := by simp; omega
    have Hr : Hid (mayL xs = false) := Lib.hid (by
      rw [Bool.eq_false_iff, ne_eq, mayL_iff]
      intro ⟨h1, _⟩; exact h128 h1)
    clear hs h128
    generalize xs.length = n at *
    go_enter Tryd.func17, Tryd.ntmps17
    go_wp2
    go_ret
    exact ⟨ret_bool Hr.out.symm, Below.refl _ _⟩
end Go.Proofs.YtecfajnmekpeoaaDoor
