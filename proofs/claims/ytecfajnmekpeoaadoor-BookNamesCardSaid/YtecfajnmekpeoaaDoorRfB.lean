/-
  Contracts of the document's own layer 16 (soukref16): Holds, May, Find, First's parts. Conditions: that slices read as lists.
-/
import Derived.Test.YtecfajnmekpeoaaDoorRfA
namespace Go.Proofs.YtecfajnmekpeoaaDoor
open Go.RowKit

set_option maxHeartbeats 2000000 in
theorem rHolds_c (o : Ord) (w : World) :
    Calls Tryd.prog 18 #[(.agg #[.int .i64 o.id, .int .i64 o.acct, .int .i64 o.inst, .int .u8 o.side, .int .i64 o.price, .int .i64 o.left])] w fun e w' => e = .returned (.tuple #[.int .i64 (holdsA o), .int .i64 (holdsN o)]) ∧ Below w.heap.size w w' := by
  obtain ⟨hA', HA'⟩ : ∃ x, Hid (x = holdsA o) := ⟨_, Lib.hid rfl⟩
  obtain ⟨hN', HN'⟩ : ∃ x, Hid (x = holdsN o) := ⟨_, Lib.hid rfl⟩
  rw [← HA'.out, ← HN'.out]
  cases hm : mayOne o with
  | false =>
    have H0 : Hid (hA' = 0 ∧ hN' = 0) := Lib.hid (by rw [HA'.out, HN'.out]; simp [holdsA, holdsN, hm])
    obtain ⟨W, hW, hWb, hWs, hA⟩ := box1 w #[.int .i64 o.id, .int .i64 o.acct, .int .i64 o.inst, .int .u8 o.side, .int .i64 o.price, .int .i64 o.left] 23
    have HWb := Lib.hid hWb; clear hWb
    have HG := Lib.hid (GrS.refl W)
    go_enter Tryd.func18, Tryd.ntmps18
    go_wp2_with (go_at_call 19; (with_reducible refine (rMayOne_v o _ hm _).mono ?_); rintro e w1 ⟨rfl, hb1⟩; replace HG := Lib.hid (GrS.call HG.out hb1); clear hb1; (try clear hG); have hG := HG.out)
    go_ret2
    exact ⟨ret_ii H0.out.1.symm H0.out.2.symm, grow_trans HWb.out HG.out.1⟩
  | true =>
    have hm' := mayOne_iff.1 hm
    have p1 : 0 ≤ o.price * o.left := Int.mul_nonneg (by omega) (by omega)
    have p2 : o.price * o.left ≤ 1073741824 * 1048576 := Int.mul_le_mul (by omega) (by omega) (by omega) (by omega)
    have p3 : IntKind.i64.wrap (o.price * o.left) = o.price * o.left := IntWalk.i64_in _ (by omega)
    clear hm'
    rcases Bool.eq_false_or_eq_true (o.side == 1) with e1 | e1
    · have H0 : Hid (hA' = 0 ∧ hN' = o.price * o.left) := Lib.hid (by rw [HA'.out, HN'.out]; simp at e1; simp [holdsA, holdsN, hm, e1])
      obtain ⟨W, hW, hWb, hWs, hA⟩ := box1 w #[.int .i64 o.id, .int .i64 o.acct, .int .i64 o.inst, .int .u8 o.side, .int .i64 o.price, .int .i64 o.left] 23
      have HWb := Lib.hid hWb; clear hWb
      have HG := Lib.hid (GrS.refl W)
      go_enter Tryd.func18, Tryd.ntmps18
      go_wp2_with (go_at_call 19; (with_reducible refine (rMayOne_v o _ hm _).mono ?_); rintro e w1 ⟨rfl, hb1⟩; replace HG := Lib.hid (GrS.call HG.out hb1); clear hb1; (try clear hG); have hG := HG.out)
      go_quiet (fail)
      go_wp2
      go_ret2
      exact ⟨ret_ii H0.out.1.symm (by rw [H0.out.2]), by first | exact grow_trans HWb.out HG.out.1 | exact grow_trans HWb.out (below_drewN HG.out.1 _)⟩
    · have H0 : Hid (hA' = o.inst ∧ hN' = o.left) := Lib.hid (by rw [HA'.out, HN'.out]; simp at e1; simp [holdsA, holdsN, hm, e1])
      obtain ⟨W, hW, hWb, hWs, hA⟩ := box1 w #[.int .i64 o.id, .int .i64 o.acct, .int .i64 o.inst, .int .u8 o.side, .int .i64 o.price, .int .i64 o.left] 23
      have HWb := Lib.hid hWb; clear hWb
      have HG := Lib.hid (GrS.refl W)
      go_enter Tryd.func18, Tryd.ntmps18
      go_wp2_with (go_at_call 19; (with_reducible refine (rMayOne_v o _ hm _).mono ?_); rintro e w1 ⟨rfl, hb1⟩; replace HG := Lib.hid (GrS.call HG.out hb1); clear hb1; (try clear hG); have hG := HG.out)
      go_quiet (fail)
      go_wp2
      go_ret2
      exact ⟨ret_ii H0.out.1.symm H0.out.2.symm, by first | exact grow_trans HWb.out HG.out.1 | exact grow_trans HWb.out (below_drewN HG.out.1 _)⟩

section
variable {xs : List Ord}
theorem may_step {k : Nat} {x : Ord} (hx : xs[k]? = some x) (h : MayL (xs.take k)) (h1 : mayOne x = true) (h2 : k < 128) (h3 : ∀ z, 0 < k → xs[k-1]? = some z → z.id < x.id) : MayL (xs.take (k + 1)) := by
  obtain ⟨hk, rfl⟩ := List.getElem?_eq_some_iff.1 hx
  obtain ⟨g1, g2, g3⟩ := h
  rw [List.take_succ_eq_append_getElem hk]
  refine ⟨by simp; omega, fun o ho => ?_, ?_⟩
  · rcases List.mem_append.1 ho with ho | ho
    · exact g2 o ho
    · simp at ho; subst ho; exact h1
  · rw [List.pairwise_append]
    refine ⟨g3, by simp, fun a ha b hb => ?_⟩
    simp at hb; subst hb
    obtain ⟨t, ht⟩ := List.getElem?_of_mem ha
    rw [List.getElem?_take] at ht
    split at ht
    · rename_i htk
      have hz : xs[k-1]? = some xs[k-1] := List.getElem?_eq_getElem (by omega)
      have h4 := h3 _ (by omega) hz
      by_cases e : t = k - 1
      · subst e; rw [hz] at ht; injection ht with ht; subst ht; exact h4
      · have hz' : (xs.take k)[k-1]? = some xs[k-1] := by rw [List.getElem?_take, if_pos (by omega)]; exact hz
        have ht' : (xs.take k)[t]? = some a := by rw [List.getElem?_take, if_pos htk]; exact ht
        have := pw_at g3 ht' hz' (by omega)
        unfold idLt; omega
    · cases ht
theorem may_not {k : Nat} {x : Ord} (hx : xs[k]? = some x) (h : 128 ≤ k ∨ mayOne x = false ∨ (0 < k ∧ ∃ z, xs[k-1]? = some z ∧ x.id ≤ z.id)) : mayL xs = false := by
  rw [Bool.eq_false_iff, ne_eq, mayL_iff]
  rintro ⟨g1, g2, g3⟩
  have hk := (List.getElem?_eq_some_iff.1 hx).1
  rcases h with h | h | ⟨h, z, hz, hle⟩
  · omega
  · rw [g2 x (List.mem_of_getElem? hx)] at h; cases h
  · have := pw_at g3 hz hx (by omega); omega
end
set_option maxHeartbeats 4000000 in
theorem rMay_c (a : Option Addr) (cap : Nat) (xs : List Ord) (w : World) (hs : SlO w a cap xs) :
    Calls Tryd.prog 20 #[.slice a xs.length cap] w fun e w' => e = .returned (.bool (mayL xs)) ∧ Below w.heap.size w w' := by
  have hle := hs.le
  have hmax := hs.max
  have HS := Lib.hid hs; clear hs
  obtain ⟨n, hn⟩ : ∃ n, n = xs.length := ⟨_, rfl⟩
  rw [← hn] at hle ⊢
  have HN := Lib.hid hn; clear hn
  generalize hr : mayL xs = r
  have HR := Lib.hid hr; clear hr
  go_enter Tryd.func20, Tryd.ntmps20
  go_wp2
  go_loopw [3] (fun i wr => (∃ k : Nat, k ≤ n ∧ i = .int .i64 k ∧ Hid (MayL (xs.take k))) ∧ Hid (Below w.heap.size w wr)) (fun i _ => n - (intOf i).toNat)
  case atStart => exact ⟨⟨0, Nat.zero_le _, rfl, Lib.hid (by rw [List.take_zero]; exact ⟨by simp, by simp, List.Pairwise.nil⟩)⟩, Lib.hid (Below.refl _ _)⟩
  case round =>
    obtain ⟨⟨k, hk, rfl, HM⟩, HB⟩ := hrel
    by_cases hlt : k < n
    · obtain ⟨x, HX⟩ : ∃ x, Hid (xs[k]? = some x) := ⟨_, Lib.hid (List.getElem?_eq_getElem (by have := HN.out; omega))⟩
      obtain ⟨b9, off, hla, hb9, h6⟩ := SlR.cells6 HS.out (by intro h; have := HX.out; rw [h] at this; simp at this)
      subst hla
      have H6 := Lib.hid h6; clear h6
      obtain ⟨x0, x1, x2, x3, x4, x5⟩ := H6.out k x HX.out
      have i0 : (0 : Int) ≤ (k : Int) := Int.natCast_nonneg _
      have i1 : (k : Int) < (n : Int) := by omega
      by_cases h128 : k < 128
      · have g1 : ((k : Int) ≥ 128) = False := by simp; omega
        have g2 : decide (128 ≤ (k : Int)) = false := by simp; omega
        cases hmx : mayOne x with
        | false =>
          have HF : Hid (r = false) := Lib.hid (by rw [← HR.out]; exact may_not HX.out (Or.inr (Or.inl hmx)))
          go_wp2_with fail
          refine wp_region_held_drew (S := fun w' => GrS w w') (by kernel_rfl) ?_ (fun hHeld => ?_)
          · exact GrS.start HB.out
          refine hx_take 0 (some 10) ?_ (by kernel_rfl) (by kernel_rfl) (by kernel_rfl) (by kernel_rfl) (by kernel_rfl) (fun _ _ _ h => h) (by assumption) (fun o ho w hSw => ?_) ?_
          rotate_left
          · replace ho := Option.some.inj ho
            conv at ho => lhs; whnf
            subst ho
            (try dsimp only at hSw)
            go_simp
            (try rfl)
          (try simp only [Act.put, List.setIfInBounds_toArray, List.set_cons_zero, List.set_cons_succ])
          refine hx_take 1 (some 11) ?_ (by kernel_rfl) (by kernel_rfl) (by kernel_rfl) (by kernel_rfl) (by kernel_rfl) (fun _ _ _ h => h) (by assumption) (fun o ho w hSw => ?_) ?_
          rotate_left
          · replace ho := Option.some.inj ho
            conv at ho => lhs; whnf
            subst ho
            (try dsimp only at hSw)
            go_simp
            (try rfl)
          (try simp only [Act.put, List.setIfInBounds_toArray, List.set_cons_zero, List.set_cons_succ])
          refine hx_take 2 (some 12) ?_ (by kernel_rfl) (by kernel_rfl) (by kernel_rfl) (by kernel_rfl) (by kernel_rfl) (fun _ _ _ h => h) (by assumption) (fun o ho w hSw => ?_) ?_
          rotate_left
          · replace ho := Option.some.inj ho
            conv at ho => lhs; whnf
            subst ho
            (try dsimp only at hSw)
            go_simp
            (try rfl)
          (try simp only [Act.put, List.setIfInBounds_toArray, List.set_cons_zero, List.set_cons_succ])
          refine hx_take 3 (some 13) ?_ (by kernel_rfl) (by kernel_rfl) (by kernel_rfl) (by kernel_rfl) (by kernel_rfl) (fun _ _ _ h => h) (by assumption) (fun o ho w hSw => ?_) ?_
          rotate_left
          · replace ho := Option.some.inj ho
            conv at ho => lhs; whnf
            subst ho
            (try dsimp only at hSw)
            go_simp
            (try rfl)
          (try simp only [Act.put, List.setIfInBounds_toArray, List.set_cons_zero, List.set_cons_succ])
          refine hx_take 4 (some 14) ?_ (by kernel_rfl) (by kernel_rfl) (by kernel_rfl) (by kernel_rfl) (by kernel_rfl) (fun _ _ _ h => h) (by assumption) (fun o ho w hSw => ?_) ?_
          rotate_left
          · replace ho := Option.some.inj ho
            conv at ho => lhs; whnf
            subst ho
            (try dsimp only at hSw)
            go_simp
            (try rfl)
          (try simp only [Act.put, List.setIfInBounds_toArray, List.set_cons_zero, List.set_cons_succ])
          refine hx_take 5 (some 15) ?_ (by kernel_rfl) (by kernel_rfl) (by kernel_rfl) (by kernel_rfl) (by kernel_rfl) (fun _ _ _ h => h) (by assumption) (fun o ho w hSw => ?_) ?_
          rotate_left
          · replace ho := Option.some.inj ho
            conv at ho => lhs; whnf
            subst ho
            (try dsimp only at hSw)
            go_simp
            (try rfl)
          (try simp only [Act.put, List.setIfInBounds_toArray, List.set_cons_zero, List.set_cons_succ])
          refine hx_take 6 (some 16) ?_ (by kernel_rfl) (by kernel_rfl) (by kernel_rfl) (by kernel_rfl) (by kernel_rfl) (fun _ _ _ h => h) (by assumption) (fun o ho w hSw => ?_) ?_
          rotate_left
          · replace ho := Option.some.inj ho
            conv at ho => lhs; whnf
            subst ho
            (try dsimp only at hSw)
            go_simp
            (try rfl)
          (try simp only [Act.put, List.setIfInBounds_toArray, List.set_cons_zero, List.set_cons_succ])
          refine hx_act 7 (some 17) (by kernel_rfl) (by kernel_rfl) (by kernel_rfl) (fun K hK o ho => ?_)
          replace ho := Option.some.inj ho
          conv at ho => lhs; whnf
          subst ho
          go_simp
          (go_at_call 19; (with_reducible refine (rMayOne_v x _ hmx _).mono ?_); rintro e w4 ⟨rfl, hb1⟩)
          first | (refine hK _ _ ?_ (fun hHeld => ?_)) | (go_wp2_with fail; refine hK _ _ ?_ (fun hHeld => ?_))
          · exact GrS.call (by assumption) hb1
          clear hK K
          (try simp only [Act.put, List.setIfInBounds_toArray, List.set_cons_zero, List.set_cons_succ])
          refine hx_take 8 (some 18) ?_ (by kernel_rfl) (by kernel_rfl) (by kernel_rfl) (by kernel_rfl) (by kernel_rfl) (fun _ _ _ h => h) (by assumption) (fun o ho w hSw => ?_) ?_
          rotate_left
          · replace ho := Option.some.inj ho
            conv at ho => lhs; whnf
            subst ho
            (try dsimp only at hSw)
            go_simp
            (try rfl)
          (try simp only [Act.put, List.setIfInBounds_toArray, List.set_cons_zero, List.set_cons_succ])
          refine hx_take 9 (some 19) ?_ (by kernel_rfl) (by kernel_rfl) (by kernel_rfl) (by kernel_rfl) (by kernel_rfl) (fun _ _ _ h => h) (by assumption) (fun o ho w hSw => ?_) ?_
          rotate_left
          · replace ho := Option.some.inj ho
            conv at ho => lhs; whnf
            subst ho
            (try dsimp only at hSw)
            go_simp
            (try rfl)
          (try simp only [Act.put, List.setIfInBounds_toArray, List.set_cons_zero, List.set_cons_succ])
          refine hx_take 10 (some 20) ?_ (by kernel_rfl) (by kernel_rfl) (by kernel_rfl) (by kernel_rfl) (by kernel_rfl) (fun _ _ _ h => h) (by assumption) (fun o ho w hSw => ?_) ?_
          rotate_left
          · replace ho := Option.some.inj ho
            conv at ho => lhs; whnf
            subst ho
            (try dsimp only at hSw)
            go_simp
            (try rfl)
          (try simp only [Act.put, List.setIfInBounds_toArray, List.set_cons_zero, List.set_cons_succ])
          (refine hx_skip 11 (some 21) (by kernel_rfl) (by kernel_rfl) (by kernel_rfl) (by kernel_rfl) (by kernel_rfl) (fun _ _ _ h => h) (by assumption) ?_; (try simp only [Act.put, List.setIfInBounds_toArray, List.set_cons_zero, List.set_cons_succ]))
          (refine hx_skip 12 (some 22) (by kernel_rfl) (by kernel_rfl) (by kernel_rfl) (by kernel_rfl) (by kernel_rfl) (fun _ _ _ h => h) (by assumption) ?_; (try simp only [Act.put, List.setIfInBounds_toArray, List.set_cons_zero, List.set_cons_succ]))
          (refine hx_skip 13 (some 23) (by kernel_rfl) (by kernel_rfl) (by kernel_rfl) (by kernel_rfl) (by kernel_rfl) (fun _ _ _ h => h) (by assumption) ?_; (try simp only [Act.put, List.setIfInBounds_toArray, List.set_cons_zero, List.set_cons_succ]))
          (refine hx_skip 14 (some 24) (by kernel_rfl) (by kernel_rfl) (by kernel_rfl) (by kernel_rfl) (by kernel_rfl) (fun _ _ _ h => h) (by assumption) ?_; (try simp only [Act.put, List.setIfInBounds_toArray, List.set_cons_zero, List.set_cons_succ]))
          (refine hx_skip 15 (some 25) (by kernel_rfl) (by kernel_rfl) (by kernel_rfl) (by kernel_rfl) (by kernel_rfl) (fun _ _ _ h => h) (by assumption) ?_; (try simp only [Act.put, List.setIfInBounds_toArray, List.set_cons_zero, List.set_cons_succ]))
          (refine hx_skip 16 (some 26) (by kernel_rfl) (by kernel_rfl) (by kernel_rfl) (by kernel_rfl) (by kernel_rfl) (fun _ _ _ h => h) (by assumption) ?_; (try simp only [Act.put, List.setIfInBounds_toArray, List.set_cons_zero, List.set_cons_succ]))
          (refine hx_skip 17 (some 27) (by kernel_rfl) (by kernel_rfl) (by kernel_rfl) (by kernel_rfl) (by kernel_rfl) (fun _ _ _ h => h) (by assumption) ?_; (try simp only [Act.put, List.setIfInBounds_toArray, List.set_cons_zero, List.set_cons_succ]))
          (refine hx_skip 18 (some 28) (by kernel_rfl) (by kernel_rfl) (by kernel_rfl) (by kernel_rfl) (by kernel_rfl) (fun _ _ _ h => h) (by assumption) ?_; (try simp only [Act.put, List.setIfInBounds_toArray, List.set_cons_zero, List.set_cons_succ]))
          (refine hx_skip 19 (some 29) (by kernel_rfl) (by kernel_rfl) (by kernel_rfl) (by kernel_rfl) (by kernel_rfl) (fun _ _ _ h => h) (by assumption) ?_; (try simp only [Act.put, List.setIfInBounds_toArray, List.set_cons_zero, List.set_cons_succ]))
          (refine hx_skip 20 (some 30) (by kernel_rfl) (by kernel_rfl) (by kernel_rfl) (by kernel_rfl) (by kernel_rfl) (fun _ _ _ h => h) (by assumption) ?_; (try simp only [Act.put, List.setIfInBounds_toArray, List.set_cons_zero, List.set_cons_succ]))
          (refine hx_skip 21 (some 31) (by kernel_rfl) (by kernel_rfl) (by kernel_rfl) (by kernel_rfl) (by kernel_rfl) (fun _ _ _ h => h) (by assumption) ?_; (try simp only [Act.put, List.setIfInBounds_toArray, List.set_cons_zero, List.set_cons_succ]))
          (refine hx_skip 22 (some 32) (by kernel_rfl) (by kernel_rfl) (by kernel_rfl) (by kernel_rfl) (by kernel_rfl) (fun _ _ _ h => h) (by assumption) ?_; (try simp only [Act.put, List.setIfInBounds_toArray, List.set_cons_zero, List.set_cons_succ]))
          (refine hx_skip 23 (some 33) (by kernel_rfl) (by kernel_rfl) (by kernel_rfl) (by kernel_rfl) (by kernel_rfl) (fun _ _ _ h => h) (by assumption) ?_; (try simp only [Act.put, List.setIfInBounds_toArray, List.set_cons_zero, List.set_cons_succ]))
          (refine hx_skip 24 (some 34) (by kernel_rfl) (by kernel_rfl) (by kernel_rfl) (by kernel_rfl) (by kernel_rfl) (fun _ _ _ h => h) (by assumption) ?_; (try simp only [Act.put, List.setIfInBounds_toArray, List.set_cons_zero, List.set_cons_succ]))
          (refine hx_skip 25 (some 35) (by kernel_rfl) (by kernel_rfl) (by kernel_rfl) (by kernel_rfl) (by kernel_rfl) (fun _ _ _ h => h) (by assumption) ?_; (try simp only [Act.put, List.setIfInBounds_toArray, List.set_cons_zero, List.set_cons_succ]))
          (refine hx_skip 26 (some 36) (by kernel_rfl) (by kernel_rfl) (by kernel_rfl) (by kernel_rfl) (by kernel_rfl) (fun _ _ _ h => h) (by assumption) ?_; (try simp only [Act.put, List.setIfInBounds_toArray, List.set_cons_zero, List.set_cons_succ]))
          refine hx_take 27 (some 37) ?_ (by kernel_rfl) (by kernel_rfl) (by kernel_rfl) (by kernel_rfl) (by kernel_rfl) (fun _ _ _ h => h) (by assumption) (fun o ho w hSw => ?_) ?_
          rotate_left
          · replace ho := Option.some.inj ho
            conv at ho => lhs; whnf
            subst ho
            (try dsimp only at hSw)
            go_simp
            (try rfl)
          (try simp only [Act.put, List.setIfInBounds_toArray, List.set_cons_zero, List.set_cons_succ])
          refine wpAnyH_done (by kernel_rfl) ?_ _
          have HGE := Lib.hid (show GrS w _ from by assumption)
          go_wp2
          go_ret
          exact ⟨ret_bool HF.out.symm, HGE.out.1⟩
        | true =>
          by_cases hk0 : k = 0
          · subst hk0
            clear x0 x1 x2 x3 x4 x5
            have H60 := H6.out 0 x HX.out
            rw [Nat.zero_mul, Nat.add_zero] at H60
            obtain ⟨x0, x1, x2, x3, x4, x5⟩ := H60
            go_wp2_with fail
            refine wp_region_held_drew (S := fun w' => GrS w w') (by kernel_rfl) ?_ (fun hHeld => ?_)
            · exact GrS.start HB.out
            refine hx_take 0 (some 10) ?_ (by kernel_rfl) (by kernel_rfl) (by kernel_rfl) (by kernel_rfl) (by kernel_rfl) (fun _ _ _ h => h) (by assumption) (fun o ho w hSw => ?_) ?_
            rotate_left
            · replace ho := Option.some.inj ho
              conv at ho => lhs; whnf
              subst ho
              (try dsimp only at hSw)
              go_simp
              (try rfl)
            (try simp only [Act.put, List.setIfInBounds_toArray, List.set_cons_zero, List.set_cons_succ])
            refine hx_take 1 (some 11) ?_ (by kernel_rfl) (by kernel_rfl) (by kernel_rfl) (by kernel_rfl) (by kernel_rfl) (fun _ _ _ h => h) (by assumption) (fun o ho w hSw => ?_) ?_
            rotate_left
            · replace ho := Option.some.inj ho
              conv at ho => lhs; whnf
              subst ho
              (try dsimp only at hSw)
              go_simp
              (try rfl)
            (try simp only [Act.put, List.setIfInBounds_toArray, List.set_cons_zero, List.set_cons_succ])
            refine hx_take 2 (some 12) ?_ (by kernel_rfl) (by kernel_rfl) (by kernel_rfl) (by kernel_rfl) (by kernel_rfl) (fun _ _ _ h => h) (by assumption) (fun o ho w hSw => ?_) ?_
            rotate_left
            · replace ho := Option.some.inj ho
              conv at ho => lhs; whnf
              subst ho
              (try dsimp only at hSw)
              go_simp
              (try rfl)
            (try simp only [Act.put, List.setIfInBounds_toArray, List.set_cons_zero, List.set_cons_succ])
            refine hx_take 3 (some 13) ?_ (by kernel_rfl) (by kernel_rfl) (by kernel_rfl) (by kernel_rfl) (by kernel_rfl) (fun _ _ _ h => h) (by assumption) (fun o ho w hSw => ?_) ?_
            rotate_left
            · replace ho := Option.some.inj ho
              conv at ho => lhs; whnf
              subst ho
              (try dsimp only at hSw)
              go_simp
              (try rfl)
            (try simp only [Act.put, List.setIfInBounds_toArray, List.set_cons_zero, List.set_cons_succ])
            refine hx_take 4 (some 14) ?_ (by kernel_rfl) (by kernel_rfl) (by kernel_rfl) (by kernel_rfl) (by kernel_rfl) (fun _ _ _ h => h) (by assumption) (fun o ho w hSw => ?_) ?_
            rotate_left
            · replace ho := Option.some.inj ho
              conv at ho => lhs; whnf
              subst ho
              (try dsimp only at hSw)
              go_simp
              (try rfl)
            (try simp only [Act.put, List.setIfInBounds_toArray, List.set_cons_zero, List.set_cons_succ])
            refine hx_take 5 (some 15) ?_ (by kernel_rfl) (by kernel_rfl) (by kernel_rfl) (by kernel_rfl) (by kernel_rfl) (fun _ _ _ h => h) (by assumption) (fun o ho w hSw => ?_) ?_
            rotate_left
            · replace ho := Option.some.inj ho
              conv at ho => lhs; whnf
              subst ho
              (try dsimp only at hSw)
              go_simp
              (try rfl)
            (try simp only [Act.put, List.setIfInBounds_toArray, List.set_cons_zero, List.set_cons_succ])
            refine hx_take 6 (some 16) ?_ (by kernel_rfl) (by kernel_rfl) (by kernel_rfl) (by kernel_rfl) (by kernel_rfl) (fun _ _ _ h => h) (by assumption) (fun o ho w hSw => ?_) ?_
            rotate_left
            · replace ho := Option.some.inj ho
              conv at ho => lhs; whnf
              subst ho
              (try dsimp only at hSw)
              go_simp
              (try rfl)
            (try simp only [Act.put, List.setIfInBounds_toArray, List.set_cons_zero, List.set_cons_succ])
            refine hx_act 7 (some 17) (by kernel_rfl) (by kernel_rfl) (by kernel_rfl) (fun K hK o ho => ?_)
            replace ho := Option.some.inj ho
            conv at ho => lhs; whnf
            subst ho
            go_simp
            (go_at_call 19; (with_reducible refine (rMayOne_v x _ hmx _).mono ?_); rintro e w4 ⟨rfl, hb1⟩)
            first | (refine hK _ _ ?_ (fun hHeld => ?_)) | (go_wp2_with fail; refine hK _ _ ?_ (fun hHeld => ?_))
            · exact GrS.call (by assumption) hb1
            clear hK K
            (try simp only [Act.put, List.setIfInBounds_toArray, List.set_cons_zero, List.set_cons_succ])
            refine hx_take 8 (some 18) ?_ (by kernel_rfl) (by kernel_rfl) (by kernel_rfl) (by kernel_rfl) (by kernel_rfl) (fun _ _ _ h => h) (by assumption) (fun o ho w hSw => ?_) ?_
            rotate_left
            · replace ho := Option.some.inj ho
              conv at ho => lhs; whnf
              subst ho
              (try dsimp only at hSw)
              go_simp
              (try rfl)
            (try simp only [Act.put, List.setIfInBounds_toArray, List.set_cons_zero, List.set_cons_succ])
            refine hx_take 9 (some 19) ?_ (by kernel_rfl) (by kernel_rfl) (by kernel_rfl) (by kernel_rfl) (by kernel_rfl) (fun _ _ _ h => h) (by assumption) (fun o ho w hSw => ?_) ?_
            rotate_left
            · replace ho := Option.some.inj ho
              conv at ho => lhs; whnf
              subst ho
              (try dsimp only at hSw)
              go_simp
              (try rfl)
            (try simp only [Act.put, List.setIfInBounds_toArray, List.set_cons_zero, List.set_cons_succ])
            refine hx_take 10 (some 20) ?_ (by kernel_rfl) (by kernel_rfl) (by kernel_rfl) (by kernel_rfl) (by kernel_rfl) (fun _ _ _ h => h) (by assumption) (fun o ho w hSw => ?_) ?_
            rotate_left
            · replace ho := Option.some.inj ho
              conv at ho => lhs; whnf
              subst ho
              (try dsimp only at hSw)
              go_simp
              (try rfl)
            (try simp only [Act.put, List.setIfInBounds_toArray, List.set_cons_zero, List.set_cons_succ])
            refine hx_take 11 (some 21) ?_ (by kernel_rfl) (by kernel_rfl) (by kernel_rfl) (by kernel_rfl) (by kernel_rfl) (fun _ _ _ h => h) (by assumption) (fun o ho w hSw => ?_) ?_
            rotate_left
            · replace ho := Option.some.inj ho
              conv at ho => lhs; whnf
              subst ho
              (try dsimp only at hSw)
              go_simp
              (try rfl)
            (try simp only [Act.put, List.setIfInBounds_toArray, List.set_cons_zero, List.set_cons_succ])
            refine hx_take 12 (some 22) ?_ (by kernel_rfl) (by kernel_rfl) (by kernel_rfl) (by kernel_rfl) (by kernel_rfl) (fun _ _ _ h => h) (by assumption) (fun o ho w hSw => ?_) ?_
            rotate_left
            · replace ho := Option.some.inj ho
              conv at ho => lhs; whnf
              subst ho
              (try dsimp only at hSw)
              go_simp
              (try rfl)
            (try simp only [Act.put, List.setIfInBounds_toArray, List.set_cons_zero, List.set_cons_succ])
            refine hx_take 13 (some 23) ?_ (by kernel_rfl) (by kernel_rfl) (by kernel_rfl) (by kernel_rfl) (by kernel_rfl) (fun _ _ _ h => h) (by assumption) (fun o ho w hSw => ?_) ?_
            rotate_left
            · replace ho := Option.some.inj ho
              conv at ho => lhs; whnf
              subst ho
              (try dsimp only at hSw)
              go_simp
              (try rfl)
            (try simp only [Act.put, List.setIfInBounds_toArray, List.set_cons_zero, List.set_cons_succ])
            (refine hx_skip 14 (some 24) (by kernel_rfl) (by kernel_rfl) (by kernel_rfl) (by kernel_rfl) (by kernel_rfl) (fun _ _ _ h => h) (by assumption) ?_; (try simp only [Act.put, List.setIfInBounds_toArray, List.set_cons_zero, List.set_cons_succ]))
            (refine hx_skip 15 (some 25) (by kernel_rfl) (by kernel_rfl) (by kernel_rfl) (by kernel_rfl) (by kernel_rfl) (fun _ _ _ h => h) (by assumption) ?_; (try simp only [Act.put, List.setIfInBounds_toArray, List.set_cons_zero, List.set_cons_succ]))
            (refine hx_skip 16 (some 26) (by kernel_rfl) (by kernel_rfl) (by kernel_rfl) (by kernel_rfl) (by kernel_rfl) (fun _ _ _ h => h) (by assumption) ?_; (try simp only [Act.put, List.setIfInBounds_toArray, List.set_cons_zero, List.set_cons_succ]))
            (refine hx_skip 17 (some 27) (by kernel_rfl) (by kernel_rfl) (by kernel_rfl) (by kernel_rfl) (by kernel_rfl) (fun _ _ _ h => h) (by assumption) ?_; (try simp only [Act.put, List.setIfInBounds_toArray, List.set_cons_zero, List.set_cons_succ]))
            (refine hx_skip 18 (some 28) (by kernel_rfl) (by kernel_rfl) (by kernel_rfl) (by kernel_rfl) (by kernel_rfl) (fun _ _ _ h => h) (by assumption) ?_; (try simp only [Act.put, List.setIfInBounds_toArray, List.set_cons_zero, List.set_cons_succ]))
            (refine hx_skip 19 (some 29) (by kernel_rfl) (by kernel_rfl) (by kernel_rfl) (by kernel_rfl) (by kernel_rfl) (fun _ _ _ h => h) (by assumption) ?_; (try simp only [Act.put, List.setIfInBounds_toArray, List.set_cons_zero, List.set_cons_succ]))
            (refine hx_skip 20 (some 30) (by kernel_rfl) (by kernel_rfl) (by kernel_rfl) (by kernel_rfl) (by kernel_rfl) (fun _ _ _ h => h) (by assumption) ?_; (try simp only [Act.put, List.setIfInBounds_toArray, List.set_cons_zero, List.set_cons_succ]))
            (refine hx_skip 21 (some 31) (by kernel_rfl) (by kernel_rfl) (by kernel_rfl) (by kernel_rfl) (by kernel_rfl) (fun _ _ _ h => h) (by assumption) ?_; (try simp only [Act.put, List.setIfInBounds_toArray, List.set_cons_zero, List.set_cons_succ]))
            (refine hx_skip 22 (some 32) (by kernel_rfl) (by kernel_rfl) (by kernel_rfl) (by kernel_rfl) (by kernel_rfl) (fun _ _ _ h => h) (by assumption) ?_; (try simp only [Act.put, List.setIfInBounds_toArray, List.set_cons_zero, List.set_cons_succ]))
            (refine hx_skip 23 (some 33) (by kernel_rfl) (by kernel_rfl) (by kernel_rfl) (by kernel_rfl) (by kernel_rfl) (fun _ _ _ h => h) (by assumption) ?_; (try simp only [Act.put, List.setIfInBounds_toArray, List.set_cons_zero, List.set_cons_succ]))
            (refine hx_skip 24 (some 34) (by kernel_rfl) (by kernel_rfl) (by kernel_rfl) (by kernel_rfl) (by kernel_rfl) (fun _ _ _ h => h) (by assumption) ?_; (try simp only [Act.put, List.setIfInBounds_toArray, List.set_cons_zero, List.set_cons_succ]))
            (refine hx_skip 25 (some 35) (by kernel_rfl) (by kernel_rfl) (by kernel_rfl) (by kernel_rfl) (by kernel_rfl) (fun _ _ _ h => h) (by assumption) ?_; (try simp only [Act.put, List.setIfInBounds_toArray, List.set_cons_zero, List.set_cons_succ]))
            refine hx_take 26 (some 36) ?_ (by kernel_rfl) (by kernel_rfl) (by kernel_rfl) (by kernel_rfl) (by kernel_rfl) (fun _ _ _ h => h) (by assumption) (fun o ho w hSw => ?_) ?_
            rotate_left
            · replace ho := Option.some.inj ho
              conv at ho => lhs; whnf
              subst ho
              (try dsimp only at hSw)
              go_simp
              (try rfl)
            (try simp only [Act.put, List.setIfInBounds_toArray, List.set_cons_zero, List.set_cons_succ])
            refine hx_take 27 (some 37) ?_ (by kernel_rfl) (by kernel_rfl) (by kernel_rfl) (by kernel_rfl) (by kernel_rfl) (fun _ _ _ h => h) (by assumption) (fun o ho w hSw => ?_) ?_
            rotate_left
            · replace ho := Option.some.inj ho
              conv at ho => lhs; whnf
              subst ho
              (try dsimp only at hSw)
              go_simp
              (try rfl)
            (try simp only [Act.put, List.setIfInBounds_toArray, List.set_cons_zero, List.set_cons_succ])
            refine wpAnyH_done (by kernel_rfl) ?_ _
            have HGE := Lib.hid (show GrS w _ from by assumption)
            go_wp2
            go_roundw
            case rel => exact ⟨⟨1, by omega, rfl, Lib.hid (may_step HX.out HM.out hmx (by omega) (fun _ h => by omega))⟩, Lib.hid HGE.out.1⟩
            case measure => simp [intOf]; omega
          · obtain ⟨z, HZ⟩ : ∃ z, Hid (xs[k-1]? = some z) := ⟨_, Lib.hid (List.getElem?_eq_getElem (by have := HN.out; omega))⟩
            obtain ⟨z0, z1, z2, z3, z4, z5⟩ := H6.out (k-1) z HZ.out
            have hp1 : 0 < k := by omega
            have hp2 : (0 : Int) < (k : Int) := by omega
            have hp3 : (1 : Int) ≤ (k : Int) := by omega
            have q0 : (0 : Int) ≤ (k : Int) - 1 := by omega
            have q1 : (k : Int) - 1 < (n : Int) := by omega
            have q2 : ((k : Int) - 1).toNat = k - 1 := by omega
            have q3 : IntKind.i64.wrap ((k : Int) - 1) = (k : Int) - 1 := IntWalk.i64_in _ (by omega)
            by_cases hid : x.id ≤ z.id
            · have HF : Hid (r = false) := Lib.hid (by rw [← HR.out]; exact may_not HX.out (Or.inr (Or.inr ⟨hp1, z, HZ.out, hid⟩)))
              go_wp2_with fail
              refine wp_region_held_drew (S := fun w' => GrS w w') (by kernel_rfl) ?_ (fun hHeld => ?_)
              · exact GrS.start HB.out
              refine hx_take 0 (some 10) ?_ (by kernel_rfl) (by kernel_rfl) (by kernel_rfl) (by kernel_rfl) (by kernel_rfl) (fun _ _ _ h => h) (by assumption) (fun o ho w hSw => ?_) ?_
              rotate_left
              · replace ho := Option.some.inj ho
                conv at ho => lhs; whnf
                subst ho
                (try dsimp only at hSw)
                go_simp
                (try rfl)
              (try simp only [Act.put, List.setIfInBounds_toArray, List.set_cons_zero, List.set_cons_succ])
              refine hx_take 1 (some 11) ?_ (by kernel_rfl) (by kernel_rfl) (by kernel_rfl) (by kernel_rfl) (by kernel_rfl) (fun _ _ _ h => h) (by assumption) (fun o ho w hSw => ?_) ?_
              rotate_left
              · replace ho := Option.some.inj ho
                conv at ho => lhs; whnf
                subst ho
                (try dsimp only at hSw)
                go_simp
                (try rfl)
              (try simp only [Act.put, List.setIfInBounds_toArray, List.set_cons_zero, List.set_cons_succ])
              refine hx_take 2 (some 12) ?_ (by kernel_rfl) (by kernel_rfl) (by kernel_rfl) (by kernel_rfl) (by kernel_rfl) (fun _ _ _ h => h) (by assumption) (fun o ho w hSw => ?_) ?_
              rotate_left
              · replace ho := Option.some.inj ho
                conv at ho => lhs; whnf
                subst ho
                (try dsimp only at hSw)
                go_simp
                (try rfl)
              (try simp only [Act.put, List.setIfInBounds_toArray, List.set_cons_zero, List.set_cons_succ])
              refine hx_take 3 (some 13) ?_ (by kernel_rfl) (by kernel_rfl) (by kernel_rfl) (by kernel_rfl) (by kernel_rfl) (fun _ _ _ h => h) (by assumption) (fun o ho w hSw => ?_) ?_
              rotate_left
              · replace ho := Option.some.inj ho
                conv at ho => lhs; whnf
                subst ho
                (try dsimp only at hSw)
                go_simp
                (try rfl)
              (try simp only [Act.put, List.setIfInBounds_toArray, List.set_cons_zero, List.set_cons_succ])
              refine hx_take 4 (some 14) ?_ (by kernel_rfl) (by kernel_rfl) (by kernel_rfl) (by kernel_rfl) (by kernel_rfl) (fun _ _ _ h => h) (by assumption) (fun o ho w hSw => ?_) ?_
              rotate_left
              · replace ho := Option.some.inj ho
                conv at ho => lhs; whnf
                subst ho
                (try dsimp only at hSw)
                go_simp
                (try rfl)
              (try simp only [Act.put, List.setIfInBounds_toArray, List.set_cons_zero, List.set_cons_succ])
              refine hx_take 5 (some 15) ?_ (by kernel_rfl) (by kernel_rfl) (by kernel_rfl) (by kernel_rfl) (by kernel_rfl) (fun _ _ _ h => h) (by assumption) (fun o ho w hSw => ?_) ?_
              rotate_left
              · replace ho := Option.some.inj ho
                conv at ho => lhs; whnf
                subst ho
                (try dsimp only at hSw)
                go_simp
                (try rfl)
              (try simp only [Act.put, List.setIfInBounds_toArray, List.set_cons_zero, List.set_cons_succ])
              refine hx_take 6 (some 16) ?_ (by kernel_rfl) (by kernel_rfl) (by kernel_rfl) (by kernel_rfl) (by kernel_rfl) (fun _ _ _ h => h) (by assumption) (fun o ho w hSw => ?_) ?_
              rotate_left
              · replace ho := Option.some.inj ho
                conv at ho => lhs; whnf
                subst ho
                (try dsimp only at hSw)
                go_simp
                (try rfl)
              (try simp only [Act.put, List.setIfInBounds_toArray, List.set_cons_zero, List.set_cons_succ])
              refine hx_act 7 (some 17) (by kernel_rfl) (by kernel_rfl) (by kernel_rfl) (fun K hK o ho => ?_)
              replace ho := Option.some.inj ho
              conv at ho => lhs; whnf
              subst ho
              go_simp
              (go_at_call 19; (with_reducible refine (rMayOne_v x _ hmx _).mono ?_); rintro e w4 ⟨rfl, hb1⟩)
              first | (refine hK _ _ ?_ (fun hHeld => ?_)) | (go_wp2_with fail; refine hK _ _ ?_ (fun hHeld => ?_))
              · exact GrS.call (by assumption) hb1
              clear hK K
              (try simp only [Act.put, List.setIfInBounds_toArray, List.set_cons_zero, List.set_cons_succ])
              refine hx_take 8 (some 18) ?_ (by kernel_rfl) (by kernel_rfl) (by kernel_rfl) (by kernel_rfl) (by kernel_rfl) (fun _ _ _ h => h) (by assumption) (fun o ho w hSw => ?_) ?_
              rotate_left
              · replace ho := Option.some.inj ho
                conv at ho => lhs; whnf
                subst ho
                (try dsimp only at hSw)
                go_simp
                (try rfl)
              (try simp only [Act.put, List.setIfInBounds_toArray, List.set_cons_zero, List.set_cons_succ])
              refine hx_take 9 (some 19) ?_ (by kernel_rfl) (by kernel_rfl) (by kernel_rfl) (by kernel_rfl) (by kernel_rfl) (fun _ _ _ h => h) (by assumption) (fun o ho w hSw => ?_) ?_
              rotate_left
              · replace ho := Option.some.inj ho
                conv at ho => lhs; whnf
                subst ho
                (try dsimp only at hSw)
                go_simp
                (try rfl)
              (try simp only [Act.put, List.setIfInBounds_toArray, List.set_cons_zero, List.set_cons_succ])
              refine hx_take 10 (some 20) ?_ (by kernel_rfl) (by kernel_rfl) (by kernel_rfl) (by kernel_rfl) (by kernel_rfl) (fun _ _ _ h => h) (by assumption) (fun o ho w hSw => ?_) ?_
              rotate_left
              · replace ho := Option.some.inj ho
                conv at ho => lhs; whnf
                subst ho
                (try dsimp only at hSw)
                go_simp
                (try rfl)
              (try simp only [Act.put, List.setIfInBounds_toArray, List.set_cons_zero, List.set_cons_succ])
              refine hx_take 11 (some 21) ?_ (by kernel_rfl) (by kernel_rfl) (by kernel_rfl) (by kernel_rfl) (by kernel_rfl) (fun _ _ _ h => h) (by assumption) (fun o ho w hSw => ?_) ?_
              rotate_left
              · replace ho := Option.some.inj ho
                conv at ho => lhs; whnf
                subst ho
                (try dsimp only at hSw)
                go_simp
                (try rfl)
              (try simp only [Act.put, List.setIfInBounds_toArray, List.set_cons_zero, List.set_cons_succ])
              refine hx_take 12 (some 22) ?_ (by kernel_rfl) (by kernel_rfl) (by kernel_rfl) (by kernel_rfl) (by kernel_rfl) (fun _ _ _ h => h) (by assumption) (fun o ho w hSw => ?_) ?_
              rotate_left
              · replace ho := Option.some.inj ho
                conv at ho => lhs; whnf
                subst ho
                (try dsimp only at hSw)
                go_simp
                (try rfl)
              (try simp only [Act.put, List.setIfInBounds_toArray, List.set_cons_zero, List.set_cons_succ])
              refine hx_take 13 (some 23) ?_ (by kernel_rfl) (by kernel_rfl) (by kernel_rfl) (by kernel_rfl) (by kernel_rfl) (fun _ _ _ h => h) (by assumption) (fun o ho w hSw => ?_) ?_
              rotate_left
              · replace ho := Option.some.inj ho
                conv at ho => lhs; whnf
                subst ho
                (try dsimp only at hSw)
                go_simp
                (try rfl)
              (try simp only [Act.put, List.setIfInBounds_toArray, List.set_cons_zero, List.set_cons_succ])
              refine hx_take 14 (some 24) ?_ (by kernel_rfl) (by kernel_rfl) (by kernel_rfl) (by kernel_rfl) (by kernel_rfl) (fun _ _ _ h => h) (by assumption) (fun o ho w hSw => ?_) ?_
              rotate_left
              · replace ho := Option.some.inj ho
                conv at ho => lhs; whnf
                subst ho
                (try dsimp only at hSw)
                go_simp
                (try rfl)
              (try simp only [Act.put, List.setIfInBounds_toArray, List.set_cons_zero, List.set_cons_succ])
              refine hx_take 15 (some 25) ?_ (by kernel_rfl) (by kernel_rfl) (by kernel_rfl) (by kernel_rfl) (by kernel_rfl) (fun _ _ _ h => h) (by assumption) (fun o ho w hSw => ?_) ?_
              rotate_left
              · replace ho := Option.some.inj ho
                conv at ho => lhs; whnf
                subst ho
                (try dsimp only at hSw)
                go_simp
                (try rfl)
              (try simp only [Act.put, List.setIfInBounds_toArray, List.set_cons_zero, List.set_cons_succ])
              refine hx_take 16 (some 26) ?_ (by kernel_rfl) (by kernel_rfl) (by kernel_rfl) (by kernel_rfl) (by kernel_rfl) (fun _ _ _ h => h) (by assumption) (fun o ho w hSw => ?_) ?_
              rotate_left
              · replace ho := Option.some.inj ho
                conv at ho => lhs; whnf
                subst ho
                (try dsimp only at hSw)
                go_simp
                (try rfl)
              (try simp only [Act.put, List.setIfInBounds_toArray, List.set_cons_zero, List.set_cons_succ])
              refine hx_take 17 (some 27) ?_ (by kernel_rfl) (by kernel_rfl) (by kernel_rfl) (by kernel_rfl) (by kernel_rfl) (fun _ _ _ h => h) (by assumption) (fun o ho w hSw => ?_) ?_
              rotate_left
              · replace ho := Option.some.inj ho
                conv at ho => lhs; whnf
                subst ho
                (try dsimp only at hSw)
                go_simp
                (try rfl)
              (try simp only [Act.put, List.setIfInBounds_toArray, List.set_cons_zero, List.set_cons_succ])
              refine hx_take 18 (some 28) ?_ (by kernel_rfl) (by kernel_rfl) (by kernel_rfl) (by kernel_rfl) (by kernel_rfl) (fun _ _ _ h => h) (by assumption) (fun o ho w hSw => ?_) ?_
              rotate_left
              · replace ho := Option.some.inj ho
                conv at ho => lhs; whnf
                subst ho
                (try dsimp only at hSw)
                go_simp
                (try rfl)
              (try simp only [Act.put, List.setIfInBounds_toArray, List.set_cons_zero, List.set_cons_succ])
              refine hx_take 19 (some 29) ?_ (by kernel_rfl) (by kernel_rfl) (by kernel_rfl) (by kernel_rfl) (by kernel_rfl) (fun _ _ _ h => h) (by assumption) (fun o ho w hSw => ?_) ?_
              rotate_left
              · replace ho := Option.some.inj ho
                conv at ho => lhs; whnf
                subst ho
                (try dsimp only at hSw)
                go_simp
                (try rfl)
              (try simp only [Act.put, List.setIfInBounds_toArray, List.set_cons_zero, List.set_cons_succ])
              refine hx_take 20 (some 30) ?_ (by kernel_rfl) (by kernel_rfl) (by kernel_rfl) (by kernel_rfl) (by kernel_rfl) (fun _ _ _ h => h) (by assumption) (fun o ho w hSw => ?_) ?_
              rotate_left
              · replace ho := Option.some.inj ho
                conv at ho => lhs; whnf
                subst ho
                (try dsimp only at hSw)
                go_simp
                (try rfl)
              (try simp only [Act.put, List.setIfInBounds_toArray, List.set_cons_zero, List.set_cons_succ])
              refine hx_take 21 (some 31) ?_ (by kernel_rfl) (by kernel_rfl) (by kernel_rfl) (by kernel_rfl) (by kernel_rfl) (fun _ _ _ h => h) (by assumption) (fun o ho w hSw => ?_) ?_
              rotate_left
              · replace ho := Option.some.inj ho
                conv at ho => lhs; whnf
                subst ho
                (try dsimp only at hSw)
                go_simp
                (try rfl)
              (try simp only [Act.put, List.setIfInBounds_toArray, List.set_cons_zero, List.set_cons_succ])
              refine hx_take 22 (some 32) ?_ (by kernel_rfl) (by kernel_rfl) (by kernel_rfl) (by kernel_rfl) (by kernel_rfl) (fun _ _ _ h => h) (by assumption) (fun o ho w hSw => ?_) ?_
              rotate_left
              · replace ho := Option.some.inj ho
                conv at ho => lhs; whnf
                subst ho
                (try dsimp only at hSw)
                go_simp
                (try rfl)
              (try simp only [Act.put, List.setIfInBounds_toArray, List.set_cons_zero, List.set_cons_succ])
              refine hx_take 23 (some 33) ?_ (by kernel_rfl) (by kernel_rfl) (by kernel_rfl) (by kernel_rfl) (by kernel_rfl) (fun _ _ _ h => h) (by assumption) (fun o ho w hSw => ?_) ?_
              rotate_left
              · replace ho := Option.some.inj ho
                conv at ho => lhs; whnf
                subst ho
                (try dsimp only at hSw)
                go_simp
                (try rfl)
              (try simp only [Act.put, List.setIfInBounds_toArray, List.set_cons_zero, List.set_cons_succ])
              refine hx_take 24 (some 34) ?_ (by kernel_rfl) (by kernel_rfl) (by kernel_rfl) (by kernel_rfl) (by kernel_rfl) (fun _ _ _ h => h) (by assumption) (fun o ho w hSw => ?_) ?_
              rotate_left
              · replace ho := Option.some.inj ho
                conv at ho => lhs; whnf
                subst ho
                (try dsimp only at hSw)
                go_simp
                (try rfl)
              (try simp only [Act.put, List.setIfInBounds_toArray, List.set_cons_zero, List.set_cons_succ])
              refine hx_take 25 (some 35) ?_ (by kernel_rfl) (by kernel_rfl) (by kernel_rfl) (by kernel_rfl) (by kernel_rfl) (fun _ _ _ h => h) (by assumption) (fun o ho w hSw => ?_) ?_
              rotate_left
              · replace ho := Option.some.inj ho
                conv at ho => lhs; whnf
                subst ho
                (try dsimp only at hSw)
                go_simp
                (try rfl)
              (try simp only [Act.put, List.setIfInBounds_toArray, List.set_cons_zero, List.set_cons_succ])
              refine hx_take 26 (some 36) ?_ (by kernel_rfl) (by kernel_rfl) (by kernel_rfl) (by kernel_rfl) (by kernel_rfl) (fun _ _ _ h => h) (by assumption) (fun o ho w hSw => ?_) ?_
              rotate_left
              · replace ho := Option.some.inj ho
                conv at ho => lhs; whnf
                subst ho
                (try dsimp only at hSw)
                go_simp
                (try rfl)
              (try simp only [Act.put, List.setIfInBounds_toArray, List.set_cons_zero, List.set_cons_succ])
              refine hx_take 27 (some 37) ?_ (by kernel_rfl) (by kernel_rfl) (by kernel_rfl) (by kernel_rfl) (by kernel_rfl) (fun _ _ _ h => h) (by assumption) (fun o ho w hSw => ?_) ?_
              rotate_left
              · replace ho := Option.some.inj ho
                conv at ho => lhs; whnf
                subst ho
                (try dsimp only at hSw)
                go_simp
                (try rfl)
              (try simp only [Act.put, List.setIfInBounds_toArray, List.set_cons_zero, List.set_cons_succ])
              refine wpAnyH_done (by kernel_rfl) ?_ _
              have HGE := Lib.hid (show GrS w _ from by assumption)
              go_wp2
              go_ret
              exact ⟨ret_bool HF.out.symm, HGE.out.1⟩
            · have hid' : z.id < x.id := by omega
              have hid2 : decide (x.id ≤ z.id) = false := by simp; omega
              go_wp2_with fail
              refine wp_region_held_drew (S := fun w' => GrS w w') (by kernel_rfl) ?_ (fun hHeld => ?_)
              · exact GrS.start HB.out
              refine hx_take 0 (some 10) ?_ (by kernel_rfl) (by kernel_rfl) (by kernel_rfl) (by kernel_rfl) (by kernel_rfl) (fun _ _ _ h => h) (by assumption) (fun o ho w hSw => ?_) ?_
              rotate_left
              · replace ho := Option.some.inj ho
                conv at ho => lhs; whnf
                subst ho
                (try dsimp only at hSw)
                go_simp
                (try rfl)
              (try simp only [Act.put, List.setIfInBounds_toArray, List.set_cons_zero, List.set_cons_succ])
              refine hx_take 1 (some 11) ?_ (by kernel_rfl) (by kernel_rfl) (by kernel_rfl) (by kernel_rfl) (by kernel_rfl) (fun _ _ _ h => h) (by assumption) (fun o ho w hSw => ?_) ?_
              rotate_left
              · replace ho := Option.some.inj ho
                conv at ho => lhs; whnf
                subst ho
                (try dsimp only at hSw)
                go_simp
                (try rfl)
              (try simp only [Act.put, List.setIfInBounds_toArray, List.set_cons_zero, List.set_cons_succ])
              refine hx_take 2 (some 12) ?_ (by kernel_rfl) (by kernel_rfl) (by kernel_rfl) (by kernel_rfl) (by kernel_rfl) (fun _ _ _ h => h) (by assumption) (fun o ho w hSw => ?_) ?_
              rotate_left
              · replace ho := Option.some.inj ho
                conv at ho => lhs; whnf
                subst ho
                (try dsimp only at hSw)
                go_simp
                (try rfl)
              (try simp only [Act.put, List.setIfInBounds_toArray, List.set_cons_zero, List.set_cons_succ])
              refine hx_take 3 (some 13) ?_ (by kernel_rfl) (by kernel_rfl) (by kernel_rfl) (by kernel_rfl) (by kernel_rfl) (fun _ _ _ h => h) (by assumption) (fun o ho w hSw => ?_) ?_
              rotate_left
              · replace ho := Option.some.inj ho
                conv at ho => lhs; whnf
                subst ho
                (try dsimp only at hSw)
                go_simp
                (try rfl)
              (try simp only [Act.put, List.setIfInBounds_toArray, List.set_cons_zero, List.set_cons_succ])
              refine hx_take 4 (some 14) ?_ (by kernel_rfl) (by kernel_rfl) (by kernel_rfl) (by kernel_rfl) (by kernel_rfl) (fun _ _ _ h => h) (by assumption) (fun o ho w hSw => ?_) ?_
              rotate_left
              · replace ho := Option.some.inj ho
                conv at ho => lhs; whnf
                subst ho
                (try dsimp only at hSw)
                go_simp
                (try rfl)
              (try simp only [Act.put, List.setIfInBounds_toArray, List.set_cons_zero, List.set_cons_succ])
              refine hx_take 5 (some 15) ?_ (by kernel_rfl) (by kernel_rfl) (by kernel_rfl) (by kernel_rfl) (by kernel_rfl) (fun _ _ _ h => h) (by assumption) (fun o ho w hSw => ?_) ?_
              rotate_left
              · replace ho := Option.some.inj ho
                conv at ho => lhs; whnf
                subst ho
                (try dsimp only at hSw)
                go_simp
                (try rfl)
              (try simp only [Act.put, List.setIfInBounds_toArray, List.set_cons_zero, List.set_cons_succ])
              refine hx_take 6 (some 16) ?_ (by kernel_rfl) (by kernel_rfl) (by kernel_rfl) (by kernel_rfl) (by kernel_rfl) (fun _ _ _ h => h) (by assumption) (fun o ho w hSw => ?_) ?_
              rotate_left
              · replace ho := Option.some.inj ho
                conv at ho => lhs; whnf
                subst ho
                (try dsimp only at hSw)
                go_simp
                (try rfl)
              (try simp only [Act.put, List.setIfInBounds_toArray, List.set_cons_zero, List.set_cons_succ])
              refine hx_act 7 (some 17) (by kernel_rfl) (by kernel_rfl) (by kernel_rfl) (fun K hK o ho => ?_)
              replace ho := Option.some.inj ho
              conv at ho => lhs; whnf
              subst ho
              go_simp
              (go_at_call 19; (with_reducible refine (rMayOne_v x _ hmx _).mono ?_); rintro e w4 ⟨rfl, hb1⟩)
              first | (refine hK _ _ ?_ (fun hHeld => ?_)) | (go_wp2_with fail; refine hK _ _ ?_ (fun hHeld => ?_))
              · exact GrS.call (by assumption) hb1
              clear hK K
              (try simp only [Act.put, List.setIfInBounds_toArray, List.set_cons_zero, List.set_cons_succ])
              refine hx_take 8 (some 18) ?_ (by kernel_rfl) (by kernel_rfl) (by kernel_rfl) (by kernel_rfl) (by kernel_rfl) (fun _ _ _ h => h) (by assumption) (fun o ho w hSw => ?_) ?_
              rotate_left
              · replace ho := Option.some.inj ho
                conv at ho => lhs; whnf
                subst ho
                (try dsimp only at hSw)
                go_simp
                (try rfl)
              (try simp only [Act.put, List.setIfInBounds_toArray, List.set_cons_zero, List.set_cons_succ])
              refine hx_take 9 (some 19) ?_ (by kernel_rfl) (by kernel_rfl) (by kernel_rfl) (by kernel_rfl) (by kernel_rfl) (fun _ _ _ h => h) (by assumption) (fun o ho w hSw => ?_) ?_
              rotate_left
              · replace ho := Option.some.inj ho
                conv at ho => lhs; whnf
                subst ho
                (try dsimp only at hSw)
                go_simp
                (try rfl)
              (try simp only [Act.put, List.setIfInBounds_toArray, List.set_cons_zero, List.set_cons_succ])
              refine hx_take 10 (some 20) ?_ (by kernel_rfl) (by kernel_rfl) (by kernel_rfl) (by kernel_rfl) (by kernel_rfl) (fun _ _ _ h => h) (by assumption) (fun o ho w hSw => ?_) ?_
              rotate_left
              · replace ho := Option.some.inj ho
                conv at ho => lhs; whnf
                subst ho
                (try dsimp only at hSw)
                go_simp
                (try rfl)
              (try simp only [Act.put, List.setIfInBounds_toArray, List.set_cons_zero, List.set_cons_succ])
              refine hx_take 11 (some 21) ?_ (by kernel_rfl) (by kernel_rfl) (by kernel_rfl) (by kernel_rfl) (by kernel_rfl) (fun _ _ _ h => h) (by assumption) (fun o ho w hSw => ?_) ?_
              rotate_left
              · replace ho := Option.some.inj ho
                conv at ho => lhs; whnf
                subst ho
                (try dsimp only at hSw)
                go_simp
                (try rfl)
              (try simp only [Act.put, List.setIfInBounds_toArray, List.set_cons_zero, List.set_cons_succ])
              refine hx_take 12 (some 22) ?_ (by kernel_rfl) (by kernel_rfl) (by kernel_rfl) (by kernel_rfl) (by kernel_rfl) (fun _ _ _ h => h) (by assumption) (fun o ho w hSw => ?_) ?_
              rotate_left
              · replace ho := Option.some.inj ho
                conv at ho => lhs; whnf
                subst ho
                (try dsimp only at hSw)
                go_simp
                (try rfl)
              (try simp only [Act.put, List.setIfInBounds_toArray, List.set_cons_zero, List.set_cons_succ])
              refine hx_take 13 (some 23) ?_ (by kernel_rfl) (by kernel_rfl) (by kernel_rfl) (by kernel_rfl) (by kernel_rfl) (fun _ _ _ h => h) (by assumption) (fun o ho w hSw => ?_) ?_
              rotate_left
              · replace ho := Option.some.inj ho
                conv at ho => lhs; whnf
                subst ho
                (try dsimp only at hSw)
                go_simp
                (try rfl)
              (try simp only [Act.put, List.setIfInBounds_toArray, List.set_cons_zero, List.set_cons_succ])
              refine hx_take 14 (some 24) ?_ (by kernel_rfl) (by kernel_rfl) (by kernel_rfl) (by kernel_rfl) (by kernel_rfl) (fun _ _ _ h => h) (by assumption) (fun o ho w hSw => ?_) ?_
              rotate_left
              · replace ho := Option.some.inj ho
                conv at ho => lhs; whnf
                subst ho
                (try dsimp only at hSw)
                go_simp
                (try rfl)
              (try simp only [Act.put, List.setIfInBounds_toArray, List.set_cons_zero, List.set_cons_succ])
              refine hx_take 15 (some 25) ?_ (by kernel_rfl) (by kernel_rfl) (by kernel_rfl) (by kernel_rfl) (by kernel_rfl) (fun _ _ _ h => h) (by assumption) (fun o ho w hSw => ?_) ?_
              rotate_left
              · replace ho := Option.some.inj ho
                conv at ho => lhs; whnf
                subst ho
                (try dsimp only at hSw)
                go_simp
                (try rfl)
              (try simp only [Act.put, List.setIfInBounds_toArray, List.set_cons_zero, List.set_cons_succ])
              refine hx_take 16 (some 26) ?_ (by kernel_rfl) (by kernel_rfl) (by kernel_rfl) (by kernel_rfl) (by kernel_rfl) (fun _ _ _ h => h) (by assumption) (fun o ho w hSw => ?_) ?_
              rotate_left
              · replace ho := Option.some.inj ho
                conv at ho => lhs; whnf
                subst ho
                (try dsimp only at hSw)
                go_simp
                (try rfl)
              (try simp only [Act.put, List.setIfInBounds_toArray, List.set_cons_zero, List.set_cons_succ])
              refine hx_take 17 (some 27) ?_ (by kernel_rfl) (by kernel_rfl) (by kernel_rfl) (by kernel_rfl) (by kernel_rfl) (fun _ _ _ h => h) (by assumption) (fun o ho w hSw => ?_) ?_
              rotate_left
              · replace ho := Option.some.inj ho
                conv at ho => lhs; whnf
                subst ho
                (try dsimp only at hSw)
                go_simp
                (try rfl)
              (try simp only [Act.put, List.setIfInBounds_toArray, List.set_cons_zero, List.set_cons_succ])
              refine hx_take 18 (some 28) ?_ (by kernel_rfl) (by kernel_rfl) (by kernel_rfl) (by kernel_rfl) (by kernel_rfl) (fun _ _ _ h => h) (by assumption) (fun o ho w hSw => ?_) ?_
              rotate_left
              · replace ho := Option.some.inj ho
                conv at ho => lhs; whnf
                subst ho
                (try dsimp only at hSw)
                go_simp
                (try rfl)
              (try simp only [Act.put, List.setIfInBounds_toArray, List.set_cons_zero, List.set_cons_succ])
              refine hx_take 19 (some 29) ?_ (by kernel_rfl) (by kernel_rfl) (by kernel_rfl) (by kernel_rfl) (by kernel_rfl) (fun _ _ _ h => h) (by assumption) (fun o ho w hSw => ?_) ?_
              rotate_left
              · replace ho := Option.some.inj ho
                conv at ho => lhs; whnf
                subst ho
                (try dsimp only at hSw)
                go_simp
                (try rfl)
              (try simp only [Act.put, List.setIfInBounds_toArray, List.set_cons_zero, List.set_cons_succ])
              refine hx_take 20 (some 30) ?_ (by kernel_rfl) (by kernel_rfl) (by kernel_rfl) (by kernel_rfl) (by kernel_rfl) (fun _ _ _ h => h) (by assumption) (fun o ho w hSw => ?_) ?_
              rotate_left
              · replace ho := Option.some.inj ho
                conv at ho => lhs; whnf
                subst ho
                (try dsimp only at hSw)
                go_simp
                (try rfl)
              (try simp only [Act.put, List.setIfInBounds_toArray, List.set_cons_zero, List.set_cons_succ])
              refine hx_take 21 (some 31) ?_ (by kernel_rfl) (by kernel_rfl) (by kernel_rfl) (by kernel_rfl) (by kernel_rfl) (fun _ _ _ h => h) (by assumption) (fun o ho w hSw => ?_) ?_
              rotate_left
              · replace ho := Option.some.inj ho
                conv at ho => lhs; whnf
                subst ho
                (try dsimp only at hSw)
                go_simp
                (try rfl)
              (try simp only [Act.put, List.setIfInBounds_toArray, List.set_cons_zero, List.set_cons_succ])
              refine hx_take 22 (some 32) ?_ (by kernel_rfl) (by kernel_rfl) (by kernel_rfl) (by kernel_rfl) (by kernel_rfl) (fun _ _ _ h => h) (by assumption) (fun o ho w hSw => ?_) ?_
              rotate_left
              · replace ho := Option.some.inj ho
                conv at ho => lhs; whnf
                subst ho
                (try dsimp only at hSw)
                go_simp
                (try rfl)
              (try simp only [Act.put, List.setIfInBounds_toArray, List.set_cons_zero, List.set_cons_succ])
              refine hx_take 23 (some 33) ?_ (by kernel_rfl) (by kernel_rfl) (by kernel_rfl) (by kernel_rfl) (by kernel_rfl) (fun _ _ _ h => h) (by assumption) (fun o ho w hSw => ?_) ?_
              rotate_left
              · replace ho := Option.some.inj ho
                conv at ho => lhs; whnf
                subst ho
                (try dsimp only at hSw)
                go_simp
                (try rfl)
              (try simp only [Act.put, List.setIfInBounds_toArray, List.set_cons_zero, List.set_cons_succ])
              refine hx_take 24 (some 34) ?_ (by kernel_rfl) (by kernel_rfl) (by kernel_rfl) (by kernel_rfl) (by kernel_rfl) (fun _ _ _ h => h) (by assumption) (fun o ho w hSw => ?_) ?_
              rotate_left
              · replace ho := Option.some.inj ho
                conv at ho => lhs; whnf
                subst ho
                (try dsimp only at hSw)
                go_simp
                (try rfl)
              (try simp only [Act.put, List.setIfInBounds_toArray, List.set_cons_zero, List.set_cons_succ])
              refine hx_take 25 (some 35) ?_ (by kernel_rfl) (by kernel_rfl) (by kernel_rfl) (by kernel_rfl) (by kernel_rfl) (fun _ _ _ h => h) (by assumption) (fun o ho w hSw => ?_) ?_
              rotate_left
              · replace ho := Option.some.inj ho
                conv at ho => lhs; whnf
                subst ho
                (try dsimp only at hSw)
                go_simp
                (try rfl)
              (try simp only [Act.put, List.setIfInBounds_toArray, List.set_cons_zero, List.set_cons_succ])
              refine hx_take 26 (some 36) ?_ (by kernel_rfl) (by kernel_rfl) (by kernel_rfl) (by kernel_rfl) (by kernel_rfl) (fun _ _ _ h => h) (by assumption) (fun o ho w hSw => ?_) ?_
              rotate_left
              · replace ho := Option.some.inj ho
                conv at ho => lhs; whnf
                subst ho
                (try dsimp only at hSw)
                go_simp
                (try rfl)
              (try simp only [Act.put, List.setIfInBounds_toArray, List.set_cons_zero, List.set_cons_succ])
              refine hx_take 27 (some 37) ?_ (by kernel_rfl) (by kernel_rfl) (by kernel_rfl) (by kernel_rfl) (by kernel_rfl) (fun _ _ _ h => h) (by assumption) (fun o ho w hSw => ?_) ?_
              rotate_left
              · replace ho := Option.some.inj ho
                conv at ho => lhs; whnf
                subst ho
                (try dsimp only at hSw)
                go_simp
                (try rfl)
              (try simp only [Act.put, List.setIfInBounds_toArray, List.set_cons_zero, List.set_cons_succ])
              refine wpAnyH_done (by kernel_rfl) ?_ _
              have HGE := Lib.hid (show GrS w _ from by assumption)
              clear q0 q1 q2 q3
              go_wp2
              go_roundw
              case rel => exact ⟨⟨k + 1, by omega, by go_num, Lib.hid (may_step HX.out HM.out hmx h128 (fun z' _ h => by rw [HZ.out] at h; injection h with h; subst h; exact hid'))⟩, Lib.hid HGE.out.1⟩
              case measure => simp [intOf]; omega
      · have g2 : decide (128 ≤ (k : Int)) = true := by simp; omega
        have g3 : (128 : Int) ≤ (k : Int) := by omega
        have HF : Hid (r = false) := Lib.hid (by rw [← HR.out]; exact may_not HX.out (Or.inl (by omega)))
        have hmx : True := trivial
        go_wp2_with fail
        refine wp_region_held_drew (S := fun w' => GrS w w') (by kernel_rfl) ?_ (fun hHeld => ?_)
        · exact GrS.start HB.out
        refine hx_take 0 (some 10) ?_ (by kernel_rfl) (by kernel_rfl) (by kernel_rfl) (by kernel_rfl) (by kernel_rfl) (fun _ _ _ h => h) (by assumption) (fun o ho w hSw => ?_) ?_
        rotate_left
        · replace ho := Option.some.inj ho
          conv at ho => lhs; whnf
          subst ho
          (try dsimp only at hSw)
          go_simp
          (try rfl)
        (try simp only [Act.put, List.setIfInBounds_toArray, List.set_cons_zero, List.set_cons_succ])
        refine hx_take 1 (some 11) ?_ (by kernel_rfl) (by kernel_rfl) (by kernel_rfl) (by kernel_rfl) (by kernel_rfl) (fun _ _ _ h => h) (by assumption) (fun o ho w hSw => ?_) ?_
        rotate_left
        · replace ho := Option.some.inj ho
          conv at ho => lhs; whnf
          subst ho
          (try dsimp only at hSw)
          go_simp
          (try rfl)
        (try simp only [Act.put, List.setIfInBounds_toArray, List.set_cons_zero, List.set_cons_succ])
        refine hx_take 2 (some 12) ?_ (by kernel_rfl) (by kernel_rfl) (by kernel_rfl) (by kernel_rfl) (by kernel_rfl) (fun _ _ _ h => h) (by assumption) (fun o ho w hSw => ?_) ?_
        rotate_left
        · replace ho := Option.some.inj ho
          conv at ho => lhs; whnf
          subst ho
          (try dsimp only at hSw)
          go_simp
          (try rfl)
        (try simp only [Act.put, List.setIfInBounds_toArray, List.set_cons_zero, List.set_cons_succ])
        (refine hx_skip 3 (some 13) (by kernel_rfl) (by kernel_rfl) (by kernel_rfl) (by kernel_rfl) (by kernel_rfl) (fun _ _ _ h => h) (by assumption) ?_; (try simp only [Act.put, List.setIfInBounds_toArray, List.set_cons_zero, List.set_cons_succ]))
        (refine hx_skip 4 (some 14) (by kernel_rfl) (by kernel_rfl) (by kernel_rfl) (by kernel_rfl) (by kernel_rfl) (fun _ _ _ h => h) (by assumption) ?_; (try simp only [Act.put, List.setIfInBounds_toArray, List.set_cons_zero, List.set_cons_succ]))
        (refine hx_skip 5 (some 15) (by kernel_rfl) (by kernel_rfl) (by kernel_rfl) (by kernel_rfl) (by kernel_rfl) (fun _ _ _ h => h) (by assumption) ?_; (try simp only [Act.put, List.setIfInBounds_toArray, List.set_cons_zero, List.set_cons_succ]))
        (refine hx_skip 6 (some 16) (by kernel_rfl) (by kernel_rfl) (by kernel_rfl) (by kernel_rfl) (by kernel_rfl) (fun _ _ _ h => h) (by assumption) ?_; (try simp only [Act.put, List.setIfInBounds_toArray, List.set_cons_zero, List.set_cons_succ]))
        (refine hx_skip 7 (some 17) (by kernel_rfl) (by kernel_rfl) (by kernel_rfl) (by kernel_rfl) (by kernel_rfl) (fun _ _ _ h => h) (by assumption) ?_; (try simp only [Act.put, List.setIfInBounds_toArray, List.set_cons_zero, List.set_cons_succ]))
        (refine hx_skip 8 (some 18) (by kernel_rfl) (by kernel_rfl) (by kernel_rfl) (by kernel_rfl) (by kernel_rfl) (fun _ _ _ h => h) (by assumption) ?_; (try simp only [Act.put, List.setIfInBounds_toArray, List.set_cons_zero, List.set_cons_succ]))
        refine hx_take 9 (some 19) ?_ (by kernel_rfl) (by kernel_rfl) (by kernel_rfl) (by kernel_rfl) (by kernel_rfl) (fun _ _ _ h => h) (by assumption) (fun o ho w hSw => ?_) ?_
        rotate_left
        · replace ho := Option.some.inj ho
          conv at ho => lhs; whnf
          subst ho
          (try dsimp only at hSw)
          go_simp
          (try rfl)
        (try simp only [Act.put, List.setIfInBounds_toArray, List.set_cons_zero, List.set_cons_succ])
        refine hx_take 10 (some 20) ?_ (by kernel_rfl) (by kernel_rfl) (by kernel_rfl) (by kernel_rfl) (by kernel_rfl) (fun _ _ _ h => h) (by assumption) (fun o ho w hSw => ?_) ?_
        rotate_left
        · replace ho := Option.some.inj ho
          conv at ho => lhs; whnf
          subst ho
          (try dsimp only at hSw)
          go_simp
          (try rfl)
        (try simp only [Act.put, List.setIfInBounds_toArray, List.set_cons_zero, List.set_cons_succ])
        (refine hx_skip 11 (some 21) (by kernel_rfl) (by kernel_rfl) (by kernel_rfl) (by kernel_rfl) (by kernel_rfl) (fun _ _ _ h => h) (by assumption) ?_; (try simp only [Act.put, List.setIfInBounds_toArray, List.set_cons_zero, List.set_cons_succ]))
        (refine hx_skip 12 (some 22) (by kernel_rfl) (by kernel_rfl) (by kernel_rfl) (by kernel_rfl) (by kernel_rfl) (fun _ _ _ h => h) (by assumption) ?_; (try simp only [Act.put, List.setIfInBounds_toArray, List.set_cons_zero, List.set_cons_succ]))
        (refine hx_skip 13 (some 23) (by kernel_rfl) (by kernel_rfl) (by kernel_rfl) (by kernel_rfl) (by kernel_rfl) (fun _ _ _ h => h) (by assumption) ?_; (try simp only [Act.put, List.setIfInBounds_toArray, List.set_cons_zero, List.set_cons_succ]))
        (refine hx_skip 14 (some 24) (by kernel_rfl) (by kernel_rfl) (by kernel_rfl) (by kernel_rfl) (by kernel_rfl) (fun _ _ _ h => h) (by assumption) ?_; (try simp only [Act.put, List.setIfInBounds_toArray, List.set_cons_zero, List.set_cons_succ]))
        (refine hx_skip 15 (some 25) (by kernel_rfl) (by kernel_rfl) (by kernel_rfl) (by kernel_rfl) (by kernel_rfl) (fun _ _ _ h => h) (by assumption) ?_; (try simp only [Act.put, List.setIfInBounds_toArray, List.set_cons_zero, List.set_cons_succ]))
        (refine hx_skip 16 (some 26) (by kernel_rfl) (by kernel_rfl) (by kernel_rfl) (by kernel_rfl) (by kernel_rfl) (fun _ _ _ h => h) (by assumption) ?_; (try simp only [Act.put, List.setIfInBounds_toArray, List.set_cons_zero, List.set_cons_succ]))
        (refine hx_skip 17 (some 27) (by kernel_rfl) (by kernel_rfl) (by kernel_rfl) (by kernel_rfl) (by kernel_rfl) (fun _ _ _ h => h) (by assumption) ?_; (try simp only [Act.put, List.setIfInBounds_toArray, List.set_cons_zero, List.set_cons_succ]))
        (refine hx_skip 18 (some 28) (by kernel_rfl) (by kernel_rfl) (by kernel_rfl) (by kernel_rfl) (by kernel_rfl) (fun _ _ _ h => h) (by assumption) ?_; (try simp only [Act.put, List.setIfInBounds_toArray, List.set_cons_zero, List.set_cons_succ]))
        (refine hx_skip 19 (some 29) (by kernel_rfl) (by kernel_rfl) (by kernel_rfl) (by kernel_rfl) (by kernel_rfl) (fun _ _ _ h => h) (by assumption) ?_; (try simp only [Act.put, List.setIfInBounds_toArray, List.set_cons_zero, List.set_cons_succ]))
        (refine hx_skip 20 (some 30) (by kernel_rfl) (by kernel_rfl) (by kernel_rfl) (by kernel_rfl) (by kernel_rfl) (fun _ _ _ h => h) (by assumption) ?_; (try simp only [Act.put, List.setIfInBounds_toArray, List.set_cons_zero, List.set_cons_succ]))
        (refine hx_skip 21 (some 31) (by kernel_rfl) (by kernel_rfl) (by kernel_rfl) (by kernel_rfl) (by kernel_rfl) (fun _ _ _ h => h) (by assumption) ?_; (try simp only [Act.put, List.setIfInBounds_toArray, List.set_cons_zero, List.set_cons_succ]))
        (refine hx_skip 22 (some 32) (by kernel_rfl) (by kernel_rfl) (by kernel_rfl) (by kernel_rfl) (by kernel_rfl) (fun _ _ _ h => h) (by assumption) ?_; (try simp only [Act.put, List.setIfInBounds_toArray, List.set_cons_zero, List.set_cons_succ]))
        (refine hx_skip 23 (some 33) (by kernel_rfl) (by kernel_rfl) (by kernel_rfl) (by kernel_rfl) (by kernel_rfl) (fun _ _ _ h => h) (by assumption) ?_; (try simp only [Act.put, List.setIfInBounds_toArray, List.set_cons_zero, List.set_cons_succ]))
        (refine hx_skip 24 (some 34) (by kernel_rfl) (by kernel_rfl) (by kernel_rfl) (by kernel_rfl) (by kernel_rfl) (fun _ _ _ h => h) (by assumption) ?_; (try simp only [Act.put, List.setIfInBounds_toArray, List.set_cons_zero, List.set_cons_succ]))
        (refine hx_skip 25 (some 35) (by kernel_rfl) (by kernel_rfl) (by kernel_rfl) (by kernel_rfl) (by kernel_rfl) (fun _ _ _ h => h) (by assumption) ?_; (try simp only [Act.put, List.setIfInBounds_toArray, List.set_cons_zero, List.set_cons_succ]))
        (refine hx_skip 26 (some 36) (by kernel_rfl) (by kernel_rfl) (by kernel_rfl) (by kernel_rfl) (by kernel_rfl) (fun _ _ _ h => h) (by assumption) ?_; (try simp only [Act.put, List.setIfInBounds_toArray, List.set_cons_zero, List.set_cons_succ]))
        refine hx_take 27 (some 37) ?_ (by kernel_rfl) (by kernel_rfl) (by kernel_rfl) (by kernel_rfl) (by kernel_rfl) (fun _ _ _ h => h) (by assumption) (fun o ho w hSw => ?_) ?_
        rotate_left
        · replace ho := Option.some.inj ho
          conv at ho => lhs; whnf
          subst ho
          (try dsimp only at hSw)
          go_simp
          (try rfl)
        (try simp only [Act.put, List.setIfInBounds_toArray, List.set_cons_zero, List.set_cons_succ])
        refine wpAnyH_done (by kernel_rfl) ?_ _
        have HGE := Lib.hid (show GrS w _ from by assumption)
        go_wp2
        go_ret
        exact ⟨ret_bool HF.out.symm, HGE.out.1⟩
    · have HF : Hid (r = true) := Lib.hid (by
        rw [← HR.out, mayL_iff]
        have := HM.out
        rwa [List.take_of_length_le (by have := HN.out; omega)] at this)
      go_wp2
      go_ret
      exact ⟨ret_bool HF.out.symm, HB.out⟩
end Go.Proofs.YtecfajnmekpeoaaDoor
