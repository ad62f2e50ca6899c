/-
  Contract of souklaw16.BookFirst: true, in every world. Conditions: the list reads as one; the table 'prices' holds its two functions (PrW).
-/
import Derived.Test.YtecfajnmekpeoaaDoorLCr
namespace Go.Proofs.YtecfajnmekpeoaaDoor
open Go.RowKit

theorem eqlO (x y : Ord) (w : World) : (binOp .eql 23 (.agg #[.int .i64 x.id, .int .i64 x.acct, .int .i64 x.inst, .int .u8 x.side, .int .i64 x.price, .int .i64 x.left]) (.agg #[.int .i64 y.id, .int .i64 y.acct, .int .i64 y.inst, .int .u8 y.side, .int .i64 y.price, .int .i64 y.left])).run Tryd.prog w = .ok (.bool (decide (x = y))) w := by
  have hS : (Tryd.prog).underlying 23 = some (.struct ((Tryd.prog).fieldsOf 23)) := by kernel_rfl
  have hp : (Tryd.prog).stoodInHeld 23 = false := by kernel_rfl
  rw [run_eql_struct, show (10000 : Nat) = 9999 + 1 from rfl, run_equalIn_agg w 9999 23 _ _ hS hp]
  have h : (decide (x = y)) = (x.id == y.id && (x.acct == y.acct && (x.inst == y.inst && (x.side == y.side && (x.price == y.price && x.left == y.left))))) := by
    rw [Bool.eq_iff_iff]
    cases x; cases y; simp
  rw [h]
  simp only [Program.fieldsOf, Tryd.underlying23]
  go_simp
  by_cases h1 : x.id = y.id <;> by_cases h2 : x.acct = y.acct <;> by_cases h3 : x.inst = y.inst <;> by_cases h4 : x.side = y.side <;> by_cases h5 : x.price = y.price <;> by_cases h6 : x.left = y.left <;> simp [h1, h2, h3, h4, h5, h6]
theorem guardE (x y : Ord) (p q : Operand) (w : World) : (eqGuard .eql 23 p q (.agg #[.int .i64 x.id, .int .i64 x.acct, .int .i64 x.inst, .int .u8 x.side, .int .i64 x.price, .int .i64 x.left]) (.agg #[.int .i64 y.id, .int .i64 y.acct, .int .i64 y.inst, .int .u8 y.side, .int .i64 y.price, .int .i64 y.left])).run Tryd.prog w = .ok () w := run_eqGuard_agg w .eql 23 p q _ _ (by kernel_rfl)
theorem neqO_self (x : Ord) (w : World) : (binOp .neq 23 (.agg #[.int .i64 x.id, .int .i64 x.acct, .int .i64 x.inst, .int .u8 x.side, .int .i64 x.price, .int .i64 x.left]) (.agg #[.int .i64 x.id, .int .i64 x.acct, .int .i64 x.inst, .int .u8 x.side, .int .i64 x.price, .int .i64 x.left])).run Tryd.prog w = .ok (.bool false) w := by rw [eqO]; simp
theorem eqlO_self (x : Ord) (w : World) : (binOp .eql 23 (.agg #[.int .i64 x.id, .int .i64 x.acct, .int .i64 x.inst, .int .u8 x.side, .int .i64 x.price, .int .i64 x.left]) (.agg #[.int .i64 x.id, .int .i64 x.acct, .int .i64 x.inst, .int .u8 x.side, .int .i64 x.price, .int .i64 x.left])).run Tryd.prog w = .ok (.bool true) w := by rw [eqlO]; simp

section
variable {xs : List Ord} {inst side : Int}
theorem mem_listOf (hm : mayL xs = true) {x : Ord} : x ∈ listOf xs inst side ↔ x ∈ xs ∧ x.inst = inst ∧ x.side = side := by
  rw [(listOf_perm hm inst side).mem_iff, List.mem_filter]; simp [isOf]
theorem listOf_len (hm : mayL xs = true) : (listOf xs inst side).length = xs.countP (isOf inst side) := by
  rw [(listOf_perm hm inst side).length_eq, List.countP_eq_length_filter]
theorem less_head (hm : mayL xs = true) {x F : Ord} (hF : (listOf xs inst side).head? = some F) (hx : x ∈ listOf xs inst side) : less x F = false := by
  rw [Bool.eq_false_iff, ne_eq, less_iff]
  rintro ⟨_, _, _, _, h⟩
  rw [rowLt_ahead, ((mem_listOf hm).1 hx).2.2] at h
  have hso := listOf_sorted xs inst side
  cases hl : listOf xs inst side with
  | nil => rw [hl] at hx; cases hx
  | cons f r =>
    rw [hl] at hF hx hso
    simp at hF; subst hF
    rcases List.mem_cons.1 hx with rfl | hr
    · rw [ahead_iff] at h; omega
    · have := (List.pairwise_cons.1 hso).1 x hr
      rw [this] at h; cases h
theorem listOf_ids (hm : mayL xs = true) : (listOf xs inst side).Pairwise (fun a b => a.id ≠ b.id) := by
  refine ((listOf_perm hm inst side).pairwise_iff (fun {a b} h => Ne.symm h)).2 ?_
  exact ((mayL_iff.1 hm).2.2.filter _).imp (fun {a b} h => by unfold idLt at h; omega)
theorem less_adj (hm : mayL xs = true) {j : Nat} {a b : Ord} (ha : (listOf xs inst side)[j]? = some a) (hb : (listOf xs inst side)[j+1]? = some b) : less a b = true := by
  have ma := (mem_listOf hm).1 (List.mem_of_getElem? ha)
  have mb := (mem_listOf hm).1 (List.mem_of_getElem? hb)
  have h1 := listOf_sorted xs inst side
  have h2 := listOf_ids (inst := inst) (side := side) hm
  obtain ⟨l1, e1⟩ := List.getElem?_eq_some_iff.1 ha
  obtain ⟨l2, e2⟩ := List.getElem?_eq_some_iff.1 hb
  have g1 := List.pairwise_iff_getElem.1 h1 j (j+1) l1 l2 (by omega)
  have g2 := List.pairwise_iff_getElem.1 h2 j (j+1) l1 l2 (by omega)
  rw [e1, e2] at g1 g2
  rw [ahead_not] at g1
  refine less_iff.2 ⟨(mayL_iff.1 hm).2.1 a ma.1, (mayL_iff.1 hm).2.1 b mb.1, by omega, by omega, ?_⟩
  rw [rowLt_iff]; omega
theorem findO_mem (hm : mayL xs = true) {y : Ord} (hy : y ∈ xs) : findO xs y.id = some y := by
  unfold findO
  rw [if_pos hm]
  cases hf : xs.find? (fun o => o.id == y.id) with
  | none => have := List.find?_eq_none.1 hf y hy; simp at this
  | some z =>
    have h1 := List.find?_some hf
    have h2 := List.mem_of_find?_eq_some hf
    simp at h1
    rw [id_inj (mayL_iff.1 hm).2.2 h2 hy h1]
theorem count_step {k : Nat} {x : Ord} (hx : xs[k]? = some x) : (xs.take (k + 1)).countP (isOf inst side) = (xs.take k).countP (isOf inst side) + if isOf inst side x then 1 else 0 := by
  obtain ⟨h1, rfl⟩ := List.getElem?_eq_some_iff.1 hx
  rw [List.take_succ_eq_append_getElem h1, List.countP_append]
  simp [List.countP_cons]
end
set_option maxHeartbeats 4000000 in
theorem lawFi_big (la : Option Addr) (lc n : Nat) (inst side : Int) (w : World) (hp : PrW w) (hn : decide (200 < (n : Int)) = true) :
    Calls Tryd.prog 7 #[.slice la n lc, .int .i64 inst, .int .u8 side] w fun e w' => e = .returned (.bool true) ∧ Below w.heap.size w w' := by
  have HG := Lib.hid (GrS.refl w)
  have HP := Lib.hid hp; clear hp
  go_enter Tryd.func7, Tryd.ntmps7
  go_wp2_with (go_at_call 11; (with_reducible refine (works_c _ (HP.out.mono HG.out.1)).mono ?_); rintro e w1 ⟨rfl, hb1⟩; replace HG := Lib.hid (GrS.call HG.out hb1); clear hb1; (try clear hG); have hG := HG.out)
  go_ret
  exact ⟨rfl, HG.out.1⟩
set_option maxHeartbeats 4000000 in
theorem lawFi_no (la : Option Addr) (lc n : Nat) (inst side : Int) (w : World) (hp : PrW w) (hn : decide (200 < (n : Int)) = false)
    (HL : Hid (∀ w1, Below w.heap.size w w1 → Calls Tryd.prog 23 #[.slice la n lc, .int .i64 inst, .int .u8 side] w1 fun e w' => ∃ a' c', e = .returned (.slice a' 0 c') ∧ Below w1.heap.size w1 w'))
    (HM : Hid (∀ w1, Below w.heap.size w w1 → Calls Tryd.prog 17 #[.slice la n lc] w1 fun e w' => e = .returned (.bool false) ∧ Below w1.heap.size w1 w')) :
    Calls Tryd.prog 7 #[.slice la n lc, .int .i64 inst, .int .u8 side] w fun e w' => e = .returned (.bool true) ∧ Below w.heap.size w w' := by
  have HG := Lib.hid (GrS.refl w)
  have HP := Lib.hid hp; clear hp
  go_enter Tryd.func7, Tryd.ntmps7
  go_wp2_with (first
    | (go_at_call 11; (with_reducible refine (works_c _ (HP.out.mono HG.out.1)).mono ?_); rintro e w1 ⟨rfl, hb1⟩; replace HG := Lib.hid (GrS.call HG.out hb1); clear hb1; (try clear hG); have hG := HG.out)
    | (go_at_call 23; (with_reducible refine (HL.out _ HG.out.1).mono ?_); rintro e w1 ⟨a', c', rfl, hb1⟩; replace HG := Lib.hid (GrS.call HG.out hb1); clear hb1; (try clear hG); have hG := HG.out)
    | (go_at_call 17; (with_reducible refine (HM.out _ HG.out.1).mono ?_); rintro e w1 ⟨rfl, hb1⟩; replace HG := Lib.hid (GrS.call HG.out hb1); clear hb1; (try clear hG); have hG := HG.out))
  go_ret
  exact ⟨rfl, HG.out.1⟩
set_option maxRecDepth 100000 in
set_option maxHeartbeats 8000000 in
theorem lawFi_yes (la : Option Addr) (lc n ln : Nat) (xs L : List Ord) (inst side : Int) (F : Ord) (is : Bool) (w : World) (HS : Hid (SlO w la lc xs)) (HN : Hid (n = xs.length)) (hp : PrW w) (hn : decide (200 < (n : Int)) = false) (hm : mayL xs = true) (hL : L = listOf xs inst side) (HLN : Hid (ln = L.length)) (hF : F = L.head?.getD nilO) (hi : is = L.head?.isSome)
    (HL : Hid (∀ w1, Below w.heap.size w w1 → Calls Tryd.prog 23 #[.slice la n lc, .int .i64 inst, .int .u8 side] w1 fun e w' => ∃ a' c', e = .returned (.slice a' ln c') ∧ Below w1.heap.size w1 w' ∧ SlO w' a' c' L))
    (HM : Hid (∀ w1, Below w.heap.size w w1 → Calls Tryd.prog 17 #[.slice la n lc] w1 fun e w' => e = .returned (.bool true) ∧ Below w1.heap.size w1 w'))
    (HF1 : Hid (∀ w1, Below w.heap.size w w1 → Calls Tryd.prog 16 #[.slice la n lc, .int .i64 inst, .int .u8 side] w1 fun e w' => e = .returned (.tuple #[(.agg #[.int .i64 F.id, .int .i64 F.acct, .int .i64 F.inst, .int .u8 F.side, .int .i64 F.price, .int .i64 F.left]), .bool is]) ∧ Below w1.heap.size w1 w'))
    (HFD : Hid (∀ y, y ∈ xs → ∀ w1, Below w.heap.size w w1 → Calls Tryd.prog 28 #[.slice la n lc, .int .i64 y.id] w1 fun e w' => e = .returned (.tuple #[(.agg #[.int .i64 y.id, .int .i64 y.acct, .int .i64 y.inst, .int .u8 y.side, .int .i64 y.price, .int .i64 y.left]), .bool true]) ∧ Below w1.heap.size w1 w')) :
    Calls Tryd.prog 7 #[.slice la n lc, .int .i64 inst, .int .u8 side] w fun e w' => e = .returned (.bool true) ∧ Below w.heap.size w w' := by
  have hle : n ≤ 200 := by simp at hn; omega
  have HG := Lib.hid (GrS.refl w)
  have HP := Lib.hid hp; clear hp
  have HMy := Lib.hid hm; clear hm
  have HLq := Lib.hid hL; clear hL
  have HFq := Lib.hid hF; clear hF
  have HIq := Lib.hid hi; clear hi
  go_enter Tryd.func7, Tryd.ntmps7
  go_wp2_with (first
    | (go_at_call 11; (with_reducible refine (works_c _ (HP.out.mono HG.out.1)).mono ?_); rintro e w1 ⟨rfl, hb1⟩; replace HG := Lib.hid (GrS.call HG.out hb1); clear hb1; (try clear hG); have hG := HG.out)
    | (go_at_call 23; (with_reducible refine (HL.out _ HG.out.1).mono ?_); rintro e w1 ⟨ra, rc, rfl, hb1, hs1⟩; have HSR := Lib.hid hs1; clear hs1; have HWr : Hid (Below w.heap.size w w1) := Lib.hid (GrS.call HG.out hb1).1; replace HG := Lib.hid (GrS.call HG.out hb1); clear hb1; (try clear hG); have hG := HG.out)
    | (go_at_call 17; (with_reducible refine (HM.out _ HG.out.1).mono ?_); rintro e w2 ⟨rfl, hb1⟩; have HB2 := Lib.hid hb1; replace HG := Lib.hid (GrS.call HG.out hb1); clear hb1; (try clear hG); have hG := HG.out)
    | (go_at_call 16; (with_reducible refine (HF1.out _ HG.out.1).mono ?_); rintro e w3 ⟨rfl, hb1⟩; have HB3 := Lib.hid hb1; replace HG := Lib.hid (GrS.call HG.out hb1); clear hb1; (try clear hG); have hG := HG.out))
  obtain ⟨X, hX, hXb, hXs, hF9⟩ := box1 w3 #[.int .i64 F.id, .int .i64 F.acct, .int .i64 F.inst, .int .u8 F.side, .int .i64 F.price, .int .i64 F.left] 23
  rw [hX]
  have HBX : Hid (Below w.heap.size w X) := Lib.hid (grow_trans HG.out.1 hXb)
  have HSX : Hid (SlO X la lc xs) := Lib.hid (HS.out.mono HBX.out)
  have HRX : Hid (SlO X ra rc L) := Lib.hid (HSR.out.mono (grow_trans HB2.out (grow_trans HB3.out hXb)))
  have HPX : Hid (PrW X) := Lib.hid (HP.out.mono HBX.out)
  have hN9 : w3.heap.size < X.heap.size := by omega
  clear hX hXb hXs HS HSR HB2 HB3 HWr HP HG hG HL HM HF1
  generalize w3.heap.size = N9 at *
  go_loopw [8, 11] (fun v i wr => (∃ k : Nat, k ≤ n ∧ i = .int .i64 k ∧ ∃ c : Nat, c ≤ k ∧ v = .int .i64 c ∧ Hid (c = (xs.take k).countP (isOf inst side))) ∧ Hid (GrS X wr)) (fun _ i _ => n - (intOf i).toNat)
  case atStart => exact ⟨⟨0, Nat.zero_le _, rfl, 0, Nat.le_refl _, rfl, Lib.hid (by simp)⟩, Lib.hid (GrS.refl X)⟩
  case round =>
    obtain ⟨⟨k, hk, rfl, c, hc, rfl, HC⟩, HB⟩ := hrel
    by_cases hlt : k < n
    · obtain ⟨x, HX⟩ : ∃ x, Hid (xs[k]? = some x) := ⟨_, Lib.hid (List.getElem?_eq_getElem (by have := HN.out; omega))⟩
      obtain ⟨b9, off, hla, hb9, h6⟩ := SlR.cells6 HSX.out (by intro h; have := HX.out; rw [h] at this; simp at this)
      subst hla
      have H7 := Lib.hid (h6 k x HX.out)
      clear h6
      obtain ⟨x0, x1, x2, x3, x4, x5⟩ := H7.out.mono HB.out.1
      have i0 : (0 : Int) ≤ (k : Int) := Int.natCast_nonneg _
      have i1 : (k : Int) < (n : Int) := by omega
      have HST := Lib.hid (count_step (inst := inst) (side := side) HX.out)
      have HOF : Hid (isOf inst side x = (x.inst == inst && x.side == side)) := Lib.hid rfl
      rcases Bool.eq_false_or_eq_true (x.inst == inst) with e1 | e1
      · rcases Bool.eq_false_or_eq_true (x.side == side) with e2 | e2
        · have HO : Hid (isOf inst side x = true) := Lib.hid (by rw [HOF.out, e1, e2]; rfl)
          have HM1 : Hid (x ∈ L) := Lib.hid (by
            rw [HLq.out, mem_listOf HMy.out]
            exact ⟨List.mem_of_getElem? HX.out, by simpa using e1, by simpa using e2⟩)
          obtain ⟨hF', hi'⟩ : L.head? = some F ∧ is = true := by
            have h1 := HM1.out; have h2 := HFq.out; have h3 := HIq.out
            cases hL' : L with
            | nil => rw [hL'] at h1; cases h1
            | cons f r => rw [hL'] at h2 h3; simp at h2 h3; exact ⟨by rw [h2]; rfl, h3⟩
          have hls : less x F = false := less_head HMy.out (by rw [← HLq.out]; exact hF') (by rw [← HLq.out]; exact HM1.out)
          subst hi'
          clear hF'
          have z0 := H7.out.c0; have z1 := H7.out.c1; have z2 := H7.out.c2; have z3 := H7.out.c3; have z4 := H7.out.c4; have z5 := H7.out.c5
          go_wp2_with fail
          clear x0 x1 x2 x3 x4 x5
          refine wp_region_held_drew (S := fun w' => GrS X w') (by kernel_rfl) ?_ (fun hHeld => ?_)
          · exact GrS.start HB.out.1
          refine hx_take 0 (some 64) ?_ (by kernel_rfl) (by kernel_rfl) (by kernel_rfl) (by kernel_rfl) (by kernel_rfl) (fun _ _ _ h => h) (by assumption) (fun o ho w hSw => ?_) ?_
          rotate_left
          · replace ho := Option.some.inj ho
            conv at ho => lhs; whnf
            subst ho
            (try dsimp only at hSw)
            go_simp
            (try rfl)
          (try simp only [Act.put, List.setIfInBounds_toArray, List.set_cons_zero, List.set_cons_succ])
          refine hx_take 1 (some 65) ?_ (by kernel_rfl) (by kernel_rfl) (by kernel_rfl) (by kernel_rfl) (by kernel_rfl) (fun _ _ _ h => h) (by assumption) (fun o ho w hSw => ?_) ?_
          rotate_left
          · replace ho := Option.some.inj ho
            conv at ho => lhs; whnf
            subst ho
            (try dsimp only at hSw)
            go_simp
            (try rfl)
          (try simp only [Act.put, List.setIfInBounds_toArray, List.set_cons_zero, List.set_cons_succ])
          refine hx_take 2 (some 66) ?_ (by kernel_rfl) (by kernel_rfl) (by kernel_rfl) (by kernel_rfl) (by kernel_rfl) (fun _ _ _ h => h) (by assumption) (fun o ho w hSw => ?_) ?_
          rotate_left
          · replace ho := Option.some.inj ho
            conv at ho => lhs; whnf
            subst ho
            (try dsimp only at hSw)
            go_simp
            (try rfl)
          (try simp only [Act.put, List.setIfInBounds_toArray, List.set_cons_zero, List.set_cons_succ])
          refine hx_take 3 (some 67) ?_ (by kernel_rfl) (by kernel_rfl) (by kernel_rfl) (by kernel_rfl) (by kernel_rfl) (fun _ _ _ h => h) (by assumption) (fun o ho w hSw => ?_) ?_
          rotate_left
          · replace ho := Option.some.inj ho
            conv at ho => lhs; whnf
            subst ho
            (try dsimp only at hSw)
            go_simp
            (try rfl)
          (try simp only [Act.put, List.setIfInBounds_toArray, List.set_cons_zero, List.set_cons_succ])
          refine hx_take 4 (some 68) ?_ (by kernel_rfl) (by kernel_rfl) (by kernel_rfl) (by kernel_rfl) (by kernel_rfl) (fun _ _ _ h => h) (by assumption) (fun o ho w hSw => ?_) ?_
          rotate_left
          · replace ho := Option.some.inj ho
            conv at ho => lhs; whnf
            subst ho
            (try dsimp only at hSw)
            go_simp
            (try rfl)
          (try simp only [Act.put, List.setIfInBounds_toArray, List.set_cons_zero, List.set_cons_succ])
          refine hx_take 5 (some 69) ?_ (by kernel_rfl) (by kernel_rfl) (by kernel_rfl) (by kernel_rfl) (by kernel_rfl) (fun _ _ _ h => h) (by assumption) (fun o ho w hSw => ?_) ?_
          rotate_left
          · replace ho := Option.some.inj ho
            conv at ho => lhs; whnf
            subst ho
            (try dsimp only at hSw)
            go_simp
            (try rfl)
          (try simp only [Act.put, List.setIfInBounds_toArray, List.set_cons_zero, List.set_cons_succ])
          refine hx_take 6 (some 70) ?_ (by kernel_rfl) (by kernel_rfl) (by kernel_rfl) (by kernel_rfl) (by kernel_rfl) (fun _ _ _ h => h) (by assumption) (fun o ho w hSw => ?_) ?_
          rotate_left
          · replace ho := Option.some.inj ho
            conv at ho => lhs; whnf
            subst ho
            (try dsimp only at hSw)
            go_simp
            (try rfl)
          (try simp only [Act.put, List.setIfInBounds_toArray, List.set_cons_zero, List.set_cons_succ])
          refine hx_take 7 (some 71) ?_ (by kernel_rfl) (by kernel_rfl) (by kernel_rfl) (by kernel_rfl) (by kernel_rfl) (fun _ _ _ h => h) (by assumption) (fun o ho w hSw => ?_) ?_
          rotate_left
          · replace ho := Option.some.inj ho
            conv at ho => lhs; whnf
            subst ho
            (try dsimp only at hSw)
            go_simp
            (try rfl)
          (try simp only [Act.put, List.setIfInBounds_toArray, List.set_cons_zero, List.set_cons_succ])
          refine hx_act 8 (some 72) (by kernel_rfl) (by kernel_rfl) (by kernel_rfl) (fun K hK o ho => ?_)
          replace ho := Option.some.inj ho
          conv at ho => lhs; whnf
          subst ho
          go_simp
          (go_at_call 14; (with_reducible refine (less_v x F _ hls _ (HPX.out.mono (GrS.fin (by assumption)))).mono ?_); rintro e w4 ⟨rfl, hb1⟩)
          first | (refine hK _ _ ?_ (fun hHeld => ?_)) | (go_wp2_with fail; refine hK _ _ ?_ (fun hHeld => ?_))
          · exact GrS.call (by assumption) hb1
          clear hK K
          (try simp only [Act.put, List.setIfInBounds_toArray, List.set_cons_zero, List.set_cons_succ])
          refine hx_take 9 (some 73) ?_ (by kernel_rfl) (by kernel_rfl) (by kernel_rfl) (by kernel_rfl) (by kernel_rfl) (fun _ _ _ h => h) (by assumption) (fun o ho w hSw => ?_) ?_
          rotate_left
          · replace ho := Option.some.inj ho
            conv at ho => lhs; whnf
            subst ho
            (try dsimp only at hSw)
            go_simp
            (try rfl)
          (try simp only [Act.put, List.setIfInBounds_toArray, List.set_cons_zero, List.set_cons_succ])
          refine wpAnyH_done (by kernel_rfl) ?_ _
          have HGE := Lib.hid (show GrS X _ from by assumption)
          go_wp2
          go_roundw
          case rel => exact ⟨⟨k + 1, by omega, by go_num, c + 1, by omega, by go_num, Lib.hid (by rw [HST.out, HO.out, HC.out]; rfl)⟩, HGE⟩
          case measure => simp [intOf]; omega
        · have HO : Hid (isOf inst side x = false) := Lib.hid (by rw [HOF.out, e1, e2]; rfl)
          go_wp2
          go_roundw
          case rel => exact ⟨⟨k + 1, by omega, by go_num, c, by omega, rfl, Lib.hid (by rw [HST.out, HO.out, HC.out]; rfl)⟩, HB⟩
          case measure => simp [intOf]; omega
      · have HO : Hid (isOf inst side x = false) := Lib.hid (by rw [HOF.out, e1]; rfl)
        go_wp2
        go_roundw
        case rel => exact ⟨⟨k + 1, by omega, by go_num, c, by omega, rfl, Lib.hid (by rw [HST.out, HO.out, HC.out]; rfl)⟩, HB⟩
        case measure => simp [intOf]; omega
    · obtain rfl : c = ln := by
        have h1 := HC.out; have h2 := HLN.out; have h3 := HN.out
        rw [List.take_of_length_le (by omega)] at h1
        rw [h1, h2, HLq.out, listOf_len HMy.out]
      clear HC hc
      have hln : c ≤ 200 := by
        have h2 := HLN.out; have h3 := HN.out
        rw [HLq.out, listOf_len HMy.out] at h2
        have := List.countP_le_length (p := isOf inst side) (l := xs); omega
      have HLX : Hid (∀ j y, L[j]? = some y → y ∈ xs ∧ y.inst = inst ∧ y.side = side) := Lib.hid (fun j y hy => by
        have := List.mem_of_getElem? hy
        rw [HLq.out, mem_listOf HMy.out] at this; exact this)
      have HAD : Hid (∀ j a b, L[j]? = some a → L[j+1]? = some b → less a b = true) := Lib.hid (fun j a b ha hb => by rw [HLq.out] at ha hb; exact less_adj HMy.out ha hb)
      go_wp2
      obtain ⟨wo, hwo⟩ : ∃ wo : World, wo = wr := ⟨_, rfl⟩
      subst hwo
      go_loopw [12] (fun i wr => (∃ k : Nat, k ≤ c ∧ i = .int .i64 k) ∧ Hid (GrS X wr)) (fun i _ => c - (intOf i).toNat)
      case atStart => exact ⟨⟨0, Nat.zero_le _, rfl⟩, HB⟩
      case round =>
        clear HB
        obtain ⟨⟨j, hj, rfl⟩, HB⟩ := hrel
        by_cases hjl : j < c
        · obtain ⟨y, HY⟩ : ∃ y, Hid (L[j]? = some y) := ⟨_, Lib.hid (List.getElem?_eq_getElem (by have := HLN.out; omega))⟩
          obtain ⟨b8, off8, hra, hb8, h6⟩ := SlR.cells6 HRX.out (by intro h; have := HY.out; rw [h] at this; simp at this)
          subst hra
          have H6 := Lib.hid h6; clear h6
          obtain ⟨hy1, hy2, hy3⟩ := HLX.out j y HY.out
          have HFy := Lib.hid (HFD.out y hy1); clear hy1
          have j0 : (0 : Int) ≤ (j : Int) := Int.natCast_nonneg _
          have j1 : (j : Int) < (c : Int) := by omega
          have hyi : (y.inst != inst) = false := by simp [hy2]
          have hys : (y.side != side) = false := by simp [hy3]
          clear hy2 hy3
          obtain ⟨y0, y1, y2, y3, y4, y5⟩ := (H6.out j y HY.out).mono HB.out.1
          go_wp2_with fail
          refine (HFy.out _ (grow_trans HBX.out HB.out.1)).mono ?_
          rintro e w5 ⟨rfl, hb5⟩
          clear y0 y1 y2 y3 y4 y5
          go_wp2_with fail
          obtain ⟨Y, hY, hYb, hYs, hy9⟩ := box1 w5 #[.int .i64 y.id, .int .i64 y.acct, .int .i64 y.inst, .int .u8 y.side, .int .i64 y.price, .int .i64 y.left] 23
          rw [hY]
          have HGY : Hid (GrS X Y) := Lib.hid (GrS.of (grow_trans HB.out.1 (grow_trans hb5 hYb)))
          have hN5 : w5.heap.size < Y.heap.size := by omega
          clear hY hYb hYs hb5
          generalize w5.heap.size = N5 at *
          obtain ⟨y0, y1, y2, y3, y4, y5⟩ := (H6.out j y HY.out).mono HGY.out.1
          have hb8Y : b8 < Y.heap.size := by have := HGY.out.1.size; omega
          have hee := neqO_self y
          have hgg := guardO y y
          have HPY : Hid (PrW Y) := Lib.hid (HPX.out.mono HGY.out.1)
          by_cases hj0 : j = 0
          · subst hj0
            clear y0 y1 y2 y3 y4 y5
            have H60 := H6.out 0 y HY.out
            rw [Nat.zero_mul, Nat.add_zero] at H60
            obtain ⟨y0, y1, y2, y3, y4, y5⟩ := H60.mono HGY.out.1
            clear H60
            refine wp_region_held_drew (S := fun w' => GrS Y w') (by kernel_rfl) ?_ (fun hHeld => ?_)
            · exact GrS.start (Below.refl _ _)
            refine hx_take 0 (some 90) ?_ (by kernel_rfl) (by kernel_rfl) (by kernel_rfl) (by kernel_rfl) (by kernel_rfl) (fun _ _ _ h => h) (by assumption) (fun o ho w hSw => ?_) ?_
            rotate_left
            · replace ho := Option.some.inj ho
              conv at ho => lhs; whnf
              subst ho
              (try dsimp only at hSw)
              go_simp
              (try rfl)
            (try simp only [Act.put, List.setIfInBounds_toArray, List.set_cons_zero, List.set_cons_succ])
            refine hx_take 1 (some 91) ?_ (by kernel_rfl) (by kernel_rfl) (by kernel_rfl) (by kernel_rfl) (by kernel_rfl) (fun _ _ _ h => h) (by assumption) (fun o ho w hSw => ?_) ?_
            rotate_left
            · replace ho := Option.some.inj ho
              conv at ho => lhs; whnf
              subst ho
              (try dsimp only at hSw)
              go_simp
              (try rfl)
            (try simp only [Act.put, List.setIfInBounds_toArray, List.set_cons_zero, List.set_cons_succ])
            refine hx_take 2 (some 92) ?_ (by kernel_rfl) (by kernel_rfl) (by kernel_rfl) (by kernel_rfl) (by kernel_rfl) (fun _ _ _ h => h) (by assumption) (fun o ho w hSw => ?_) ?_
            rotate_left
            · replace ho := Option.some.inj ho
              conv at ho => lhs; whnf
              subst ho
              (try dsimp only at hSw)
              go_simp
              (try rfl)
            (try simp only [Act.put, List.setIfInBounds_toArray, List.set_cons_zero, List.set_cons_succ])
            refine hx_take 3 (some 93) ?_ (by kernel_rfl) (by kernel_rfl) (by kernel_rfl) (by kernel_rfl) (by kernel_rfl) (fun _ _ _ h => h) (by assumption) (fun o ho w hSw => ?_) ?_
            rotate_left
            · replace ho := Option.some.inj ho
              conv at ho => lhs; whnf
              subst ho
              (try dsimp only at hSw)
              go_simp
              (try rfl)
            (try simp only [Act.put, List.setIfInBounds_toArray, List.set_cons_zero, List.set_cons_succ])
            refine hx_take 4 (some 94) ?_ (by kernel_rfl) (by kernel_rfl) (by kernel_rfl) (by kernel_rfl) (by kernel_rfl) (fun _ _ _ h => h) (by assumption) (fun o ho w hSw => ?_) ?_
            rotate_left
            · replace ho := Option.some.inj ho
              conv at ho => lhs; whnf
              subst ho
              (try dsimp only at hSw)
              go_simp
              (try rfl)
            (try simp only [Act.put, List.setIfInBounds_toArray, List.set_cons_zero, List.set_cons_succ])
            refine hx_take 5 (some 95) ?_ (by kernel_rfl) (by kernel_rfl) (by kernel_rfl) (by kernel_rfl) (by kernel_rfl) (fun _ _ _ h => h) (by assumption) (fun o ho w hSw => ?_) ?_
            rotate_left
            · replace ho := Option.some.inj ho
              conv at ho => lhs; whnf
              subst ho
              (try dsimp only at hSw)
              go_simp
              (try rfl)
            (try simp only [Act.put, List.setIfInBounds_toArray, List.set_cons_zero, List.set_cons_succ])
            refine hx_take 6 (some 96) ?_ (by kernel_rfl) (by kernel_rfl) (by kernel_rfl) (by kernel_rfl) (by kernel_rfl) (fun _ _ _ h => h) (by assumption) (fun o ho w hSw => ?_) ?_
            rotate_left
            · replace ho := Option.some.inj ho
              conv at ho => lhs; whnf
              subst ho
              (try dsimp only at hSw)
              go_simp
              (try rfl)
            (try simp only [Act.put, List.setIfInBounds_toArray, List.set_cons_zero, List.set_cons_succ])
            refine hx_take 7 (some 97) ?_ (by kernel_rfl) (by kernel_rfl) (by kernel_rfl) (by kernel_rfl) (by kernel_rfl) (fun _ _ _ h => h) (by assumption) (fun o ho w hSw => ?_) ?_
            rotate_left
            · replace ho := Option.some.inj ho
              conv at ho => lhs; whnf
              subst ho
              (try dsimp only at hSw)
              go_simp
              (try rfl)
            (try simp only [Act.put, List.setIfInBounds_toArray, List.set_cons_zero, List.set_cons_succ])
            refine hx_take 8 (some 98) ?_ (by kernel_rfl) (by kernel_rfl) (by kernel_rfl) (by kernel_rfl) (by kernel_rfl) (fun _ _ _ h => h) (by assumption) (fun o ho w hSw => ?_) ?_
            rotate_left
            · replace ho := Option.some.inj ho
              conv at ho => lhs; whnf
              subst ho
              (try dsimp only at hSw)
              go_simp
              (try rfl)
            (try simp only [Act.put, List.setIfInBounds_toArray, List.set_cons_zero, List.set_cons_succ])
            refine hx_take 9 (some 99) ?_ (by kernel_rfl) (by kernel_rfl) (by kernel_rfl) (by kernel_rfl) (by kernel_rfl) (fun _ _ _ h => h) (by assumption) (fun o ho w hSw => ?_) ?_
            rotate_left
            · replace ho := Option.some.inj ho
              conv at ho => lhs; whnf
              subst ho
              (try dsimp only at hSw)
              go_simp
              (try rfl)
            (try simp only [Act.put, List.setIfInBounds_toArray, List.set_cons_zero, List.set_cons_succ])
            refine hx_take 10 (some 100) ?_ (by kernel_rfl) (by kernel_rfl) (by kernel_rfl) (by kernel_rfl) (by kernel_rfl) (fun _ _ _ h => h) (by assumption) (fun o ho w hSw => ?_) ?_
            rotate_left
            · replace ho := Option.some.inj ho
              conv at ho => lhs; whnf
              subst ho
              (try dsimp only at hSw)
              go_simp
              (try rfl)
            (try simp only [Act.put, List.setIfInBounds_toArray, List.set_cons_zero, List.set_cons_succ])
            refine hx_take 11 (some 101) ?_ (by kernel_rfl) (by kernel_rfl) (by kernel_rfl) (by kernel_rfl) (by kernel_rfl) (fun _ _ _ h => h) (by assumption) (fun o ho w hSw => ?_) ?_
            rotate_left
            · replace ho := Option.some.inj ho
              conv at ho => lhs; whnf
              subst ho
              (try dsimp only at hSw)
              go_simp
              (try rfl)
            (try simp only [Act.put, List.setIfInBounds_toArray, List.set_cons_zero, List.set_cons_succ])
            refine hx_take 12 (some 102) ?_ (by kernel_rfl) (by kernel_rfl) (by kernel_rfl) (by kernel_rfl) (by kernel_rfl) (fun _ _ _ h => h) (by assumption) (fun o ho w hSw => ?_) ?_
            rotate_left
            · replace ho := Option.some.inj ho
              conv at ho => lhs; whnf
              subst ho
              (try dsimp only at hSw)
              go_simp
              (try rfl)
            (try simp only [Act.put, List.setIfInBounds_toArray, List.set_cons_zero, List.set_cons_succ])
            refine hx_take 13 (some 103) ?_ (by kernel_rfl) (by kernel_rfl) (by kernel_rfl) (by kernel_rfl) (by kernel_rfl) (fun _ _ _ h => h) (by assumption) (fun o ho w hSw => ?_) ?_
            rotate_left
            · replace ho := Option.some.inj ho
              conv at ho => lhs; whnf
              subst ho
              (try dsimp only at hSw)
              go_simp
              (try rfl)
            (try simp only [Act.put, List.setIfInBounds_toArray, List.set_cons_zero, List.set_cons_succ])
            refine hx_take 14 (some 104) ?_ (by kernel_rfl) (by kernel_rfl) (by kernel_rfl) (by kernel_rfl) (by kernel_rfl) (fun _ _ _ h => h) (by assumption) (fun o ho w hSw => ?_) ?_
            rotate_left
            · replace ho := Option.some.inj ho
              conv at ho => lhs; whnf
              subst ho
              (try dsimp only at hSw)
              go_simp
              (try rfl)
            (try simp only [Act.put, List.setIfInBounds_toArray, List.set_cons_zero, List.set_cons_succ])
            refine hx_take 15 (some 105) ?_ (by kernel_rfl) (by kernel_rfl) (by kernel_rfl) (by kernel_rfl) (by kernel_rfl) (fun _ _ _ h => h) (by assumption) (fun o ho w hSw => ?_) ?_
            rotate_left
            · replace ho := Option.some.inj ho
              conv at ho => lhs; whnf
              subst ho
              (try dsimp only at hSw)
              go_simp
              (try rfl)
            (try simp only [Act.put, List.setIfInBounds_toArray, List.set_cons_zero, List.set_cons_succ])
            refine hx_take 16 (some 106) ?_ (by kernel_rfl) (by kernel_rfl) (by kernel_rfl) (by kernel_rfl) (by kernel_rfl) (fun _ _ _ h => h) (by assumption) (fun o ho w hSw => ?_) ?_
            rotate_left
            · replace ho := Option.some.inj ho
              conv at ho => lhs; whnf
              subst ho
              (try dsimp only at hSw)
              go_simp
              (try rfl)
            (try simp only [Act.put, List.setIfInBounds_toArray, List.set_cons_zero, List.set_cons_succ])
            refine hx_take 17 (some 107) ?_ (by kernel_rfl) (by kernel_rfl) (by kernel_rfl) (by kernel_rfl) (by kernel_rfl) (fun _ _ _ h => h) (by assumption) (fun o ho w hSw => ?_) ?_
            rotate_left
            · replace ho := Option.some.inj ho
              conv at ho => lhs; whnf
              subst ho
              (try dsimp only at hSw)
              go_simp
              (try rfl)
            (try simp only [Act.put, List.setIfInBounds_toArray, List.set_cons_zero, List.set_cons_succ])
            refine hx_take 18 (some 108) ?_ (by kernel_rfl) (by kernel_rfl) (by kernel_rfl) (by kernel_rfl) (by kernel_rfl) (fun _ _ _ h => h) (by assumption) (fun o ho w hSw => ?_) ?_
            rotate_left
            · replace ho := Option.some.inj ho
              conv at ho => lhs; whnf
              subst ho
              (try dsimp only at hSw)
              go_simp
              (try rfl)
            (try simp only [Act.put, List.setIfInBounds_toArray, List.set_cons_zero, List.set_cons_succ])
            refine hx_take 19 (some 109) ?_ (by kernel_rfl) (by kernel_rfl) (by kernel_rfl) (by kernel_rfl) (by kernel_rfl) (fun _ _ _ h => h) (by assumption) (fun o ho w hSw => ?_) ?_
            rotate_left
            · replace ho := Option.some.inj ho
              conv at ho => lhs; whnf
              subst ho
              (try dsimp only at hSw)
              go_simp
              (try rfl)
            (try simp only [Act.put, List.setIfInBounds_toArray, List.set_cons_zero, List.set_cons_succ])
            refine hx_take 20 (some 110) ?_ (by kernel_rfl) (by kernel_rfl) (by kernel_rfl) (by kernel_rfl) (by kernel_rfl) (fun _ _ _ h => h) (by assumption) (fun o ho w hSw => ?_) ?_
            rotate_left
            · replace ho := Option.some.inj ho
              conv at ho => lhs; whnf
              subst ho
              (try dsimp only at hSw)
              go_simp
              (try rfl)
            (try simp only [Act.put, List.setIfInBounds_toArray, List.set_cons_zero, List.set_cons_succ])
            refine hx_take 21 (some 111) ?_ (by kernel_rfl) (by kernel_rfl) (by kernel_rfl) (by kernel_rfl) (by kernel_rfl) (fun _ _ _ h => h) (by assumption) (fun o ho w hSw => ?_) ?_
            rotate_left
            · replace ho := Option.some.inj ho
              conv at ho => lhs; whnf
              subst ho
              (try dsimp only at hSw)
              go_simp
              (try rfl)
            (try simp only [Act.put, List.setIfInBounds_toArray, List.set_cons_zero, List.set_cons_succ])
            refine hx_take 22 (some 112) ?_ (by kernel_rfl) (by kernel_rfl) (by kernel_rfl) (by kernel_rfl) (by kernel_rfl) (fun _ _ _ h => h) (by assumption) (fun o ho w hSw => ?_) ?_
            rotate_left
            · replace ho := Option.some.inj ho
              conv at ho => lhs; whnf
              subst ho
              (try dsimp only at hSw)
              go_simp
              (try rfl)
            (try simp only [Act.put, List.setIfInBounds_toArray, List.set_cons_zero, List.set_cons_succ])
            refine hx_take 23 (some 113) ?_ (by kernel_rfl) (by kernel_rfl) (by kernel_rfl) (by kernel_rfl) (by kernel_rfl) (fun _ _ _ h => h) (by assumption) (fun o ho w hSw => ?_) ?_
            rotate_left
            · replace ho := Option.some.inj ho
              conv at ho => lhs; whnf
              subst ho
              (try dsimp only at hSw)
              go_simp
              (try rfl)
            (try simp only [Act.put, List.setIfInBounds_toArray, List.set_cons_zero, List.set_cons_succ])
            refine hx_take 24 (some 114) ?_ (by kernel_rfl) (by kernel_rfl) (by kernel_rfl) (by kernel_rfl) (by kernel_rfl) (fun _ _ _ h => h) (by assumption) (fun o ho w hSw => ?_) ?_
            rotate_left
            · replace ho := Option.some.inj ho
              conv at ho => lhs; whnf
              subst ho
              (try dsimp only at hSw)
              go_simp
              (try rfl)
            (try simp only [Act.put, List.setIfInBounds_toArray, List.set_cons_zero, List.set_cons_succ])
            refine hx_take 25 (some 115) ?_ (by kernel_rfl) (by kernel_rfl) (by kernel_rfl) (by kernel_rfl) (by kernel_rfl) (fun _ _ _ h => h) (by assumption) (fun o ho w hSw => ?_) ?_
            rotate_left
            · replace ho := Option.some.inj ho
              conv at ho => lhs; whnf
              subst ho
              (try dsimp only at hSw)
              go_simp
              (try rfl)
            (try simp only [Act.put, List.setIfInBounds_toArray, List.set_cons_zero, List.set_cons_succ])
            refine hx_take 26 (some 116) ?_ (by kernel_rfl) (by kernel_rfl) (by kernel_rfl) (by kernel_rfl) (by kernel_rfl) (fun _ _ _ h => h) (by assumption) (fun o ho w hSw => ?_) ?_
            rotate_left
            · replace ho := Option.some.inj ho
              conv at ho => lhs; whnf
              subst ho
              (try dsimp only at hSw)
              go_simp
              (try rfl)
            (try simp only [Act.put, List.setIfInBounds_toArray, List.set_cons_zero, List.set_cons_succ])
            refine hx_take 27 (some 117) ?_ (by kernel_rfl) (by kernel_rfl) (by kernel_rfl) (by kernel_rfl) (by kernel_rfl) (fun _ _ _ h => h) (by assumption) (fun o ho w hSw => ?_) ?_
            rotate_left
            · replace ho := Option.some.inj ho
              conv at ho => lhs; whnf
              subst ho
              (try dsimp only at hSw)
              go_simp
              (try rfl)
            (try simp only [Act.put, List.setIfInBounds_toArray, List.set_cons_zero, List.set_cons_succ])
            refine hx_take 28 (some 118) ?_ (by kernel_rfl) (by kernel_rfl) (by kernel_rfl) (by kernel_rfl) (by kernel_rfl) (fun _ _ _ h => h) (by assumption) (fun o ho w hSw => ?_) ?_
            rotate_left
            · replace ho := Option.some.inj ho
              conv at ho => lhs; whnf
              subst ho
              (try dsimp only at hSw)
              go_simp
              (try rfl)
            (try simp only [Act.put, List.setIfInBounds_toArray, List.set_cons_zero, List.set_cons_succ])
            refine hx_take 29 (some 119) ?_ (by kernel_rfl) (by kernel_rfl) (by kernel_rfl) (by kernel_rfl) (by kernel_rfl) (fun _ _ _ h => h) (by assumption) (fun o ho w hSw => ?_) ?_
            rotate_left
            · replace ho := Option.some.inj ho
              conv at ho => lhs; whnf
              subst ho
              (try dsimp only at hSw)
              go_simp
              (try rfl)
            (try simp only [Act.put, List.setIfInBounds_toArray, List.set_cons_zero, List.set_cons_succ])
            refine hx_take 30 (some 120) ?_ (by kernel_rfl) (by kernel_rfl) (by kernel_rfl) (by kernel_rfl) (by kernel_rfl) (fun _ _ _ h => h) (by assumption) (fun o ho w hSw => ?_) ?_
            rotate_left
            · replace ho := Option.some.inj ho
              conv at ho => lhs; whnf
              subst ho
              (try dsimp only at hSw)
              go_simp
              (try rfl)
            (try simp only [Act.put, List.setIfInBounds_toArray, List.set_cons_zero, List.set_cons_succ])
            refine hx_take 31 (some 121) ?_ (by kernel_rfl) (by kernel_rfl) (by kernel_rfl) (by kernel_rfl) (by kernel_rfl) (fun _ _ _ h => h) (by assumption) (fun o ho w hSw => ?_) ?_
            rotate_left
            · replace ho := Option.some.inj ho
              conv at ho => lhs; whnf
              subst ho
              (try dsimp only at hSw)
              go_simp
              (try rfl)
            (try simp only [Act.put, List.setIfInBounds_toArray, List.set_cons_zero, List.set_cons_succ])
            (refine hx_skip 32 (some 122) (by kernel_rfl) (by kernel_rfl) (by kernel_rfl) (by kernel_rfl) (by kernel_rfl) (fun _ _ _ h => h) (by assumption) ?_; (try simp only [Act.put, List.setIfInBounds_toArray, List.set_cons_zero, List.set_cons_succ]))
            (refine hx_skip 33 (some 123) (by kernel_rfl) (by kernel_rfl) (by kernel_rfl) (by kernel_rfl) (by kernel_rfl) (fun _ _ _ h => h) (by assumption) ?_; (try simp only [Act.put, List.setIfInBounds_toArray, List.set_cons_zero, List.set_cons_succ]))
            (refine hx_skip 34 (some 124) (by kernel_rfl) (by kernel_rfl) (by kernel_rfl) (by kernel_rfl) (by kernel_rfl) (fun _ _ _ h => h) (by assumption) ?_; (try simp only [Act.put, List.setIfInBounds_toArray, List.set_cons_zero, List.set_cons_succ]))
            (refine hx_skip 35 (some 125) (by kernel_rfl) (by kernel_rfl) (by kernel_rfl) (by kernel_rfl) (by kernel_rfl) (fun _ _ _ h => h) (by assumption) ?_; (try simp only [Act.put, List.setIfInBounds_toArray, List.set_cons_zero, List.set_cons_succ]))
            (refine hx_skip 36 (some 126) (by kernel_rfl) (by kernel_rfl) (by kernel_rfl) (by kernel_rfl) (by kernel_rfl) (fun _ _ _ h => h) (by assumption) ?_; (try simp only [Act.put, List.setIfInBounds_toArray, List.set_cons_zero, List.set_cons_succ]))
            (refine hx_skip 37 (some 127) (by kernel_rfl) (by kernel_rfl) (by kernel_rfl) (by kernel_rfl) (by kernel_rfl) (fun _ _ _ h => h) (by assumption) ?_; (try simp only [Act.put, List.setIfInBounds_toArray, List.set_cons_zero, List.set_cons_succ]))
            (refine hx_skip 38 (some 128) (by kernel_rfl) (by kernel_rfl) (by kernel_rfl) (by kernel_rfl) (by kernel_rfl) (fun _ _ _ h => h) (by assumption) ?_; (try simp only [Act.put, List.setIfInBounds_toArray, List.set_cons_zero, List.set_cons_succ]))
            (refine hx_skip 39 (some 129) (by kernel_rfl) (by kernel_rfl) (by kernel_rfl) (by kernel_rfl) (by kernel_rfl) (fun _ _ _ h => h) (by assumption) ?_; (try simp only [Act.put, List.setIfInBounds_toArray, List.set_cons_zero, List.set_cons_succ]))
            (refine hx_skip 40 (some 130) (by kernel_rfl) (by kernel_rfl) (by kernel_rfl) (by kernel_rfl) (by kernel_rfl) (fun _ _ _ h => h) (by assumption) ?_; (try simp only [Act.put, List.setIfInBounds_toArray, List.set_cons_zero, List.set_cons_succ]))
            (refine hx_skip 41 (some 131) (by kernel_rfl) (by kernel_rfl) (by kernel_rfl) (by kernel_rfl) (by kernel_rfl) (fun _ _ _ h => h) (by assumption) ?_; (try simp only [Act.put, List.setIfInBounds_toArray, List.set_cons_zero, List.set_cons_succ]))
            (refine hx_skip 42 (some 132) (by kernel_rfl) (by kernel_rfl) (by kernel_rfl) (by kernel_rfl) (by kernel_rfl) (fun _ _ _ h => h) (by assumption) ?_; (try simp only [Act.put, List.setIfInBounds_toArray, List.set_cons_zero, List.set_cons_succ]))
            refine hx_take 43 (some 133) ?_ (by kernel_rfl) (by kernel_rfl) (by kernel_rfl) (by kernel_rfl) (by kernel_rfl) (fun _ _ _ h => h) (by assumption) (fun o ho w hSw => ?_) ?_
            rotate_left
            · replace ho := Option.some.inj ho
              conv at ho => lhs; whnf
              subst ho
              (try dsimp only at hSw)
              go_simp
              (try rfl)
            (try simp only [Act.put, List.setIfInBounds_toArray, List.set_cons_zero, List.set_cons_succ])
            refine hx_take 44 (some 134) ?_ (by kernel_rfl) (by kernel_rfl) (by kernel_rfl) (by kernel_rfl) (by kernel_rfl) (fun _ _ _ h => h) (by assumption) (fun o ho w hSw => ?_) ?_
            rotate_left
            · replace ho := Option.some.inj ho
              conv at ho => lhs; whnf
              subst ho
              (try dsimp only at hSw)
              go_simp
              (try rfl)
            (try simp only [Act.put, List.setIfInBounds_toArray, List.set_cons_zero, List.set_cons_succ])
            refine wpAnyH_done (by kernel_rfl) ?_ _
            have HGE : Hid (GrS X _) := Lib.hid (GrS.of (grow_trans HGY.out.1 (show GrS Y _ from by assumption).1))
            go_wp2
            go_roundw
            case rel => exact ⟨⟨1, by omega, rfl⟩, HGE⟩
            case measure => simp [intOf]; omega
          · obtain ⟨z, HZ⟩ : ∃ z, Hid (L[j-1]? = some z) := ⟨_, Lib.hid (List.getElem?_eq_getElem (by have := HLN.out; omega))⟩
            have hlz : less z y = true := HAD.out (j-1) z y HZ.out (by rw [show j - 1 + 1 = j by omega]; exact HY.out)
            obtain ⟨z0, z1, z2, z3, z4, z5⟩ := (H6.out (j-1) z HZ.out).mono HGY.out.1
            have hp1 : 0 < j := by omega
            have hp2 : (0 : Int) < (j : Int) := by omega
            have hp3 : (1 : Int) ≤ (j : Int) := by omega
            have q0 : (0 : Int) ≤ (j : Int) - 1 := by omega
            have q1 : (j : Int) - 1 < (c : Int) := by omega
            have q2 : ((j : Int) - 1).toNat = j - 1 := by omega
            have q3 : IntKind.i64.wrap ((j : Int) - 1) = (j : Int) - 1 := IntWalk.i64_in _ (by omega)
            refine wp_region_held_drew (S := fun w' => GrS Y w') (by kernel_rfl) ?_ (fun hHeld => ?_)
            · exact GrS.start (Below.refl _ _)
            refine hx_take 0 (some 90) ?_ (by kernel_rfl) (by kernel_rfl) (by kernel_rfl) (by kernel_rfl) (by kernel_rfl) (fun _ _ _ h => h) (by assumption) (fun o ho w hSw => ?_) ?_
            rotate_left
            · replace ho := Option.some.inj ho
              conv at ho => lhs; whnf
              subst ho
              (try dsimp only at hSw)
              go_simp
              (try rfl)
            (try simp only [Act.put, List.setIfInBounds_toArray, List.set_cons_zero, List.set_cons_succ])
            refine hx_take 1 (some 91) ?_ (by kernel_rfl) (by kernel_rfl) (by kernel_rfl) (by kernel_rfl) (by kernel_rfl) (fun _ _ _ h => h) (by assumption) (fun o ho w hSw => ?_) ?_
            rotate_left
            · replace ho := Option.some.inj ho
              conv at ho => lhs; whnf
              subst ho
              (try dsimp only at hSw)
              go_simp
              (try rfl)
            (try simp only [Act.put, List.setIfInBounds_toArray, List.set_cons_zero, List.set_cons_succ])
            refine hx_take 2 (some 92) ?_ (by kernel_rfl) (by kernel_rfl) (by kernel_rfl) (by kernel_rfl) (by kernel_rfl) (fun _ _ _ h => h) (by assumption) (fun o ho w hSw => ?_) ?_
            rotate_left
            · replace ho := Option.some.inj ho
              conv at ho => lhs; whnf
              subst ho
              (try dsimp only at hSw)
              go_simp
              (try rfl)
            (try simp only [Act.put, List.setIfInBounds_toArray, List.set_cons_zero, List.set_cons_succ])
            refine hx_take 3 (some 93) ?_ (by kernel_rfl) (by kernel_rfl) (by kernel_rfl) (by kernel_rfl) (by kernel_rfl) (fun _ _ _ h => h) (by assumption) (fun o ho w hSw => ?_) ?_
            rotate_left
            · replace ho := Option.some.inj ho
              conv at ho => lhs; whnf
              subst ho
              (try dsimp only at hSw)
              go_simp
              (try rfl)
            (try simp only [Act.put, List.setIfInBounds_toArray, List.set_cons_zero, List.set_cons_succ])
            refine hx_take 4 (some 94) ?_ (by kernel_rfl) (by kernel_rfl) (by kernel_rfl) (by kernel_rfl) (by kernel_rfl) (fun _ _ _ h => h) (by assumption) (fun o ho w hSw => ?_) ?_
            rotate_left
            · replace ho := Option.some.inj ho
              conv at ho => lhs; whnf
              subst ho
              (try dsimp only at hSw)
              go_simp
              (try rfl)
            (try simp only [Act.put, List.setIfInBounds_toArray, List.set_cons_zero, List.set_cons_succ])
            refine hx_take 5 (some 95) ?_ (by kernel_rfl) (by kernel_rfl) (by kernel_rfl) (by kernel_rfl) (by kernel_rfl) (fun _ _ _ h => h) (by assumption) (fun o ho w hSw => ?_) ?_
            rotate_left
            · replace ho := Option.some.inj ho
              conv at ho => lhs; whnf
              subst ho
              (try dsimp only at hSw)
              go_simp
              (try rfl)
            (try simp only [Act.put, List.setIfInBounds_toArray, List.set_cons_zero, List.set_cons_succ])
            refine hx_take 6 (some 96) ?_ (by kernel_rfl) (by kernel_rfl) (by kernel_rfl) (by kernel_rfl) (by kernel_rfl) (fun _ _ _ h => h) (by assumption) (fun o ho w hSw => ?_) ?_
            rotate_left
            · replace ho := Option.some.inj ho
              conv at ho => lhs; whnf
              subst ho
              (try dsimp only at hSw)
              go_simp
              (try rfl)
            (try simp only [Act.put, List.setIfInBounds_toArray, List.set_cons_zero, List.set_cons_succ])
            refine hx_take 7 (some 97) ?_ (by kernel_rfl) (by kernel_rfl) (by kernel_rfl) (by kernel_rfl) (by kernel_rfl) (fun _ _ _ h => h) (by assumption) (fun o ho w hSw => ?_) ?_
            rotate_left
            · replace ho := Option.some.inj ho
              conv at ho => lhs; whnf
              subst ho
              (try dsimp only at hSw)
              go_simp
              (try rfl)
            (try simp only [Act.put, List.setIfInBounds_toArray, List.set_cons_zero, List.set_cons_succ])
            refine hx_take 8 (some 98) ?_ (by kernel_rfl) (by kernel_rfl) (by kernel_rfl) (by kernel_rfl) (by kernel_rfl) (fun _ _ _ h => h) (by assumption) (fun o ho w hSw => ?_) ?_
            rotate_left
            · replace ho := Option.some.inj ho
              conv at ho => lhs; whnf
              subst ho
              (try dsimp only at hSw)
              go_simp
              (try rfl)
            (try simp only [Act.put, List.setIfInBounds_toArray, List.set_cons_zero, List.set_cons_succ])
            refine hx_take 9 (some 99) ?_ (by kernel_rfl) (by kernel_rfl) (by kernel_rfl) (by kernel_rfl) (by kernel_rfl) (fun _ _ _ h => h) (by assumption) (fun o ho w hSw => ?_) ?_
            rotate_left
            · replace ho := Option.some.inj ho
              conv at ho => lhs; whnf
              subst ho
              (try dsimp only at hSw)
              go_simp
              (try rfl)
            (try simp only [Act.put, List.setIfInBounds_toArray, List.set_cons_zero, List.set_cons_succ])
            refine hx_take 10 (some 100) ?_ (by kernel_rfl) (by kernel_rfl) (by kernel_rfl) (by kernel_rfl) (by kernel_rfl) (fun _ _ _ h => h) (by assumption) (fun o ho w hSw => ?_) ?_
            rotate_left
            · replace ho := Option.some.inj ho
              conv at ho => lhs; whnf
              subst ho
              (try dsimp only at hSw)
              go_simp
              (try rfl)
            (try simp only [Act.put, List.setIfInBounds_toArray, List.set_cons_zero, List.set_cons_succ])
            refine hx_take 11 (some 101) ?_ (by kernel_rfl) (by kernel_rfl) (by kernel_rfl) (by kernel_rfl) (by kernel_rfl) (fun _ _ _ h => h) (by assumption) (fun o ho w hSw => ?_) ?_
            rotate_left
            · replace ho := Option.some.inj ho
              conv at ho => lhs; whnf
              subst ho
              (try dsimp only at hSw)
              go_simp
              (try rfl)
            (try simp only [Act.put, List.setIfInBounds_toArray, List.set_cons_zero, List.set_cons_succ])
            refine hx_take 12 (some 102) ?_ (by kernel_rfl) (by kernel_rfl) (by kernel_rfl) (by kernel_rfl) (by kernel_rfl) (fun _ _ _ h => h) (by assumption) (fun o ho w hSw => ?_) ?_
            rotate_left
            · replace ho := Option.some.inj ho
              conv at ho => lhs; whnf
              subst ho
              (try dsimp only at hSw)
              go_simp
              (try rfl)
            (try simp only [Act.put, List.setIfInBounds_toArray, List.set_cons_zero, List.set_cons_succ])
            refine hx_take 13 (some 103) ?_ (by kernel_rfl) (by kernel_rfl) (by kernel_rfl) (by kernel_rfl) (by kernel_rfl) (fun _ _ _ h => h) (by assumption) (fun o ho w hSw => ?_) ?_
            rotate_left
            · replace ho := Option.some.inj ho
              conv at ho => lhs; whnf
              subst ho
              (try dsimp only at hSw)
              go_simp
              (try rfl)
            (try simp only [Act.put, List.setIfInBounds_toArray, List.set_cons_zero, List.set_cons_succ])
            refine hx_take 14 (some 104) ?_ (by kernel_rfl) (by kernel_rfl) (by kernel_rfl) (by kernel_rfl) (by kernel_rfl) (fun _ _ _ h => h) (by assumption) (fun o ho w hSw => ?_) ?_
            rotate_left
            · replace ho := Option.some.inj ho
              conv at ho => lhs; whnf
              subst ho
              (try dsimp only at hSw)
              go_simp
              (try rfl)
            (try simp only [Act.put, List.setIfInBounds_toArray, List.set_cons_zero, List.set_cons_succ])
            refine hx_take 15 (some 105) ?_ (by kernel_rfl) (by kernel_rfl) (by kernel_rfl) (by kernel_rfl) (by kernel_rfl) (fun _ _ _ h => h) (by assumption) (fun o ho w hSw => ?_) ?_
            rotate_left
            · replace ho := Option.some.inj ho
              conv at ho => lhs; whnf
              subst ho
              (try dsimp only at hSw)
              go_simp
              (try rfl)
            (try simp only [Act.put, List.setIfInBounds_toArray, List.set_cons_zero, List.set_cons_succ])
            refine hx_take 16 (some 106) ?_ (by kernel_rfl) (by kernel_rfl) (by kernel_rfl) (by kernel_rfl) (by kernel_rfl) (fun _ _ _ h => h) (by assumption) (fun o ho w hSw => ?_) ?_
            rotate_left
            · replace ho := Option.some.inj ho
              conv at ho => lhs; whnf
              subst ho
              (try dsimp only at hSw)
              go_simp
              (try rfl)
            (try simp only [Act.put, List.setIfInBounds_toArray, List.set_cons_zero, List.set_cons_succ])
            refine hx_take 17 (some 107) ?_ (by kernel_rfl) (by kernel_rfl) (by kernel_rfl) (by kernel_rfl) (by kernel_rfl) (fun _ _ _ h => h) (by assumption) (fun o ho w hSw => ?_) ?_
            rotate_left
            · replace ho := Option.some.inj ho
              conv at ho => lhs; whnf
              subst ho
              (try dsimp only at hSw)
              go_simp
              (try rfl)
            (try simp only [Act.put, List.setIfInBounds_toArray, List.set_cons_zero, List.set_cons_succ])
            refine hx_take 18 (some 108) ?_ (by kernel_rfl) (by kernel_rfl) (by kernel_rfl) (by kernel_rfl) (by kernel_rfl) (fun _ _ _ h => h) (by assumption) (fun o ho w hSw => ?_) ?_
            rotate_left
            · replace ho := Option.some.inj ho
              conv at ho => lhs; whnf
              subst ho
              (try dsimp only at hSw)
              go_simp
              (try rfl)
            (try simp only [Act.put, List.setIfInBounds_toArray, List.set_cons_zero, List.set_cons_succ])
            refine hx_take 19 (some 109) ?_ (by kernel_rfl) (by kernel_rfl) (by kernel_rfl) (by kernel_rfl) (by kernel_rfl) (fun _ _ _ h => h) (by assumption) (fun o ho w hSw => ?_) ?_
            rotate_left
            · replace ho := Option.some.inj ho
              conv at ho => lhs; whnf
              subst ho
              (try dsimp only at hSw)
              go_simp
              (try rfl)
            (try simp only [Act.put, List.setIfInBounds_toArray, List.set_cons_zero, List.set_cons_succ])
            refine hx_take 20 (some 110) ?_ (by kernel_rfl) (by kernel_rfl) (by kernel_rfl) (by kernel_rfl) (by kernel_rfl) (fun _ _ _ h => h) (by assumption) (fun o ho w hSw => ?_) ?_
            rotate_left
            · replace ho := Option.some.inj ho
              conv at ho => lhs; whnf
              subst ho
              (try dsimp only at hSw)
              go_simp
              (try rfl)
            (try simp only [Act.put, List.setIfInBounds_toArray, List.set_cons_zero, List.set_cons_succ])
            refine hx_take 21 (some 111) ?_ (by kernel_rfl) (by kernel_rfl) (by kernel_rfl) (by kernel_rfl) (by kernel_rfl) (fun _ _ _ h => h) (by assumption) (fun o ho w hSw => ?_) ?_
            rotate_left
            · replace ho := Option.some.inj ho
              conv at ho => lhs; whnf
              subst ho
              (try dsimp only at hSw)
              go_simp
              (try rfl)
            (try simp only [Act.put, List.setIfInBounds_toArray, List.set_cons_zero, List.set_cons_succ])
            refine hx_take 22 (some 112) ?_ (by kernel_rfl) (by kernel_rfl) (by kernel_rfl) (by kernel_rfl) (by kernel_rfl) (fun _ _ _ h => h) (by assumption) (fun o ho w hSw => ?_) ?_
            rotate_left
            · replace ho := Option.some.inj ho
              conv at ho => lhs; whnf
              subst ho
              (try dsimp only at hSw)
              go_simp
              (try rfl)
            (try simp only [Act.put, List.setIfInBounds_toArray, List.set_cons_zero, List.set_cons_succ])
            refine hx_take 23 (some 113) ?_ (by kernel_rfl) (by kernel_rfl) (by kernel_rfl) (by kernel_rfl) (by kernel_rfl) (fun _ _ _ h => h) (by assumption) (fun o ho w hSw => ?_) ?_
            rotate_left
            · replace ho := Option.some.inj ho
              conv at ho => lhs; whnf
              subst ho
              (try dsimp only at hSw)
              go_simp
              (try rfl)
            (try simp only [Act.put, List.setIfInBounds_toArray, List.set_cons_zero, List.set_cons_succ])
            refine hx_take 24 (some 114) ?_ (by kernel_rfl) (by kernel_rfl) (by kernel_rfl) (by kernel_rfl) (by kernel_rfl) (fun _ _ _ h => h) (by assumption) (fun o ho w hSw => ?_) ?_
            rotate_left
            · replace ho := Option.some.inj ho
              conv at ho => lhs; whnf
              subst ho
              (try dsimp only at hSw)
              go_simp
              (try rfl)
            (try simp only [Act.put, List.setIfInBounds_toArray, List.set_cons_zero, List.set_cons_succ])
            refine hx_take 25 (some 115) ?_ (by kernel_rfl) (by kernel_rfl) (by kernel_rfl) (by kernel_rfl) (by kernel_rfl) (fun _ _ _ h => h) (by assumption) (fun o ho w hSw => ?_) ?_
            rotate_left
            · replace ho := Option.some.inj ho
              conv at ho => lhs; whnf
              subst ho
              (try dsimp only at hSw)
              go_simp
              (try rfl)
            (try simp only [Act.put, List.setIfInBounds_toArray, List.set_cons_zero, List.set_cons_succ])
            refine hx_take 26 (some 116) ?_ (by kernel_rfl) (by kernel_rfl) (by kernel_rfl) (by kernel_rfl) (by kernel_rfl) (fun _ _ _ h => h) (by assumption) (fun o ho w hSw => ?_) ?_
            rotate_left
            · replace ho := Option.some.inj ho
              conv at ho => lhs; whnf
              subst ho
              (try dsimp only at hSw)
              go_simp
              (try rfl)
            (try simp only [Act.put, List.setIfInBounds_toArray, List.set_cons_zero, List.set_cons_succ])
            refine hx_take 27 (some 117) ?_ (by kernel_rfl) (by kernel_rfl) (by kernel_rfl) (by kernel_rfl) (by kernel_rfl) (fun _ _ _ h => h) (by assumption) (fun o ho w hSw => ?_) ?_
            rotate_left
            · replace ho := Option.some.inj ho
              conv at ho => lhs; whnf
              subst ho
              (try dsimp only at hSw)
              go_simp
              (try rfl)
            (try simp only [Act.put, List.setIfInBounds_toArray, List.set_cons_zero, List.set_cons_succ])
            refine hx_take 28 (some 118) ?_ (by kernel_rfl) (by kernel_rfl) (by kernel_rfl) (by kernel_rfl) (by kernel_rfl) (fun _ _ _ h => h) (by assumption) (fun o ho w hSw => ?_) ?_
            rotate_left
            · replace ho := Option.some.inj ho
              conv at ho => lhs; whnf
              subst ho
              (try dsimp only at hSw)
              go_simp
              (try rfl)
            (try simp only [Act.put, List.setIfInBounds_toArray, List.set_cons_zero, List.set_cons_succ])
            refine hx_take 29 (some 119) ?_ (by kernel_rfl) (by kernel_rfl) (by kernel_rfl) (by kernel_rfl) (by kernel_rfl) (fun _ _ _ h => h) (by assumption) (fun o ho w hSw => ?_) ?_
            rotate_left
            · replace ho := Option.some.inj ho
              conv at ho => lhs; whnf
              subst ho
              (try dsimp only at hSw)
              go_simp
              (try rfl)
            (try simp only [Act.put, List.setIfInBounds_toArray, List.set_cons_zero, List.set_cons_succ])
            refine hx_take 30 (some 120) ?_ (by kernel_rfl) (by kernel_rfl) (by kernel_rfl) (by kernel_rfl) (by kernel_rfl) (fun _ _ _ h => h) (by assumption) (fun o ho w hSw => ?_) ?_
            rotate_left
            · replace ho := Option.some.inj ho
              conv at ho => lhs; whnf
              subst ho
              (try dsimp only at hSw)
              go_simp
              (try rfl)
            (try simp only [Act.put, List.setIfInBounds_toArray, List.set_cons_zero, List.set_cons_succ])
            refine hx_take 31 (some 121) ?_ (by kernel_rfl) (by kernel_rfl) (by kernel_rfl) (by kernel_rfl) (by kernel_rfl) (fun _ _ _ h => h) (by assumption) (fun o ho w hSw => ?_) ?_
            rotate_left
            · replace ho := Option.some.inj ho
              conv at ho => lhs; whnf
              subst ho
              (try dsimp only at hSw)
              go_simp
              (try rfl)
            (try simp only [Act.put, List.setIfInBounds_toArray, List.set_cons_zero, List.set_cons_succ])
            refine hx_take 32 (some 122) ?_ (by kernel_rfl) (by kernel_rfl) (by kernel_rfl) (by kernel_rfl) (by kernel_rfl) (fun _ _ _ h => h) (by assumption) (fun o ho w hSw => ?_) ?_
            rotate_left
            · replace ho := Option.some.inj ho
              conv at ho => lhs; whnf
              subst ho
              (try dsimp only at hSw)
              go_simp
              (try rfl)
            (try simp only [Act.put, List.setIfInBounds_toArray, List.set_cons_zero, List.set_cons_succ])
            refine hx_take 33 (some 123) ?_ (by kernel_rfl) (by kernel_rfl) (by kernel_rfl) (by kernel_rfl) (by kernel_rfl) (fun _ _ _ h => h) (by assumption) (fun o ho w hSw => ?_) ?_
            rotate_left
            · replace ho := Option.some.inj ho
              conv at ho => lhs; whnf
              subst ho
              (try dsimp only at hSw)
              go_simp
              (try rfl)
            (try simp only [Act.put, List.setIfInBounds_toArray, List.set_cons_zero, List.set_cons_succ])
            refine hx_take 34 (some 124) ?_ (by kernel_rfl) (by kernel_rfl) (by kernel_rfl) (by kernel_rfl) (by kernel_rfl) (fun _ _ _ h => h) (by assumption) (fun o ho w hSw => ?_) ?_
            rotate_left
            · replace ho := Option.some.inj ho
              conv at ho => lhs; whnf
              subst ho
              (try dsimp only at hSw)
              go_simp
              (try rfl)
            (try simp only [Act.put, List.setIfInBounds_toArray, List.set_cons_zero, List.set_cons_succ])
            refine hx_take 35 (some 125) ?_ (by kernel_rfl) (by kernel_rfl) (by kernel_rfl) (by kernel_rfl) (by kernel_rfl) (fun _ _ _ h => h) (by assumption) (fun o ho w hSw => ?_) ?_
            rotate_left
            · replace ho := Option.some.inj ho
              conv at ho => lhs; whnf
              subst ho
              (try dsimp only at hSw)
              go_simp
              (try rfl)
            (try simp only [Act.put, List.setIfInBounds_toArray, List.set_cons_zero, List.set_cons_succ])
            refine hx_take 36 (some 126) ?_ (by kernel_rfl) (by kernel_rfl) (by kernel_rfl) (by kernel_rfl) (by kernel_rfl) (fun _ _ _ h => h) (by assumption) (fun o ho w hSw => ?_) ?_
            rotate_left
            · replace ho := Option.some.inj ho
              conv at ho => lhs; whnf
              subst ho
              (try dsimp only at hSw)
              go_simp
              (try rfl)
            (try simp only [Act.put, List.setIfInBounds_toArray, List.set_cons_zero, List.set_cons_succ])
            refine hx_take 37 (some 127) ?_ (by kernel_rfl) (by kernel_rfl) (by kernel_rfl) (by kernel_rfl) (by kernel_rfl) (fun _ _ _ h => h) (by assumption) (fun o ho w hSw => ?_) ?_
            rotate_left
            · replace ho := Option.some.inj ho
              conv at ho => lhs; whnf
              subst ho
              (try dsimp only at hSw)
              go_simp
              (try rfl)
            (try simp only [Act.put, List.setIfInBounds_toArray, List.set_cons_zero, List.set_cons_succ])
            refine hx_take 38 (some 128) ?_ (by kernel_rfl) (by kernel_rfl) (by kernel_rfl) (by kernel_rfl) (by kernel_rfl) (fun _ _ _ h => h) (by assumption) (fun o ho w hSw => ?_) ?_
            rotate_left
            · replace ho := Option.some.inj ho
              conv at ho => lhs; whnf
              subst ho
              (try dsimp only at hSw)
              go_simp
              (try rfl)
            (try simp only [Act.put, List.setIfInBounds_toArray, List.set_cons_zero, List.set_cons_succ])
            refine hx_take 39 (some 129) ?_ (by kernel_rfl) (by kernel_rfl) (by kernel_rfl) (by kernel_rfl) (by kernel_rfl) (fun _ _ _ h => h) (by assumption) (fun o ho w hSw => ?_) ?_
            rotate_left
            · replace ho := Option.some.inj ho
              conv at ho => lhs; whnf
              subst ho
              (try dsimp only at hSw)
              go_simp
              (try rfl)
            (try simp only [Act.put, List.setIfInBounds_toArray, List.set_cons_zero, List.set_cons_succ])
            refine hx_take 40 (some 130) ?_ (by kernel_rfl) (by kernel_rfl) (by kernel_rfl) (by kernel_rfl) (by kernel_rfl) (fun _ _ _ h => h) (by assumption) (fun o ho w hSw => ?_) ?_
            rotate_left
            · replace ho := Option.some.inj ho
              conv at ho => lhs; whnf
              subst ho
              (try dsimp only at hSw)
              go_simp
              (try rfl)
            (try simp only [Act.put, List.setIfInBounds_toArray, List.set_cons_zero, List.set_cons_succ])
            refine hx_act 41 (some 131) (by kernel_rfl) (by kernel_rfl) (by kernel_rfl) (fun K hK o ho => ?_)
            replace ho := Option.some.inj ho
            conv at ho => lhs; whnf
            subst ho
            go_simp
            (go_at_call 14; (with_reducible refine (less_v z y _ hlz _ (HPY.out.mono (GrS.fin (by assumption)))).mono ?_); rintro e w4 ⟨rfl, hb1⟩)
            first | (refine hK _ _ ?_ (fun hHeld => ?_)) | (go_wp2_with fail; refine hK _ _ ?_ (fun hHeld => ?_))
            · exact GrS.call (by assumption) hb1
            clear hK K
            (try simp only [Act.put, List.setIfInBounds_toArray, List.set_cons_zero, List.set_cons_succ])
            refine hx_take 42 (some 132) ?_ (by kernel_rfl) (by kernel_rfl) (by kernel_rfl) (by kernel_rfl) (by kernel_rfl) (fun _ _ _ h => h) (by assumption) (fun o ho w hSw => ?_) ?_
            rotate_left
            · replace ho := Option.some.inj ho
              conv at ho => lhs; whnf
              subst ho
              (try dsimp only at hSw)
              go_simp
              (try rfl)
            (try simp only [Act.put, List.setIfInBounds_toArray, List.set_cons_zero, List.set_cons_succ])
            refine hx_take 43 (some 133) ?_ (by kernel_rfl) (by kernel_rfl) (by kernel_rfl) (by kernel_rfl) (by kernel_rfl) (fun _ _ _ h => h) (by assumption) (fun o ho w hSw => ?_) ?_
            rotate_left
            · replace ho := Option.some.inj ho
              conv at ho => lhs; whnf
              subst ho
              (try dsimp only at hSw)
              go_simp
              (try rfl)
            (try simp only [Act.put, List.setIfInBounds_toArray, List.set_cons_zero, List.set_cons_succ])
            refine hx_take 44 (some 134) ?_ (by kernel_rfl) (by kernel_rfl) (by kernel_rfl) (by kernel_rfl) (by kernel_rfl) (fun _ _ _ h => h) (by assumption) (fun o ho w hSw => ?_) ?_
            rotate_left
            · replace ho := Option.some.inj ho
              conv at ho => lhs; whnf
              subst ho
              (try dsimp only at hSw)
              go_simp
              (try rfl)
            (try simp only [Act.put, List.setIfInBounds_toArray, List.set_cons_zero, List.set_cons_succ])
            refine wpAnyH_done (by kernel_rfl) ?_ _
            have HGE : Hid (GrS X _) := Lib.hid (GrS.of (grow_trans HGY.out.1 (show GrS Y _ from by assumption).1))
            clear q0 q1 q2 q3
            go_wp2
            go_roundw
            case rel => exact ⟨⟨j + 1, by omega, by go_num⟩, HGE⟩
            case measure => simp [intOf]; omega
        · have hjc : j = c := by omega
          subst hjc
          have hcase : (j = 0 ∧ is = false) ∨ (0 < j ∧ is = true ∧ L[0]? = some F) := by
            have h1 := HFq.out; have h2 := HIq.out; have h3 := HLN.out
            cases hL' : L with
            | nil => rw [hL'] at h2 h3; left; exact ⟨by simpa using h3, by simpa using h2⟩
            | cons f r => rw [hL'] at h1 h2 h3; right; simp at h1 h2 h3; exact ⟨by omega, h2, by simp [h1]⟩
          rcases hcase with ⟨hj0, hi0⟩ | ⟨hj0, hi0, hL0⟩
          · subst hj0; subst hi0
            go_wp2_with fail
            refine wp_region_held_drew (S := fun w' => GrS X w') (by kernel_rfl) ?_ (fun hHeld => ?_)
            · exact GrS.start HB.out.1
            refine hx_take 0 (some 135) ?_ (by kernel_rfl) (by kernel_rfl) (by kernel_rfl) (by kernel_rfl) (by kernel_rfl) (fun _ _ _ h => h) (by assumption) (fun o ho w hSw => ?_) ?_
            rotate_left
            · replace ho := Option.some.inj ho
              conv at ho => lhs; whnf
              subst ho
              (try dsimp only at hSw)
              go_simp
              (try rfl)
            (try simp only [Act.put, List.setIfInBounds_toArray, List.set_cons_zero, List.set_cons_succ])
            refine hx_take 1 (some 136) ?_ (by kernel_rfl) (by kernel_rfl) (by kernel_rfl) (by kernel_rfl) (by kernel_rfl) (fun _ _ _ h => h) (by assumption) (fun o ho w hSw => ?_) ?_
            rotate_left
            · replace ho := Option.some.inj ho
              conv at ho => lhs; whnf
              subst ho
              (try dsimp only at hSw)
              go_simp
              (try rfl)
            (try simp only [Act.put, List.setIfInBounds_toArray, List.set_cons_zero, List.set_cons_succ])
            refine hx_take 2 (some 137) ?_ (by kernel_rfl) (by kernel_rfl) (by kernel_rfl) (by kernel_rfl) (by kernel_rfl) (fun _ _ _ h => h) (by assumption) (fun o ho w hSw => ?_) ?_
            rotate_left
            · replace ho := Option.some.inj ho
              conv at ho => lhs; whnf
              subst ho
              (try dsimp only at hSw)
              go_simp
              (try rfl)
            (try simp only [Act.put, List.setIfInBounds_toArray, List.set_cons_zero, List.set_cons_succ])
            refine hx_take 3 (some 138) ?_ (by kernel_rfl) (by kernel_rfl) (by kernel_rfl) (by kernel_rfl) (by kernel_rfl) (fun _ _ _ h => h) (by assumption) (fun o ho w hSw => ?_) ?_
            rotate_left
            · replace ho := Option.some.inj ho
              conv at ho => lhs; whnf
              subst ho
              (try dsimp only at hSw)
              go_simp
              (try rfl)
            (try simp only [Act.put, List.setIfInBounds_toArray, List.set_cons_zero, List.set_cons_succ])
            refine hx_take 4 (some 139) ?_ (by kernel_rfl) (by kernel_rfl) (by kernel_rfl) (by kernel_rfl) (by kernel_rfl) (fun _ _ _ h => h) (by assumption) (fun o ho w hSw => ?_) ?_
            rotate_left
            · replace ho := Option.some.inj ho
              conv at ho => lhs; whnf
              subst ho
              (try dsimp only at hSw)
              go_simp
              (try rfl)
            (try simp only [Act.put, List.setIfInBounds_toArray, List.set_cons_zero, List.set_cons_succ])
            refine hx_take 5 (some 140) ?_ (by kernel_rfl) (by kernel_rfl) (by kernel_rfl) (by kernel_rfl) (by kernel_rfl) (fun _ _ _ h => h) (by assumption) (fun o ho w hSw => ?_) ?_
            rotate_left
            · replace ho := Option.some.inj ho
              conv at ho => lhs; whnf
              subst ho
              (try dsimp only at hSw)
              go_simp
              (try rfl)
            (try simp only [Act.put, List.setIfInBounds_toArray, List.set_cons_zero, List.set_cons_succ])
            refine hx_take 6 (some 141) ?_ (by kernel_rfl) (by kernel_rfl) (by kernel_rfl) (by kernel_rfl) (by kernel_rfl) (fun _ _ _ h => h) (by assumption) (fun o ho w hSw => ?_) ?_
            rotate_left
            · replace ho := Option.some.inj ho
              conv at ho => lhs; whnf
              subst ho
              (try dsimp only at hSw)
              go_simp
              (try rfl)
            (try simp only [Act.put, List.setIfInBounds_toArray, List.set_cons_zero, List.set_cons_succ])
            refine hx_take 7 (some 142) ?_ (by kernel_rfl) (by kernel_rfl) (by kernel_rfl) (by kernel_rfl) (by kernel_rfl) (fun _ _ _ h => h) (by assumption) (fun o ho w hSw => ?_) ?_
            rotate_left
            · replace ho := Option.some.inj ho
              conv at ho => lhs; whnf
              subst ho
              (try dsimp only at hSw)
              go_simp
              (try rfl)
            (try simp only [Act.put, List.setIfInBounds_toArray, List.set_cons_zero, List.set_cons_succ])
            refine hx_take 8 (some 143) ?_ (by kernel_rfl) (by kernel_rfl) (by kernel_rfl) (by kernel_rfl) (by kernel_rfl) (fun _ _ _ h => h) (by assumption) (fun o ho w hSw => ?_) ?_
            rotate_left
            · replace ho := Option.some.inj ho
              conv at ho => lhs; whnf
              subst ho
              (try dsimp only at hSw)
              go_simp
              (try rfl)
            (try simp only [Act.put, List.setIfInBounds_toArray, List.set_cons_zero, List.set_cons_succ])
            refine hx_take 9 (some 144) ?_ (by kernel_rfl) (by kernel_rfl) (by kernel_rfl) (by kernel_rfl) (by kernel_rfl) (fun _ _ _ h => h) (by assumption) (fun o ho w hSw => ?_) ?_
            rotate_left
            · replace ho := Option.some.inj ho
              conv at ho => lhs; whnf
              subst ho
              (try dsimp only at hSw)
              go_simp
              (try rfl)
            (try simp only [Act.put, List.setIfInBounds_toArray, List.set_cons_zero, List.set_cons_succ])
            refine hx_take 10 (some 145) ?_ (by kernel_rfl) (by kernel_rfl) (by kernel_rfl) (by kernel_rfl) (by kernel_rfl) (fun _ _ _ h => h) (by assumption) (fun o ho w hSw => ?_) ?_
            rotate_left
            · replace ho := Option.some.inj ho
              conv at ho => lhs; whnf
              subst ho
              (try dsimp only at hSw)
              go_simp
              (try rfl)
            (try simp only [Act.put, List.setIfInBounds_toArray, List.set_cons_zero, List.set_cons_succ])
            refine hx_take 11 (some 146) ?_ (by kernel_rfl) (by kernel_rfl) (by kernel_rfl) (by kernel_rfl) (by kernel_rfl) (fun _ _ _ h => h) (by assumption) (fun o ho w hSw => ?_) ?_
            rotate_left
            · replace ho := Option.some.inj ho
              conv at ho => lhs; whnf
              subst ho
              (try dsimp only at hSw)
              go_simp
              (try rfl)
            (try simp only [Act.put, List.setIfInBounds_toArray, List.set_cons_zero, List.set_cons_succ])
            refine hx_take 12 (some 147) ?_ (by kernel_rfl) (by kernel_rfl) (by kernel_rfl) (by kernel_rfl) (by kernel_rfl) (fun _ _ _ h => h) (by assumption) (fun o ho w hSw => ?_) ?_
            rotate_left
            · replace ho := Option.some.inj ho
              conv at ho => lhs; whnf
              subst ho
              (try dsimp only at hSw)
              go_simp
              (try rfl)
            (try simp only [Act.put, List.setIfInBounds_toArray, List.set_cons_zero, List.set_cons_succ])
            refine hx_take 13 (some 148) ?_ (by kernel_rfl) (by kernel_rfl) (by kernel_rfl) (by kernel_rfl) (by kernel_rfl) (fun _ _ _ h => h) (by assumption) (fun o ho w hSw => ?_) ?_
            rotate_left
            · replace ho := Option.some.inj ho
              conv at ho => lhs; whnf
              subst ho
              (try dsimp only at hSw)
              go_simp
              (try rfl)
            (try simp only [Act.put, List.setIfInBounds_toArray, List.set_cons_zero, List.set_cons_succ])
            (refine hx_skip 14 (some 149) (by kernel_rfl) (by kernel_rfl) (by kernel_rfl) (by kernel_rfl) (by kernel_rfl) (fun _ _ _ h => h) (by assumption) ?_; (try simp only [Act.put, List.setIfInBounds_toArray, List.set_cons_zero, List.set_cons_succ]))
            (refine hx_skip 15 (some 150) (by kernel_rfl) (by kernel_rfl) (by kernel_rfl) (by kernel_rfl) (by kernel_rfl) (fun _ _ _ h => h) (by assumption) ?_; (try simp only [Act.put, List.setIfInBounds_toArray, List.set_cons_zero, List.set_cons_succ]))
            (refine hx_skip 16 (some 151) (by kernel_rfl) (by kernel_rfl) (by kernel_rfl) (by kernel_rfl) (by kernel_rfl) (fun _ _ _ h => h) (by assumption) ?_; (try simp only [Act.put, List.setIfInBounds_toArray, List.set_cons_zero, List.set_cons_succ]))
            (refine hx_skip 17 (some 152) (by kernel_rfl) (by kernel_rfl) (by kernel_rfl) (by kernel_rfl) (by kernel_rfl) (fun _ _ _ h => h) (by assumption) ?_; (try simp only [Act.put, List.setIfInBounds_toArray, List.set_cons_zero, List.set_cons_succ]))
            (refine hx_skip 18 (some 153) (by kernel_rfl) (by kernel_rfl) (by kernel_rfl) (by kernel_rfl) (by kernel_rfl) (fun _ _ _ h => h) (by assumption) ?_; (try simp only [Act.put, List.setIfInBounds_toArray, List.set_cons_zero, List.set_cons_succ]))
            refine hx_take 19 (some 154) ?_ (by kernel_rfl) (by kernel_rfl) (by kernel_rfl) (by kernel_rfl) (by kernel_rfl) (fun _ _ _ h => h) (by assumption) (fun o ho w hSw => ?_) ?_
            rotate_left
            · replace ho := Option.some.inj ho
              conv at ho => lhs; whnf
              subst ho
              (try dsimp only at hSw)
              go_simp
              (try rfl)
            (try simp only [Act.put, List.setIfInBounds_toArray, List.set_cons_zero, List.set_cons_succ])
            refine hx_take 20 (some 155) ?_ (by kernel_rfl) (by kernel_rfl) (by kernel_rfl) (by kernel_rfl) (by kernel_rfl) (fun _ _ _ h => h) (by assumption) (fun o ho w hSw => ?_) ?_
            rotate_left
            · replace ho := Option.some.inj ho
              conv at ho => lhs; whnf
              subst ho
              (try dsimp only at hSw)
              go_simp
              (try rfl)
            (try simp only [Act.put, List.setIfInBounds_toArray, List.set_cons_zero, List.set_cons_succ])
            refine hx_take 21 (some 6) ?_ (by kernel_rfl) (by kernel_rfl) (by kernel_rfl) (by kernel_rfl) (by kernel_rfl) (fun _ _ _ h => h) (by assumption) (fun o ho w hSw => ?_) ?_
            rotate_left
            · replace ho := Option.some.inj ho
              conv at ho => lhs; whnf
              subst ho
              (try dsimp only at hSw)
              go_simp
              (try rfl)
            (try simp only [Act.put, List.setIfInBounds_toArray, List.set_cons_zero, List.set_cons_succ])
            refine wpAnyH_done (by kernel_rfl) ?_ _
            have HGE : Hid (GrS X _) := Lib.hid (show GrS X _ from by assumption)
            go_wp2
            go_ret
            exact ⟨rfl, grow_trans HBX.out HGE.out.1⟩
          · subst hi0
            obtain ⟨b8, off8, hra, hb8, h6⟩ := SlR.cells6 HRX.out (by intro h; rw [h] at hL0; simp at hL0)
            subst hra
            have H60 := h6 0 F hL0
            rw [Nat.zero_mul, Nat.add_zero] at H60
            obtain ⟨y0, y1, y2, y3, y4, y5⟩ := H60
            clear h6 hL0
            have hp2 : (0 : Int) < (j : Int) := by omega
            have hee := eqlO_self F
            have hgg := guardE F F
            go_wp2_with fail
            refine wp_region_held_drew (S := fun w' => GrS X w') (by kernel_rfl) ?_ (fun hHeld => ?_)
            · exact GrS.start HB.out.1
            refine hx_take 0 (some 135) ?_ (by kernel_rfl) (by kernel_rfl) (by kernel_rfl) (by kernel_rfl) (by kernel_rfl) (fun _ _ _ h => h) (by assumption) (fun o ho w hSw => ?_) ?_
            rotate_left
            · replace ho := Option.some.inj ho
              conv at ho => lhs; whnf
              subst ho
              (try dsimp only at hSw)
              go_simp
              (try rfl)
            (try simp only [Act.put, List.setIfInBounds_toArray, List.set_cons_zero, List.set_cons_succ])
            refine hx_take 1 (some 136) ?_ (by kernel_rfl) (by kernel_rfl) (by kernel_rfl) (by kernel_rfl) (by kernel_rfl) (fun _ _ _ h => h) (by assumption) (fun o ho w hSw => ?_) ?_
            rotate_left
            · replace ho := Option.some.inj ho
              conv at ho => lhs; whnf
              subst ho
              (try dsimp only at hSw)
              go_simp
              (try rfl)
            (try simp only [Act.put, List.setIfInBounds_toArray, List.set_cons_zero, List.set_cons_succ])
            refine hx_take 2 (some 137) ?_ (by kernel_rfl) (by kernel_rfl) (by kernel_rfl) (by kernel_rfl) (by kernel_rfl) (fun _ _ _ h => h) (by assumption) (fun o ho w hSw => ?_) ?_
            rotate_left
            · replace ho := Option.some.inj ho
              conv at ho => lhs; whnf
              subst ho
              (try dsimp only at hSw)
              go_simp
              (try rfl)
            (try simp only [Act.put, List.setIfInBounds_toArray, List.set_cons_zero, List.set_cons_succ])
            refine hx_take 3 (some 138) ?_ (by kernel_rfl) (by kernel_rfl) (by kernel_rfl) (by kernel_rfl) (by kernel_rfl) (fun _ _ _ h => h) (by assumption) (fun o ho w hSw => ?_) ?_
            rotate_left
            · replace ho := Option.some.inj ho
              conv at ho => lhs; whnf
              subst ho
              (try dsimp only at hSw)
              go_simp
              (try rfl)
            (try simp only [Act.put, List.setIfInBounds_toArray, List.set_cons_zero, List.set_cons_succ])
            refine hx_take 4 (some 139) ?_ (by kernel_rfl) (by kernel_rfl) (by kernel_rfl) (by kernel_rfl) (by kernel_rfl) (fun _ _ _ h => h) (by assumption) (fun o ho w hSw => ?_) ?_
            rotate_left
            · replace ho := Option.some.inj ho
              conv at ho => lhs; whnf
              subst ho
              (try dsimp only at hSw)
              go_simp
              (try rfl)
            (try simp only [Act.put, List.setIfInBounds_toArray, List.set_cons_zero, List.set_cons_succ])
            refine hx_take 5 (some 140) ?_ (by kernel_rfl) (by kernel_rfl) (by kernel_rfl) (by kernel_rfl) (by kernel_rfl) (fun _ _ _ h => h) (by assumption) (fun o ho w hSw => ?_) ?_
            rotate_left
            · replace ho := Option.some.inj ho
              conv at ho => lhs; whnf
              subst ho
              (try dsimp only at hSw)
              go_simp
              (try rfl)
            (try simp only [Act.put, List.setIfInBounds_toArray, List.set_cons_zero, List.set_cons_succ])
            refine hx_take 6 (some 141) ?_ (by kernel_rfl) (by kernel_rfl) (by kernel_rfl) (by kernel_rfl) (by kernel_rfl) (fun _ _ _ h => h) (by assumption) (fun o ho w hSw => ?_) ?_
            rotate_left
            · replace ho := Option.some.inj ho
              conv at ho => lhs; whnf
              subst ho
              (try dsimp only at hSw)
              go_simp
              (try rfl)
            (try simp only [Act.put, List.setIfInBounds_toArray, List.set_cons_zero, List.set_cons_succ])
            refine hx_take 7 (some 142) ?_ (by kernel_rfl) (by kernel_rfl) (by kernel_rfl) (by kernel_rfl) (by kernel_rfl) (fun _ _ _ h => h) (by assumption) (fun o ho w hSw => ?_) ?_
            rotate_left
            · replace ho := Option.some.inj ho
              conv at ho => lhs; whnf
              subst ho
              (try dsimp only at hSw)
              go_simp
              (try rfl)
            (try simp only [Act.put, List.setIfInBounds_toArray, List.set_cons_zero, List.set_cons_succ])
            refine hx_take 8 (some 143) ?_ (by kernel_rfl) (by kernel_rfl) (by kernel_rfl) (by kernel_rfl) (by kernel_rfl) (fun _ _ _ h => h) (by assumption) (fun o ho w hSw => ?_) ?_
            rotate_left
            · replace ho := Option.some.inj ho
              conv at ho => lhs; whnf
              subst ho
              (try dsimp only at hSw)
              go_simp
              (try rfl)
            (try simp only [Act.put, List.setIfInBounds_toArray, List.set_cons_zero, List.set_cons_succ])
            refine hx_take 9 (some 144) ?_ (by kernel_rfl) (by kernel_rfl) (by kernel_rfl) (by kernel_rfl) (by kernel_rfl) (fun _ _ _ h => h) (by assumption) (fun o ho w hSw => ?_) ?_
            rotate_left
            · replace ho := Option.some.inj ho
              conv at ho => lhs; whnf
              subst ho
              (try dsimp only at hSw)
              go_simp
              (try rfl)
            (try simp only [Act.put, List.setIfInBounds_toArray, List.set_cons_zero, List.set_cons_succ])
            refine hx_take 10 (some 145) ?_ (by kernel_rfl) (by kernel_rfl) (by kernel_rfl) (by kernel_rfl) (by kernel_rfl) (fun _ _ _ h => h) (by assumption) (fun o ho w hSw => ?_) ?_
            rotate_left
            · replace ho := Option.some.inj ho
              conv at ho => lhs; whnf
              subst ho
              (try dsimp only at hSw)
              go_simp
              (try rfl)
            (try simp only [Act.put, List.setIfInBounds_toArray, List.set_cons_zero, List.set_cons_succ])
            refine hx_take 11 (some 146) ?_ (by kernel_rfl) (by kernel_rfl) (by kernel_rfl) (by kernel_rfl) (by kernel_rfl) (fun _ _ _ h => h) (by assumption) (fun o ho w hSw => ?_) ?_
            rotate_left
            · replace ho := Option.some.inj ho
              conv at ho => lhs; whnf
              subst ho
              (try dsimp only at hSw)
              go_simp
              (try rfl)
            (try simp only [Act.put, List.setIfInBounds_toArray, List.set_cons_zero, List.set_cons_succ])
            refine hx_take 12 (some 147) ?_ (by kernel_rfl) (by kernel_rfl) (by kernel_rfl) (by kernel_rfl) (by kernel_rfl) (fun _ _ _ h => h) (by assumption) (fun o ho w hSw => ?_) ?_
            rotate_left
            · replace ho := Option.some.inj ho
              conv at ho => lhs; whnf
              subst ho
              (try dsimp only at hSw)
              go_simp
              (try rfl)
            (try simp only [Act.put, List.setIfInBounds_toArray, List.set_cons_zero, List.set_cons_succ])
            refine hx_take 13 (some 148) ?_ (by kernel_rfl) (by kernel_rfl) (by kernel_rfl) (by kernel_rfl) (by kernel_rfl) (fun _ _ _ h => h) (by assumption) (fun o ho w hSw => ?_) ?_
            rotate_left
            · replace ho := Option.some.inj ho
              conv at ho => lhs; whnf
              subst ho
              (try dsimp only at hSw)
              go_simp
              (try rfl)
            (try simp only [Act.put, List.setIfInBounds_toArray, List.set_cons_zero, List.set_cons_succ])
            refine hx_take 14 (some 149) ?_ (by kernel_rfl) (by kernel_rfl) (by kernel_rfl) (by kernel_rfl) (by kernel_rfl) (fun _ _ _ h => h) (by assumption) (fun o ho w hSw => ?_) ?_
            rotate_left
            · replace ho := Option.some.inj ho
              conv at ho => lhs; whnf
              subst ho
              (try dsimp only at hSw)
              go_simp
              (try rfl)
            (try simp only [Act.put, List.setIfInBounds_toArray, List.set_cons_zero, List.set_cons_succ])
            refine hx_take 15 (some 150) ?_ (by kernel_rfl) (by kernel_rfl) (by kernel_rfl) (by kernel_rfl) (by kernel_rfl) (fun _ _ _ h => h) (by assumption) (fun o ho w hSw => ?_) ?_
            rotate_left
            · replace ho := Option.some.inj ho
              conv at ho => lhs; whnf
              subst ho
              (try dsimp only at hSw)
              go_simp
              (try rfl)
            (try simp only [Act.put, List.setIfInBounds_toArray, List.set_cons_zero, List.set_cons_succ])
            refine hx_take 16 (some 151) ?_ (by kernel_rfl) (by kernel_rfl) (by kernel_rfl) (by kernel_rfl) (by kernel_rfl) (fun _ _ _ h => h) (by assumption) (fun o ho w hSw => ?_) ?_
            rotate_left
            · replace ho := Option.some.inj ho
              conv at ho => lhs; whnf
              subst ho
              (try dsimp only at hSw)
              go_simp
              (try rfl)
            (try simp only [Act.put, List.setIfInBounds_toArray, List.set_cons_zero, List.set_cons_succ])
            refine hx_take 17 (some 152) ?_ (by kernel_rfl) (by kernel_rfl) (by kernel_rfl) (by kernel_rfl) (by kernel_rfl) (fun _ _ _ h => h) (by assumption) (fun o ho w hSw => ?_) ?_
            rotate_left
            · replace ho := Option.some.inj ho
              conv at ho => lhs; whnf
              subst ho
              (try dsimp only at hSw)
              go_simp
              (try rfl)
            (try simp only [Act.put, List.setIfInBounds_toArray, List.set_cons_zero, List.set_cons_succ])
            refine hx_take 18 (some 153) ?_ (by kernel_rfl) (by kernel_rfl) (by kernel_rfl) (by kernel_rfl) (by kernel_rfl) (fun _ _ _ h => h) (by assumption) (fun o ho w hSw => ?_) ?_
            rotate_left
            · replace ho := Option.some.inj ho
              conv at ho => lhs; whnf
              subst ho
              (try dsimp only at hSw)
              go_simp
              (try rfl)
            (try simp only [Act.put, List.setIfInBounds_toArray, List.set_cons_zero, List.set_cons_succ])
            refine hx_take 19 (some 154) ?_ (by kernel_rfl) (by kernel_rfl) (by kernel_rfl) (by kernel_rfl) (by kernel_rfl) (fun _ _ _ h => h) (by assumption) (fun o ho w hSw => ?_) ?_
            rotate_left
            · replace ho := Option.some.inj ho
              conv at ho => lhs; whnf
              subst ho
              (try dsimp only at hSw)
              go_simp
              (try rfl)
            (try simp only [Act.put, List.setIfInBounds_toArray, List.set_cons_zero, List.set_cons_succ])
            refine hx_take 20 (some 155) ?_ (by kernel_rfl) (by kernel_rfl) (by kernel_rfl) (by kernel_rfl) (by kernel_rfl) (fun _ _ _ h => h) (by assumption) (fun o ho w hSw => ?_) ?_
            rotate_left
            · replace ho := Option.some.inj ho
              conv at ho => lhs; whnf
              subst ho
              (try dsimp only at hSw)
              go_simp
              (try rfl)
            (try simp only [Act.put, List.setIfInBounds_toArray, List.set_cons_zero, List.set_cons_succ])
            refine hx_take 21 (some 6) ?_ (by kernel_rfl) (by kernel_rfl) (by kernel_rfl) (by kernel_rfl) (by kernel_rfl) (fun _ _ _ h => h) (by assumption) (fun o ho w hSw => ?_) ?_
            rotate_left
            · replace ho := Option.some.inj ho
              conv at ho => lhs; whnf
              subst ho
              (try dsimp only at hSw)
              go_simp
              (try rfl)
            (try simp only [Act.put, List.setIfInBounds_toArray, List.set_cons_zero, List.set_cons_succ])
            refine wpAnyH_done (by kernel_rfl) ?_ _
            have HGE : Hid (GrS X _) := Lib.hid (show GrS X _ from by assumption)
            go_wp2
            go_ret
            exact ⟨rfl, grow_trans HBX.out HGE.out.1⟩
theorem lawFirst_c (la : Option Addr) (lc : Nat) (xs : List Ord) (inst side : Int) (w : World) (hs : SlO w la lc xs) (hp : PrW w) :
    Calls Tryd.prog 7 #[.slice la xs.length lc, .int .i64 inst, .int .u8 side] w fun e w' => e = .returned (.bool true) ∧ Below w.heap.size w w' := by
  cases hn : decide (200 < (xs.length : Int)) with
  | true => exact lawFi_big la lc _ inst side w hp hn
  | false =>
    have hle : xs.length ≤ 1000000 := by simp at hn; omega
    have HL := fun w1 (hb : Below w.heap.size w w1) => list_r la lc xs inst side w1 (hs.mono hb) (hp.mono hb) hle
    have HM := fun w1 (hb : Below w.heap.size w w1) => may_c la lc xs w1 (hs.mono hb)
    have HF1 := fun w1 (hb : Below w.heap.size w w1) => first_c la lc xs inst side w1 (hs.mono hb) (hp.mono hb) hle
    cases hm : mayL xs with
    | false =>
      have e : listOf xs inst side = [] := by unfold listOf; rw [if_neg (by rw [hm]; simp)]
      rw [hm] at HM
      rw [e] at HL
      exact lawFi_no la lc _ inst side w hp hn (Lib.hid (fun w1 hb => (HL w1 hb).mono fun _ _ ⟨a', c', h1, h2, _⟩ => ⟨a', c', h1, h2⟩)) (Lib.hid HM)
    | true =>
      rw [hm] at HM
      refine lawFi_yes la lc _ _ xs _ inst side _ _ w (Lib.hid hs) (Lib.hid rfl) hp hn hm rfl (Lib.hid rfl) rfl rfl (Lib.hid HL) (Lib.hid HM) (Lib.hid HF1) (Lib.hid (fun y hy w1 hb => ?_))
      have := find_c la lc xs y.id w1 (hs.mono hb) hle
      rw [findO_mem hm hy] at this
      exact this
end Go.Proofs.YtecfajnmekpeoaaDoor
