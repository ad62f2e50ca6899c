/-
  Contract of layer 16 (book): Add, at every list, every order. Conditions: that the slice reads as a list of at most 1000000 orders.
-/
import Derived.Test.YtecfajnmekpeoaaDoorBkF
import Derived.Test.YtecfajnmekpeoaaDoorMa
namespace Go.Proofs.YtecfajnmekpeoaaDoor
open Go.RowKit

theorem elemO : ElemT Tryd.prog 31 23 6 48 := ⟨Tryd.underlying31, by
  have h : (Tryd.prog.info? 23).map (fun i => (i.zero.map (fun z => z.cells.size), i.size, i.bytes)) = some (some 6, 6, 48) := by kernel_rfl
  cases hi : Tryd.prog.info? 23 with
  | none => rw [hi] at h; simp at h
  | some i =>
    rw [hi] at h
    simp only [Option.map_some, Option.some.injEq, Prod.mk.injEq] at h
    cases hz : i.zero with
    | none => rw [hz] at h; simp at h
    | some z => rw [hz] at h; simp at h; exact ⟨i, z, rfl, hz, h.2.1, h.2.2, h.1⟩, by decide⟩
/-- l[:i:i] and one order behind it -/
theorem add1 {W : World} {b off cap i B : Nat} {xs : List Ord} {o : Ord} (ty : TypeId) (hs : SlO W (some ⟨b, off, none⟩) cap xs) (ho : SlO W (some ⟨B, 0, none⟩) 1 [o]) (hi : i ≤ xs.length) (hlen : xs.length ≤ 1000000) :
    ∃ v' w', (Builtin.append_ #[31, 31] ty #[.slice (some ⟨b, off, none⟩) i i, .slice (some ⟨B, 0, none⟩) 1 1]).run Tryd.prog W = .ok v' w' ∧ OwnO W.heap.size w' v' (xs.take i ++ [o]) ∧ W.grownBy w' none := by
  have hl : (xs.take i).length = i := by rw [List.length_take]; omega
  have h := app_full elemO encO_len encO_one ty (hs.head i i hi ⟨Nat.le_refl _, Nat.le_trans hi hs.le⟩) ho (by rw [hl]; simp) (by rw [hl]; simp; omega) (by rw [hl]; simp [maxLen]; omega)
  rwa [hl] at h
theorem add1n {W : World} {B : Nat} {o : Ord} (ty : TypeId) (ho : SlO W (some ⟨B, 0, none⟩) 1 [o]) :
    ∃ v' w', (Builtin.append_ #[31, 31] ty #[.slice none 0 0, .slice (some ⟨B, 0, none⟩) 1 1]).run Tryd.prog W = .ok v' w' ∧ OwnO W.heap.size w' v' ([] ++ [o]) ∧ W.grownBy w' none :=
  app_full (xs := []) (ys := [o]) elemO encO_len encO_one ty (SlR.nil W) ho (by show 0 < 0 + 1; omega) (by show (0 + 1) * 48 ≤ 140737488355328; omega) (by show 0 + 1 ≤ 9223372036854775807; omega)
/-- .. and what stood behind -/
theorem add2 {W : World} {a : Option Addr} {c m : Nat} {base : Nat} {v : Value} {xs ys : List Ord} (ty : TypeId) (hv : OwnO base W v xs) (hs : SlO W a c ys) (hm : ys.length = m) (hb : base ≤ W.heap.size) (hlen : xs.length ≤ 1000001) (hlen2 : ys.length ≤ 1000000) :
    ∃ v' w', (Builtin.append_ #[31, 31] ty #[v, .slice a m c]).run Tryd.prog W = .ok v' w' ∧ OwnO base w' v' (xs ++ ys) ∧ W.grownBy w' v.ownBlock := by
  subst hm
  exact app_own elemO encO_len encO_one ty hv hs hb (by omega) (by simp [maxLen]; omega)
theorem addO_form {xs : List Ord} {o : Ord} (h : mayL xs = true) (h2 : mayOne o = true) : addO xs o = if foundAt xs o.id then ([], 6) else if xs.length = 128 then ([], 40) else (xs.take (placeOf xs o.id) ++ o :: xs.drop (placeOf xs o.id), 0) := by
  unfold addO
  rw [h, h2]
  simp only [Bool.not_true, Bool.or_self, Bool.false_eq_true, if_false]
  have : (findO xs o.id).isSome = foundAt xs o.id := by
    have hpw := (mayL_iff.1 h).2.2
    unfold findO
    rw [if_pos h]
    cases hf : foundAt xs o.id with
    | true =>
      obtain ⟨y, hy, hid⟩ := (foundAt_iff hpw o.id).1 hf
      rw [List.find?_isSome]
      exact ⟨y, hy, by simp [hid]⟩
    | false =>
      rw [Bool.eq_false_iff, ne_eq, List.find?_isSome]
      rintro ⟨y, hy, hid⟩
      rw [(foundAt_iff hpw o.id).2 ⟨y, hy, by simpa using hid⟩] at hf
      cases hf
  rw [this]
theorem placeOf_le (xs : List Ord) (id : Int) : placeOf xs id ≤ xs.length := List.countP_le_length
theorem sl_alloc' {w : World} {a : Option Addr} {c : Nat} {xs : List Ord} (o : Obj) (h : SlO w a c xs) : SlO (w.alloc o) a c xs := h.mono (below_alloc _ _)
theorem sl_drew' {w : World} {a : Option Addr} {c : Nat} {xs : List Ord} (h : SlO w a c xs) : SlO w.drew a c xs := h.mono (Below.refl _ _).drew
theorem slO_one (w : World) (o : Ord) (B : Nat) (hB : B = w.heap.size) : SlO (w.alloc (.cells #[.int .i64 o.id, .int .i64 o.acct, .int .i64 o.inst, .int .u8 o.side, .int .i64 o.price, .int .i64 o.left] 23)) (some ⟨B, 0, none⟩) 1 [o] := by
  subst hB; exact SlR.new encO 6 encO_len w 23 [o] (by simp)
theorem SlR.full0 {W : World} {b off pl : Nat} {xs : List Ord} (h : SlO W (some ⟨b, off, none⟩) pl xs) (hn : pl = xs.length) : SlO W (some ⟨b, off, none⟩) 0 (xs.drop pl) := by
  have e : xs.drop pl = [] := List.drop_eq_nil_of_le (by omega)
  rw [e]
  obtain ⟨_, h2, _⟩ := h.ofSome _ rfl
  exact ⟨Nat.le_refl _, by omega, (fun h => by cases h), fun ad had => by cases had; exact ⟨rfl, h2, fun j x hx => by simp at hx⟩⟩
set_option maxHeartbeats 4000000 in
theorem add_5 (b off cap n pl : Nat) (xs : List Ord) (o : Ord) (w : World) (HS : Hid (SlO w (some ⟨b, off, none⟩) cap xs)) (hlen : n ≤ 1000000) (HN : Hid (n = xs.length)) (hle : n ≤ cap) (hmax : cap ≤ 9223372036854775807) (hpl : pl ≤ n) (hn1 : ((n : Int) == 128) = false) (hcap : ¬ cap = pl)
    (HM : Hid (∀ w1, Below w.heap.size w w1 → Calls Tryd.prog 17 #[.slice (some ⟨b, off, none⟩) n cap] w1 fun e w' => e = .returned (.bool true) ∧ Below w1.heap.size w1 w'))
    (HM1 : Hid (mayOne o = true))
    (HP : Hid (∀ w1, Below w.heap.size w w1 → Calls Tryd.prog 49 #[.slice (some ⟨b, off, none⟩) n cap, .int .i64 o.id] w1 fun e w' => e = .returned (.tuple #[.int .i64 (pl : Nat), .bool false]) ∧ Below w1.heap.size w1 w')) :
    Calls Tryd.prog 30 #[.slice (some ⟨b, off, none⟩) n cap, (.agg #[.int .i64 o.id, .int .i64 o.acct, .int .i64 o.inst, .int .u8 o.side, .int .i64 o.price, .int .i64 o.left])] w fun e w' => ∃ r, e = .returned (.tuple #[r, .int .i64 0]) ∧ Below w.heap.size w w' ∧ OwnO w.heap.size w' r (xs.take pl ++ o :: xs.drop pl) := by
  obtain ⟨W, hW, hWb, hWs, hA⟩ := box1 w #[.int .i64 o.id, .int .i64 o.acct, .int .i64 o.inst, .int .u8 o.side, .int .i64 o.price, .int .i64 o.left] 23
  have HWb := Lib.hid hWb; clear hWb
  have HG := Lib.hid (GrS.refl W)
  go_enter Tryd.func30, Tryd.ntmps30
  go_wp2_with (first
    | (go_at_call 17; (with_reducible refine (HM.out _ (grow_trans HWb.out HG.out.1)).mono ?_); rintro e w1 ⟨rfl, hb1⟩; replace HG := Lib.hid (GrS.call HG.out hb1); clear hb1; (try clear hG); have hG := HG.out)
    | (go_at_call 13; (with_reducible refine (mayOne_c o _).mono ?_); rintro e w1 ⟨rfl, hb1⟩; rw [HM1.out]; replace HG := Lib.hid (GrS.call HG.out hb1); clear hb1; (try clear hG); have hG := HG.out)
    | (go_at_call 49; (with_reducible refine (HP.out _ (grow_trans HWb.out HG.out.1)).mono ?_); rintro e w1 ⟨rfl, hb1⟩; replace HG := Lib.hid (GrS.call HG.out hb1); clear hb1; (try clear hG); have hG := HG.out))
  have HO : Hid (pl ≤ xs.length ∧ xs.length ≤ 1000000) := Lib.hid (by rw [← HN.out]; omega)
  have hW0 : w.heap.size < w1.heap.size := by have := HG.out.1.size; omega
  have hA' : ∀ i, w1.cell? ⟨w.heap.size, i, none⟩ = #[.int .i64 o.id, .int .i64 o.acct, .int .i64 o.inst, .int .u8 o.side, .int .i64 o.price, .int .i64 o.left][i]? := fun i => by rw [HG.out.2 _ _ (by omega)]; exact hA i
  have HS1 : Hid (SlO w1 (some ⟨b, off, none⟩) cap xs) := Lib.hid (HS.out.mono (grow_trans HWb.out HG.out.1))
  have HBW : Hid (Below w.heap.size w w1) := Lib.hid (grow_trans HWb.out HG.out.1)
  clear hG hA HG HWb hW hWs
  have hz : (0 : Int) ≤ (pl : Int) := Int.natCast_nonneg _
  have hz2 : (pl : Int) ≤ (n : Int) := by omega
  have hz3 : (pl : Int) ≤ (cap : Int) := by omega
  go_region_law (first
    | (refine step_app (v := .slice (some ⟨b, off, none⟩) pl pl) (u := .slice (some ⟨w1.heap.size, 0, none⟩) 1 1) rfl (.tmp 32) (.tmp 34) 31 rfl (by simp [Act.eval]) (by simp [Act.eval]) (add1 (xs := xs) (o := o) (cap := cap) _ ?h1 ?h2 HO.out.1 HO.out.2) ?_
       case h1 => exact sl_drew' (sl_alloc' _ HS1.out)
       case h2 => exact sl_drew' (slO_one w1 o _ rfl)
       rintro v2 w2 ⟨ho2, hg2⟩
       have HO2 := Lib.hid (Own.weaken ho2 (B := w1.heap.size) (by simp))
       have HS2 := Lib.hid (SlR.grown (sl_drew' (sl_alloc' _ HS1.out)) hg2 (by intro ad _ h; cases h))
       have HB2 : Hid (Below w1.heap.size w1 w2) := Lib.hid (Below.grown (below_alloc w1 _).drew hg2 (by simp) (by intro k h; cases h))
       clear ho2 hg2)
    | (refine step_app (v := v2) (u := .slice (some ⟨b, off + pl * 6, none⟩) (n - pl) (cap - pl)) rfl (.tmp 35) (.tmp 38) 31 rfl (by simp [Act.eval]) (by simp [Act.eval]) (add2 (xs := xs.take pl ++ [o]) (ys := xs.drop pl) _ HO2.out (SlR.tail HS2.out pl HO.out.1) ?h3 HB2.out.size ?h4 ?h5) ?_
       case h3 => rw [List.length_drop, HN.out]
       case h4 => have := HO.out; simp; omega
       case h5 => have := HO.out; simp; omega
       rintro v3 w3 ⟨ho3, hg3⟩
       have HO3 := Lib.hid ho3
       have HB3 : Hid (Below w1.heap.size w1 w3) := Lib.hid (Below.grown HB2.out hg3 HB2.out.size (fun k h => (Own.lt HO2.out k h).1))
       clear ho3 hg3))
  all_goals
    go_wp2
    go_ret2
    refine ⟨_, rfl, grow_trans HBW.out HB3.out, ?_⟩
    have := Own.weaken HO3.out HBW.out.size
    rwa [List.append_assoc] at this
set_option maxHeartbeats 4000000 in
theorem add_6 (b off pl : Nat) (xs : List Ord) (o : Ord) (w : World) (HS : Hid (SlO w (some ⟨b, off, none⟩) pl xs)) (hlen : pl ≤ 1000000) (HN : Hid (pl = xs.length)) (hn1 : ((pl : Int) == 128) = false)
    (HM : Hid (∀ w1, Below w.heap.size w w1 → Calls Tryd.prog 17 #[.slice (some ⟨b, off, none⟩) pl pl] w1 fun e w' => e = .returned (.bool true) ∧ Below w1.heap.size w1 w'))
    (HM1 : Hid (mayOne o = true))
    (HP : Hid (∀ w1, Below w.heap.size w w1 → Calls Tryd.prog 49 #[.slice (some ⟨b, off, none⟩) pl pl, .int .i64 o.id] w1 fun e w' => e = .returned (.tuple #[.int .i64 (pl : Nat), .bool false]) ∧ Below w1.heap.size w1 w')) :
    Calls Tryd.prog 30 #[.slice (some ⟨b, off, none⟩) pl pl, (.agg #[.int .i64 o.id, .int .i64 o.acct, .int .i64 o.inst, .int .u8 o.side, .int .i64 o.price, .int .i64 o.left])] w fun e w' => ∃ r, e = .returned (.tuple #[r, .int .i64 0]) ∧ Below w.heap.size w w' ∧ OwnO w.heap.size w' r (xs.take pl ++ o :: xs.drop pl) := by
  obtain ⟨W, hW, hWb, hWs, hA⟩ := box1 w #[.int .i64 o.id, .int .i64 o.acct, .int .i64 o.inst, .int .u8 o.side, .int .i64 o.price, .int .i64 o.left] 23
  have HWb := Lib.hid hWb; clear hWb
  have HG := Lib.hid (GrS.refl W)
  go_enter Tryd.func30, Tryd.ntmps30
  go_wp2_with (first
    | (go_at_call 17; (with_reducible refine (HM.out _ (grow_trans HWb.out HG.out.1)).mono ?_); rintro e w1 ⟨rfl, hb1⟩; replace HG := Lib.hid (GrS.call HG.out hb1); clear hb1; (try clear hG); have hG := HG.out)
    | (go_at_call 13; (with_reducible refine (mayOne_c o _).mono ?_); rintro e w1 ⟨rfl, hb1⟩; rw [HM1.out]; replace HG := Lib.hid (GrS.call HG.out hb1); clear hb1; (try clear hG); have hG := HG.out)
    | (go_at_call 49; (with_reducible refine (HP.out _ (grow_trans HWb.out HG.out.1)).mono ?_); rintro e w1 ⟨rfl, hb1⟩; replace HG := Lib.hid (GrS.call HG.out hb1); clear hb1; (try clear hG); have hG := HG.out))
  have HO : Hid (pl ≤ xs.length ∧ xs.length ≤ 1000000) := Lib.hid (by rw [← HN.out]; omega)
  have hW0 : w.heap.size < w1.heap.size := by have := HG.out.1.size; omega
  have hA' : ∀ i, w1.cell? ⟨w.heap.size, i, none⟩ = #[.int .i64 o.id, .int .i64 o.acct, .int .i64 o.inst, .int .u8 o.side, .int .i64 o.price, .int .i64 o.left][i]? := fun i => by rw [HG.out.2 _ _ (by omega)]; exact hA i
  have HS1 : Hid (SlO w1 (some ⟨b, off, none⟩) pl xs) := Lib.hid (HS.out.mono (grow_trans HWb.out HG.out.1))
  have HBW : Hid (Below w.heap.size w w1) := Lib.hid (grow_trans HWb.out HG.out.1)
  clear hG hA HG HWb hW hWs
  have hz : (0 : Int) ≤ (pl : Int) := Int.natCast_nonneg _
  have hz2 : (pl : Int) ≤ (pl : Int) := by omega
  have hz3 : (pl : Int) ≤ (pl : Int) := by omega
  go_region_law (first
    | (refine step_app (v := .slice (some ⟨b, off, none⟩) pl pl) (u := .slice (some ⟨w1.heap.size, 0, none⟩) 1 1) rfl (.tmp 32) (.tmp 34) 31 rfl (by simp [Act.eval]) (by simp [Act.eval]) (add1 (xs := xs) (o := o) (cap := pl) _ ?h1 ?h2 HO.out.1 HO.out.2) ?_
       case h1 => exact sl_drew' (sl_alloc' _ HS1.out)
       case h2 => exact sl_drew' (slO_one w1 o _ rfl)
       rintro v2 w2 ⟨ho2, hg2⟩
       have HO2 := Lib.hid (Own.weaken ho2 (B := w1.heap.size) (by simp))
       have HS2 := Lib.hid (SlR.grown (sl_drew' (sl_alloc' _ HS1.out)) hg2 (by intro ad _ h; cases h))
       have HB2 : Hid (Below w1.heap.size w1 w2) := Lib.hid (Below.grown (below_alloc w1 _).drew hg2 (by simp) (by intro k h; cases h))
       clear ho2 hg2)
    | (refine step_app (v := v2) (u := .slice (some ⟨b, off, none⟩) 0 0) rfl (.tmp 35) (.tmp 38) 31 rfl (by simp [Act.eval]) (by simp [Act.eval]) (add2 (xs := xs.take pl ++ [o]) _ HO2.out (ys := xs.drop pl) (SlR.full0 HS2.out HN.out) ?h3 HB2.out.size ?h4 ?h5) ?_
       case h3 => rw [List.length_drop, ← HN.out]; omega
       case h4 => have := HO.out; simp; omega
       case h5 => have := HO.out; simp; omega
       rintro v3 w3 ⟨ho3, hg3⟩
       have HO3 := Lib.hid ho3
       have HB3 : Hid (Below w1.heap.size w1 w3) := Lib.hid (Below.grown HB2.out hg3 HB2.out.size (fun k h => (Own.lt HO2.out k h).1))
       clear ho3 hg3))
  all_goals
    go_wp2
    go_ret2
    refine ⟨_, rfl, grow_trans HBW.out HB3.out, ?_⟩
    have := Own.weaken HO3.out HBW.out.size
    rwa [List.append_assoc] at this
set_option maxHeartbeats 4000000 in
theorem add_7 (o : Ord) (w : World)
    (HM : Hid (∀ w1, Below w.heap.size w w1 → Calls Tryd.prog 17 #[.slice none 0 0] w1 fun e w' => e = .returned (.bool true) ∧ Below w1.heap.size w1 w'))
    (HM1 : Hid (mayOne o = true))
    (HP : Hid (∀ w1, Below w.heap.size w w1 → Calls Tryd.prog 49 #[.slice none 0 0, .int .i64 o.id] w1 fun e w' => e = .returned (.tuple #[.int .i64 0, .bool false]) ∧ Below w1.heap.size w1 w')) :
    Calls Tryd.prog 30 #[.slice none 0 0, (.agg #[.int .i64 o.id, .int .i64 o.acct, .int .i64 o.inst, .int .u8 o.side, .int .i64 o.price, .int .i64 o.left])] w fun e w' => ∃ r, e = .returned (.tuple #[r, .int .i64 0]) ∧ Below w.heap.size w w' ∧ OwnO w.heap.size w' r [o] := by
  obtain ⟨W, hW, hWb, hWs, hA⟩ := box1 w #[.int .i64 o.id, .int .i64 o.acct, .int .i64 o.inst, .int .u8 o.side, .int .i64 o.price, .int .i64 o.left] 23
  have HWb := Lib.hid hWb; clear hWb
  have HG := Lib.hid (GrS.refl W)
  go_enter Tryd.func30, Tryd.ntmps30
  go_wp2_with (first
    | (go_at_call 17; (with_reducible refine (HM.out _ (grow_trans HWb.out HG.out.1)).mono ?_); rintro e w1 ⟨rfl, hb1⟩; replace HG := Lib.hid (GrS.call HG.out hb1); clear hb1; (try clear hG); have hG := HG.out)
    | (go_at_call 13; (with_reducible refine (mayOne_c o _).mono ?_); rintro e w1 ⟨rfl, hb1⟩; rw [HM1.out]; replace HG := Lib.hid (GrS.call HG.out hb1); clear hb1; (try clear hG); have hG := HG.out)
    | (go_at_call 49; (with_reducible refine (HP.out _ (grow_trans HWb.out HG.out.1)).mono ?_); rintro e w1 ⟨rfl, hb1⟩; replace HG := Lib.hid (GrS.call HG.out hb1); clear hb1; (try clear hG); have hG := HG.out))
  have hW0 : w.heap.size < w1.heap.size := by have := HG.out.1.size; omega
  have hA' : ∀ i, w1.cell? ⟨w.heap.size, i, none⟩ = #[.int .i64 o.id, .int .i64 o.acct, .int .i64 o.inst, .int .u8 o.side, .int .i64 o.price, .int .i64 o.left][i]? := fun i => by rw [HG.out.2 _ _ (by omega)]; exact hA i
  have HBW : Hid (Below w.heap.size w w1) := Lib.hid (grow_trans HWb.out HG.out.1)
  clear hG hA HG HWb hW hWs
  go_region_law (first
    | (refine step_app (v := .slice none 0 0) (u := .slice (some ⟨w1.heap.size, 0, none⟩) 1 1) rfl (.tmp 32) (.tmp 34) 31 rfl (by simp [Act.eval]) (by simp [Act.eval]) (add1n (o := o) _ ?h2) ?_
       case h2 => exact sl_drew' (slO_one w1 o _ rfl)
       rintro v2 w2 ⟨ho2, hg2⟩
       have HO2 := Lib.hid (Own.weaken ho2 (B := w1.heap.size) (by simp))
       have HB2 : Hid (Below w1.heap.size w1 w2) := Lib.hid (Below.grown (below_alloc w1 _).drew hg2 (by simp) (by intro k h; cases h))
       clear ho2 hg2)
    | (refine step_app (v := v2) (u := .slice none 0 0) rfl (.tmp 35) (.tmp 38) 31 rfl (by simp [Act.eval]) (by simp [Act.eval]) (add2 (xs := [] ++ [o]) (ys := []) _ HO2.out (SlR.nil _) rfl HB2.out.size ?h4 ?h5) ?_
       case h4 => simp
       case h5 => simp
       rintro v3 w3 ⟨ho3, hg3⟩
       have HO3 := Lib.hid ho3
       have HB3 : Hid (Below w1.heap.size w1 w3) := Lib.hid (Below.grown HB2.out hg3 HB2.out.size (fun k h => (Own.lt HO2.out k h).1))
       clear ho3 hg3))
  all_goals
    go_wp2
    go_ret2
    refine ⟨_, rfl, grow_trans HBW.out HB3.out, ?_⟩
    have := Own.weaken HO3.out HBW.out.size
    simp only [List.nil_append, List.append_nil] at this
    exact this
set_option maxHeartbeats 4000000 in
theorem add_1 (a : Option Addr) (cap n : Nat) (o : Ord) (w : World) (HM : Hid (∀ w1, Below w.heap.size w w1 → Calls Tryd.prog 17 #[.slice a n cap] w1 fun e w' => e = .returned (.bool false) ∧ Below w1.heap.size w1 w')) :
    Calls Tryd.prog 30 #[.slice a n cap, (.agg #[.int .i64 o.id, .int .i64 o.acct, .int .i64 o.inst, .int .u8 o.side, .int .i64 o.price, .int .i64 o.left])] w fun e w' => ∃ r, e = .returned (.tuple #[r, .int .i64 4]) ∧ Below w.heap.size w w' ∧ OwnO w.heap.size w' r [] := by
  obtain ⟨W, hW, hWb, hWs, hA⟩ := box1 w #[.int .i64 o.id, .int .i64 o.acct, .int .i64 o.inst, .int .u8 o.side, .int .i64 o.price, .int .i64 o.left] 23
  have HWb := Lib.hid hWb; clear hWb
  have HG := Lib.hid (GrS.refl W)
  go_enter Tryd.func30, Tryd.ntmps30
  go_wp2_with (first
    | (go_at_call 17; (with_reducible refine (HM.out _ (grow_trans HWb.out HG.out.1)).mono ?_); rintro e w1 ⟨rfl, hb1⟩; replace HG := Lib.hid (GrS.call HG.out hb1); clear hb1; (try clear hG); have hG := HG.out)
    | (go_at_call 13; (with_reducible refine (mayOne_c o _).mono ?_); rintro e w1 ⟨rfl, hb1⟩; rw [HM1.out]; replace HG := Lib.hid (GrS.call HG.out hb1); clear hb1; (try clear hG); have hG := HG.out)
    | (go_at_call 49; (with_reducible refine (HP.out _ (grow_trans HWb.out HG.out.1)).mono ?_); rintro e w1 ⟨rfl, hb1⟩; replace HG := Lib.hid (GrS.call HG.out hb1); clear hb1; (try clear hG); have hG := HG.out))
  go_ret2
  exact ⟨.slice none 0 0, rfl, grow_trans HWb.out HG.out.1, Own.nil _⟩
set_option maxHeartbeats 4000000 in
theorem add_2 (a : Option Addr) (cap n : Nat) (o : Ord) (w : World) (HM : Hid (∀ w1, Below w.heap.size w w1 → Calls Tryd.prog 17 #[.slice a n cap] w1 fun e w' => e = .returned (.bool true) ∧ Below w1.heap.size w1 w')) (HM1 : Hid (mayOne o = false)) :
    Calls Tryd.prog 30 #[.slice a n cap, (.agg #[.int .i64 o.id, .int .i64 o.acct, .int .i64 o.inst, .int .u8 o.side, .int .i64 o.price, .int .i64 o.left])] w fun e w' => ∃ r, e = .returned (.tuple #[r, .int .i64 4]) ∧ Below w.heap.size w w' ∧ OwnO w.heap.size w' r [] := by
  obtain ⟨W, hW, hWb, hWs, hA⟩ := box1 w #[.int .i64 o.id, .int .i64 o.acct, .int .i64 o.inst, .int .u8 o.side, .int .i64 o.price, .int .i64 o.left] 23
  have HWb := Lib.hid hWb; clear hWb
  have HG := Lib.hid (GrS.refl W)
  go_enter Tryd.func30, Tryd.ntmps30
  go_wp2_with (first
    | (go_at_call 17; (with_reducible refine (HM.out _ (grow_trans HWb.out HG.out.1)).mono ?_); rintro e w1 ⟨rfl, hb1⟩; replace HG := Lib.hid (GrS.call HG.out hb1); clear hb1; (try clear hG); have hG := HG.out)
    | (go_at_call 13; (with_reducible refine (mayOne_c o _).mono ?_); rintro e w1 ⟨rfl, hb1⟩; rw [HM1.out]; replace HG := Lib.hid (GrS.call HG.out hb1); clear hb1; (try clear hG); have hG := HG.out)
    | (go_at_call 49; (with_reducible refine (HP.out _ (grow_trans HWb.out HG.out.1)).mono ?_); rintro e w1 ⟨rfl, hb1⟩; replace HG := Lib.hid (GrS.call HG.out hb1); clear hb1; (try clear hG); have hG := HG.out))
  go_ret2
  exact ⟨.slice none 0 0, rfl, grow_trans HWb.out HG.out.1, Own.nil _⟩
set_option maxHeartbeats 4000000 in
theorem add_3 (a : Option Addr) (cap n : Nat) (o : Ord) (w : World) (pl : Nat) (HM : Hid (∀ w1, Below w.heap.size w w1 → Calls Tryd.prog 17 #[.slice a n cap] w1 fun e w' => e = .returned (.bool true) ∧ Below w1.heap.size w1 w')) (HM1 : Hid (mayOne o = true)) (HP : Hid (∀ w1, Below w.heap.size w w1 → Calls Tryd.prog 49 #[.slice a n cap, .int .i64 o.id] w1 fun e w' => e = .returned (.tuple #[.int .i64 (pl : Nat), .bool true]) ∧ Below w1.heap.size w1 w')) :
    Calls Tryd.prog 30 #[.slice a n cap, (.agg #[.int .i64 o.id, .int .i64 o.acct, .int .i64 o.inst, .int .u8 o.side, .int .i64 o.price, .int .i64 o.left])] w fun e w' => ∃ r, e = .returned (.tuple #[r, .int .i64 6]) ∧ Below w.heap.size w w' ∧ OwnO w.heap.size w' r [] := by
  obtain ⟨W, hW, hWb, hWs, hA⟩ := box1 w #[.int .i64 o.id, .int .i64 o.acct, .int .i64 o.inst, .int .u8 o.side, .int .i64 o.price, .int .i64 o.left] 23
  have HWb := Lib.hid hWb; clear hWb
  have HG := Lib.hid (GrS.refl W)
  go_enter Tryd.func30, Tryd.ntmps30
  go_wp2_with (first
    | (go_at_call 17; (with_reducible refine (HM.out _ (grow_trans HWb.out HG.out.1)).mono ?_); rintro e w1 ⟨rfl, hb1⟩; replace HG := Lib.hid (GrS.call HG.out hb1); clear hb1; (try clear hG); have hG := HG.out)
    | (go_at_call 13; (with_reducible refine (mayOne_c o _).mono ?_); rintro e w1 ⟨rfl, hb1⟩; rw [HM1.out]; replace HG := Lib.hid (GrS.call HG.out hb1); clear hb1; (try clear hG); have hG := HG.out)
    | (go_at_call 49; (with_reducible refine (HP.out _ (grow_trans HWb.out HG.out.1)).mono ?_); rintro e w1 ⟨rfl, hb1⟩; replace HG := Lib.hid (GrS.call HG.out hb1); clear hb1; (try clear hG); have hG := HG.out))
  go_ret2
  exact ⟨.slice none 0 0, rfl, grow_trans HWb.out HG.out.1, Own.nil _⟩
set_option maxHeartbeats 4000000 in
theorem add_4 (a : Option Addr) (cap n : Nat) (o : Ord) (w : World) (pl : Nat) (hn1 : ((n : Int) == 128) = true) (HM : Hid (∀ w1, Below w.heap.size w w1 → Calls Tryd.prog 17 #[.slice a n cap] w1 fun e w' => e = .returned (.bool true) ∧ Below w1.heap.size w1 w')) (HM1 : Hid (mayOne o = true)) (HP : Hid (∀ w1, Below w.heap.size w w1 → Calls Tryd.prog 49 #[.slice a n cap, .int .i64 o.id] w1 fun e w' => e = .returned (.tuple #[.int .i64 (pl : Nat), .bool false]) ∧ Below w1.heap.size w1 w')) :
    Calls Tryd.prog 30 #[.slice a n cap, (.agg #[.int .i64 o.id, .int .i64 o.acct, .int .i64 o.inst, .int .u8 o.side, .int .i64 o.price, .int .i64 o.left])] w fun e w' => ∃ r, e = .returned (.tuple #[r, .int .i64 40]) ∧ Below w.heap.size w w' ∧ OwnO w.heap.size w' r [] := by
  obtain ⟨W, hW, hWb, hWs, hA⟩ := box1 w #[.int .i64 o.id, .int .i64 o.acct, .int .i64 o.inst, .int .u8 o.side, .int .i64 o.price, .int .i64 o.left] 23
  have HWb := Lib.hid hWb; clear hWb
  have HG := Lib.hid (GrS.refl W)
  go_enter Tryd.func30, Tryd.ntmps30
  go_wp2_with (first
    | (go_at_call 17; (with_reducible refine (HM.out _ (grow_trans HWb.out HG.out.1)).mono ?_); rintro e w1 ⟨rfl, hb1⟩; replace HG := Lib.hid (GrS.call HG.out hb1); clear hb1; (try clear hG); have hG := HG.out)
    | (go_at_call 13; (with_reducible refine (mayOne_c o _).mono ?_); rintro e w1 ⟨rfl, hb1⟩; rw [HM1.out]; replace HG := Lib.hid (GrS.call HG.out hb1); clear hb1; (try clear hG); have hG := HG.out)
    | (go_at_call 49; (with_reducible refine (HP.out _ (grow_trans HWb.out HG.out.1)).mono ?_); rintro e w1 ⟨rfl, hb1⟩; replace HG := Lib.hid (GrS.call HG.out hb1); clear hb1; (try clear hG); have hG := HG.out))
  go_ret2
  exact ⟨.slice none 0 0, rfl, grow_trans HWb.out HG.out.1, Own.nil _⟩
theorem add_c (a : Option Addr) (cap : Nat) (xs : List Ord) (o : Ord) (w : World) (hs : SlO w a cap xs) (hlen : xs.length ≤ 1000000) :
    Calls Tryd.prog 30 #[.slice a xs.length cap, (.agg #[.int .i64 o.id, .int .i64 o.acct, .int .i64 o.inst, .int .u8 o.side, .int .i64 o.price, .int .i64 o.left])] w fun e w' => ∃ r, e = .returned (.tuple #[r, .int .i64 (addO xs o).2]) ∧ Below w.heap.size w w' ∧ OwnO w.heap.size w' r (addO xs o).1 := by
  have HM := fun w1 (hb : Below w.heap.size w w1) => may_c a cap xs w1 (hs.mono hb)
  cases hm : mayL xs with
  | false =>
    rw [hm] at HM
    have e : addO xs o = ([], 4) := by simp [addO, hm]
    rw [e]
    exact add_1 a cap _ o w (Lib.hid HM)
  | true =>
    rw [hm] at HM
    cases hm1 : mayOne o with
    | false =>
      have e : addO xs o = ([], 4) := by simp [addO, hm1]
      rw [e]
      exact add_2 a cap _ o w (Lib.hid HM) (Lib.hid hm1)
    | true =>
      have HP := fun w1 (hb : Below w.heap.size w w1) => place_c a cap xs o.id w1 (hs.mono hb) (mayL_iff.1 hm).2.2 hlen
      rw [addO_form hm hm1]
      cases hf : foundAt xs o.id with
      | true =>
        rw [hf] at HP
        exact add_3 a cap _ o w _ (Lib.hid HM) (Lib.hid hm1) (Lib.hid HP)
      | false =>
        rw [hf] at HP
        have hpl := placeOf_le xs o.id
        by_cases h128 : xs.length = 128
        · rw [if_neg (by simp), if_pos h128]
          exact add_4 a cap _ o w _ (by simp [h128]) (Lib.hid HM) (Lib.hid hm1) (Lib.hid HP)
        · rw [if_neg (by simp), if_neg h128]
          have hn1 : ((xs.length : Int) == 128) = false := by simp; omega
          cases a with
          | none =>
            obtain ⟨rfl, rfl⟩ := hs.ofNone rfl
            exact add_7 o w (Lib.hid HM) (Lib.hid hm1) (Lib.hid HP)
          | some ad =>
            obtain ⟨b, off, sp⟩ := ad
            obtain ⟨q1, _, _⟩ := hs.ofSome _ rfl
            simp only at q1; subst q1
            by_cases hcap : cap = placeOf xs o.id
            · have e : xs.length = placeOf xs o.id := by have := hs.le; omega
              generalize placeOf xs o.id = pl at *
              subst hcap
              have HS := hs
              rw [e] at HM HP hn1 hlen ⊢
              exact add_6 b off cap xs o w (Lib.hid HS) hlen (Lib.hid e.symm) hn1 (Lib.hid HM) (Lib.hid hm1) (Lib.hid HP)
            · exact add_5 b off cap _ _ xs o w (Lib.hid hs) hlen (Lib.hid rfl) hs.le hs.max hpl hn1 hcap (Lib.hid HM) (Lib.hid hm1) (Lib.hid HP)
end Go.Proofs.YtecfajnmekpeoaaDoor
