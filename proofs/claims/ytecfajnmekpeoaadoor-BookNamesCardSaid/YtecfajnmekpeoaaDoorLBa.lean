/-
  Contract of souklaw16.BookBack: true, in every world. Conditions: the list reads as one; the table 'prices' holds its two functions (PrW).
-/
import Derived.Test.YtecfajnmekpeoaaDoorLFi
import Derived.Test.YtecfajnmekpeoaaDoorBkA
namespace Go.Proofs.YtecfajnmekpeoaaDoor
open Go.RowKit

section
variable {xs : List Ord} {o : Ord} {id p q : Int}
theorem addO_ok (h : (addO xs o).2 = 0) : mayL xs = true ∧ mayOne o = true ∧ findO xs o.id = none ∧ xs.length < 128 ∧ (addO xs o).1 = xs.take (placeOf xs o.id) ++ o :: xs.drop (placeOf xs o.id) := by
  unfold addO at h ⊢
  by_cases h1 : (!mayL xs || !mayOne o) = true
  · rw [if_pos h1] at h; simp at h
  · rw [if_neg h1] at h ⊢
    by_cases h2 : (findO xs o.id).isSome = true
    · rw [if_pos h2] at h; simp at h
    · rw [if_neg h2] at h ⊢
      by_cases h3 : xs.length = 128
      · rw [if_pos h3] at h; simp at h
      · rw [if_neg h3]
        simp at h1 h2
        have := (mayL_iff.1 h1.1).1
        exact ⟨h1.1, h1.2, h2, by omega, rfl⟩
theorem notin_of_none (hm : mayL xs = true) (h : findO xs id = none) : ∀ x ∈ xs, x.id ≠ id := by
  intro x hx e
  unfold findO at h; rw [if_pos hm] at h
  have := List.find?_eq_none.1 h x hx
  simp [e] at this
theorem mayL_add (hm : mayL xs = true) (ho : mayOne o = true) (hn : findO xs o.id = none) (hl : xs.length < 128) : mayL (xs.take (placeOf xs o.id) ++ o :: xs.drop (placeOf xs o.id)) = true := by
  obtain ⟨h1, h2, h3⟩ := mayL_iff.1 hm
  have hni := notin_of_none hm hn
  rw [mayL_iff]
  refine ⟨?_, ?_, ?_⟩
  · have := placeOf_le xs o.id
    simp; omega
  · intro x hx
    rcases List.mem_append.1 hx with hx | hx
    · exact h2 x (List.mem_of_mem_take hx)
    · rcases List.mem_cons.1 hx with rfl | hx
      · exact ho
      · exact h2 x (List.mem_of_mem_drop hx)
  · have hpl := place_lt h3 o.id
    have ht : ∀ x ∈ xs.take (placeOf xs o.id), x.id < o.id := fun x hx => by
      obtain ⟨t, ht⟩ := List.getElem?_of_mem hx
      rw [List.getElem?_take] at ht
      split at ht
      · exact (hpl t x ht).1 (by assumption)
      · cases ht
    have hd : ∀ x ∈ xs.drop (placeOf xs o.id), o.id < x.id := fun x hx => by
      obtain ⟨t, ht⟩ := List.getElem?_of_mem hx
      rw [List.getElem?_drop] at ht
      have h4 : ¬ x.id < o.id := fun h => by have := (hpl _ x ht).2 h; omega
      have := hni x (List.mem_of_mem_drop hx)
      omega
    rw [List.pairwise_append]
    refine ⟨h3.sublist (List.take_sublist _ _), List.pairwise_cons.2 ⟨fun x hx => hd x hx, h3.sublist (List.drop_sublist _ _)⟩, fun x hx y hy => ?_⟩
    have hx' := ht x hx
    rcases List.mem_cons.1 hy with rfl | hy
    · exact hx'
    · have := hd y hy; unfold idLt; omega
theorem takeO_some (hm : mayL xs = true) (hf : findO xs id = some o) (h1 : 1 ≤ q) (h2 : q ≤ o.left) : takeO xs id q = (xs.filterMap (lessLeft id q), 0) := by
  unfold takeO
  simp only [hm, Bool.not_true, Bool.false_eq_true, if_false, hf]
  rw [if_neg (by omega)]
theorem findO_id (h : findO xs id = some o) : mayL xs = true ∧ o ∈ xs ∧ o.id = id := by
  unfold findO at h
  by_cases hm : mayL xs = true
  · rw [if_pos hm] at h
    exact ⟨hm, List.mem_of_find?_eq_some h, by have := List.find?_some h; simpa using this⟩
  · rw [if_neg hm] at h; cases h
/-- what was added, dropped: as it was -/
theorem back_add (h : (addO xs o).2 = 0) : dropO (addO xs o).1 o.id = (xs, 0) ∧ findO (addO xs o).1 o.id = some o ∧ mayL (addO xs o).1 = true := by
  obtain ⟨h1, h2, h3, h4, h5⟩ := addO_ok h
  have hm := mayL_add h1 h2 h3 h4
  rw [h5]
  have hf : findO (xs.take (placeOf xs o.id) ++ o :: xs.drop (placeOf xs o.id)) o.id = some o := findO_mem hm (by simp)
  refine ⟨?_, hf, hm⟩
  have hl := (mayOne_iff.1 h2).2.2.2.2.2
  rw [dropO_some hf, takeO_some hm hf hl.1 (by omega), List.filterMap_append, List.filterMap_cons_none (by simp [lessLeft]), fm_id _ _ _ (fun x hx => notin_of_none h1 h3 x (List.mem_of_mem_take hx)), fm_id _ _ _ (fun x hx => notin_of_none h1 h3 x (List.mem_of_mem_drop hx)), List.take_append_drop]
theorem less_may {x : Ord} (hx : mayOne x = true) (h : 1 ≤ q) {y : Ord} (hy : lessLeft id q x = some y) (hle : x.id = id → q ≤ x.left) : mayOne y = true ∧ y.id = x.id := by
  unfold lessLeft at hy
  by_cases e : x.id = id
  · rw [if_pos e] at hy
    by_cases e2 : x.left - q = 0
    · rw [if_pos e2] at hy; cases hy
    · rw [if_neg e2] at hy
      cases hy
      have := hle e
      rw [mayOne_iff] at hx ⊢
      refine ⟨?_, rfl⟩
      dsimp only; omega
  · rw [if_neg e] at hy; cases hy; exact ⟨hx, rfl⟩
theorem mayL_take (hm : mayL xs = true) (h : 1 ≤ q) (hle : ∀ x ∈ xs, x.id = id → q ≤ x.left) : mayL (xs.filterMap (lessLeft id q)) = true := by
  obtain ⟨h1, h2, h3⟩ := mayL_iff.1 hm
  rw [mayL_iff]
  refine ⟨Nat.le_trans (List.length_filterMap_le _ _) h1, fun y hy => ?_, ?_⟩
  · obtain ⟨x, hx, hxy⟩ := List.mem_filterMap.1 hy
    exact (less_may (h2 x hx) h hxy (hle x hx)).1
  · rw [List.pairwise_filterMap]
    refine h3.imp_of_mem ?_
    intro a b ha hb hab a' ha' b' hb'
    have e1 := (less_may (h2 a ha) h ha' (hle a ha)).2
    have e2 := (less_may (h2 b hb) h hb' (hle b hb)).2
    unfold idLt at *; omega
theorem fm_congr {α β : Type} {f g : α → Option β} : ∀ {l : List α}, (∀ x ∈ l, f x = g x) → l.filterMap f = l.filterMap g
  | [], _ => rfl
  | y :: r, h => by
    rw [List.filterMap_cons, List.filterMap_cons, h y (by simp), fm_congr (fun x hx => h x (by simp [hx]))]
/-- taken in two steps is as at once -/
theorem take_two (hf : findO xs id = some o) (hp : 1 ≤ p) (hq : 1 ≤ q) (hpq : p + q ≤ o.left) : takeO xs id p = (xs.filterMap (lessLeft id p), 0) ∧ takeO (xs.filterMap (lessLeft id p)) id q = (xs.filterMap (lessLeft id (p + q)), 0) ∧ takeO xs id (p + q) = (xs.filterMap (lessLeft id (p + q)), 0) := by
  obtain ⟨hm, ho, hid⟩ := findO_id hf
  obtain ⟨_, h2, h3⟩ := mayL_iff.1 hm
  have hall : ∀ x ∈ xs, x.id = id → x = o := fun x hx hxi => id_inj h3 hx ho (by omega)
  have hm2 : mayL (xs.filterMap (lessLeft id p)) = true := mayL_take hm hp (fun x hx hxi => by rw [hall x hx hxi]; omega)
  have hf2 : findO (xs.filterMap (lessLeft id p)) id = some { o with left := o.left - p } := by
    have hmem : ({ o with left := o.left - p } : Ord) ∈ xs.filterMap (lessLeft id p) := List.mem_filterMap.2 ⟨o, ho, by unfold lessLeft; rw [if_pos hid, if_neg (by omega)]⟩
    have h9 := findO_mem hm2 hmem
    simpa only [hid] using h9
  refine ⟨takeO_some hm hf hp (by omega), ?_, takeO_some hm hf (by omega) hpq⟩
  rw [takeO_some hm2 hf2 hq (by dsimp only; omega), List.filterMap_filterMap]
  congr 1
  refine fm_congr fun x hx => ?_
  by_cases hxi : x.id = id
  · obtain rfl := hall x hx hxi
    simp only [lessLeft, hxi, if_true]
    rw [if_neg (by omega)]
    simp only [Option.bind_some, lessLeft, if_true]
    by_cases e : x.left - p - q = 0
    · rw [if_pos e, if_pos (by omega)]
    · rw [if_neg e, if_neg (by omega)]
      simp only [Option.some.injEq]
      congr 1; omega
  · simp [lessLeft, hxi]
theorem take_all (hf : findO xs id = some o) : takeO xs id o.left = dropO xs id ∧ (takeO xs id o.left).2 = 0 ∧ mayL (takeO xs id o.left).1 = true := by
  obtain ⟨hm, ho, hid⟩ := findO_id hf
  obtain ⟨_, h2, h3⟩ := mayL_iff.1 hm
  have hl := (mayOne_iff.1 (h2 o ho)).2.2.2.2.2
  refine ⟨(dropO_some hf).symm, ?_, ?_⟩
  · rw [takeO_some hm hf hl.1 (by omega)]
  · rw [takeO_some hm hf hl.1 (by omega)]
    exact mayL_take hm hl.1 (fun x hx hxi => by rw [id_inj h3 hx ho (by omega)]; omega)
end
section
variable {a b : Option Addr} {c c2 n m : Nat} {xs ys r : List Ord} {id q k : Int} {o : Ord} {w : World}
theorem take_n (hn : n = xs.length) (hs : SlO w a c xs) (hlen : n ≤ 1000000) (h : takeO xs id q = (r, k)) :
    Calls Tryd.prog 32 #[.slice a n c, .int .i64 id, .int .i64 q] w fun e w' => ∃ a' c', e = .returned (.tuple #[.slice a' r.length c', .int .i64 k]) ∧ Below w.heap.size w w' ∧ SlO w' a' c' r := by
  subst hn
  refine (take_c a c xs id q w hs hlen).mono fun _ _ ⟨v, he, hb, ho⟩ => ?_
  rw [h] at he ho
  obtain ⟨a', c', e1, h2, _⟩ := Own.slR encO_len ho
  exact ⟨a', c', by rw [he, e1], hb, h2⟩
theorem drop_n (hn : n = xs.length) (hs : SlO w a c xs) (hlen : n ≤ 1000000) (h : dropO xs id = (r, k)) :
    Calls Tryd.prog 34 #[.slice a n c, .int .i64 id] w fun e w' => ∃ a' c', e = .returned (.tuple #[.slice a' r.length c', .int .i64 k]) ∧ Below w.heap.size w w' ∧ SlO w' a' c' r := by
  subst hn
  refine (drop_c a c xs id w hs hlen).mono fun _ _ ⟨v, he, hb, ho⟩ => ?_
  rw [h] at he ho
  obtain ⟨a', c', e1, h2, _⟩ := Own.slR encO_len ho
  exact ⟨a', c', by rw [he, e1], hb, h2⟩
theorem add_n (hn : n = xs.length) (hs : SlO w a c xs) (hlen : n ≤ 1000000) (h : addO xs o = (r, k)) :
    Calls Tryd.prog 30 #[.slice a n c, (.agg #[.int .i64 o.id, .int .i64 o.acct, .int .i64 o.inst, .int .u8 o.side, .int .i64 o.price, .int .i64 o.left])] w fun e w' => ∃ a' c', e = .returned (.tuple #[.slice a' r.length c', .int .i64 k]) ∧ Below w.heap.size w w' ∧ SlO w' a' c' r := by
  subst hn
  refine (add_c a c xs o w hs hlen).mono fun _ _ ⟨v, he, hb, ho⟩ => ?_
  rw [h] at he ho
  obtain ⟨a', c', e1, h2, _⟩ := Own.slR encO_len ho
  exact ⟨a', c', by rw [he, e1], hb, h2⟩
theorem find_n (hn : n = xs.length) (hs : SlO w a c xs) (hlen : n ≤ 1000000) (h : findO xs id = some o) :
    Calls Tryd.prog 28 #[.slice a n c, .int .i64 id] w fun e w' => e = .returned (.tuple #[(.agg #[.int .i64 o.id, .int .i64 o.acct, .int .i64 o.inst, .int .u8 o.side, .int .i64 o.price, .int .i64 o.left]), .bool true]) ∧ Below w.heap.size w w' := by
  subst hn
  have := find_c a c xs id w hs hlen
  rw [h] at this; exact this
theorem find_none (hn : n = xs.length) (hs : SlO w a c xs) (hlen : n ≤ 1000000) (h : findO xs id = none) :
    Calls Tryd.prog 28 #[.slice a n c, .int .i64 id] w fun e w' => e = .returned (.tuple #[(.agg #[.int .i64 nilO.id, .int .i64 nilO.acct, .int .i64 nilO.inst, .int .u8 nilO.side, .int .i64 nilO.price, .int .i64 nilO.left]), .bool false]) ∧ Below w.heap.size w w' := by
  subst hn
  have := find_c a c xs id w hs hlen
  rw [h] at this; exact this
theorem may_n (hn : n = xs.length) (hs : SlO w a c xs) (h : mayL xs = true) : Calls Tryd.prog 17 #[.slice a n c] w fun e w' => e = .returned (.bool true) ∧ Below w.heap.size w w' := by
  subst hn
  have := may_c a c xs w hs
  rw [h] at this; exact this
theorem same_n (hn : n = xs.length) (hm : m = xs.length) (h1 : SlO w a c xs) (h2 : SlO w b c2 xs) : Calls Tryd.prog 36 #[.slice a n c, .slice b m c2] w fun e w' => e = .returned (.bool true) ∧ Below w.heap.size w w' := by
  subst hn; subst hm
  exact sameW a b c c2 xs w h1 h2
theorem addO_le (h : addO xs o = (r, k)) : r.length ≤ xs.length + 1 := by
  have : (addO xs o).1.length ≤ xs.length + 1 := by
    unfold addO
    split
    · simp
    · split
      · simp
      · split
        · simp
        · simp; omega
  rw [h] at this; exact this
end
set_option maxRecDepth 100000 in
set_option maxHeartbeats 4000000 in
theorem lawBa_big (la : Option Addr) (lc n : Nat) (o : Ord) (id p q : Int) (w : World) (hp : PrW w) (hn : decide (200 < (n : Int)) = true) :
    Calls Tryd.prog 9 #[.slice la n lc, (.agg #[.int .i64 o.id, .int .i64 o.acct, .int .i64 o.inst, .int .u8 o.side, .int .i64 o.price, .int .i64 o.left]), .int .i64 id, .int .i64 p, .int .i64 q] w fun e w' => e = .returned (.bool true) ∧ Below w.heap.size w w' := by
  obtain ⟨W, hW, hWb, hWs, hA⟩ := box1 w #[.int .i64 o.id, .int .i64 o.acct, .int .i64 o.inst, .int .u8 o.side, .int .i64 o.price, .int .i64 o.left] 23
  have HWb := Lib.hid hWb; clear hWb
  have HG := Lib.hid (GrS.refl W)
  have HP := Lib.hid (hp.mono HWb.out); clear hp
  go_enter Tryd.func9, Tryd.ntmps9
  go_wp2_with (go_at_call 11; (with_reducible refine (works_c _ (HP.out.mono HG.out.1)).mono ?_); rintro e w1 ⟨rfl, hb1⟩; replace HG := Lib.hid (GrS.call HG.out hb1); clear hb1; (try clear hG); have hG := HG.out)
  go_ret
  exact ⟨rfl, grow_trans HWb.out HG.out.1⟩
set_option maxRecDepth 100000 in
set_option maxHeartbeats 8000000 in
theorem lawBa_1 (la : Option Addr) (lc n : Nat) (xs M : List Ord) (o : Ord) (id p q : Int) (w : World) (HS : Hid (SlO w la lc xs)) (HN : Hid (n = xs.length)) (hp : PrW w) (hn : decide (200 < (n : Int)) = false) (HADD : Hid (addO xs o = (M, 0))) (HF : Hid (findO xs id = none)) :
    Calls Tryd.prog 9 #[.slice la n lc, (.agg #[.int .i64 o.id, .int .i64 o.acct, .int .i64 o.inst, .int .u8 o.side, .int .i64 o.price, .int .i64 o.left]), .int .i64 id, .int .i64 p, .int .i64 q] w fun e w' => e = .returned (.bool true) ∧ Below w.heap.size w w' := by
  obtain ⟨W, hW, hWb, hWs, hA⟩ := box1 w #[.int .i64 o.id, .int .i64 o.acct, .int .i64 o.inst, .int .u8 o.side, .int .i64 o.price, .int .i64 o.left] 23
  have HWb := Lib.hid hWb; clear hWb
  have HG := Lib.hid (GrS.refl W)
  have HP := Lib.hid (hp.mono HWb.out); clear hp
  have HSW : Hid (SlO W la lc xs) := Lib.hid (HS.out.mono HWb.out)
  have hle : n ≤ 200 := by simp at hn; omega
  have hee := neqO_self o
  have hgg := guardO o o
  go_enter Tryd.func9, Tryd.ntmps9
  go_wp2_with (go_at_call 11; (with_reducible refine (works_c _ (HP.out.mono HG.out.1)).mono ?_); rintro e w1 ⟨rfl, hb1⟩; replace HG := Lib.hid (GrS.call HG.out hb1); clear hb1; (try clear hG); have hG := HG.out)
  clear hW
  refine (add_n HN.out (HSW.out.mono HG.out.1) (by omega) HADD.out).mono ?_
  rintro e w2 ⟨a2, c2, rfl, hb1, hs2⟩
  have HM2 := Lib.hid hs2; clear hs2
  replace HG := Lib.hid (GrS.call HG.out hb1); clear hb1; (try clear hG); have hG := HG.out
  have HML := Lib.hid (addO_le HADD.out)
  have HR0 : Hid (dropO M o.id = (xs, 0) ∧ findO M o.id = some o ∧ mayL M = true) := Lib.hid (by have := back_add (xs := xs) (o := o) (by rw [HADD.out]); rwa [HADD.out] at this)
  have hml : M.length ≤ 1000000 := by have h1 := HML.out; have h2 := HN.out; omega
  generalize hmn : M.length = mn at *
  have HMN := Lib.hid hmn.symm; clear hmn
  go_wp2_with fail
  refine (drop_n HMN.out HM2.out hml HR0.out.1).mono ?_
  rintro e w3 ⟨a3, c3, rfl, hb1, hs3⟩
  replace HM2 := Lib.hid (HM2.out.mono hb1)
  have HN3 := Lib.hid hs3; clear hs3
  rw [← HN.out]
  replace HG := Lib.hid (GrS.call HG.out hb1); clear hb1; (try clear hG); have hG := HG.out
  go_wp2_with fail
  refine (find_n HMN.out HM2.out hml HR0.out.2.1).mono ?_
  rintro e w4 ⟨rfl, hb1⟩
  replace HM2 := Lib.hid (HM2.out.mono hb1)
  replace HN3 := Lib.hid (HN3.out.mono hb1)
  replace HG := Lib.hid (GrS.call HG.out hb1); clear hb1; (try clear hG); have hG := HG.out
  go_wp2_with fail
  obtain ⟨X, hX, hb1, hXs, hX9⟩ := box1 w4 #[.int .i64 o.id, .int .i64 o.acct, .int .i64 o.inst, .int .u8 o.side, .int .i64 o.price, .int .i64 o.left] 23
  rw [hX]
  replace HM2 := Lib.hid (HM2.out.mono hb1)
  replace HN3 := Lib.hid (HN3.out.mono hb1)
  have hX10 : w4.heap.size < X.heap.size := by omega
  clear hX hXs
  replace HG := Lib.hid (GrS.call HG.out hb1); clear hb1; (try clear hG); have hG := HG.out
  generalize w4.heap.size = N4 at *
  refine (same_n HN.out HN.out HN3.out (HSW.out.mono HG.out.1)).mono ?_
  rintro e w5 ⟨rfl, hb1⟩
  replace HM2 := Lib.hid (HM2.out.mono hb1)
  have hX11 := (GrS.of hb1).2
  replace HG := Lib.hid (GrS.call HG.out hb1); clear hb1; (try clear hG); have hG := HG.out
  go_wp2_with fail
  refine (may_n HMN.out HM2.out HR0.out.2.2).mono ?_
  rintro e w6 ⟨rfl, hb1⟩
  replace HG := Lib.hid (GrS.call HG.out hb1); clear hb1; (try clear hG); have hG := HG.out
  clear hX11 hX10 hX9
  clear HADD
  go_wp2_with fail
  refine (find_none HN.out (HSW.out.mono HG.out.1) (by omega) HF.out).mono ?_
  rintro e w7 ⟨rfl, hb1⟩
  replace HG := Lib.hid (GrS.call HG.out hb1); clear hb1; (try clear hG); have hG := HG.out
  go_wp2
  go_ret
  exact ⟨rfl, grow_trans HWb.out (GrS.alloc HG.out _).1⟩
set_option maxRecDepth 100000 in
set_option maxHeartbeats 8000000 in
theorem lawBa_2 (la : Option Addr) (lc n : Nat) (xs M : List Ord) (o : Ord) (id p q : Int) (w : World) (x : Ord) (R : List Ord) (HS : Hid (SlO w la lc xs)) (HN : Hid (n = xs.length)) (hp : PrW w) (hn : decide (200 < (n : Int)) = false) (HADD : Hid (addO xs o = (M, 0))) (HF : Hid (findO xs id = some x)) (HRd : Hid (takeO xs id x.left = (R, (takeO xs id x.left).2))) (hnf : ¬ (1 ≤ p ∧ 1 ≤ q ∧ p + q ≤ x.left)) :
    Calls Tryd.prog 9 #[.slice la n lc, (.agg #[.int .i64 o.id, .int .i64 o.acct, .int .i64 o.inst, .int .u8 o.side, .int .i64 o.price, .int .i64 o.left]), .int .i64 id, .int .i64 p, .int .i64 q] w fun e w' => e = .returned (.bool true) ∧ Below w.heap.size w w' := by
  obtain ⟨W, hW, hWb, hWs, hA⟩ := box1 w #[.int .i64 o.id, .int .i64 o.acct, .int .i64 o.inst, .int .u8 o.side, .int .i64 o.price, .int .i64 o.left] 23
  have HWb := Lib.hid hWb; clear hWb
  have HG := Lib.hid (GrS.refl W)
  have HP := Lib.hid (hp.mono HWb.out); clear hp
  have HSW : Hid (SlO W la lc xs) := Lib.hid (HS.out.mono HWb.out)
  have hle : n ≤ 200 := by simp at hn; omega
  have hee := neqO_self o
  have hgg := guardO o o
  go_enter Tryd.func9, Tryd.ntmps9
  go_wp2_with (go_at_call 11; (with_reducible refine (works_c _ (HP.out.mono HG.out.1)).mono ?_); rintro e w1 ⟨rfl, hb1⟩; replace HG := Lib.hid (GrS.call HG.out hb1); clear hb1; (try clear hG); have hG := HG.out)
  clear hW
  refine (add_n HN.out (HSW.out.mono HG.out.1) (by omega) HADD.out).mono ?_
  rintro e w2 ⟨a2, c2, rfl, hb1, hs2⟩
  have HM2 := Lib.hid hs2; clear hs2
  replace HG := Lib.hid (GrS.call HG.out hb1); clear hb1; (try clear hG); have hG := HG.out
  have HML := Lib.hid (addO_le HADD.out)
  have HR0 : Hid (dropO M o.id = (xs, 0) ∧ findO M o.id = some o ∧ mayL M = true) := Lib.hid (by have := back_add (xs := xs) (o := o) (by rw [HADD.out]); rwa [HADD.out] at this)
  have hml : M.length ≤ 1000000 := by have h1 := HML.out; have h2 := HN.out; omega
  generalize hmn : M.length = mn at *
  have HMN := Lib.hid hmn.symm; clear hmn
  go_wp2_with fail
  refine (drop_n HMN.out HM2.out hml HR0.out.1).mono ?_
  rintro e w3 ⟨a3, c3, rfl, hb1, hs3⟩
  replace HM2 := Lib.hid (HM2.out.mono hb1)
  have HN3 := Lib.hid hs3; clear hs3
  rw [← HN.out]
  replace HG := Lib.hid (GrS.call HG.out hb1); clear hb1; (try clear hG); have hG := HG.out
  go_wp2_with fail
  refine (find_n HMN.out HM2.out hml HR0.out.2.1).mono ?_
  rintro e w4 ⟨rfl, hb1⟩
  replace HM2 := Lib.hid (HM2.out.mono hb1)
  replace HN3 := Lib.hid (HN3.out.mono hb1)
  replace HG := Lib.hid (GrS.call HG.out hb1); clear hb1; (try clear hG); have hG := HG.out
  go_wp2_with fail
  obtain ⟨X, hX, hb1, hXs, hX9⟩ := box1 w4 #[.int .i64 o.id, .int .i64 o.acct, .int .i64 o.inst, .int .u8 o.side, .int .i64 o.price, .int .i64 o.left] 23
  rw [hX]
  replace HM2 := Lib.hid (HM2.out.mono hb1)
  replace HN3 := Lib.hid (HN3.out.mono hb1)
  have hX10 : w4.heap.size < X.heap.size := by omega
  clear hX hXs
  replace HG := Lib.hid (GrS.call HG.out hb1); clear hb1; (try clear hG); have hG := HG.out
  generalize w4.heap.size = N4 at *
  refine (same_n HN.out HN.out HN3.out (HSW.out.mono HG.out.1)).mono ?_
  rintro e w5 ⟨rfl, hb1⟩
  replace HM2 := Lib.hid (HM2.out.mono hb1)
  have hX11 := (GrS.of hb1).2
  replace HG := Lib.hid (GrS.call HG.out hb1); clear hb1; (try clear hG); have hG := HG.out
  go_wp2_with fail
  refine (may_n HMN.out HM2.out HR0.out.2.2).mono ?_
  rintro e w6 ⟨rfl, hb1⟩
  replace HG := Lib.hid (GrS.call HG.out hb1); clear hb1; (try clear hG); have hG := HG.out
  clear hX11 hX10 hX9
  clear HADD
  have HR : Hid (takeO xs id x.left = (R, 0) ∧ dropO xs id = (R, 0) ∧ mayL R = true) := Lib.hid (by obtain ⟨h1, h2, h3⟩ := take_all HF.out; rw [HRd.out] at h1 h2 h3; exact ⟨by rw [HRd.out, h2], by rw [← h1, h2], h3⟩)
  obtain ⟨x1, x2⟩ : 1 ≤ x.left ∧ x.left ≤ 1048576 := by obtain ⟨h1, h2, _⟩ := findO_id HF.out; exact (mayOne_iff.1 ((mayL_iff.1 h1).2.1 x h2)).2.2.2.2.2
  have hrl : R.length ≤ 1000000 := by have := (mayL_iff.1 HR.out.2.2).1; omega
  generalize hrn : R.length = rn at *
  have HRN := Lib.hid hrn.symm; clear hrn
  go_wp2_with fail
  refine (find_n HN.out (HSW.out.mono HG.out.1) (by omega) HF.out).mono ?_
  rintro e w7 ⟨rfl, hb1⟩
  replace HG := Lib.hid (GrS.call HG.out hb1); clear hb1; (try clear hG); have hG := HG.out
  go_wp2_with fail
  obtain ⟨Y, hY, hb1, hYs, hY9⟩ := box1 w7 #[.int .i64 x.id, .int .i64 x.acct, .int .i64 x.inst, .int .u8 x.side, .int .i64 x.price, .int .i64 x.left] 23
  rw [hY]
  have hY10 : w7.heap.size < Y.heap.size := by omega
  clear hY hYs
  replace HG := Lib.hid (GrS.call HG.out hb1); clear hb1; (try clear hG); have hG := HG.out
  generalize w7.heap.size = N7 at *
  refine (take_n HN.out (HSW.out.mono HG.out.1) (by omega) HR.out.1).mono ?_
  rintro e w8 ⟨a8, c8, rfl, hb1, hs8⟩
  have HS8 := Lib.hid hs8; clear hs8
  have hY11 := GrS.of hb1
  rw [← HRN.out]
  replace HG := Lib.hid (GrS.call HG.out hb1); clear hb1; (try clear hG); have hG := HG.out
  go_wp2_with fail
  refine (drop_n HN.out (HSW.out.mono HG.out.1) (by omega) HR.out.2.1).mono ?_
  rintro e w9 ⟨a9, c9, rfl, hb1, hs9⟩
  have HS9 := Lib.hid hs9; clear hs9
  replace HS8 := Lib.hid (HS8.out.mono hb1)
  rw [← HRN.out]
  replace hY11 := GrS.call hY11 hb1
  replace HG := Lib.hid (GrS.call HG.out hb1); clear hb1; (try clear hG); have hG := HG.out
  go_wp2_with fail
  refine (same_n HRN.out HRN.out HS8.out HS9.out).mono ?_
  rintro e w10 ⟨rfl, hb1⟩
  replace HS8 := Lib.hid (HS8.out.mono hb1)
  replace hY11 := GrS.call hY11 hb1
  replace HG := Lib.hid (GrS.call HG.out hb1); clear hb1; (try clear hG); have hG := HG.out
  go_wp2_with fail
  refine (may_n HRN.out HS8.out HR.out.2.2).mono ?_
  rintro e w11 ⟨rfl, hb1⟩
  replace hY11 := GrS.call hY11 hb1
  replace HG := Lib.hid (GrS.call HG.out hb1); clear hb1; (try clear hG); have hG := HG.out
  replace hY9 : ∀ i, w11.cell? ⟨N7, i, none⟩ = #[.int .i64 x.id, .int .i64 x.acct, .int .i64 x.inst, .int .u8 x.side, .int .i64 x.price, .int .i64 x.left][i]? := fun i => by rw [hY11.2 _ _ hY10]; exact hY9 i
  clear hY11 hY10 hA
  go_wp2_with fail
  all_goals first
    | (go_ret; exact ⟨rfl, grow_trans HWb.out HG.out.1⟩)
    | (exfalso; omega)
set_option maxRecDepth 100000 in
set_option maxHeartbeats 8000000 in
theorem lawBa_3 (la : Option Addr) (lc n : Nat) (xs M : List Ord) (o : Ord) (id p q : Int) (w : World) (x : Ord) (R : List Ord) (C D : List Ord) (HS : Hid (SlO w la lc xs)) (HN : Hid (n = xs.length)) (hp : PrW w) (hn : decide (200 < (n : Int)) = false) (HADD : Hid (addO xs o = (M, 0))) (HF : Hid (findO xs id = some x)) (HRd : Hid (takeO xs id x.left = (R, (takeO xs id x.left).2))) (hfull : 1 ≤ p ∧ 1 ≤ q ∧ p + q ≤ x.left) (HCd : Hid (C = xs.filterMap (lessLeft id p))) (HDd : Hid (D = xs.filterMap (lessLeft id (p + q)))) :
    Calls Tryd.prog 9 #[.slice la n lc, (.agg #[.int .i64 o.id, .int .i64 o.acct, .int .i64 o.inst, .int .u8 o.side, .int .i64 o.price, .int .i64 o.left]), .int .i64 id, .int .i64 p, .int .i64 q] w fun e w' => e = .returned (.bool true) ∧ Below w.heap.size w w' := by
  obtain ⟨W, hW, hWb, hWs, hA⟩ := box1 w #[.int .i64 o.id, .int .i64 o.acct, .int .i64 o.inst, .int .u8 o.side, .int .i64 o.price, .int .i64 o.left] 23
  have HWb := Lib.hid hWb; clear hWb
  have HG := Lib.hid (GrS.refl W)
  have HP := Lib.hid (hp.mono HWb.out); clear hp
  have HSW : Hid (SlO W la lc xs) := Lib.hid (HS.out.mono HWb.out)
  have hle : n ≤ 200 := by simp at hn; omega
  have hee := neqO_self o
  have hgg := guardO o o
  go_enter Tryd.func9, Tryd.ntmps9
  go_wp2_with (go_at_call 11; (with_reducible refine (works_c _ (HP.out.mono HG.out.1)).mono ?_); rintro e w1 ⟨rfl, hb1⟩; replace HG := Lib.hid (GrS.call HG.out hb1); clear hb1; (try clear hG); have hG := HG.out)
  clear hW
  refine (add_n HN.out (HSW.out.mono HG.out.1) (by omega) HADD.out).mono ?_
  rintro e w2 ⟨a2, c2, rfl, hb1, hs2⟩
  have HM2 := Lib.hid hs2; clear hs2
  replace HG := Lib.hid (GrS.call HG.out hb1); clear hb1; (try clear hG); have hG := HG.out
  have HML := Lib.hid (addO_le HADD.out)
  have HR0 : Hid (dropO M o.id = (xs, 0) ∧ findO M o.id = some o ∧ mayL M = true) := Lib.hid (by have := back_add (xs := xs) (o := o) (by rw [HADD.out]); rwa [HADD.out] at this)
  have hml : M.length ≤ 1000000 := by have h1 := HML.out; have h2 := HN.out; omega
  generalize hmn : M.length = mn at *
  have HMN := Lib.hid hmn.symm; clear hmn
  go_wp2_with fail
  refine (drop_n HMN.out HM2.out hml HR0.out.1).mono ?_
  rintro e w3 ⟨a3, c3, rfl, hb1, hs3⟩
  replace HM2 := Lib.hid (HM2.out.mono hb1)
  have HN3 := Lib.hid hs3; clear hs3
  rw [← HN.out]
  replace HG := Lib.hid (GrS.call HG.out hb1); clear hb1; (try clear hG); have hG := HG.out
  go_wp2_with fail
  refine (find_n HMN.out HM2.out hml HR0.out.2.1).mono ?_
  rintro e w4 ⟨rfl, hb1⟩
  replace HM2 := Lib.hid (HM2.out.mono hb1)
  replace HN3 := Lib.hid (HN3.out.mono hb1)
  replace HG := Lib.hid (GrS.call HG.out hb1); clear hb1; (try clear hG); have hG := HG.out
  go_wp2_with fail
  obtain ⟨X, hX, hb1, hXs, hX9⟩ := box1 w4 #[.int .i64 o.id, .int .i64 o.acct, .int .i64 o.inst, .int .u8 o.side, .int .i64 o.price, .int .i64 o.left] 23
  rw [hX]
  replace HM2 := Lib.hid (HM2.out.mono hb1)
  replace HN3 := Lib.hid (HN3.out.mono hb1)
  have hX10 : w4.heap.size < X.heap.size := by omega
  clear hX hXs
  replace HG := Lib.hid (GrS.call HG.out hb1); clear hb1; (try clear hG); have hG := HG.out
  generalize w4.heap.size = N4 at *
  refine (same_n HN.out HN.out HN3.out (HSW.out.mono HG.out.1)).mono ?_
  rintro e w5 ⟨rfl, hb1⟩
  replace HM2 := Lib.hid (HM2.out.mono hb1)
  have hX11 := (GrS.of hb1).2
  replace HG := Lib.hid (GrS.call HG.out hb1); clear hb1; (try clear hG); have hG := HG.out
  go_wp2_with fail
  refine (may_n HMN.out HM2.out HR0.out.2.2).mono ?_
  rintro e w6 ⟨rfl, hb1⟩
  replace HG := Lib.hid (GrS.call HG.out hb1); clear hb1; (try clear hG); have hG := HG.out
  clear hX11 hX10 hX9
  clear HADD
  have HR : Hid (takeO xs id x.left = (R, 0) ∧ dropO xs id = (R, 0) ∧ mayL R = true) := Lib.hid (by obtain ⟨h1, h2, h3⟩ := take_all HF.out; rw [HRd.out] at h1 h2 h3; exact ⟨by rw [HRd.out, h2], by rw [← h1, h2], h3⟩)
  obtain ⟨x1, x2⟩ : 1 ≤ x.left ∧ x.left ≤ 1048576 := by obtain ⟨h1, h2, _⟩ := findO_id HF.out; exact (mayOne_iff.1 ((mayL_iff.1 h1).2.1 x h2)).2.2.2.2.2
  have hrl : R.length ≤ 1000000 := by have := (mayL_iff.1 HR.out.2.2).1; omega
  generalize hrn : R.length = rn at *
  have HRN := Lib.hid hrn.symm; clear hrn
  go_wp2_with fail
  refine (find_n HN.out (HSW.out.mono HG.out.1) (by omega) HF.out).mono ?_
  rintro e w7 ⟨rfl, hb1⟩
  replace HG := Lib.hid (GrS.call HG.out hb1); clear hb1; (try clear hG); have hG := HG.out
  go_wp2_with fail
  obtain ⟨Y, hY, hb1, hYs, hY9⟩ := box1 w7 #[.int .i64 x.id, .int .i64 x.acct, .int .i64 x.inst, .int .u8 x.side, .int .i64 x.price, .int .i64 x.left] 23
  rw [hY]
  have hY10 : w7.heap.size < Y.heap.size := by omega
  clear hY hYs
  replace HG := Lib.hid (GrS.call HG.out hb1); clear hb1; (try clear hG); have hG := HG.out
  generalize w7.heap.size = N7 at *
  refine (take_n HN.out (HSW.out.mono HG.out.1) (by omega) HR.out.1).mono ?_
  rintro e w8 ⟨a8, c8, rfl, hb1, hs8⟩
  have HS8 := Lib.hid hs8; clear hs8
  have hY11 := GrS.of hb1
  rw [← HRN.out]
  replace HG := Lib.hid (GrS.call HG.out hb1); clear hb1; (try clear hG); have hG := HG.out
  go_wp2_with fail
  refine (drop_n HN.out (HSW.out.mono HG.out.1) (by omega) HR.out.2.1).mono ?_
  rintro e w9 ⟨a9, c9, rfl, hb1, hs9⟩
  have HS9 := Lib.hid hs9; clear hs9
  replace HS8 := Lib.hid (HS8.out.mono hb1)
  rw [← HRN.out]
  replace hY11 := GrS.call hY11 hb1
  replace HG := Lib.hid (GrS.call HG.out hb1); clear hb1; (try clear hG); have hG := HG.out
  go_wp2_with fail
  refine (same_n HRN.out HRN.out HS8.out HS9.out).mono ?_
  rintro e w10 ⟨rfl, hb1⟩
  replace HS8 := Lib.hid (HS8.out.mono hb1)
  replace hY11 := GrS.call hY11 hb1
  replace HG := Lib.hid (GrS.call HG.out hb1); clear hb1; (try clear hG); have hG := HG.out
  go_wp2_with fail
  refine (may_n HRN.out HS8.out HR.out.2.2).mono ?_
  rintro e w11 ⟨rfl, hb1⟩
  replace hY11 := GrS.call hY11 hb1
  replace HG := Lib.hid (GrS.call HG.out hb1); clear hb1; (try clear hG); have hG := HG.out
  replace hY9 : ∀ i, w11.cell? ⟨N7, i, none⟩ = #[.int .i64 x.id, .int .i64 x.acct, .int .i64 x.inst, .int .u8 x.side, .int .i64 x.price, .int .i64 x.left][i]? := fun i => by rw [hY11.2 _ _ hY10]; exact hY9 i
  clear hY11 hY10 hA
  obtain ⟨hp1, hq1, hpq⟩ := hfull
  have HC : Hid (takeO xs id p = (C, 0) ∧ takeO C id q = (D, 0) ∧ takeO xs id (p + q) = (D, 0)) := Lib.hid (by obtain ⟨h1, h2, h3⟩ := take_two HF.out hp1 hq1 hpq; rw [HCd.out, HDd.out]; exact ⟨h1, h2, h3⟩)
  have hcl : C.length ≤ 1000000 := by have h2 := HN.out; rw [HCd.out]; exact Nat.le_trans (List.length_filterMap_le _ _) (by omega)
  have hs1 : IntKind.i64.wrap (x.left - p) = x.left - p := IntWalk.i64_in _ (by omega)
  have hs2 : IntKind.i64.wrap (p + q) = p + q := IntWalk.i64_in _ (by omega)
  have t1 : decide (p < 1) = false := by simp; omega
  have t2 : decide (q < 1) = false := by simp; omega
  have t3 : decide (x.left < p) = false := by simp; omega
  have t4 : decide (x.left - p < q) = false := by simp; omega
  generalize hcn : C.length = cn at *
  have HCN := Lib.hid hcn.symm; clear hcn
  go_wp2_with fail
  all_goals first
    | (exfalso; omega)
    | skip
  refine (take_n HN.out (HSW.out.mono HG.out.1) (by omega) HC.out.1).mono ?_
  rintro e w12 ⟨a12, c12, rfl, hb1, hs12⟩
  have HS12 := Lib.hid hs12; clear hs12
  rw [← HCN.out]
  replace HG := Lib.hid (GrS.call HG.out hb1); clear hb1; (try clear hG); have hG := HG.out
  clear hY9
  go_wp2_with fail
  refine (take_n HCN.out HS12.out hcl HC.out.2.1).mono ?_
  rintro e w13 ⟨a13, c13, rfl, hb1, hs13⟩
  have HS13 := Lib.hid hs13; clear hs13
  replace HG := Lib.hid (GrS.call HG.out hb1); clear hb1; (try clear hG); have hG := HG.out
  go_wp2_with fail
  refine (take_n HN.out (HSW.out.mono HG.out.1) (by omega) HC.out.2.2).mono ?_
  rintro e w14 ⟨a14, c14, rfl, hb1, hs14⟩
  have HS14 := Lib.hid hs14; clear hs14
  replace HS13 := Lib.hid (HS13.out.mono hb1)
  replace HG := Lib.hid (GrS.call HG.out hb1); clear hb1; (try clear hG); have hG := HG.out
  go_wp2_with fail
  refine (same_n rfl rfl HS13.out HS14.out).mono ?_
  rintro e w15 ⟨rfl, hb1⟩
  replace HG := Lib.hid (GrS.call HG.out hb1); clear hb1; (try clear hG); have hG := HG.out
  go_wp2
  go_ret
  exact ⟨rfl, grow_trans HWb.out HG.out.1⟩
set_option maxRecDepth 100000 in
set_option maxHeartbeats 8000000 in
theorem lawBa_4 (la : Option Addr) (lc n : Nat) (xs M : List Ord) (o : Ord) (id p q : Int) (w : World) (HS : Hid (SlO w la lc xs)) (HN : Hid (n = xs.length)) (hp : PrW w) (hn : decide (200 < (n : Int)) = false) (k : Int) (hk : (k == 0) = false) (HADD : Hid (addO xs o = (M, k))) (HF : Hid (findO xs id = none)) :
    Calls Tryd.prog 9 #[.slice la n lc, (.agg #[.int .i64 o.id, .int .i64 o.acct, .int .i64 o.inst, .int .u8 o.side, .int .i64 o.price, .int .i64 o.left]), .int .i64 id, .int .i64 p, .int .i64 q] w fun e w' => e = .returned (.bool true) ∧ Below w.heap.size w w' := by
  obtain ⟨W, hW, hWb, hWs, hA⟩ := box1 w #[.int .i64 o.id, .int .i64 o.acct, .int .i64 o.inst, .int .u8 o.side, .int .i64 o.price, .int .i64 o.left] 23
  have HWb := Lib.hid hWb; clear hWb
  have HG := Lib.hid (GrS.refl W)
  have HP := Lib.hid (hp.mono HWb.out); clear hp
  have HSW : Hid (SlO W la lc xs) := Lib.hid (HS.out.mono HWb.out)
  have hle : n ≤ 200 := by simp at hn; omega
  have hee := neqO_self o
  have hgg := guardO o o
  go_enter Tryd.func9, Tryd.ntmps9
  go_wp2_with (go_at_call 11; (with_reducible refine (works_c _ (HP.out.mono HG.out.1)).mono ?_); rintro e w1 ⟨rfl, hb1⟩; replace HG := Lib.hid (GrS.call HG.out hb1); clear hb1; (try clear hG); have hG := HG.out)
  clear hW
  refine (add_n HN.out (HSW.out.mono HG.out.1) (by omega) HADD.out).mono ?_
  rintro e w2 ⟨a2, c2, rfl, hb1, hs2⟩
  have HM2 := Lib.hid hs2; clear hs2
  replace HG := Lib.hid (GrS.call HG.out hb1); clear hb1; (try clear hG); have hG := HG.out
  clear HADD
  go_wp2_with fail
  refine (find_none HN.out (HSW.out.mono HG.out.1) (by omega) HF.out).mono ?_
  rintro e w7 ⟨rfl, hb1⟩
  replace HG := Lib.hid (GrS.call HG.out hb1); clear hb1; (try clear hG); have hG := HG.out
  go_wp2
  go_ret
  exact ⟨rfl, grow_trans HWb.out (GrS.alloc HG.out _).1⟩
set_option maxRecDepth 100000 in
set_option maxHeartbeats 8000000 in
theorem lawBa_5 (la : Option Addr) (lc n : Nat) (xs M : List Ord) (o : Ord) (id p q : Int) (w : World) (x : Ord) (R : List Ord) (HS : Hid (SlO w la lc xs)) (HN : Hid (n = xs.length)) (hp : PrW w) (hn : decide (200 < (n : Int)) = false) (k : Int) (hk : (k == 0) = false) (HADD : Hid (addO xs o = (M, k))) (HF : Hid (findO xs id = some x)) (HRd : Hid (takeO xs id x.left = (R, (takeO xs id x.left).2))) (hnf : ¬ (1 ≤ p ∧ 1 ≤ q ∧ p + q ≤ x.left)) :
    Calls Tryd.prog 9 #[.slice la n lc, (.agg #[.int .i64 o.id, .int .i64 o.acct, .int .i64 o.inst, .int .u8 o.side, .int .i64 o.price, .int .i64 o.left]), .int .i64 id, .int .i64 p, .int .i64 q] w fun e w' => e = .returned (.bool true) ∧ Below w.heap.size w w' := by
  obtain ⟨W, hW, hWb, hWs, hA⟩ := box1 w #[.int .i64 o.id, .int .i64 o.acct, .int .i64 o.inst, .int .u8 o.side, .int .i64 o.price, .int .i64 o.left] 23
  have HWb := Lib.hid hWb; clear hWb
  have HG := Lib.hid (GrS.refl W)
  have HP := Lib.hid (hp.mono HWb.out); clear hp
  have HSW : Hid (SlO W la lc xs) := Lib.hid (HS.out.mono HWb.out)
  have hle : n ≤ 200 := by simp at hn; omega
  have hee := neqO_self o
  have hgg := guardO o o
  go_enter Tryd.func9, Tryd.ntmps9
  go_wp2_with (go_at_call 11; (with_reducible refine (works_c _ (HP.out.mono HG.out.1)).mono ?_); rintro e w1 ⟨rfl, hb1⟩; replace HG := Lib.hid (GrS.call HG.out hb1); clear hb1; (try clear hG); have hG := HG.out)
  clear hW
  refine (add_n HN.out (HSW.out.mono HG.out.1) (by omega) HADD.out).mono ?_
  rintro e w2 ⟨a2, c2, rfl, hb1, hs2⟩
  have HM2 := Lib.hid hs2; clear hs2
  replace HG := Lib.hid (GrS.call HG.out hb1); clear hb1; (try clear hG); have hG := HG.out
  clear HADD
  have HR : Hid (takeO xs id x.left = (R, 0) ∧ dropO xs id = (R, 0) ∧ mayL R = true) := Lib.hid (by obtain ⟨h1, h2, h3⟩ := take_all HF.out; rw [HRd.out] at h1 h2 h3; exact ⟨by rw [HRd.out, h2], by rw [← h1, h2], h3⟩)
  obtain ⟨x1, x2⟩ : 1 ≤ x.left ∧ x.left ≤ 1048576 := by obtain ⟨h1, h2, _⟩ := findO_id HF.out; exact (mayOne_iff.1 ((mayL_iff.1 h1).2.1 x h2)).2.2.2.2.2
  have hrl : R.length ≤ 1000000 := by have := (mayL_iff.1 HR.out.2.2).1; omega
  generalize hrn : R.length = rn at *
  have HRN := Lib.hid hrn.symm; clear hrn
  go_wp2_with fail
  refine (find_n HN.out (HSW.out.mono HG.out.1) (by omega) HF.out).mono ?_
  rintro e w7 ⟨rfl, hb1⟩
  replace HG := Lib.hid (GrS.call HG.out hb1); clear hb1; (try clear hG); have hG := HG.out
  go_wp2_with fail
  obtain ⟨Y, hY, hb1, hYs, hY9⟩ := box1 w7 #[.int .i64 x.id, .int .i64 x.acct, .int .i64 x.inst, .int .u8 x.side, .int .i64 x.price, .int .i64 x.left] 23
  rw [hY]
  have hY10 : w7.heap.size < Y.heap.size := by omega
  clear hY hYs
  replace HG := Lib.hid (GrS.call HG.out hb1); clear hb1; (try clear hG); have hG := HG.out
  generalize w7.heap.size = N7 at *
  refine (take_n HN.out (HSW.out.mono HG.out.1) (by omega) HR.out.1).mono ?_
  rintro e w8 ⟨a8, c8, rfl, hb1, hs8⟩
  have HS8 := Lib.hid hs8; clear hs8
  have hY11 := GrS.of hb1
  rw [← HRN.out]
  replace HG := Lib.hid (GrS.call HG.out hb1); clear hb1; (try clear hG); have hG := HG.out
  go_wp2_with fail
  refine (drop_n HN.out (HSW.out.mono HG.out.1) (by omega) HR.out.2.1).mono ?_
  rintro e w9 ⟨a9, c9, rfl, hb1, hs9⟩
  have HS9 := Lib.hid hs9; clear hs9
  replace HS8 := Lib.hid (HS8.out.mono hb1)
  rw [← HRN.out]
  replace hY11 := GrS.call hY11 hb1
  replace HG := Lib.hid (GrS.call HG.out hb1); clear hb1; (try clear hG); have hG := HG.out
  go_wp2_with fail
  refine (same_n HRN.out HRN.out HS8.out HS9.out).mono ?_
  rintro e w10 ⟨rfl, hb1⟩
  replace HS8 := Lib.hid (HS8.out.mono hb1)
  replace hY11 := GrS.call hY11 hb1
  replace HG := Lib.hid (GrS.call HG.out hb1); clear hb1; (try clear hG); have hG := HG.out
  go_wp2_with fail
  refine (may_n HRN.out HS8.out HR.out.2.2).mono ?_
  rintro e w11 ⟨rfl, hb1⟩
  replace hY11 := GrS.call hY11 hb1
  replace HG := Lib.hid (GrS.call HG.out hb1); clear hb1; (try clear hG); have hG := HG.out
  replace hY9 : ∀ i, w11.cell? ⟨N7, i, none⟩ = #[.int .i64 x.id, .int .i64 x.acct, .int .i64 x.inst, .int .u8 x.side, .int .i64 x.price, .int .i64 x.left][i]? := fun i => by rw [hY11.2 _ _ hY10]; exact hY9 i
  clear hY11 hY10 hA
  go_wp2_with fail
  all_goals first
    | (go_ret; exact ⟨rfl, grow_trans HWb.out HG.out.1⟩)
    | (exfalso; omega)
set_option maxRecDepth 100000 in
set_option maxHeartbeats 8000000 in
theorem lawBa_6 (la : Option Addr) (lc n : Nat) (xs M : List Ord) (o : Ord) (id p q : Int) (w : World) (x : Ord) (R : List Ord) (C D : List Ord) (HS : Hid (SlO w la lc xs)) (HN : Hid (n = xs.length)) (hp : PrW w) (hn : decide (200 < (n : Int)) = false) (k : Int) (hk : (k == 0) = false) (HADD : Hid (addO xs o = (M, k))) (HF : Hid (findO xs id = some x)) (HRd : Hid (takeO xs id x.left = (R, (takeO xs id x.left).2))) (hfull : 1 ≤ p ∧ 1 ≤ q ∧ p + q ≤ x.left) (HCd : Hid (C = xs.filterMap (lessLeft id p))) (HDd : Hid (D = xs.filterMap (lessLeft id (p + q)))) :
    Calls Tryd.prog 9 #[.slice la n lc, (.agg #[.int .i64 o.id, .int .i64 o.acct, .int .i64 o.inst, .int .u8 o.side, .int .i64 o.price, .int .i64 o.left]), .int .i64 id, .int .i64 p, .int .i64 q] w fun e w' => e = .returned (.bool true) ∧ Below w.heap.size w w' := by
  obtain ⟨W, hW, hWb, hWs, hA⟩ := box1 w #[.int .i64 o.id, .int .i64 o.acct, .int .i64 o.inst, .int .u8 o.side, .int .i64 o.price, .int .i64 o.left] 23
  have HWb := Lib.hid hWb; clear hWb
  have HG := Lib.hid (GrS.refl W)
  have HP := Lib.hid (hp.mono HWb.out); clear hp
  have HSW : Hid (SlO W la lc xs) := Lib.hid (HS.out.mono HWb.out)
  have hle : n ≤ 200 := by simp at hn; omega
  have hee := neqO_self o
  have hgg := guardO o o
  go_enter Tryd.func9, Tryd.ntmps9
  go_wp2_with (go_at_call 11; (with_reducible refine (works_c _ (HP.out.mono HG.out.1)).mono ?_); rintro e w1 ⟨rfl, hb1⟩; replace HG := Lib.hid (GrS.call HG.out hb1); clear hb1; (try clear hG); have hG := HG.out)
  clear hW
  refine (add_n HN.out (HSW.out.mono HG.out.1) (by omega) HADD.out).mono ?_
  rintro e w2 ⟨a2, c2, rfl, hb1, hs2⟩
  have HM2 := Lib.hid hs2; clear hs2
  replace HG := Lib.hid (GrS.call HG.out hb1); clear hb1; (try clear hG); have hG := HG.out
  clear HADD
  have HR : Hid (takeO xs id x.left = (R, 0) ∧ dropO xs id = (R, 0) ∧ mayL R = true) := Lib.hid (by obtain ⟨h1, h2, h3⟩ := take_all HF.out; rw [HRd.out] at h1 h2 h3; exact ⟨by rw [HRd.out, h2], by rw [← h1, h2], h3⟩)
  obtain ⟨x1, x2⟩ : 1 ≤ x.left ∧ x.left ≤ 1048576 := by obtain ⟨h1, h2, _⟩ := findO_id HF.out; exact (mayOne_iff.1 ((mayL_iff.1 h1).2.1 x h2)).2.2.2.2.2
  have hrl : R.length ≤ 1000000 := by have := (mayL_iff.1 HR.out.2.2).1; omega
  generalize hrn : R.length = rn at *
  have HRN := Lib.hid hrn.symm; clear hrn
  go_wp2_with fail
  refine (find_n HN.out (HSW.out.mono HG.out.1) (by omega) HF.out).mono ?_
  rintro e w7 ⟨rfl, hb1⟩
  replace HG := Lib.hid (GrS.call HG.out hb1); clear hb1; (try clear hG); have hG := HG.out
  go_wp2_with fail
  obtain ⟨Y, hY, hb1, hYs, hY9⟩ := box1 w7 #[.int .i64 x.id, .int .i64 x.acct, .int .i64 x.inst, .int .u8 x.side, .int .i64 x.price, .int .i64 x.left] 23
  rw [hY]
  have hY10 : w7.heap.size < Y.heap.size := by omega
  clear hY hYs
  replace HG := Lib.hid (GrS.call HG.out hb1); clear hb1; (try clear hG); have hG := HG.out
  generalize w7.heap.size = N7 at *
  refine (take_n HN.out (HSW.out.mono HG.out.1) (by omega) HR.out.1).mono ?_
  rintro e w8 ⟨a8, c8, rfl, hb1, hs8⟩
  have HS8 := Lib.hid hs8; clear hs8
  have hY11 := GrS.of hb1
  rw [← HRN.out]
  replace HG := Lib.hid (GrS.call HG.out hb1); clear hb1; (try clear hG); have hG := HG.out
  go_wp2_with fail
  refine (drop_n HN.out (HSW.out.mono HG.out.1) (by omega) HR.out.2.1).mono ?_
  rintro e w9 ⟨a9, c9, rfl, hb1, hs9⟩
  have HS9 := Lib.hid hs9; clear hs9
  replace HS8 := Lib.hid (HS8.out.mono hb1)
  rw [← HRN.out]
  replace hY11 := GrS.call hY11 hb1
  replace HG := Lib.hid (GrS.call HG.out hb1); clear hb1; (try clear hG); have hG := HG.out
  go_wp2_with fail
  refine (same_n HRN.out HRN.out HS8.out HS9.out).mono ?_
  rintro e w10 ⟨rfl, hb1⟩
  replace HS8 := Lib.hid (HS8.out.mono hb1)
  replace hY11 := GrS.call hY11 hb1
  replace HG := Lib.hid (GrS.call HG.out hb1); clear hb1; (try clear hG); have hG := HG.out
  go_wp2_with fail
  refine (may_n HRN.out HS8.out HR.out.2.2).mono ?_
  rintro e w11 ⟨rfl, hb1⟩
  replace hY11 := GrS.call hY11 hb1
  replace HG := Lib.hid (GrS.call HG.out hb1); clear hb1; (try clear hG); have hG := HG.out
  replace hY9 : ∀ i, w11.cell? ⟨N7, i, none⟩ = #[.int .i64 x.id, .int .i64 x.acct, .int .i64 x.inst, .int .u8 x.side, .int .i64 x.price, .int .i64 x.left][i]? := fun i => by rw [hY11.2 _ _ hY10]; exact hY9 i
  clear hY11 hY10 hA
  obtain ⟨hp1, hq1, hpq⟩ := hfull
  have HC : Hid (takeO xs id p = (C, 0) ∧ takeO C id q = (D, 0) ∧ takeO xs id (p + q) = (D, 0)) := Lib.hid (by obtain ⟨h1, h2, h3⟩ := take_two HF.out hp1 hq1 hpq; rw [HCd.out, HDd.out]; exact ⟨h1, h2, h3⟩)
  have hcl : C.length ≤ 1000000 := by have h2 := HN.out; rw [HCd.out]; exact Nat.le_trans (List.length_filterMap_le _ _) (by omega)
  have hs1 : IntKind.i64.wrap (x.left - p) = x.left - p := IntWalk.i64_in _ (by omega)
  have hs2 : IntKind.i64.wrap (p + q) = p + q := IntWalk.i64_in _ (by omega)
  have t1 : decide (p < 1) = false := by simp; omega
  have t2 : decide (q < 1) = false := by simp; omega
  have t3 : decide (x.left < p) = false := by simp; omega
  have t4 : decide (x.left - p < q) = false := by simp; omega
  generalize hcn : C.length = cn at *
  have HCN := Lib.hid hcn.symm; clear hcn
  go_wp2_with fail
  all_goals first
    | (exfalso; omega)
    | skip
  refine (take_n HN.out (HSW.out.mono HG.out.1) (by omega) HC.out.1).mono ?_
  rintro e w12 ⟨a12, c12, rfl, hb1, hs12⟩
  have HS12 := Lib.hid hs12; clear hs12
  rw [← HCN.out]
  replace HG := Lib.hid (GrS.call HG.out hb1); clear hb1; (try clear hG); have hG := HG.out
  clear hY9
  go_wp2_with fail
  refine (take_n HCN.out HS12.out hcl HC.out.2.1).mono ?_
  rintro e w13 ⟨a13, c13, rfl, hb1, hs13⟩
  have HS13 := Lib.hid hs13; clear hs13
  replace HG := Lib.hid (GrS.call HG.out hb1); clear hb1; (try clear hG); have hG := HG.out
  go_wp2_with fail
  refine (take_n HN.out (HSW.out.mono HG.out.1) (by omega) HC.out.2.2).mono ?_
  rintro e w14 ⟨a14, c14, rfl, hb1, hs14⟩
  have HS14 := Lib.hid hs14; clear hs14
  replace HS13 := Lib.hid (HS13.out.mono hb1)
  replace HG := Lib.hid (GrS.call HG.out hb1); clear hb1; (try clear hG); have hG := HG.out
  go_wp2_with fail
  refine (same_n rfl rfl HS13.out HS14.out).mono ?_
  rintro e w15 ⟨rfl, hb1⟩
  replace HG := Lib.hid (GrS.call HG.out hb1); clear hb1; (try clear hG); have hG := HG.out
  go_wp2
  go_ret
  exact ⟨rfl, grow_trans HWb.out HG.out.1⟩
theorem lawBack_c (la : Option Addr) (lc : Nat) (xs : List Ord) (o : Ord) (id p q : Int) (w : World) (hs : SlO w la lc xs) (hp : PrW w) :
    Calls Tryd.prog 9 #[.slice la xs.length lc, (.agg #[.int .i64 o.id, .int .i64 o.acct, .int .i64 o.inst, .int .u8 o.side, .int .i64 o.price, .int .i64 o.left]), .int .i64 id, .int .i64 p, .int .i64 q] w fun e w' => e = .returned (.bool true) ∧ Below w.heap.size w w' := by
  cases hn : decide (200 < (xs.length : Int)) with
  | true => exact lawBa_big la lc _ o id p q w hp hn
  | false =>
    by_cases hk : (addO xs o).2 = 0
    · have HA : Hid (addO xs o = ((addO xs o).1, 0)) := Lib.hid (by rw [← hk])
      cases hf : findO xs id with
      | none => exact lawBa_1 la lc _ xs _ o id p q w (Lib.hid hs) (Lib.hid rfl) hp hn HA (Lib.hid hf)
      | some x =>
        by_cases hfull : 1 ≤ p ∧ 1 ≤ q ∧ p + q ≤ x.left
        · exact lawBa_3 la lc _ xs _ o id p q w x _ _ _ (Lib.hid hs) (Lib.hid rfl) hp hn HA (Lib.hid hf) (Lib.hid rfl) hfull (Lib.hid rfl) (Lib.hid rfl)
        · exact lawBa_2 la lc _ xs _ o id p q w x _ (Lib.hid hs) (Lib.hid rfl) hp hn HA (Lib.hid hf) (Lib.hid rfl) hfull
    · have HA : Hid (addO xs o = ((addO xs o).1, (addO xs o).2)) := Lib.hid rfl
      have hk' : ((addO xs o).2 == 0) = false := by simp [hk]
      cases hf : findO xs id with
      | none => exact lawBa_4 la lc _ xs _ o id p q w (Lib.hid hs) (Lib.hid rfl) hp hn _ hk' HA (Lib.hid hf)
      | some x =>
        by_cases hfull : 1 ≤ p ∧ 1 ≤ q ∧ p + q ≤ x.left
        · exact lawBa_6 la lc _ xs _ o id p q w x _ _ _ (Lib.hid hs) (Lib.hid rfl) hp hn _ hk' HA (Lib.hid hf) (Lib.hid rfl) hfull (Lib.hid rfl) (Lib.hid rfl)
        · exact lawBa_5 la lc _ xs _ o id p q w x _ (Lib.hid hs) (Lib.hid rfl) hp hn _ hk' HA (Lib.hid hf) (Lib.hid rfl) hfull
end Go.Proofs.YtecfajnmekpeoaaDoor
