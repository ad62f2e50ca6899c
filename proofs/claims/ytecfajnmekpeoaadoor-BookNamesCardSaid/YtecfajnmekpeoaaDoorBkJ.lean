/-
  Contracts of layer 16 (book): First, Find, Drop, at every list. Conditions: that the slice reads as a list of at most 1000000 orders; for First: the table 'prices' holds its two functions (PrW).
-/
import Derived.Test.YtecfajnmekpeoaaDoorBkI
import Derived.Test.YtecfajnmekpeoaaDoorBkT
namespace Go.Proofs.YtecfajnmekpeoaaDoor
open Go.RowKit

def nilO : Ord := ⟨0, 0, 0, 0, 0, 0⟩
theorem list_r (a : Option Addr) (cap : Nat) (xs : List Ord) (inst side : Int) (w : World) (hs : SlO w a cap xs) (hp : PrW w) (hlen : xs.length ≤ 1000000) :
    Calls Tryd.prog 23 #[.slice a xs.length cap, .int .i64 inst, .int .u8 side] w fun e w' => ∃ a' c', e = .returned (.slice a' (listOf xs inst side).length c') ∧ Below w.heap.size w w' ∧ SlO w' a' c' (listOf xs inst side) :=
  (list_c a cap xs inst side w hs hp hlen).mono fun _ _ ⟨r, he, hb, ho⟩ => by
    obtain ⟨a', c', e1, h2, _⟩ := Own.slR encO_len ho
    exact ⟨a', c', by rw [he, e1], hb, h2⟩
/-- a zero order's block, kept by a growth -/
theorem zero_kept (w : World) (A : Array Value) (t : TypeId) {w1 : World} (hb : Below (w.alloc (.cells A t)).heap.size (w.alloc (.cells A t)) w1) : (∀ i, w1.cell? ⟨w.heap.size, i, none⟩ = A[i]?) ∧ (∀ i, w1.frozen? ⟨w.heap.size, i, none⟩ = false) ∧ w.heap.size < w1.heap.size ∧ Below w.heap.size w w1 :=
  ⟨fun i => (hb.cell (p := ⟨w.heap.size, i, none⟩) (by simp)).trans (by simp), fun i => (hb.frozen (p := ⟨w.heap.size, i, none⟩) (by simp)).trans (by simp), by have := hb.size; simp at this; omega, (below_alloc _ _).trans (hb.mono (by simp))⟩
theorem set6 {w w1 : World} {b : Nat} (hb : w.heap.size ≤ b) (h : Below w.heap.size w w1) (v0 v1 v2 v3 v4 v5 : Value) : Below w.heap.size w ((((((w1.setCell ⟨b, 0, none⟩ v0).setCell ⟨b, 1, none⟩ v1).setCell ⟨b, 2, none⟩ v2).setCell ⟨b, 3, none⟩ v3).setCell ⟨b, 4, none⟩ v4).setCell ⟨b, 5, none⟩ v5) :=
  (((((h.setCell hb _).setCell hb _).setCell hb _).setCell hb _).setCell hb _).setCell hb _
set_option maxHeartbeats 2000000 in
theorem first_c (a : Option Addr) (cap : Nat) (xs : List Ord) (inst side : Int) (w : World) (hs : SlO w a cap xs) (hp : PrW w) (hlen : xs.length ≤ 1000000) :
    Calls Tryd.prog 16 #[.slice a xs.length cap, .int .i64 inst, .int .u8 side] w fun e w' => e = .returned (.tuple #[(.agg #[.int .i64 (((listOf xs inst side).head?.getD nilO)).id, .int .i64 (((listOf xs inst side).head?.getD nilO)).acct, .int .i64 (((listOf xs inst side).head?.getD nilO)).inst, .int .u8 (((listOf xs inst side).head?.getD nilO)).side, .int .i64 (((listOf xs inst side).head?.getD nilO)).price, .int .i64 (((listOf xs inst side).head?.getD nilO)).left]), .bool (listOf xs inst side).head?.isSome]) ∧ Below w.heap.size w w' := by
  have hl := list_r a cap xs inst side (w.alloc (.cells #[.int .i64 0, .int .i64 0, .int .i64 0, .int .u8 0, .int .i64 0, .int .i64 0] 23)) (hs.mono (below_alloc _ _)) (hp.mono (below_alloc _ _)) hlen
  clear hs hp hlen
  generalize xs.length = n at *
  generalize listOf xs inst side = L at *
  cases L with
  | nil =>
    go_enter Tryd.func16, Tryd.ntmps16
    go_wp2_with fail
    refine hl.mono ?_
    rintro e w1 ⟨a', c', rfl, hb1, hs1⟩
    obtain ⟨hc, hf, hn, hB⟩ := zero_kept w _ _ hb1
    have HB := Lib.hid hB; clear hB hb1 hs1
    go_wp2
    exact bodyPost_ret (v := .tuple #[(.agg #[.int .i64 nilO.id, .int .i64 nilO.acct, .int .i64 nilO.inst, .int .u8 nilO.side, .int .i64 nilO.price, .int .i64 nilO.left]), .bool false]) (by simp [results, Tryd.results16, go_sem, hc, nilO]) rfl ⟨rfl, set6 (Nat.le_refl _) HB.out _ _ _ _ _ _⟩
  | cons x r =>
    go_enter Tryd.func16, Tryd.ntmps16
    go_wp2_with fail
    refine hl.mono ?_
    rintro e w1 ⟨a', c', rfl, hb1, hs1⟩
    obtain ⟨hc, hf, hn, hB⟩ := zero_kept w _ _ hb1
    obtain ⟨b, off, rfl, hbl, h6⟩ := SlR.cells6 hs1 (by simp)
    have h7 := h6 0 x rfl
    rw [Nat.zero_mul, Nat.add_zero] at h7
    obtain ⟨x0, x1, x2, x3, x4, x5⟩ := h7
    have HB := Lib.hid hB; clear hB hb1 hs1 h6 hl
    have hpos : 0 < (x :: r).length := by simp
    generalize (x :: r).length = m at *
    have hne : ¬ m = 0 := by omega
    go_wp2
    exact bodyPost_ret (v := .tuple #[(.agg #[.int .i64 x.id, .int .i64 x.acct, .int .i64 x.inst, .int .u8 x.side, .int .i64 x.price, .int .i64 x.left]), .bool true]) (by simp [results, Tryd.results16, go_sem, hc]) rfl ⟨rfl, set6 (Nat.le_refl _) HB.out _ _ _ _ _ _⟩

theorem findO_may {xs : List Ord} {id : Int} (h : mayL xs = false) : findO xs id = none := by simp [findO, h]
set_option maxHeartbeats 2000000 in
theorem find_c (a : Option Addr) (cap : Nat) (xs : List Ord) (id : Int) (w : World) (hs : SlO w a cap xs) (hlen : xs.length ≤ 1000000) :
    Calls Tryd.prog 28 #[.slice a xs.length cap, .int .i64 id] w fun e w' => e = .returned (.tuple #[(.agg #[.int .i64 ((findO xs id).getD nilO).id, .int .i64 ((findO xs id).getD nilO).acct, .int .i64 ((findO xs id).getD nilO).inst, .int .u8 ((findO xs id).getD nilO).side, .int .i64 ((findO xs id).getD nilO).price, .int .i64 ((findO xs id).getD nilO).left]), .bool (findO xs id).isSome]) ∧ Below w.heap.size w w' := by
  have HS := Lib.hid (hs.mono (below_alloc w (.cells #[.int .i64 0, .int .i64 0, .int .i64 0, .int .u8 0, .int .i64 0, .int .i64 0] 23))); clear hs
  have hmay := may_c a cap xs _ HS.out
  cases hm : mayL xs with
  | false =>
    have Hr := Lib.hid (findO_may (id := id) hm)
    rw [hm] at hmay; clear hm
    have HMAY := Lib.hid hmay; clear hmay
    generalize findO xs id = fo at *
    generalize xs.length = n at *
    go_enter Tryd.func28, Tryd.ntmps28
    go_wp2_with fail
    refine HMAY.out.mono ?_
    rintro e w1 ⟨rfl, hb1⟩
    obtain ⟨hc, hf, hn, hB⟩ := zero_kept w _ _ hb1
    have HB := Lib.hid hB; clear hB hb1
    go_wp2
    exact bodyPost_ret (v := .tuple #[(.agg #[.int .i64 nilO.id, .int .i64 nilO.acct, .int .i64 nilO.inst, .int .u8 nilO.side, .int .i64 nilO.price, .int .i64 nilO.left]), .bool false]) (by simp [results, Tryd.results28, go_sem, hc, nilO]) rfl ⟨by rw [Hr.out]; rfl, set6 (Nat.le_refl _) HB.out _ _ _ _ _ _⟩
  | true =>
    have hpw := (mayL_iff.1 hm).2.2
    have hpl := fun w1 (hb : Below (w.alloc (.cells #[.int .i64 0, .int .i64 0, .int .i64 0, .int .u8 0, .int .i64 0, .int .i64 0] 23)).heap.size (w.alloc (.cells #[.int .i64 0, .int .i64 0, .int .i64 0, .int .u8 0, .int .i64 0, .int .i64 0] 23)) w1) => place_c a cap xs id w1 (HS.out.mono hb) hpw hlen
    rw [hm] at hmay
    cases hf0 : foundAt xs id with
    | false =>
      have Hr : Hid (findO xs id = none) := Lib.hid (by rw [findO_at hm, hf0]; rfl)
      rw [hf0] at hpl
      clear hm hf0 hpw
      have HMAY := Lib.hid hmay; clear hmay
      have HPL := Lib.hid hpl; clear hpl
      generalize findO xs id = fo at *
      generalize placeOf xs id = pl at *
      generalize xs.length = n at *
      go_enter Tryd.func28, Tryd.ntmps28
      go_wp2_with fail
      refine HMAY.out.mono ?_
      rintro e w1 ⟨rfl, hb1⟩
      go_wp2_with fail
      refine (HPL.out _ hb1).mono ?_
      rintro e w2 ⟨rfl, hb2⟩
      obtain ⟨hc, hf, hn, hB⟩ := zero_kept w _ _ (grow_trans hb1 hb2)
      have HB := Lib.hid hB; clear hB hb1 hb2
      go_wp2
      exact bodyPost_ret (v := .tuple #[(.agg #[.int .i64 nilO.id, .int .i64 nilO.acct, .int .i64 nilO.inst, .int .u8 nilO.side, .int .i64 nilO.price, .int .i64 nilO.left]), .bool false]) (by simp [results, Tryd.results28, go_sem, hc, nilO]) rfl ⟨by rw [Hr.out]; rfl, set6 (Nat.le_refl _) HB.out _ _ _ _ _ _⟩
    | true =>
      obtain ⟨o, ho, hid⟩ := foundAt_some hf0
      have Hr : Hid (findO xs id = some o) := Lib.hid (by rw [findO_at hm, hf0]; exact ho)
      rw [hf0] at hpl
      have hi : placeOf xs id < xs.length := (List.getElem?_eq_some_iff.1 ho).1
      have hne : xs ≠ [] := by intro h; rw [h] at hi; simp at hi
      obtain ⟨b, off, rfl, hbl, h6⟩ := SlR.cells6 HS.out hne
      have H7 := Lib.hid (h6 _ o ho)
      clear hm hf0 hpw h6 hne hid ho
      have HMAY := Lib.hid hmay; clear hmay
      have HPL := Lib.hid hpl; clear hpl
      generalize findO xs id = fo at *
      generalize placeOf xs id = pl at *
      generalize xs.length = n at *
      go_enter Tryd.func28, Tryd.ntmps28
      go_wp2_with fail
      refine HMAY.out.mono ?_
      rintro e w1 ⟨rfl, hb1⟩
      go_wp2_with fail
      refine (HPL.out _ hb1).mono ?_
      rintro e w2 ⟨rfl, hb2⟩
      obtain ⟨x0, x1, x2, x3, x4, x5⟩ := H7.out.mono (grow_trans hb1 hb2)
      obtain ⟨hc, hf, hn, hB⟩ := zero_kept w _ _ (grow_trans hb1 hb2)
      have HB := Lib.hid hB; clear hB hb1 hb2
      have hz : (0 : Int) ≤ (pl : Int) := Int.natCast_nonneg _
      have hz2 : (pl : Int) < (n : Int) := by omega
      go_wp2
      exact bodyPost_ret (v := .tuple #[(.agg #[.int .i64 o.id, .int .i64 o.acct, .int .i64 o.inst, .int .u8 o.side, .int .i64 o.price, .int .i64 o.left]), .bool true]) (by simp [results, Tryd.results28, go_sem, hc]) rfl ⟨by rw [Hr.out]; rfl, set6 (Nat.le_refl _) HB.out _ _ _ _ _ _⟩

theorem dropO_some {xs : List Ord} {id : Int} {o : Ord} (h : findO xs id = some o) : dropO xs id = takeO xs id o.left := by simp [dropO, h]
theorem dropO_none {xs : List Ord} {id : Int} (h : findO xs id = none) (hm : mayL xs = true) : dropO xs id = ([], 5) := by simp [dropO, h, hm]
theorem dropO_may {xs : List Ord} {id : Int} (hm : mayL xs = false) : dropO xs id = ([], 4) := by simp [dropO, findO_may hm, hm]
set_option maxHeartbeats 2000000 in
theorem drop_c (a : Option Addr) (cap : Nat) (xs : List Ord) (id : Int) (w : World) (hs : SlO w a cap xs) (hlen : xs.length ≤ 1000000) :
    Calls Tryd.prog 34 #[.slice a xs.length cap, .int .i64 id] w fun e w' => ∃ r, e = .returned (.tuple #[r, .int .i64 (dropO xs id).2]) ∧ Below w.heap.size w w' ∧ OwnO w.heap.size w' r (dropO xs id).1 := by
  have HS := Lib.hid hs; clear hs
  have hfind := find_c a cap xs id w HS.out hlen
  have hmay := fun w1 (hb : Below w.heap.size w w1) => may_c a cap xs w1 (HS.out.mono hb)
  have htake := fun w1 q (hb : Below w.heap.size w w1) => take_c a cap xs id q w1 (HS.out.mono hb) hlen
  cases hfo : findO xs id with
  | some o =>
    have Hr := Lib.hid (dropO_some hfo)
    rw [hfo] at hfind
    have HF := Lib.hid hfind
    have HT := Lib.hid htake
    clear hfo hfind hmay htake
    generalize xs.length = n at *
    go_enter Tryd.func34, Tryd.ntmps34
    go_wp2_with fail
    refine HF.out.mono ?_
    rintro e w1 ⟨rfl, hb1⟩
    go_wp2_with fail
    refine (HT.out _ _ (hb1.alloc hb1.size _)).mono ?_
    rintro e w2 ⟨r, rfl, hb2, ho2⟩
    have HB : Hid (Below w.heap.size w w2) := Lib.hid (grow_trans (hb1.alloc hb1.size _) hb2)
    have HO : Hid (OwnO w.heap.size w2 r (takeO xs id o.left).1) := Lib.hid (Own.weaken ho2 (by have := hb1.size; simp; omega))
    clear hb1 hb2 ho2
    go_wp2
    go_ret2
    exact ⟨r, ret_vi (by rw [Hr.out]), HB.out, by rw [Hr.out]; exact HO.out⟩
  | none =>
    rw [hfo] at hfind
    have HF := Lib.hid hfind
    cases hm : mayL xs with
    | true =>
      have Hr := Lib.hid (dropO_none hfo hm)
      rw [hm] at hmay
      have HM := Lib.hid hmay
      clear hfo hfind hmay htake hm
      generalize xs.length = n at *
      go_enter Tryd.func34, Tryd.ntmps34
      go_wp2_with fail
      refine HF.out.mono ?_
      rintro e w1 ⟨rfl, hb1⟩
      go_wp2_with fail
      refine (HM.out _ (hb1.alloc hb1.size _)).mono ?_
      rintro e w2 ⟨rfl, hb2⟩
      have HB : Hid (Below w.heap.size w w2) := Lib.hid (grow_trans (hb1.alloc hb1.size _) hb2)
      clear hb1 hb2
      go_wp2
      go_ret2
      exact ⟨.slice none 0 0, ret_vi (by rw [Hr.out]), HB.out, by rw [Hr.out]; exact Own.nil _⟩
    | false =>
      have Hr := Lib.hid (dropO_may (id := id) hm)
      have Ht := Lib.hid (fun q => takeO_may (id := id) (qty := q) hm)
      rw [hm] at hmay
      have HM := Lib.hid hmay
      have HT := Lib.hid htake
      clear hfo hfind hmay htake hm
      generalize xs.length = n at *
      go_enter Tryd.func34, Tryd.ntmps34
      go_wp2_with fail
      refine HF.out.mono ?_
      rintro e w1 ⟨rfl, hb1⟩
      go_wp2_with fail
      refine (HM.out _ (hb1.alloc hb1.size _)).mono ?_
      rintro e w2 ⟨rfl, hb2⟩
      have hb3 := grow_trans (hb1.alloc hb1.size _) hb2
      have HC := Lib.hid (fun i : Nat => hb2.cell (p := ⟨w1.heap.size, i, none⟩) (by simp))
      have c5 : w2.cell? ⟨w1.heap.size, 5, none⟩ = some (.int .i64 0) := by rw [HC.out]; simp [nilO]
      have hn : w1.heap.size < w2.heap.size := by have := hb2.size; simp at this; omega
      go_wp2_with fail
      refine (HT.out _ _ hb3).mono ?_
      rintro e w4 ⟨r, rfl, hb4, ho4⟩
      rw [Ht.out]
      have HB : Hid (Below w.heap.size w w4) := Lib.hid (grow_trans hb3 hb4)
      have HO : Hid (OwnO w.heap.size w4 r []) := Lib.hid (by have := Own.weaken ho4 hb3.size; rwa [Ht.out] at this)
      clear hb1 hb2 hb3 hb4 ho4 c5 hn
      go_wp2
      go_ret2
      exact ⟨r, ret_vi (by rw [Hr.out]), HB.out, by rw [Hr.out]; exact HO.out⟩
end Go.Proofs.YtecfajnmekpeoaaDoor
