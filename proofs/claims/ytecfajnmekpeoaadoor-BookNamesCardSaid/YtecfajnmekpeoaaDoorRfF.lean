/-
  Contracts of the document's own layer 16 (soukref16): List, First, Find, at every list. Conditions: that the slice reads as a list.
-/
import Derived.Test.YtecfajnmekpeoaaDoorRfL
import Derived.Test.YtecfajnmekpeoaaDoorBkJ
namespace Go.Proofs.YtecfajnmekpeoaaDoor
open Go.RowKit

set_option maxHeartbeats 1000000 in
theorem rList_no (a : Option Addr) (cap n : Nat) (inst side : Int) (w : World)
    (HM : Hid (∀ w1, Below w.heap.size w w1 → Calls Tryd.prog 20 #[.slice a n cap] w1 fun e w' => e = .returned (.bool false) ∧ Below w1.heap.size w1 w')) :
    Calls Tryd.prog 25 #[.slice a n cap, .int .i64 inst, .int .u8 side] w fun e w' => e = .returned (.slice none 0 0) ∧ Below w.heap.size w w' := by
  go_enter Tryd.func25, Tryd.ntmps25
  go_wp2_with (go_at_call 20; (with_reducible refine (HM.out _ (Below.refl _ _)).mono ?_); rintro e w1 ⟨rfl, hb1⟩; have HB1 := Lib.hid hb1; clear hb1)
  go_ret
  exact ⟨rfl, HB1.out⟩
theorem rList_c (a : Option Addr) (cap : Nat) (xs : List Ord) (inst side : Int) (w : World) (hs : SlO w a cap xs) :
    Calls Tryd.prog 25 #[.slice a xs.length cap, .int .i64 inst, .int .u8 side] w fun e w' => ∃ r, e = .returned r ∧ Below w.heap.size w w' ∧ OwnO w.heap.size w' r (listOf xs inst side) := by
  have HM := fun w1 (hb : Below w.heap.size w w1) => rMay_c a cap xs w1 (hs.mono hb)
  cases hm : mayL xs with
  | false =>
    rw [hm] at HM
    refine (rList_no a cap _ inst side w (Lib.hid HM)).mono fun _ _ ⟨he, hb⟩ => ⟨_, he, hb, ?_⟩
    unfold listOf; rw [if_neg (by rw [hm]; simp)]; exact Own.nil _
  | true =>
    rw [hm] at HM
    exact rList_yes a cap _ xs inst side w (Lib.hid hs) (Lib.hid rfl) (mayL_iff.1 hm).1 hm (Lib.hid HM)
theorem rList_r (a : Option Addr) (cap : Nat) (xs : List Ord) (inst side : Int) (w : World) (hs : SlO w a cap xs) :
    Calls Tryd.prog 25 #[.slice a xs.length cap, .int .i64 inst, .int .u8 side] w fun e w' => ∃ a' c', e = .returned (.slice a' (listOf xs inst side).length c') ∧ Below w.heap.size w w' ∧ SlO w' a' c' (listOf xs inst side) :=
  (rList_c a cap xs inst side w hs).mono fun _ _ ⟨r, he, hb, ho⟩ => by
    obtain ⟨a', c', e1, h2, _⟩ := Own.slR encO_len ho
    exact ⟨a', c', by rw [he, e1], hb, h2⟩
set_option maxHeartbeats 2000000 in
theorem rFirst_c (a : Option Addr) (cap : Nat) (xs : List Ord) (inst side : Int) (w : World) (hs : SlO w a cap xs) :
    Calls Tryd.prog 27 #[.slice a xs.length cap, .int .i64 inst, .int .u8 side] w fun e w' => e = .returned (.tuple #[(.agg #[.int .i64 (((listOf xs inst side).head?.getD nilO)).id, .int .i64 (((listOf xs inst side).head?.getD nilO)).acct, .int .i64 (((listOf xs inst side).head?.getD nilO)).inst, .int .u8 (((listOf xs inst side).head?.getD nilO)).side, .int .i64 (((listOf xs inst side).head?.getD nilO)).price, .int .i64 (((listOf xs inst side).head?.getD nilO)).left]), .bool (listOf xs inst side).head?.isSome]) ∧ Below w.heap.size w w' := by
  have hl := rList_r a cap xs inst side (w.alloc (.cells #[.int .i64 0, .int .i64 0, .int .i64 0, .int .u8 0, .int .i64 0, .int .i64 0] 23)) (hs.mono (below_alloc _ _))
  clear hs
  generalize xs.length = n at *
  generalize listOf xs inst side = L at *
  cases L with
  | nil =>
    go_enter Tryd.func27, Tryd.ntmps27
    go_wp2_with fail
    refine hl.mono ?_
    rintro e w1 ⟨a', c', rfl, hb1, hs1⟩
    obtain ⟨hc, hf, hn, hB⟩ := zero_kept w _ _ hb1
    have HB := Lib.hid hB; clear hB hb1 hs1
    go_wp2
    exact bodyPost_ret (v := .tuple #[(.agg #[.int .i64 nilO.id, .int .i64 nilO.acct, .int .i64 nilO.inst, .int .u8 nilO.side, .int .i64 nilO.price, .int .i64 nilO.left]), .bool false]) (by simp [results, Tryd.results27, go_sem, hc, nilO]) rfl ⟨rfl, set6 (Nat.le_refl _) HB.out _ _ _ _ _ _⟩
  | cons x r =>
    go_enter Tryd.func27, Tryd.ntmps27
    go_wp2_with fail
    refine hl.mono ?_
    rintro e w1 ⟨a', c', rfl, hb1, hs1⟩
    obtain ⟨hc, hf, hn, hB⟩ := zero_kept w _ _ hb1
    obtain ⟨b, off, rfl, hbl, h6⟩ := SlR.cells6 hs1 (by simp)
    have h7 := h6 0 x rfl
    rw [Nat.zero_mul, Nat.add_zero] at h7
    obtain ⟨x0, x1, x2, x3, x4, x5⟩ := h7
    have HB := Lib.hid hB; clear hB hb1 hs1 h6 hl
    have hpos : 0 < (x :: r).length := by simp
    generalize (x :: r).length = m at *
    have hne : ¬ m = 0 := by omega
    go_wp2
    exact bodyPost_ret (v := .tuple #[(.agg #[.int .i64 x.id, .int .i64 x.acct, .int .i64 x.inst, .int .u8 x.side, .int .i64 x.price, .int .i64 x.left]), .bool true]) (by simp [results, Tryd.results27, go_sem, hc]) rfl ⟨rfl, set6 (Nat.le_refl _) HB.out _ _ _ _ _ _⟩

theorem find_step {xs : List Ord} {id : Int} {k : Nat} (h : ∀ j y, j < k → xs[j]? = some y → y.id ≠ id) : (∀ x, xs[k]? = some x → x.id = id → xs.find? (fun o => o.id == id) = some x) ∧ (xs.length ≤ k → xs.find? (fun o => o.id == id) = none) := by
  constructor
  · intro x hx he
    obtain ⟨hk, rfl⟩ := List.getElem?_eq_some_iff.1 hx
    rw [List.find?_eq_some_iff_getElem]
    refine ⟨by simpa using he, k, hk, rfl, fun j hj => ?_⟩
    have := h j _ hj (List.getElem?_eq_getElem (by omega))
    simpa using this
  · intro hk
    refine List.find?_eq_none.2 fun x hx => ?_
    obtain ⟨j, hj⟩ := List.getElem?_of_mem hx
    have := h j x (by have := (List.getElem?_eq_some_iff.1 hj).1; omega) hj
    simpa using this
set_option maxHeartbeats 4000000 in
theorem rFind_c (a : Option Addr) (cap : Nat) (xs : List Ord) (id : Int) (w : World) (hs : SlO w a cap xs) :
    Calls Tryd.prog 29 #[.slice a xs.length cap, .int .i64 id] w fun e w' => e = .returned (.tuple #[(.agg #[.int .i64 ((findO xs id).getD nilO).id, .int .i64 ((findO xs id).getD nilO).acct, .int .i64 ((findO xs id).getD nilO).inst, .int .u8 ((findO xs id).getD nilO).side, .int .i64 ((findO xs id).getD nilO).price, .int .i64 ((findO xs id).getD nilO).left]), .bool (findO xs id).isSome]) ∧ Below w.heap.size w w' := by
  obtain ⟨W, hW, hWb, hWs, hA⟩ := box1 w #[.int .i64 0, .int .i64 0, .int .i64 0, .int .u8 0, .int .i64 0, .int .i64 0] 23
  have HS := Lib.hid (hs.mono hWb); clear hs
  have hle := HS.out.le
  have hmax := HS.out.max
  obtain ⟨fo, hfo⟩ : ∃ fo, fo = findO xs id := ⟨_, rfl⟩
  rw [← hfo]
  have HFO := Lib.hid hfo; clear hfo
  have hmay := fun w1 (hb : Below W.heap.size W w1) => rMay_c a cap xs w1 (HS.out.mono hb)
  obtain ⟨m, hm⟩ : ∃ m, m = mayL xs := ⟨_, rfl⟩
  rw [← hm] at hmay
  have HMy := Lib.hid hm; clear hm
  obtain ⟨n, hn⟩ : ∃ n, n = xs.length := ⟨_, rfl⟩
  rw [← hn] at hle hmay ⊢
  have HN := Lib.hid hn; clear hn
  have HMAY := Lib.hid hmay; clear hmay
  have HWb := Lib.hid hWb; clear hWb
  have hNW : w.heap.size < W.heap.size := by omega
  clear hWs
  go_enter Tryd.func29, Tryd.ntmps29
  go_wp2_with fail
  have HFZ : Hid (∀ i, W.frozen? ⟨w.heap.size, i, none⟩ = false) := Lib.hid (fun i => by rw [← hW]; simp)
  clear hW
  go_loopw [6] (fun i wr => (∃ k : Nat, k ≤ n ∧ i = .int .i64 k ∧ Hid (∀ j y, j < k → xs[j]? = some y → y.id ≠ id)) ∧ Hid (Below W.heap.size W wr)) (fun i _ => n - (intOf i).toNat)
  case atStart => exact ⟨⟨0, Nat.zero_le _, rfl, Lib.hid (fun j y hj => by omega)⟩, Lib.hid (Below.refl _ _)⟩
  case round =>
    obtain ⟨⟨k, hk, rfl, HP⟩, HB0⟩ := hrel
    by_cases hlt : k < n
    · obtain ⟨x, HX⟩ : ∃ x, Hid (xs[k]? = some x) := ⟨_, Lib.hid (List.getElem?_eq_getElem (by have := HN.out; omega))⟩
      obtain ⟨b9, off, hla, hb9, h6⟩ := SlR.cells6 HS.out (by intro h; have := HX.out; rw [h] at this; simp at this)
      subst hla
      have H6 := Lib.hid (h6 k x HX.out); clear h6
      have i0 : (0 : Int) ≤ (k : Int) := Int.natCast_nonneg _
      have i1 : (k : Int) < (n : Int) := by omega
      cases m with
      | false =>
        have HF : Hid (fo = none) := Lib.hid (by rw [HFO.out]; unfold findO; rw [if_neg (by rw [← HMy.out]; simp)])
        go_wp2_with (go_at_call 20; (with_reducible refine (HMAY.out _ HB0.out).mono ?_); rintro e w4 ⟨rfl, hb4⟩; have HW4 : Hid (Below W.heap.size W w4) := Lib.hid (grow_trans HB0.out hb4); have HB : Hid (Below w.heap.size w w4) := Lib.hid (grow_trans HWb.out HW4.out); have hc : ∀ i, w4.cell? ⟨w.heap.size, i, none⟩ = #[.int .i64 0, .int .i64 0, .int .i64 0, .int .u8 0, .int .i64 0, .int .i64 0][i]? := (fun i => (HW4.out.cell (p := ⟨w.heap.size, i, none⟩) hNW).trans (hA i)); have hf : ∀ i, w4.frozen? ⟨w.heap.size, i, none⟩ = false := (fun i => (HW4.out.frozen (p := ⟨w.heap.size, i, none⟩) hNW).trans (HFZ.out i)); have hn4 : w.heap.size < w4.heap.size := Nat.lt_of_lt_of_le hNW HW4.out.size; clear hb4)
        exact bodyPost_ret (v := .tuple #[(.agg #[.int .i64 nilO.id, .int .i64 nilO.acct, .int .i64 nilO.inst, .int .u8 nilO.side, .int .i64 nilO.price, .int .i64 nilO.left]), .bool false]) (by simp [results, Tryd.results29, go_sem, hc, nilO]) rfl ⟨by rw [HF.out]; rfl, set6 (Nat.le_refl _) HB.out _ _ _ _ _ _⟩
      | true =>
        rcases Bool.eq_false_or_eq_true (x.id == id) with e1 | e1
        · have HF : Hid (fo = some x) := Lib.hid (by rw [HFO.out]; unfold findO; rw [if_pos HMy.out.symm]; exact (find_step HP.out).1 x HX.out (by simpa using e1))
          go_wp2_with (go_at_call 20; (with_reducible refine (HMAY.out _ HB0.out).mono ?_); rintro e w4 ⟨rfl, hb4⟩; have HW4 : Hid (Below W.heap.size W w4) := Lib.hid (grow_trans HB0.out hb4); have HB : Hid (Below w.heap.size w w4) := Lib.hid (grow_trans HWb.out HW4.out); have hc : ∀ i, w4.cell? ⟨w.heap.size, i, none⟩ = #[.int .i64 0, .int .i64 0, .int .i64 0, .int .u8 0, .int .i64 0, .int .i64 0][i]? := (fun i => (HW4.out.cell (p := ⟨w.heap.size, i, none⟩) hNW).trans (hA i)); have hf : ∀ i, w4.frozen? ⟨w.heap.size, i, none⟩ = false := (fun i => (HW4.out.frozen (p := ⟨w.heap.size, i, none⟩) hNW).trans (HFZ.out i)); have hn4 : w.heap.size < w4.heap.size := Nat.lt_of_lt_of_le hNW HW4.out.size; obtain ⟨x0, x1, x2, x3, x4, x5⟩ := H6.out.mono HW4.out; clear hb4)
          exact bodyPost_ret (v := .tuple #[(.agg #[.int .i64 x.id, .int .i64 x.acct, .int .i64 x.inst, .int .u8 x.side, .int .i64 x.price, .int .i64 x.left]), .bool true]) (by simp [results, Tryd.results29, go_sem, hc]) rfl ⟨by rw [HF.out]; rfl, set6 (Nat.le_refl _) HB.out _ _ _ _ _ _⟩
        · go_wp2_with (go_at_call 20; (with_reducible refine (HMAY.out _ HB0.out).mono ?_); rintro e w4 ⟨rfl, hb4⟩; have HW4 : Hid (Below W.heap.size W w4) := Lib.hid (grow_trans HB0.out hb4); obtain ⟨x0, x1, x2, x3, x4, x5⟩ := H6.out.mono HW4.out; clear hb4)
          go_roundw
          case rel => exact ⟨⟨k + 1, by omega, by go_num, Lib.hid (fun j y hj hy => by
            by_cases e : j = k
            · subst e; have := HX.out.symm.trans hy; injection this with this; subst this; simpa using e1
            · exact HP.out j y (by omega) hy)⟩, HW4⟩
          case measure => simp [intOf]; omega
    · have HF : Hid (fo = none) := Lib.hid (by
        rw [HFO.out]; unfold findO
        split
        · exact (find_step HP.out).2 (by have := HN.out; omega)
        · rfl)
      have HB : Hid (Below w.heap.size w wr) := Lib.hid (grow_trans HWb.out HB0.out)
      have hc : ∀ i, wr.cell? ⟨w.heap.size, i, none⟩ = #[.int .i64 0, .int .i64 0, .int .i64 0, .int .u8 0, .int .i64 0, .int .i64 0][i]? := fun i => (HB0.out.cell (p := ⟨w.heap.size, i, none⟩) hNW).trans (hA i)
      have hf : ∀ i, wr.frozen? ⟨w.heap.size, i, none⟩ = false := fun i => (HB0.out.frozen (p := ⟨w.heap.size, i, none⟩) hNW).trans (HFZ.out i)
      have hn4 : w.heap.size < wr.heap.size := Nat.lt_of_lt_of_le hNW HB0.out.size
      clear hA
      go_wp2
      exact bodyPost_ret (v := .tuple #[(.agg #[.int .i64 nilO.id, .int .i64 nilO.acct, .int .i64 nilO.inst, .int .u8 nilO.side, .int .i64 nilO.price, .int .i64 nilO.left]), .bool false]) (by simp [results, Tryd.results29, go_sem, hc, nilO]) rfl ⟨by rw [HF.out]; rfl, set6 (Nat.le_refl _) HB.out _ _ _ _ _ _⟩
end Go.Proofs.YtecfajnmekpeoaaDoor
