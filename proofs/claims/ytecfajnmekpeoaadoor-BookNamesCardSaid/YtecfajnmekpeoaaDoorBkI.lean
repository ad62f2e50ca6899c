/-
  Contract of layer 16 (book): List, at every list. Conditions: that the slice reads as a list of at most 1000000 orders; the table 'prices' holds its two functions (PrW).
-/
import Derived.Test.YtecfajnmekpeoaaDoorSlC
import Derived.Test.YtecfajnmekpeoaaDoorBkY
namespace Go.Proofs.YtecfajnmekpeoaaDoor
open Go.RowKit

set_option maxHeartbeats 1000000 in
theorem list1_c (x : Ord) (inst side : Int) (bi bs : Nat) (w : World) (hbi : bi < w.heap.size) (hbs : bs < w.heap.size) (hi : w.cell? ⟨bi, 0, none⟩ = some (.int .i64 inst)) (hsd : w.cell? ⟨bs, 0, none⟩ = some (.int .u8 side)) :
    Calls Tryd.prog 47 #[(.agg #[.int .i64 x.id, .int .i64 x.acct, .int .i64 x.inst, .int .u8 x.side, .int .i64 x.price, .int .i64 x.left]), .pointer (some ⟨bi, 0, none⟩), .pointer (some ⟨bs, 0, none⟩)] w fun e w' => e = .returned (.bool (!isOf inst side x)) ∧ Below w.heap.size w w' := by
  have n1 : bi ≠ w.heap.size := by omega
  have n2 : bs ≠ w.heap.size := by omega
  have hr : isOf inst side x = (x.inst == inst && x.side == side) := rfl
  have HR := Lib.hid hr; clear hr
  rcases eqne (x.inst) (inst) with ⟨e1, e1'⟩ | ⟨e1, e1'⟩ <;> rcases eqne (x.side) (side) with ⟨e2, e2'⟩ | ⟨e2, e2'⟩
  all_goals
    go_enter Tryd.func47, Tryd.ntmps47
    go_wp2
    go_ret
    exact ⟨ret_bool (by rw [HR.out, e1, e2]; rfl), below_alloc _ _⟩

theorem mayL_len {xs : List Ord} (h : mayL xs = true) : xs.length ≤ 128 := (mayL_iff.1 h).1
theorem filter_not (xs : List Ord) (inst side : Int) : (xs.filter fun x => !(!isOf inst side x)) = xs.filter (isOf inst side) := by
  congr 1; funext x; simp
theorem filter_sides {xs : List Ord} (h : mayL xs = true) (inst side : Int) : ∀ o ∈ xs.filter (isOf inst side), o.side = side ∧ (side = 1 ∨ side = 2) := by
  intro o ho
  obtain ⟨h1, h2⟩ := List.mem_filter.1 ho
  have hs : o.side = side := by simp [isOf] at h2; exact h2.2
  have := side_of ((mayL_iff.1 h).2.1 o h1)
  exact ⟨hs, by rw [← hs]; exact this⟩

set_option maxHeartbeats 2000000 in
theorem list_c (a : Option Addr) (cap : Nat) (xs : List Ord) (inst side : Int) (w : World) (hs : SlO w a cap xs) (hp : PrW w) (hlen : xs.length ≤ 1000000) :
    Calls Tryd.prog 23 #[.slice a xs.length cap, .int .i64 inst, .int .u8 side] w fun e w' => ∃ r, e = .returned r ∧ Below w.heap.size w w' ∧ OwnO w.heap.size w' r (listOf xs inst side) := by
  obtain ⟨W, hW, hWb, hWs, hA, hB⟩ := box2 w #[.int .i64 inst] #[.int .u8 side] 3 5
  have HWb := Lib.hid hWb; clear hWb
  have HG := Lib.hid (GrS.refl W)
  have HS := Lib.hid (hs.mono HWb.out); clear hs
  have HP := Lib.hid (hp.mono HWb.out)
  have hA0 : W.cell? ⟨w.heap.size, 0, none⟩ = some (.int .i64 inst) := hA 0
  have hB0 : W.cell? ⟨w.heap.size + 1, 0, none⟩ = some (.int .u8 side) := hB 0
  have HPl := Lib.hid hp.lt; clear hp
  clear hA hB
  cases hm : mayL xs with
  | false =>
    have Hr : Hid (listOf xs inst side = []) := Lib.hid (by unfold listOf; rw [if_neg (by rw [hm]; simp)])
    have Hm := Lib.hid hm; clear hm
    obtain ⟨n, hn⟩ : ∃ n, n = xs.length := ⟨_, rfl⟩
    have hmay := fun W' (h : Below W.heap.size W W') => may_c a cap xs W' (HS.out.mono h)
    rw [← hn] at hmay ⊢
    rw [Hm.out] at hmay
    have HM := Lib.hid hmay; clear hmay
    have HN := Lib.hid hn; clear hn
    go_enter Tryd.func23, Tryd.ntmps23
    go_wp2_with (go_at_call 17; refine (HM.out _ HG.out.1).mono ?_; rintro e w1 ⟨rfl, hb1⟩; replace HG := Lib.hid (GrS.call HG.out hb1); clear hb1)
    go_ret
    exact ⟨_, rfl, grow_trans HWb.out HG.out.1, by rw [Hr.out]; exact Own.nil _⟩
  | true =>
    have Hr : Hid (listOf xs inst side = (xs.filter (isOf inst side)).mergeSort (fun a b => !ahead side b a)) := Lib.hid (by unfold listOf; rw [if_pos hm])
    have Hsd := Lib.hid (filter_sides hm inst side)
    have Hpw := Lib.hid ((mayL_iff.1 hm).2.2.filter (isOf inst side))
    have Hm := Lib.hid hm; clear hm
    obtain ⟨n, hn⟩ : ∃ n, n = xs.length := ⟨_, rfl⟩
    have hmay := fun W' (h : Below W.heap.size W W') => may_c a cap xs W' (HS.out.mono h)
    have hcl := fun W' (h : Below W.heap.size W W') => clone_O a cap xs W' (HS.out.mono h) hlen
    rw [← hn] at hmay hcl ⊢
    rw [Hm.out] at hmay
    have HM := Lib.hid hmay; clear hmay
    have HCL := Lib.hid hcl; clear hcl
    have HN := Lib.hid hn; clear hn
    have HLEN := Lib.hid hlen; clear hlen
    have eg : ∀ args w, (callFunc 47 args).run Tryd.prog w = .ok (.enter 47 args) w := Go.Proofs.enters_of Tryd.func47 (by kernel_rfl) rfl
    have HE := Lib.hid eg; clear eg
    have hcl1 : ∀ W' x, Below W.heap.size W W' → Calls Tryd.prog 47 #[(.agg #[.int .i64 x.id, .int .i64 x.acct, .int .i64 x.inst, .int .u8 x.side, .int .i64 x.price, .int .i64 x.left]), .pointer (some ⟨w.heap.size, 0, none⟩), .pointer (some ⟨w.heap.size + 1, 0, none⟩)] W' fun e w' => e = .returned (.bool (!isOf inst side x)) ∧ Below W'.heap.size W' w' := fun W' x hb =>
      list1_c x inst side _ _ W' (by have := hb.size; omega) (by have := hb.size; omega) ((hb.cell (p := ⟨w.heap.size, 0, none⟩) (show w.heap.size < W.heap.size by omega)).trans hA0) ((hb.cell (p := ⟨w.heap.size + 1, 0, none⟩) (show w.heap.size + 1 < W.heap.size by omega)).trans hB0)
    have HC1 := Lib.hid hcl1; clear hcl1
    have HWs : Hid (W.heap.size = w.heap.size + 2) := Lib.hid hWs
    have HA0 := Lib.hid hA0; clear hA0
    have HB0 := Lib.hid hB0; clear hB0
    go_enter Tryd.func23, Tryd.ntmps23
    go_wp2_with (first
      | (go_at_call 17; refine (HM.out _ HG.out.1).mono ?_; rintro e w1 ⟨rfl, hb1⟩; replace HG := Lib.hid (GrS.call HG.out hb1); clear hb1)
      | (go_at_call 46; refine (HCL.out _ HG.out.1).mono ?_; rintro e w2 ⟨r, rfl, hb2, ho2⟩; have HG2 := Lib.hid (GrS.call HG.out hb2); have HO := Lib.hid (Own.weaken ho2 (B := W.heap.size) HG.out.1.size); clear ho2 hb2))
    have hB2 : W.heap.size ≤ w2.heap.size := HG2.out.1.size
    refine (del_O W.heap.size r xs w2 (fun x => !isOf inst side x) 47 #[.pointer (some ⟨w.heap.size, 0, none⟩), .pointer (some ⟨w.heap.size + 1, 0, none⟩)] HE.out HO.out hB2 (fun W' x _ hb => HC1.out W' x (HG2.out.1.trans hb))).mono ?_
    rintro e w3 ⟨r3, rfl, ho3, hb3⟩
    rw [filter_not] at ho3
    have HG3 : Hid (Below W.heap.size W w3) := Lib.hid (HG2.out.1.trans hb3)
    have HO3 := Lib.hid ho3
    clear ho3 hb3 hB2
    go_wp2_with fail
    refine (srt_O W.heap.size r3 (xs.filter (isOf inst side)) side Hsd.out Hpw.out w3 (HP.out.mono HG3.out) HO3.out (by have := HPl.out; have := HWs.out; omega) HG3.out.size (Nat.le_trans (List.length_filter_le _ _) HLEN.out)).mono ?_
    rintro e w4 ⟨rfl, ho4, hb4⟩
    have HG4 : Hid (Below W.heap.size W w4) := Lib.hid (HG3.out.trans hb4)
    have HO4 := Lib.hid ho4
    clear ho4 hb4
    go_wp2
    go_ret
    refine ⟨_, rfl, grow_trans HWb.out HG4.out, ?_⟩
    rw [Hr.out]
    exact Own.weaken HO4.out HWb.out.size
end Go.Proofs.YtecfajnmekpeoaaDoor
