/-
  Contract of souklaw16.works (layer 16): true, in every world. Condition: the table 'prices' holds its two functions (PrW).
-/
import Derived.Test.YtecfajnmekpeoaaDoorBkT
import Derived.Test.YtecfajnmekpeoaaDoorBkI
import Derived.Test.YtecfajnmekpeoaaDoorBkQ
import Derived.Test.YtecfajnmekpeoaaDoorBkH
import Derived.Test.YtecfajnmekpeoaaDoorBkR
namespace Go.Proofs.YtecfajnmekpeoaaDoor
open Go.RowKit

theorem below_alloc4 (w : World) (o p q r : Obj) : Below w.heap.size w ((((w.alloc o).alloc p).alloc q).alloc r) := ((below_alloc2 w o p).alloc (by simp; try omega) q).alloc (by simp; try omega) r
/-- four variables made -/
theorem box4 (w : World) (A B C D : Array Value) (t : TypeId) : ∃ W, (((w.alloc (.cells A t)).alloc (.cells B t)).alloc (.cells C t)).alloc (.cells D t) = W ∧ Below w.heap.size w W ∧ W.heap.size = w.heap.size + 4 ∧ (∀ i, W.cell? ⟨w.heap.size, i, none⟩ = A[i]?) ∧ (∀ i, W.cell? ⟨w.heap.size + 1, i, none⟩ = B[i]?) ∧ (∀ i, W.cell? ⟨w.heap.size + 1 + 1, i, none⟩ = C[i]?) ∧ ∀ i, W.cell? ⟨w.heap.size + 1 + 1 + 1, i, none⟩ = D[i]? := by
  refine ⟨_, rfl, below_alloc4 _ _ _ _ _, by simp, fun i => ?_, fun i => ?_, fun i => ?_, fun i => ?_⟩
  · rw [World.cell?_alloc_lt _ _ _ (by simp; try omega), World.cell?_alloc_lt _ _ _ (by simp; try omega), World.cell?_alloc_lt _ _ _ (by simp)]; exact World.cell?_alloc_new _ _ _ _
  · rw [World.cell?_alloc_lt _ _ _ (by simp; try omega), World.cell?_alloc_lt _ _ _ (by simp)]
    have := World.cell?_alloc_new (w.alloc (.cells A t)) B t i; rwa [World.size_alloc] at this
  · rw [World.cell?_alloc_lt _ _ _ (by simp)]
    have := World.cell?_alloc_new ((w.alloc (.cells A t)).alloc (.cells B t)) C t i; rwa [World.size_alloc, World.size_alloc] at this
  · have := World.cell?_alloc_new (((w.alloc (.cells A t)).alloc (.cells B t)).alloc (.cells C t)) D t i; rwa [World.size_alloc, World.size_alloc, World.size_alloc] at this
theorem slO_new (w : World) (xs : List Ord) (hm : xs.length ≤ 1000) : SlO (w.alloc (.cells (xs.flatMap encO).toArray 23)) (some ⟨w.heap.size, 0, none⟩) xs.length xs := by
  refine ⟨Nat.le_refl _, by omega, (fun h => by cases h), (fun ad h => ?_)⟩
  cases h
  refine ⟨rfl, by simp, fun j x hx i v hv => ?_⟩
  simp only [Nat.zero_add]
  rw [World.cell?_alloc_new]
  simpa using flat_get encO 6 encO_len xs j x i v hx hv
theorem slO_newAt (w : World) (xs : List Ord) (hm : xs.length ≤ 1000) (b : Nat) (hb : b = w.heap.size) : SlO (w.alloc (.cells (xs.flatMap encO).toArray 23)) (some ⟨b, 0, none⟩) xs.length xs := by
  rw [hb]; exact slO_new w xs hm
theorem slO_l4 (w : World) (b : Nat) (hb : b = w.heap.size) : SlO (w.alloc (.cells #[.int .i64 1, .int .i64 1, .int .i64 3, .int .u8 1, .int .i64 10, .int .i64 5, .int .i64 2, .int .i64 1, .int .i64 3, .int .u8 1, .int .i64 12, .int .i64 5, .int .i64 3, .int .i64 1, .int .i64 3, .int .u8 1, .int .i64 12, .int .i64 5, .int .i64 4, .int .i64 1, .int .i64 3, .int .u8 2, .int .i64 11, .int .i64 5] 23)) (some ⟨b, 0, none⟩) 4 [(⟨1, 1, 3, 1, 10, 5⟩ : Ord), (⟨2, 1, 3, 1, 12, 5⟩ : Ord), (⟨3, 1, 3, 1, 12, 5⟩ : Ord), (⟨4, 1, 3, 2, 11, 5⟩ : Ord)] :=
  slO_newAt w [(⟨1, 1, 3, 1, 10, 5⟩ : Ord), (⟨2, 1, 3, 1, 12, 5⟩ : Ord), (⟨3, 1, 3, 1, 12, 5⟩ : Ord), (⟨4, 1, 3, 2, 11, 5⟩ : Ord)] (by decide) b hb
theorem slO_l3 (w : World) (b : Nat) (hb : b = w.heap.size) : SlO (w.alloc (.cells #[.int .i64 2, .int .i64 1, .int .i64 3, .int .u8 1, .int .i64 12, .int .i64 5, .int .i64 3, .int .i64 1, .int .i64 3, .int .u8 1, .int .i64 12, .int .i64 5, .int .i64 1, .int .i64 1, .int .i64 3, .int .u8 1, .int .i64 10, .int .i64 5] 23)) (some ⟨b, 0, none⟩) 3 [(⟨2, 1, 3, 1, 12, 5⟩ : Ord), (⟨3, 1, 3, 1, 12, 5⟩ : Ord), (⟨1, 1, 3, 1, 10, 5⟩ : Ord)] :=
  slO_newAt w [(⟨2, 1, 3, 1, 12, 5⟩ : Ord), (⟨3, 1, 3, 1, 12, 5⟩ : Ord), (⟨1, 1, 3, 1, 10, 5⟩ : Ord)] (by decide) b hb
theorem slO_l1 (w : World) (b : Nat) (hb : b = w.heap.size) : SlO (w.alloc (.cells #[.int .i64 1, .int .i64 1, .int .i64 3, .int .u8 1, .int .i64 10, .int .i64 5] 23)) (some ⟨b, 0, none⟩) 1 [(⟨1, 1, 3, 1, 10, 5⟩ : Ord)] :=
  slO_newAt w [(⟨1, 1, 3, 1, 10, 5⟩ : Ord)] (by decide) b hb
theorem sl_alloc {w : World} {a : Option Addr} {c : Nat} {xs : List Ord} (o : Obj) (h : SlO w a c xs) : SlO (w.alloc o) a c xs := h.mono (below_alloc _ _)
theorem sl_drew {w : World} {a : Option Addr} {c : Nat} {xs : List Ord} (h : SlO w a c xs) : SlO w.drew a c xs := h.mono (Below.refl _ _).drew
theorem sl_call {w w1 : World} {a : Option Addr} {c : Nat} {xs : List Ord} (hb : Below w.heap.size w w1) (h : SlO w a c xs) : SlO w1 a c xs := h.mono hb
theorem holdsO2 (W : World) : Calls Tryd.prog 12 #[.agg #[.int .i64 2, .int .i64 1, .int .i64 3, .int .u8 1, .int .i64 12, .int .i64 5]] W fun e w' => e = .returned (.tuple #[.int .i64 0, .int .i64 60]) ∧ Below W.heap.size W w' :=
  (holds_c (⟨2, 1, 3, 1, 12, 5⟩ : Ord) W).mono fun _ _ ⟨he, hb⟩ => ⟨he.trans (ret_ii (by decide) (by decide)), hb⟩
theorem holdsO4 (W : World) : Calls Tryd.prog 12 #[.agg #[.int .i64 4, .int .i64 1, .int .i64 3, .int .u8 2, .int .i64 11, .int .i64 5]] W fun e w' => e = .returned (.tuple #[.int .i64 3, .int .i64 5]) ∧ Below W.heap.size W w' :=
  (holds_c (⟨4, 1, 3, 2, 11, 5⟩ : Ord) W).mono fun _ _ ⟨he, hb⟩ => ⟨he.trans (ret_ii (by decide) (by decide)), hb⟩
theorem takeW (a : Option Addr) (W : World) (hs : SlO W a 2 [(⟨1, 1, 3, 1, 10, 5⟩ : Ord), (⟨2, 1, 3, 1, 12, 5⟩ : Ord)]) : Calls Tryd.prog 32 #[.slice a 2 2, .int .i64 2, .int .i64 5] W fun e w' => ∃ r, e = .returned (.tuple #[r, .int .i64 0]) ∧ Below W.heap.size W w' ∧ OwnO W.heap.size w' r [(⟨1, 1, 3, 1, 10, 5⟩ : Ord)] :=
  (take_c a 2 [(⟨1, 1, 3, 1, 10, 5⟩ : Ord), (⟨2, 1, 3, 1, 12, 5⟩ : Ord)] 2 5 W hs (by decide)).mono fun _ _ ⟨r, he, hb, ho⟩ => ⟨r, he.trans (ret_vi (by decide +kernel)), hb, by
    have e : (takeO [(⟨1, 1, 3, 1, 10, 5⟩ : Ord), (⟨2, 1, 3, 1, 12, 5⟩ : Ord)] 2 5).1 = [(⟨1, 1, 3, 1, 10, 5⟩ : Ord)] := by decide +kernel
    rwa [e] at ho⟩
theorem listW_eq : listOf [(⟨1, 1, 3, 1, 10, 5⟩ : Ord), (⟨2, 1, 3, 1, 12, 5⟩ : Ord), (⟨3, 1, 3, 1, 12, 5⟩ : Ord), (⟨4, 1, 3, 2, 11, 5⟩ : Ord)] 3 1 = [(⟨2, 1, 3, 1, 12, 5⟩ : Ord), (⟨3, 1, 3, 1, 12, 5⟩ : Ord), (⟨1, 1, 3, 1, 10, 5⟩ : Ord)] := by
  have hm : mayL [(⟨1, 1, 3, 1, 10, 5⟩ : Ord), (⟨2, 1, 3, 1, 12, 5⟩ : Ord), (⟨3, 1, 3, 1, 12, 5⟩ : Ord), (⟨4, 1, 3, 2, 11, 5⟩ : Ord)] = true := by decide +kernel
  unfold listOf
  rw [if_pos hm]
  have e : [(⟨1, 1, 3, 1, 10, 5⟩ : Ord), (⟨2, 1, 3, 1, 12, 5⟩ : Ord), (⟨3, 1, 3, 1, 12, 5⟩ : Ord), (⟨4, 1, 3, 2, 11, 5⟩ : Ord)].filter (isOf 3 1) = [(⟨1, 1, 3, 1, 10, 5⟩ : Ord), (⟨2, 1, 3, 1, 12, 5⟩ : Ord), (⟨3, 1, 3, 1, 12, 5⟩ : Ord)] := by decide +kernel
  rw [e]
  refine (sorted_one (by decide) ?_ (by decide)).symm
  exact (List.Perm.swap _ _ _).trans (List.Perm.cons _ (List.Perm.swap _ _ _)) |>.symm |>.trans (List.Perm.refl _)
theorem listW (a : Option Addr) (W : World) (hs : SlO W a 4 [(⟨1, 1, 3, 1, 10, 5⟩ : Ord), (⟨2, 1, 3, 1, 12, 5⟩ : Ord), (⟨3, 1, 3, 1, 12, 5⟩ : Ord), (⟨4, 1, 3, 2, 11, 5⟩ : Ord)]) (hp : PrW W) : Calls Tryd.prog 23 #[.slice a 4 4, .int .i64 3, .int .u8 1] W fun e w' => ∃ a' c', e = .returned (.slice a' 3 c') ∧ Below W.heap.size W w' ∧ SlO w' a' c' [(⟨2, 1, 3, 1, 12, 5⟩ : Ord), (⟨3, 1, 3, 1, 12, 5⟩ : Ord), (⟨1, 1, 3, 1, 10, 5⟩ : Ord)] :=
  (list_c a 4 [(⟨1, 1, 3, 1, 10, 5⟩ : Ord), (⟨2, 1, 3, 1, 12, 5⟩ : Ord), (⟨3, 1, 3, 1, 12, 5⟩ : Ord), (⟨4, 1, 3, 2, 11, 5⟩ : Ord)] 3 1 W hs hp (by decide)).mono fun _ _ ⟨r, he, hb, ho⟩ => by
    rw [listW_eq] at ho
    obtain ⟨a', c', e1, h2, _⟩ := Own.slR encO_len ho
    exact ⟨a', c', by rw [he, e1]; rfl, hb, h2⟩
theorem crossW (a b : Ord) (r : Bool) (h : crosses a b = r) (W : World) (hp : PrW W) : Calls Tryd.prog 15 #[(.agg #[.int .i64 a.id, .int .i64 a.acct, .int .i64 a.inst, .int .u8 a.side, .int .i64 a.price, .int .i64 a.left]), (.agg #[.int .i64 b.id, .int .i64 b.acct, .int .i64 b.inst, .int .u8 b.side, .int .i64 b.price, .int .i64 b.left])] W fun e w' => e = .returned (.bool r) ∧ Below W.heap.size W w' := by
  rw [← h]; exact crosses_c a b W hp
theorem crossWa (W : World) (hp : PrW W) : Calls Tryd.prog 15 #[(.agg #[.int .i64 4, .int .i64 1, .int .i64 3, .int .u8 2, .int .i64 11, .int .i64 5]), (.agg #[.int .i64 2, .int .i64 1, .int .i64 3, .int .u8 1, .int .i64 12, .int .i64 5])] W fun e w' => e = .returned (.bool true) ∧ Below W.heap.size W w' :=
  crossW (⟨4, 1, 3, 2, 11, 5⟩ : Ord) (⟨2, 1, 3, 1, 12, 5⟩ : Ord) true (by decide +kernel) W hp
theorem crossWb (W : World) (hp : PrW W) : Calls Tryd.prog 15 #[(.agg #[.int .i64 4, .int .i64 1, .int .i64 3, .int .u8 2, .int .i64 11, .int .i64 5]), (.agg #[.int .i64 3, .int .i64 1, .int .i64 3, .int .u8 1, .int .i64 12, .int .i64 5])] W fun e w' => e = .returned (.bool true) ∧ Below W.heap.size W w' :=
  crossW (⟨4, 1, 3, 2, 11, 5⟩ : Ord) (⟨3, 1, 3, 1, 12, 5⟩ : Ord) true (by decide +kernel) W hp
theorem crossWc (W : World) (hp : PrW W) : Calls Tryd.prog 15 #[(.agg #[.int .i64 4, .int .i64 1, .int .i64 3, .int .u8 2, .int .i64 11, .int .i64 5]), (.agg #[.int .i64 1, .int .i64 1, .int .i64 3, .int .u8 1, .int .i64 10, .int .i64 5])] W fun e w' => e = .returned (.bool false) ∧ Below W.heap.size W w' :=
  crossW (⟨4, 1, 3, 2, 11, 5⟩ : Ord) (⟨1, 1, 3, 1, 10, 5⟩ : Ord) false (by decide +kernel) W hp
theorem sameW (a b : Option Addr) (ca cb : Nat) (xs : List Ord) (W : World) (ha : SlO W a ca xs) (hb : SlO W b cb xs) : Calls Tryd.prog 36 #[.slice a xs.length ca, .slice b xs.length cb] W fun e w' => e = .returned (.bool true) ∧ Below W.heap.size W w' :=
  (same_c a b ca cb xs xs W ha hb).mono fun _ _ ⟨he, hw⟩ => ⟨he.trans (ret_bool (by simp)), hw⟩
theorem sameW3 (a b : Option Addr) (ca cb : Nat) (W : World) (ha : SlO W a ca [(⟨2, 1, 3, 1, 12, 5⟩ : Ord), (⟨3, 1, 3, 1, 12, 5⟩ : Ord), (⟨1, 1, 3, 1, 10, 5⟩ : Ord)]) (hb : SlO W b cb [(⟨2, 1, 3, 1, 12, 5⟩ : Ord), (⟨3, 1, 3, 1, 12, 5⟩ : Ord), (⟨1, 1, 3, 1, 10, 5⟩ : Ord)]) : Calls Tryd.prog 36 #[.slice a 3 ca, .slice b 3 cb] W fun e w' => e = .returned (.bool true) ∧ Below W.heap.size W w' :=
  sameW a b ca cb [(⟨2, 1, 3, 1, 12, 5⟩ : Ord), (⟨3, 1, 3, 1, 12, 5⟩ : Ord), (⟨1, 1, 3, 1, 10, 5⟩ : Ord)] W ha hb
theorem sameW1 (a b : Option Addr) (ca cb : Nat) (W : World) (ha : SlO W a ca [(⟨1, 1, 3, 1, 10, 5⟩ : Ord)]) (hb : SlO W b cb [(⟨1, 1, 3, 1, 10, 5⟩ : Ord)]) : Calls Tryd.prog 36 #[.slice a 1 ca, .slice b 1 cb] W fun e w' => e = .returned (.bool true) ∧ Below W.heap.size W w' :=
  sameW a b ca cb [(⟨1, 1, 3, 1, 10, 5⟩ : Ord)] W ha hb

set_option maxHeartbeats 4000000 in
theorem works_c (w : World) (hp : PrW w) : Calls Tryd.prog 11 #[] w fun e w' => e = .returned (.bool true) ∧ Below w.heap.size w w' := by
  have HP := Lib.hid hp; clear hp
  have HG := Lib.hid (GrS.refl w)
  go_enter Tryd.func11, Tryd.ntmps11
  go_wp2_with (go_at_call 38; refine (of_c _ _ _ _ _).mono ?_; rintro e w1 ⟨rfl, hb1⟩; replace HG := Lib.hid (GrS.call HG.out hb1); clear hb1)
  obtain ⟨W, hW, hWb, hWs, hA, hB, hC, hD⟩ := box4 w1 #[.int .i64 (⟨1, 1, 3, 1, 10, 5⟩ : Ord).id, .int .i64 (⟨1, 1, 3, 1, 10, 5⟩ : Ord).acct, .int .i64 (⟨1, 1, 3, 1, 10, 5⟩ : Ord).inst, .int .u8 (⟨1, 1, 3, 1, 10, 5⟩ : Ord).side, .int .i64 (⟨1, 1, 3, 1, 10, 5⟩ : Ord).price, .int .i64 (⟨1, 1, 3, 1, 10, 5⟩ : Ord).left] #[.int .i64 (⟨2, 1, 3, 1, 12, 5⟩ : Ord).id, .int .i64 (⟨2, 1, 3, 1, 12, 5⟩ : Ord).acct, .int .i64 (⟨2, 1, 3, 1, 12, 5⟩ : Ord).inst, .int .u8 (⟨2, 1, 3, 1, 12, 5⟩ : Ord).side, .int .i64 (⟨2, 1, 3, 1, 12, 5⟩ : Ord).price, .int .i64 (⟨2, 1, 3, 1, 12, 5⟩ : Ord).left] #[.int .i64 (⟨3, 1, 3, 1, 12, 5⟩ : Ord).id, .int .i64 (⟨3, 1, 3, 1, 12, 5⟩ : Ord).acct, .int .i64 (⟨3, 1, 3, 1, 12, 5⟩ : Ord).inst, .int .u8 (⟨3, 1, 3, 1, 12, 5⟩ : Ord).side, .int .i64 (⟨3, 1, 3, 1, 12, 5⟩ : Ord).price, .int .i64 (⟨3, 1, 3, 1, 12, 5⟩ : Ord).left] #[.int .i64 (⟨4, 1, 3, 2, 11, 5⟩ : Ord).id, .int .i64 (⟨4, 1, 3, 2, 11, 5⟩ : Ord).acct, .int .i64 (⟨4, 1, 3, 2, 11, 5⟩ : Ord).inst, .int .u8 (⟨4, 1, 3, 2, 11, 5⟩ : Ord).side, .int .i64 (⟨4, 1, 3, 2, 11, 5⟩ : Ord).price, .int .i64 (⟨4, 1, 3, 2, 11, 5⟩ : Ord).left] 23
  dsimp only at hW hA hB hC hD
  rw [hW]
  have HW0 : Hid (Below w.heap.size w W) := Lib.hid (grow_trans HG.out.1 hWb)
  clear hW hWb HG
  generalize w1.heap.size = N at *
  have HPW := Lib.hid (HP.out.mono HW0.out)
  refine (holdsO2 W).mono ?_
  rintro e w2 ⟨rfl, hb2⟩
  have hG2 := GrS.of hb2
  have HG2 := Lib.hid hG2
  clear hb2
  go_wp2_with fail
  refine (holdsO4 w2).mono ?_
  rintro e w3 ⟨rfl, hb3⟩
  have hG3 := GrS.call HG2.out hb3
  have HG3 := Lib.hid hG3
  clear hb3 hG2 HG2
  go_wp2_with (go_at_call 37; refine (listV_c _ _).mono ?_; rintro e w4 ⟨rfl, rfl⟩)
  refine (takeW _ _ (slO_new w3 [(⟨1, 1, 3, 1, 10, 5⟩ : Ord), (⟨2, 1, 3, 1, 12, 5⟩ : Ord)] (by decide))).mono ?_
  rintro e w4 ⟨r, rfl, hb4, ho4⟩
  obtain ⟨a4, c4, rfl, hs4, _⟩ := Own.slR encO_len ho4
  have hG4 : GrS W w4 := GrS.call (GrS.alloc HG3.out _) hb4
  have HS4 := Lib.hid hs4
  clear hb4 hs4 ho4 hG3 HG3
  have hsz := hG4.1.size
  have hN0 : N < w4.heap.size := by omega
  have hN1 : N + 1 < w4.heap.size := by omega
  have hN2 : N + 1 + 1 < w4.heap.size := by omega
  have hN3 : N + 1 + 1 + 1 < w4.heap.size := by omega
  replace hA : ∀ i, w4.cell? ⟨N, i, none⟩ = #[.int .i64 1, .int .i64 1, .int .i64 3, .int .u8 1, .int .i64 10, .int .i64 5][i]? := fun i => by rw [hG4.2 _ _ (by omega)]; exact hA i
  replace hB : ∀ i, w4.cell? ⟨N + 1, i, none⟩ = #[.int .i64 2, .int .i64 1, .int .i64 3, .int .u8 1, .int .i64 12, .int .i64 5][i]? := fun i => by rw [hG4.2 _ _ (by omega)]; exact hB i
  replace hC : ∀ i, w4.cell? ⟨N + 1 + 1, i, none⟩ = #[.int .i64 3, .int .i64 1, .int .i64 3, .int .u8 1, .int .i64 12, .int .i64 5][i]? := fun i => by rw [hG4.2 _ _ (by omega)]; exact hC i
  replace hD : ∀ i, w4.cell? ⟨N + 1 + 1 + 1, i, none⟩ = #[.int .i64 4, .int .i64 1, .int .i64 3, .int .u8 2, .int .i64 11, .int .i64 5][i]? := fun i => by rw [hG4.2 _ _ (by omega)]; exact hD i
  have HPW4 := Lib.hid (HPW.out.mono hG4.1)
  have HWW : Hid (Below w.heap.size w w4) := Lib.hid (grow_trans HW0.out hG4.1)
  have HG := Lib.hid (GrS.refl w4)
  clear hG4 hsz hWs HPW HW0 HP
  go_wp2_with fail
  go_region_held3 (fun w' => GrS w4 w') (first | exact GrS.start HG.out.1 | exact GrS.call (by assumption) hb1 | exact GrS.alloc (by assumption) _ | assumption) (first
    | (go_at_call 37; with_reducible refine (listV_c _ _).mono ?_; rintro e w1 ⟨rfl, rfl⟩)
    | (go_at_call 36; with_reducible refine (sameW3 _ _ _ _ _ (by repeat (first | with_reducible exact hs5.out | with_reducible exact hs5.out | with_reducible exact HS4.out | with_reducible refine sl_drew ?_ | with_reducible refine sl_alloc _ ?_ | with_reducible refine sl_call hb5.out ?_)) (by repeat (first | with_reducible exact slO_l3 _ _ (by first | rfl | simp) | with_reducible exact hs5.out | with_reducible exact HS4.out | with_reducible refine sl_drew ?_ | with_reducible refine sl_alloc _ ?_ | with_reducible refine sl_call hb5.out ?_))).mono ?_; rintro e w6 ⟨rfl, hb1⟩)
    | (go_at_call 36; with_reducible refine (sameW1 _ _ _ _ _ (HS4.out.mono (GrS.fin (by assumption))) (by repeat (first | with_reducible exact slO_l1 _ _ (by first | rfl | simp) | with_reducible exact hs5.out | with_reducible exact HS4.out | with_reducible refine sl_drew ?_ | with_reducible refine sl_alloc _ ?_ | with_reducible refine sl_call hb5.out ?_))).mono ?_; rintro e w6 ⟨rfl, hb1⟩)
    | (go_at_call 15; first
        | with_reducible refine (crossWa _ (HPW4.out.mono (GrS.fin (by assumption)))).mono ?_
        | with_reducible refine (crossWb _ (HPW4.out.mono (GrS.fin (by assumption)))).mono ?_
        | with_reducible refine (crossWc _ (HPW4.out.mono (GrS.fin (by assumption)))).mono ?_
       rintro e w1 ⟨rfl, hb1⟩)
    | (go_at_call 23; with_reducible refine (listW _ _ (by repeat (first | with_reducible exact slO_l4 _ _ (by first | rfl | simp) | with_reducible exact hs5.out | with_reducible exact HS4.out | with_reducible refine sl_drew ?_ | with_reducible refine sl_alloc _ ?_ | with_reducible refine sl_call hb5.out ?_)) (HPW4.out.mono (GrS.fin (by assumption)))).mono ?_; rintro e w5 ⟨a5, c5, rfl, hb1, hs5⟩; have hb5 := Lib.hid hb1; replace hs5 := Lib.hid hs5))
  all_goals
    go_wp2
    go_ret
    exact ⟨rfl, grow_trans HWW.out (GrS.fin (by assumption))⟩
end Go.Proofs.YtecfajnmekpeoaaDoor
